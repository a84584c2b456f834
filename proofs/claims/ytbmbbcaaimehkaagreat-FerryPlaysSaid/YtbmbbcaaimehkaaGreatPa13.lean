/- Plays Part 13 of the proof. -/
import Derived.Test.YtbmbbcaaimehkaaGreatPa12
set_option linter.all false
set_option maxHeartbeats 2000000
section
noncomputable section
namespace Go.Proofs.YtbmbbcaaimehkaaGreat
open Go.YT Go.Lf
theorem Zs9 {h:H} {r:Bool} (hL:ZFb=some r):Pure XX 14 #[] h (.bool r):=by
 cases hL;intro wm;have e:ev (cfg XW fun _=>false) 1 (.call 14 #[] wm h)=some (.fin (.ret (.bool true)) h):=rfl;exact Zgc (X:=XW) mixed 1 _ _ e
end Go.Proofs.YtbmbbcaaimehkaaGreat
end
end
section
namespace Go.Proofs.YtbmbbcaaimehkaaGreat
open Go.Lf
def ZwE (F:Nat) (p0:Yb) (p1:ZF):Option Yb:=
 (bif(p1.act==1) then(ZqD (Yb.mk (Zb.mk p0.Za.Zx p0.Za.qK p0.Za.qQ p0.Za.qJ p0.Za.qG (Y2 (p0.Za.said + 1))) p0.qX) p1.a (Zq.mk p0.Za.said p1.b p1.a 0 0) true).bind fun x4=>some x4 else(bif(p1.act==2) then(ZBx F p0 p1.a p1.b).bind fun x25=>some x25 else(bif(p1.act==3) then(ZL p0.Za.Zx p1.a).bind fun x46=>some (Yb.mk (Zb.mk (Yl p0.Za.Zx p1.a p1.b) p0.Za.qK p0.Za.qQ p0.Za.qJ p0.Za.qG p0.Za.said) p0.qX) else(bif(p1.act==4) then(ZL p0.Za.Zx p1.a).bind fun x51=>some (Yb.mk (Zb.mk (Yl p0.Za.Zx p1.a (-1)) p0.Za.qK p0.Za.qQ p0.Za.qJ p0.Za.qG p0.Za.said) p0.qX) else(bif(p1.act==5) then(ZBG F p0 p1.a).bind fun x56=>some x56 else some p0)))))
def Zgu (p1:Zf):Int×Int×Int×Int×Int×Int×Int×Int ->Option Bool:=fun(v11,v12,v13,v14,v15,v16,v17,v18)=>
 some ((((Xw (Zq.mk v11 v12 v13 v14 v15) p1.ZV) && (v16==p1.place)) && (v17==p1.at_)) && (v18==p1.age))
def ZBD (p0:ZY) (p1:Zf):Option Bool:=
 (ZnM p0 p1.ZX).bind fun x3=>(bif(!x3) then some false else(bif((p1.kind !=2) && (decide ((Y2 ((p1.qV.length:Int) + (p1.Yd.length:Int))) > 0))) then some false else(bif(p1.kind==1) then(ZwA p0 p1.ZX p1.ZV).bind fun x20=>(bif(!x20) then some false else(Zgu p1) (p1.ZV.msg,p1.ZV.place,p1.ZV.from_,p1.ZV.age,p1.ZV.hops,0,0,0)) else(bif(p1.kind==3) then(gd (!(p1.at_==p1.ZX)) (ZsU p0 p1.place) default).bind fun x28=>(gd (!((p1.at_==p1.ZX) || (!x28))) (ZnN p0 p1.place p1.at_ p1.age) default).bind fun x29=>(bif(((p1.at_==p1.ZX) || (!x28)) || (!x29)) then some false else(Zgu p1) (0,0,0,0,0,p1.place,p1.at_,p1.age)) else(Zgu p1) (0,0,0,0,0,0,0,0)))))
end Go.Proofs.YtbmbbcaaimehkaaGreat
end
section
set_option maxRecDepth 20000
noncomputable section
namespace Go.Proofs.YtbmbbcaaimehkaaGreat
open Go.YT Go.Lf
theorem ZK9 {F wm h} {p0:Yb} {p1:ZF} {Zi Zh XF Zn Zm Qw Yr Zl Zk Qv Yx Zp Zo Qu Yq Zu Zt Qt Z8 Z7 Qs YS} {r} (Z0:wm <=h.size) (hO:Yc (wm:=wm) [bx wm YS (cG Zi XF Zh Zn Qw Zm Zl Qv Zk Zp Qu Zo Zu Qt Zt p0.Za.said Z8 Qs Z7),ow wm (Zr .i64) Zi XF Zh p0.Za.Zx,YD wm (ZO (Zr .i64)) Zn Qw Zm Yr p0.Za.qK,YD wm (ZO Zc) Zl Qv Zk Yx p0.Za.qQ,YD wm (ZO Ze) Zp Qu Zo Yq p0.Za.qJ,ow wm Zd Zu Qt Zt p0.Za.qG,ow wm Zy Z8 Qs Z7 p0.qX] h) (hL:ZwE F p0 p1=some r):
 WR XX 50 #[.pointer (some ⟨YS,0,none⟩),.agg [.int .i64 p1.act,.int .i64 p1.a,.int .i64 p1.b].toArray] wm h (CP (fun(v:Value) (Gb:List (Ast wm))=>∃ QV JG QO QU JF QN JL QT JE QM JK QS JD QL JJ QR JC QK JI JB JH,v= .tuple [].toArray∧Gb= [bx wm YS (cG QV JG QO QU JF QN QT JE QM QS JD QL QR JC QK r.Za.said JI JB JH),ow wm (Zr .i64) QV JG QO r.Za.Zx,YD wm (ZO (Zr .i64)) QU JF QN JL r.Za.qK,YD wm (ZO Zc) QT JE QM JK r.Za.qQ,YD wm (ZO Ze) QS JD QL JJ r.Za.qJ,ow wm Zd QR JC QK r.Za.qG,ow wm Zy JI JB JH r.qX]) [bx wm YS (cG Zi XF Zh Zn Qw Zm Zl Qv Zk Zp Qu Zo Zu Qt Zt p0.Za.said Z8 Qs Z7),ow wm (Zr .i64) Zi XF Zh p0.Za.Zx,YD wm (ZO (Zr .i64)) Zn Qw Zm Yr p0.Za.qK,YD wm (ZO Zc) Zl Qv Zk Yx p0.Za.qQ,YD wm (ZO Ze) Zp Qu Zo Yq p0.Za.qJ,ow wm Zd Zu Qt Zt p0.Za.qG,ow wm Zy Z8 Qs Z7 p0.qX] h):=by
 refine bg Tryz.ntmps50 Z0 hO ?_;intro T hT hS;unfold ZwE at hL;obtain rfl:=hS.on k1;obtain rfl:=hS.YL k2;obtain rfl:=hS.YL k3;obtain rfl:=hS.YL k4;obtain rfl:=hS.on k5;obtain rfl:=hS.on k6;refine r3 ?_;rintro _ h2 ⟨b1,eb1,rfl,hS⟩;refine r15 ?_;refine cn hL ?_ ?_
 ·intro hc hL;refine r16 ?_;refine r6 ?_;rintro h3 hS;refine Jv ?_;refine WO.w gN rfl (YX ZCc (Zv lk (Zv lk (Zv lk ZR))) rfl (cs':= [.int .i64 p0.Za.said,.int .i64 p1.b,.int .i64 p1.a,.int .i64 0,.int .i64 0]) rfl) ?_;obtain⟨x4,hx4,hL⟩:=qZ hL;refine WO.cl gN rfl (Xb.fn ZGF (Zg lk (Zg lk (Zg lk (Zg lk ZA))))) hS (.c k0 (.c k1 (.c k1 (.c k1 (.c k1 (.c k1 (.c k1 .n))))))) (fun g' hz hf hO=>ZBy (p0:= (Yb.mk (Zb.mk p0.Za.Zx p0.Za.qK p0.Za.qQ p0.Za.qJ p0.Za.qG (Y2 (p0.Za.said + 1))) p0.qX)) (p2:= (Zq.mk p0.Za.said p1.b p1.a 0 0)) (by rw [hz];exact hS.hw) hO hx4) ?_;rintro _ h23 _ ⟨a5,n6,c7,a8,n9,c10,ZTw,a11,n12,c13,Zyq,a14,n15,c16,Zyo,a17,n18,c19,a20,n21,c22,rfl,rfl⟩ hS;obtain rfl:=hS.on k1;obtain rfl:=hS.YL k2;obtain rfl:=hS.YL k3;obtain rfl:=hS.YL k4;obtain rfl:=hS.on k5;obtain rfl:=hS.on k6;refine r2 ?_;refine Yk.YQ ?_;have hr:=Oi0 hL;subst hr;exact Yk.gen (vs:= []) rfl ZE rfl ⟨_,⟨a5,x4.Za.Zx.length,c7,a8,x4.Za.qK.length,c10,ZTw,a11,x4.Za.qQ.length,c13,Zyq,a14,x4.Za.qJ.length,c16,Zyo,a17,x4.Za.qG.length,c19,a20,x4.qX.length,c22,rfl,rfl⟩,hT ▸ hS.only sl⟩
 ·intro hc hL;refine r6 ?_;refine cn hL ?_ ?_
  ·intro hc hL;refine r6 ?_;obtain⟨x25,hx25,hL⟩:=qZ hL;refine WO.cl gN rfl (Xb.fn ZOY (Zg lk (Zg lk (Zg lk ZA)))) hS (.c k1 (.c k1 (.c k1 (.c k1 (.c k1 (.c k1 (.c k1 .n))))))) (fun g' hz hf hO=>ZKL (by rw [hz];exact hS.hw) hO hx25) ?_;rintro _ h44 _ ⟨a26,n27,c28,a29,n30,c31,ZNb,a32,n33,c34,ZM9,a35,n36,c37,ZM7,a38,n39,c40,a41,n42,c43,rfl,rfl⟩ hS;obtain rfl:=hS.on k1;obtain rfl:=hS.YL k2;obtain rfl:=hS.YL k3;obtain rfl:=hS.YL k4;obtain rfl:=hS.on k5;obtain rfl:=hS.on k6;refine r2 ?_;refine Yk.YQ ?_;have hr:=Oi0 hL;subst hr;exact Yk.gen (vs:= []) rfl ZE rfl ⟨_,⟨a26,x25.Za.Zx.length,c28,a29,x25.Za.qK.length,c31,ZNb,a32,x25.Za.qQ.length,c34,ZM9,a35,x25.Za.qJ.length,c37,ZM7,a38,x25.Za.qG.length,c40,a41,x25.qX.length,c43,rfl,rfl⟩,hT ▸ hS.only sl⟩
  ·intro hc hL;refine r6 ?_;refine cn hL ?_ ?_
   ·intro hc hL;refine WC.YC mixed Kq0 ?_;refine r9 ?_;obtain⟨x46,Zsn,hL⟩:=qZ hL;obtain⟨b47,o48,_,ZAo,ZAV,ZPW⟩:=Src.at_ (hS.Xk k2) Zsn;refine r1 ?_;refine WX.hu gN (KV (e:= (Zr .i64)) p1.b () hS k2 XA (YG fh rfl) (YG (ZC rfl fh) rfl) ZAo Zsn ZAV (j:=0) rfl (vs:= [.int .i64 p1.b]) rfl rfl rfl rfl rfl (cs':= [.int .i64 p1.b]) rfl rfl trivial) ?_ rfl rfl [] Kq0 Yh.e;rintro h49 ⟨hS,Z37⟩;refine r2 ?_;refine Yk.YQ ?_;have hr:=Oi0 hL;subst hr;exact Yk.gen (vs:= []) rfl ZE rfl ⟨_,⟨Zi,p0.Za.Zx.length,Zh,Zn,p0.Za.qK.length,Zm,Yr,Zl,p0.Za.qQ.length,Zk,Yx,Zp,p0.Za.qJ.length,Zo,Yq,Zu,p0.Za.qG.length,Zt,Z8,p0.qX.length,Z7,rfl,rfl⟩,hT ▸ hS.only sl⟩
   ·intro hc hL;refine r6 ?_;refine cn hL ?_ ?_
    ·intro hc hL;refine WC.YC mixed Kq0 ?_;refine r7 ?_;obtain⟨x51,ZN4,hL⟩:=qZ hL;obtain⟨b52,o53,_,ZPB,ZQy,ZZ6⟩:=Src.at_ (hS.Xk k2) ZN4;refine r1 ?_;refine WX.hu gN (KV (e:= (Zr .i64)) (-1) () hS k2 XA (YG fh rfl) (evC rfl) ZPB ZN4 ZQy (j:=0) rfl (vs:= [.int .i64 (-1)]) rfl rfl rfl rfl rfl (cs':= [.int .i64 (-1)]) rfl rfl trivial) ?_ rfl rfl [] Kq0 Yh.e;rintro h54 ⟨hS,Z36⟩;refine r2 ?_;refine Yk.YQ ?_;have hr:=Oi0 hL;subst hr;exact Yk.gen (vs:= []) rfl ZE rfl ⟨_,⟨Zi,p0.Za.Zx.length,Zh,Zn,p0.Za.qK.length,Zm,Yr,Zl,p0.Za.qQ.length,Zk,Yx,Zp,p0.Za.qJ.length,Zo,Yq,Zu,p0.Za.qG.length,Zt,Z8,p0.qX.length,Z7,rfl,rfl⟩,hT ▸ hS.only sl⟩
    ·intro hc hL;refine r6 ?_;refine cn hL ?_ ?_
     ·intro hc hL;refine r4 ?_;obtain⟨x56,ZUh,hL⟩:=qZ hL;refine WO.cl gN rfl (Xb.fn ZO8 (Zg lk (Zg lk ZA))) hS (.c k1 (.c k1 (.c k1 (.c k1 (.c k1 (.c k1 (.c k1 .n))))))) (fun g' hz hf hO=>ZKZ (by rw [hz];exact hS.hw) hO ZUh) ?_;rintro _ h75 _ ⟨a57,n58,c59,a60,n61,c62,ZM5,a63,n64,c65,ZM4,a66,n67,c68,ZM3,a69,n70,c71,a72,n73,c74,rfl,rfl⟩ hS;obtain rfl:=hS.on k1;obtain rfl:=hS.YL k2;obtain rfl:=hS.YL k3;obtain rfl:=hS.YL k4;obtain rfl:=hS.on k5;obtain rfl:=hS.on k6;refine r2 ?_;refine Yk.YQ ?_;have hr:=Oi0 hL;subst hr;exact Yk.gen (vs:= []) rfl ZE rfl ⟨_,⟨a57,x56.Za.Zx.length,c59,a60,x56.Za.qK.length,c62,ZM5,a63,x56.Za.qQ.length,c65,ZM4,a66,x56.Za.qJ.length,c68,ZM3,a69,x56.Za.qG.length,c71,a72,x56.qX.length,c74,rfl,rfl⟩,hT ▸ hS.only sl⟩
     ·intro hc hL;refine r2 ?_;refine Yk.YQ ?_;have hr:=Oi0 hL;subst hr;exact Yk.gen (vs:= []) rfl ZE rfl ⟨_,⟨Zi,p0.Za.Zx.length,Zh,Zn,p0.Za.qK.length,Zm,Yr,Zl,p0.Za.qQ.length,Zk,Yx,Zp,p0.Za.qJ.length,Zo,Yq,Zu,p0.Za.qG.length,Zt,Z8,p0.qX.length,Z7,rfl,rfl⟩,hT ▸ hS.only sl⟩
theorem ZKQ {wm h} {p0:ZY} {p1:Zf} {Zi Zh Zn Zm Zl Zk Zp Zo Zu Zt Z8 Z7 YS Kk Y6 Y4 KX KW} {r} (Z0:wm <=h.size) (X6:At h YS Kk [.slice Zi p0.Za.Zx.length Zh,.slice Zn p0.Za.qK.length Zm,.slice Zl p0.Za.qQ.length Zk,.slice Zp p0.Za.qJ.length Zo,.slice Zu p0.Za.qG.length Zt,.int .i64 p0.Za.said,.slice Z8 p0.Xg.length Z7]) (X5:Stb wm h YS) (ZB:Sl (Zr .i64) wm h Zi Zh p0.Za.Zx) (ZN:Sl (ZJ (Zr .i64)) wm h Zn Zm p0.Za.qK) (ZI:Sl (ZJ Zc) wm h Zl Zk p0.Za.qQ) (ZM:Sl (ZJ Ze) wm h Zp Zo p0.Za.qJ) (ZK:Sl Zd wm h Zu Zt p0.Za.qG) (XB:Sl XO wm h Z8 Z7 p0.Xg) (XZ:Sl (Zr .i64) wm h Y6 Y4 p1.qV) (Zni:Sl (Zr .i64) wm h KX KW p1.Yd) (hL:ZBD p0 p1=some r):
 WR XX 73 #[.pointer (some ⟨YS,Kk,none⟩),.agg [.int .i64 p1.kind,.int .i64 p1.ZX,.int .i64 p1.ZV.msg,.int .i64 p1.ZV.place,.int .i64 p1.ZV.from_,.int .i64 p1.ZV.age,.int .i64 p1.ZV.hops,.slice Y6 p1.qV.length Y4,.slice KX p1.Yd.length KW,.int .i64 p1.place,.int .i64 p1.at_,.int .i64 p1.age].toArray] wm h (CP (fun(v:Value) (Gb:List (Ast wm))=>v= .bool r∧Gb= []) [] h):=by
 refine bg Tryz.ntmps73 Z0 Yc.nil ?_;intro T hT hS;unfold ZBD at hL;refine r3 ?_;rintro _ h2 ⟨b1,eb1,rfl,hS⟩;refine r9 ?_;obtain⟨x3,hx3,hL⟩:=qZ hL;refine WO.cp gN rfl (Xb.fn Zz9 (Zg lk (Zg lk ZA))) (ZsV (At.fz hS.fz X5 X6) (Stb.up hS.hw (Stb.fz hS.fz X6 X5)) (hS.Xc ZB) (hS.Xc ZN) (hS.Xc ZI) (hS.Xc ZM) (hS.Xc ZK) (hS.Xc XB) hx3) ?_;refine r3 ?_;refine cn hL ?_ ?_
 ·intro hc hL;refine r7 ?_;exact rt hL hT hS
 ·intro hc hL;refine r8 ?_;refine WO.w gN rfl (YX ZfG (Zv lk (Zv lk ZR)) rfl (cs':= [.int .i64 p1.kind,.int .i64 p1.ZX,.int .i64 0,.int .i64 0,.int .i64 0,.int .i64 0,.int .i64 0,.slice none 0 0,.slice none 0 0,.int .i64 0,.int .i64 0,.int .i64 0]) rfl) ?_;refine r1 ?_;rintro _ h5 ⟨b4,eb4,rfl,hS⟩;refine r1 ?_;rintro h6 hS;refine r16 ?_;refine r4 ?_;refine cn hL ?_ ?_
  ·intro hc hL;refine r7 ?_;exact rt hL hT hS
  ·intro hc hL;refine r2 ?_;refine WC.Kw (r:=r) (fun(p:Int×Int×Int×Int×Int×Int×Int×Int) s=>match p with | (v11,v12,v13,v14,v15,v16,v17,v18)=>∃ fr8 h7,s= ⟨fr8,[],h7,none⟩∧Sp wm T h [bx wm b1 (cL p1 Y6 Y4 KX KW),bx wm b4 [.int .i64 p1.kind,.int .i64 p1.ZX,.int .i64 v11,.int .i64 v12,.int .i64 v13,.int .i64 v14,.int .i64 v15,.slice none 0 0,.slice none 0 0,.int .i64 v16,.int .i64 v17,.int .i64 v18]] h7∧fr8.at 3= .pointer (some ⟨b1,0,none⟩)∧fr8.at 5= .pointer (some ⟨b4,0,none⟩)) (Zgu p1) ?_ ?_
   ·clear hL hS;rintro⟨v11,v12,v13,v14,v15,v16,v17,v18⟩ s hL ⟨fr8,h7,rfl,hS,e9,e10⟩;dsimp only [Zgu] at hL;refine r6 ?_;refine WO.w gN rfl (Qg (YG (YE rfl fh) rfl) (YG fh rfl) (Zrk (xs:= [.int .i64 v11,.int .i64 v12,.int .i64 v13,.int .i64 v14,.int .i64 v15]) (ys:= [.int .i64 p1.ZV.msg,.int .i64 p1.ZV.place,.int .i64 p1.ZV.from_,.int .i64 p1.ZV.age,.int .i64 p1.ZV.hops]) (Zvh (Zq.mk v11 v12 v13 v14 v15) p1.ZV) rfl rfl)) ?_;refine r16 ?_;refine r9 ?_;exact rt hL hT hS
   ·skip;refine r13 ?_;refine cn hL ?_ ?_
    ·intro hc hL;refine r6 ?_;rintro h19 hS;refine r9 ?_;obtain⟨x20,ZUo,hL⟩:=qZ hL;refine WO.cp gN rfl (Xb.fn ZGI (Zg lk (Zg lk (Zg lk ZA)))) (WR.Qb rfl (ZBC (Nat.le_refl _) (At.fz hS.fz X5 X6) (Stb.up hS.hw (Stb.fz hS.fz X6 X5)) (hS.Xc ZB) (hS.Xc ZN) (hS.Xc ZI) (hS.Xc ZM) (hS.Xc ZK) (hS.Xc XB) ZUo)) ?_;refine r3 ?_;refine cn hL ?_ ?_
     ·intro hc hL;refine r7 ?_;refine YO.ret ?_;exact rt hL hT hS
     ·intro hc hL;refine r2 ?_;exact YO.YQ _ hL ⟨_,_,rfl,hS.only sl,Yv⟩
    ·intro hc hL;refine r6 ?_;refine cn hL ?_ ?_
     ·intro hc hL;refine r1 ?_;refine WC.YC mixed Kq0 ?_;refine r3 ?_;refine WX.wr (fun x=>x=b1) hS gN rfl (fun _ _ hR=>Y8 W9 (YG fh rfl) (At.eqv (hR b1 rfl) (hS.KI k1)) (j:=10) rfl (v:= .int .i64 p1.at_) rfl) ?_ rfl rfl;rintro h21 e22 hS;refine r1 ?_;refine WX.wr (fun x=>x=b1) hS gN rfl (fun _ _ hR=>Y8 W9 (YG fh rfl) (At.eqv (hR b1 rfl) (hS.KI k1)) (j:=11) rfl (v:= .int .i64 p1.age) rfl) ?_ rfl rfl;rintro h23 e24 hS;refine r1 ?_;refine WX.hu gN (Ui hS k0 XA lk lk (vs:= [.int .i64 p1.place]) rfl rfl rfl rfl (cs':= [.int .i64 p1.kind,.int .i64 p1.ZX,.int .i64 0,.int .i64 0,.int .i64 0,.int .i64 0,.int .i64 0,.slice none 0 0,.slice none 0 0,.int .i64 p1.place,.int .i64 0,.int .i64 0]) rfl) ?_ rfl rfl [3,5] Kq0 (.c (.s .z) (hS.dj (.c k0 (.c k0 .n))) (.c .z (hS.dj (.c k0 (.c k0 .n))) Yh.e));rintro h25 hS;refine WX.w gN rfl (Qf Zu5 lk) ?_ Kq0;refine WX.hu gN (Ui hS k0 XA lk lk (vs:= [.int .i64 p1.at_]) rfl rfl rfl rfl (cs':= [.int .i64 p1.kind,.int .i64 p1.ZX,.int .i64 0,.int .i64 0,.int .i64 0,.int .i64 0,.int .i64 0,.slice none 0 0,.slice none 0 0,.int .i64 p1.place,.int .i64 p1.at_,.int .i64 0]) rfl) ?_ rfl Kq0 [5] Kq0 (.c .z (hS.dj (.c k0 (.c k0 .n))) Yh.e);rintro h26 hS;refine WX.w gN rfl (Qf Zu4 lk) ?_ Kq0;refine WX.hu gN (Ui hS k0 XA lk lk (vs:= [.int .i64 p1.age]) rfl rfl rfl rfl (cs':= [.int .i64 p1.kind,.int .i64 p1.ZX,.int .i64 0,.int .i64 0,.int .i64 0,.int .i64 0,.int .i64 0,.slice none 0 0,.slice none 0 0,.int .i64 p1.place,.int .i64 p1.at_,.int .i64 p1.age]) rfl) ?_ rfl Kq0 [] Kq0 Yh.e;rintro h27 hS;refine r13 ?_;obtain⟨x28,hx28,hL⟩:=Yj hL;refine WO.gcp (Zw.no rfl rfl rfl (YE rfl (ZC rfl fh))) rfl (fun hg=>(Xb.fn ZGD (Zg (YU (YE rfl fh) rfl hg) (Zg (YU fh rfl hg) ZA)))) (fun hg=>ZBu (At.fz hS.fz X5 X6) (Stb.up hS.hw (Stb.fz hS.fz X6 X5)) (hS.Xc ZB) (hS.Xc ZN) (hS.Xc ZI) (hS.Xc ZM) (hS.Xc ZK) (hS.Xc XB) (hx28 hg)) ?_;refine r10 ?_;obtain⟨x29,hx29,hL⟩:=Yj hL;refine WO.gcp (Zw.no rfl rfl rfl (Y7 rfl (YE rfl (ZC rfl fh)))) rfl (fun hg=>(Xb.fn ZAa (Zg (YU (Y7 rfl (YE rfl fh)) rfl hg) (Zg (YU (Y7 rfl fh) rfl hg) (Zg (YU (YE rfl fh) rfl hg) (Zg (YU fh rfl hg) ZA)))))) (fun hg=>ZsX (At.fz hS.fz X5 X6) (Stb.up hS.hw (Stb.fz hS.fz X6 X5)) (hS.Xc ZB) (hS.Xc ZN) (hS.Xc ZI) (hS.Xc ZM) (hS.Xc ZK) (hS.Xc XB) (hx29 hg)) ?_;refine r4 ?_;refine cn hL ?_ ?_
      ·intro hc hL;refine r7 ?_;refine YO.ret ?_;exact rt hL hT hS
      ·intro hc hL;refine r2 ?_;exact YO.YQ _ hL ⟨_,_,rfl,hS.only sl,Yv⟩
     ·intro hc hL;refine r2 ?_;exact YO.YQ _ hL ⟨_,_,rfl,hS.only sl,Yv⟩
end Go.Proofs.YtbmbbcaaimehkaaGreat
end
end
section
namespace Go.Proofs.YtbmbbcaaimehkaaGreat
open Go.Lf
def ZgK (Yf:(ZY×Bool)) (v59:Int) (Zeh:(Int ->Option Int)) (x62:(List Zq)):Int ->(Int ->Option Int) ->Option Int:=fun v76 ZyO=>
 (bif decide (v76 < (x62.length:Int)) then(ZL x62 v76).bind fun x79=>(ZwA Yf.1 v59 x79).bind fun x85=>(gd (!(!x85)) (ZL Yf.1.Xg x79.place) default).bind fun x86=>(bif((!x85) || (!(ZfA x86 (YA.mk v59 false x79.age)))) then some 2 else ZyO (Y2 (v76 + 1))) else Zeh (Y2 (v59 + 1)))
def ZgL (F:Nat) (p0:Zb) (Yf:(ZY×Bool)):Int ->(Int ->Option Int) ->Option Int:=fun v59 Zeh=>
 (bif decide (v59 < (p0.qJ.length:Int)) then(ZL p0.qJ v59).bind fun x62=>loop F (ZgK Yf v59 Zeh x62) 0 else some 0)
def Zkf (F:Nat) (p0:Zb) (Yf:(ZY×Bool)):Int ->(Int ->Option Int) ->Option Int:=fun v40 ZyU=>
 (bif decide (v40 < (p0.qG.length:Int)) then(ZL p0.qG v40).bind fun x43=>(ZBD Yf.1 x43).bind fun x53=>(bif(!x53) then some 2 else ZyU (Y2 (v40 + 1))) else loop F (ZgL F p0 Yf) 0)
def ZqH (F:Nat) (p0:Zb):Option Int:=
 (ZBF F p0).bind fun x3=>(gd (!(!x3)) (ZwD F p0) default).bind fun x4=>(bif((!x3) || (!x4)) then some 2 else(mkL (YA.mk 0 false 0) 24 (p0.Zx.length:Int) (p0.Zx.length:Int)).bind fun z5=>(ZBE F (ZY.mk p0 z5)).bind fun Yf=>(gd (!(!Yf.2)) (ZwC F Yf.1) default).bind fun x32=>(gd (!((!Yf.2) || (!x32))) (ZwB F Yf.1) default).bind fun x33=>(bif(((!Yf.2) || (!x32)) || (!x33)) then some 2 else loop F (Zkf F p0 Yf) 0))
end Go.Proofs.YtbmbbcaaimehkaaGreat
end
section
set_option maxRecDepth 20000
noncomputable section
namespace Go.Proofs.YtbmbbcaaimehkaaGreat
open Go.YT Go.Lf
theorem ZLf {F wm h} {p0:Zb} {Zi Zh Zn Zm Zl Zk Zp Zo Zu Zt} {r} (Z0:wm <=h.size) (ZB:Sl (Zr .i64) wm h Zi Zh p0.Zx) (ZN:Sl (ZJ (Zr .i64)) wm h Zn Zm p0.qK) (ZI:Sl (ZJ Zc) wm h Zl Zk p0.qQ) (ZM:Sl (ZJ Ze) wm h Zp Zo p0.qJ) (ZK:Sl Zd wm h Zu Zt p0.qG) (hL:ZqH F p0=some r):
 WR XX 36 #[.agg [.slice Zi p0.Zx.length Zh,.slice Zn p0.qK.length Zm,.slice Zl p0.qQ.length Zk,.slice Zp p0.qJ.length Zo,.slice Zu p0.qG.length Zt,.int .i64 p0.said].toArray] wm h (CP (fun(v:Value) (Gb:List (Ast wm))=>v= .int .i64 r∧Gb= []) [] h):=by
 refine bg Tryz.ntmps36 Z0 Yc.nil ?_;intro T hT hS;unfold ZqH at hL;refine r3 ?_;rintro _ h2 ⟨b1,eb1,rfl,hS⟩;refine r7 ?_;obtain⟨x3,hx3,hL⟩:=qZ hL;refine WO.cp gN rfl (Xb.fn ZO7 (Zg lk ZA)) (WR.Qb rfl (ZKY (Nat.le_refl _) (hS.Xc ZB) (hS.Xc ZN) (hS.Xc ZI) (hS.Xc ZM) (hS.Xc ZK) hx3)) ?_;refine r3 ?_;obtain⟨x4,hx4,hL⟩:=Yj hL;refine WO.gcp (Zw.no rfl rfl rfl (ZC rfl fh)) rfl (fun hg=>(Xb.fn ZO6 (Zg (YU fh rfl hg) ZA))) (fun hg=>ZKX (hS.Xc ZB) (hS.Xc ZN) (hS.Xc ZI) (hS.Xc ZM) (hS.Xc ZK) (hx4 hg)) ?_;refine r4 ?_;refine cn hL ?_ ?_
 ·intro hc hL;refine r7 ?_;exact rt hL hT hS
 ·intro hc hL;refine r3 ?_;refine WC.YC mixed Kq0 ?_;refine r4 ?_;obtain⟨z5,hz5,hL⟩:=qZ hL;refine WX.hn gN rfl (Zyb (e:=XO) (x0:= (YA.mk 0 false 0)) () hS ZrV Zas (ZFw) Zmu rfl rfl (YG fh rfl) (YG fh rfl) rfl trivial hz5) ?_ rfl;rintro _ h7 ⟨b6,c8,eb6,rfl,hS⟩;refine WX.w gN rfl (YX ZLQ (Zv lk (Zv lk ZR)) rfl (cs':= (cG Zi p0.Zx.length Zh Zn p0.qK.length Zm Zl p0.qQ.length Zk Zp p0.qJ.length Zo Zu p0.qG.length Zt p0.said (some ⟨b6,0,none⟩) z5.length c8)) rfl) ?_ rfl;refine WX.hn gN rfl (ZGd hS lk (vs:= (cG Zi p0.Zx.length Zh Zn p0.qK.length Zm Zl p0.qQ.length Zk Zp p0.qJ.length Zo Zu p0.qG.length Zt p0.said (some ⟨b6,0,none⟩) z5.length c8)) rfl) ?_ rfl;rintro _ h10 ⟨b9,eb9,rfl,hS⟩;refine r7 ?_;obtain⟨Yf,Zej,hL⟩:=qZ hL;refine WO.cl gN rfl (Xb.fn ZO5 (Zg lk ZA)) hS (.c k0 (.c k0 .n)) (fun g' hz hf hO=>ZKV (p0:= (ZY.mk p0 z5)) (by rw [hz];exact hS.hw) ((hS.sl ZB).mono hf) ((hS.sl ZN).mono hf) ((hS.sl ZI).mono hf) ((hS.sl ZM).mono hf) ((hS.sl ZK).mono hf) hO Zej) ?_;rintro _ h30 _ ⟨a12,c14,a15,c17,a18,c20,a21,c23,a24,c26,a27,n28,c29,rfl,rfl⟩ hS;obtain rfl:=hS.on k6;refine r3 ?_;obtain⟨x32,hx32,hL⟩:=Yj hL;refine WO.gcp (Zw.no rfl rfl rfl (ZC rfl fh)) rfl (fun hg=>(Xb.fn ZO4 (Zg (YU fh rfl hg) ZA))) (fun hg=>ZKU (hS.KI k0) (.inl (hS.lt k0)) (hS.UB k1) (hS.UB k2) (hS.UB k3) (hS.UB k4) (hS.UB k5) (hS.ord k6) (hx32 hg)) ?_;refine r4 ?_;obtain⟨x33,Zzn,hL⟩:=Yj hL;refine WO.gcp (Zw.no rfl rfl rfl (ZC rfl fh)) rfl (fun hg=>(Xb.fn ZO3 (Zg (YU fh rfl hg) ZA))) (fun hg=>ZKS (hS.KI k0) (.inl (hS.lt k0)) (hS.UB k1) (hS.UB k2) (hS.UB k3) (hS.UB k4) (hS.UB k5) (hS.ord k6) (Zzn hg)) ?_;refine r4 ?_;refine cn hL ?_ ?_
  ·intro hc hL;refine r7 ?_;exact rt hL hT hS
  ·intro hc hL;refine WN ?_;refine WC.loop (WL.lift hL (fun v40 s=>∃ ZsP h34,s= ⟨ZsP,[],h34,none⟩∧Sp wm T h [bx wm b1 (cW p0 Zi Zh Zn Zm Zl Zk Zp Zo Zu Zt),bx wm b9 (cG a12 Yf.1.Za.Zx.length c14 a15 Yf.1.Za.qK.length c17 a18 Yf.1.Za.qQ.length c20 a21 Yf.1.Za.qJ.length c23 a24 Yf.1.Za.qG.length c26 Yf.1.Za.said a27 Yf.1.Xg.length c29),Yu wm (ZJ (Zr .i64)) (a12,c14) Yf.1.Za.Zx,Yu wm (ZJ (ZJ (Zr .i64))) (a15,c17) Yf.1.Za.qK,Yu wm (ZJ (ZJ Zc)) (a18,c20) Yf.1.Za.qQ,Yu wm (ZJ (ZJ Ze)) (a21,c23) Yf.1.Za.qJ,Yu wm (ZJ Zd) (a24,c26) Yf.1.Za.qG,ow wm XO a27 Yf.1.Xg.length c29 Yf.1.Xg] h34∧ZsP.at 1= .pointer (some ⟨b1,0,none⟩)∧ZsP.at 3= .pointer (some ⟨b9,0,none⟩)∧ZsP.at 39= .slice Zu p0.qG.length Zt∧ZsP.at 40= .int .i64 (p0.qG.length:Int)∧ZsP.at 41= .int .i64 v40) ⟨_,_,rfl,hS.only sl,Yv⟩ ?_);clear hL hS;rintro ZyU v40 s ZEn hL ⟨ZsP,h34,rfl,hS,e36,e37,e38,e39,e41⟩;dsimp only [Zkf] at hL;refine r6 ?_;refine cn hL ?_ ?_
   ·intro hc hL;refine r6 ?_;obtain⟨x43,Zp4,hL⟩:=qZ hL;obtain⟨b44,o45,⟨⟨a46,c47⟩,⟨a48,c49⟩⟩,ZuQ,Zqq,ZAN,Zmc⟩:=Sl.at_ ZK Zp4;refine r1 ?_;have ZGx:Sl (Zr .i64) wm h a46 c47 x43.qV:=Zmc.1;have Zqd:Sl (Zr .i64) wm h a48 c49 x43.Yd:=Zmc.2;refine WO.w gN rfl (YJ WZ Xj (YG fh rfl) (At.fz hS.fz ZAN Zqq) (j:=0) rfl rfl (ws:= (cL x43 a46 c47 a48 c49)) rfl) ?_;refine r1 ?_;rintro _ h51 ⟨b50,Z5Q,rfl,hS⟩;refine r1 ?_;rintro h52 hS;refine r6 ?_;obtain⟨x53,ZUi,hL⟩:=qZ hL;refine WO.cp gN rfl (Xb.fn ZO2 (Zg lk (Zg lk ZA))) (WR.Qb rfl (ZKQ (Nat.le_refl _) (hS.KI k2) (.inl (hS.lt k2)) (hS.UB k3) (hS.UB k4) (hS.UB k5) (hS.UB k6) (hS.UB k7) (hS.ord k8) (hS.Xc ZGx) (hS.Xc Zqd) ZUi)) ?_;refine r3 ?_;refine cn hL ?_ ?_
    ·intro hc hL;refine Jv ?_;exact rt hL hT hS
    ·intro hc hL;refine r7 ?_;exact Ya.YQ (ZEn _ _ hL ⟨_,_,rfl,hS.only sl,Yv⟩)
   ·intro hc hL;refine r15 ?_;refine WC.loop (WL.lift hL (fun v59 s=>∃ ZdO h54,s= ⟨ZdO,[],h54,none⟩∧Sp wm T h [bx wm b9 (cG a12 Yf.1.Za.Zx.length c14 a15 Yf.1.Za.qK.length c17 a18 Yf.1.Za.qQ.length c20 a21 Yf.1.Za.qJ.length c23 a24 Yf.1.Za.qG.length c26 Yf.1.Za.said a27 Yf.1.Xg.length c29),Yu wm (ZJ (Zr .i64)) (a12,c14) Yf.1.Za.Zx,Yu wm (ZJ (ZJ (Zr .i64))) (a15,c17) Yf.1.Za.qK,Yu wm (ZJ (ZJ Zc)) (a18,c20) Yf.1.Za.qQ,Yu wm (ZJ (ZJ Ze)) (a21,c23) Yf.1.Za.qJ,Yu wm (ZJ Zd) (a24,c26) Yf.1.Za.qG,ow wm XO a27 Yf.1.Xg.length c29 Yf.1.Xg] h54∧ZdO.at 3= .pointer (some ⟨b9,0,none⟩)∧ZdO.at 51= .slice Zp p0.qJ.length Zo∧ZdO.at 52= .int .i64 (p0.qJ.length:Int)∧ZdO.at 53= .int .i64 v59) ⟨_,_,rfl,hS.only sl,Yv⟩ ?_);clear hL hS;rintro Zeh v59 s Znp hL ⟨ZdO,h54,rfl,hS,e56,e57,e58,e60⟩;dsimp only [ZgL] at hL;refine r6 ?_;refine cn hL ?_ ?_
    ·intro hc hL;refine r7 ?_;obtain⟨x62,Zzh,hL⟩:=qZ hL;obtain⟨b63,o64,⟨a65,c66⟩,ZPy,ZQu,ZQd,ZAC⟩:=Sl.at_ ZM Zzh;refine r1 ?_;have ZzF:Sl Ze wm h a65 c66 x62:=ZAC;refine r13 ?_;refine WC.loop (WL.lift hL (fun v76 s=>∃ Zlm h67,s= ⟨Zlm,[],h67,none⟩∧Sp wm T h [bx wm b9 (cG a12 Yf.1.Za.Zx.length c14 a15 Yf.1.Za.qK.length c17 a18 Yf.1.Za.qQ.length c20 a21 Yf.1.Za.qJ.length c23 a24 Yf.1.Za.qG.length c26 Yf.1.Za.said a27 Yf.1.Xg.length c29),Yu wm (ZJ (Zr .i64)) (a12,c14) Yf.1.Za.Zx,Yu wm (ZJ (ZJ (Zr .i64))) (a15,c17) Yf.1.Za.qK,Yu wm (ZJ (ZJ Zc)) (a18,c20) Yf.1.Za.qQ,Yu wm (ZJ (ZJ Ze)) (a21,c23) Yf.1.Za.qJ,Yu wm (ZJ Zd) (a24,c26) Yf.1.Za.qG,ow wm XO a27 Yf.1.Xg.length c29 Yf.1.Xg] h67∧Zlm.at 3= .pointer (some ⟨b9,0,none⟩)∧Zlm.at 6= .int .i64 v59∧Zlm.at 51= .slice Zp p0.qJ.length Zo∧Zlm.at 52= .int .i64 (p0.qJ.length:Int)∧Zlm.at 53= .int .i64 v59∧Zlm.at 58= .slice a65 x62.length c66∧Zlm.at 59= .int .i64 (x62.length:Int)∧Zlm.at 60= .int .i64 v76) ⟨_,_,rfl,hS.only sl,Yv⟩ ?_);clear hL hS;rintro ZyO v76 s ZEc hL ⟨Zlm,h67,rfl,hS,e69,e70,e71,e72,e73,e74,e75,e77⟩;dsimp only [ZgK] at hL;refine r6 ?_;refine cn hL ?_ ?_
     ·intro hc hL;refine r6 ?_;obtain⟨x79,ZIK,hL⟩:=qZ hL;obtain⟨b80,o81,_,ZZE,ZQp,ZP8,ZZY⟩:=Sl.at_ ZzF ZIK;refine r1 ?_;refine WO.w gN rfl (YJ ZfL JA (YG fh rfl) (At.fz hS.fz ZP8 ZQp) (j:=0) rfl rfl (ws:= (cM x79)) rfl) ?_;refine r1 ?_;rintro _ h83 ⟨b82,ZWL,rfl,hS⟩;refine r1 ?_;rintro h84 hS;refine r3 ?_;refine WC.YC mixed Kq0 ?_;refine r3 ?_;obtain⟨x85,ZIJ,hL⟩:=qZ hL;refine WX.cp gN rfl (Xb.fn ZGI (Zg lk (Zg lk (Zg lk ZA)))) (WR.Qb rfl (ZBC (Nat.le_refl _) (hS.KI k1) (.inl (hS.lt k1)) (hS.UB k2) (hS.UB k3) (hS.UB k4) (hS.UB k5) (hS.UB k6) (hS.ord k7) ZIJ)) ?_ rfl rfl;refine r8 ?_;obtain⟨x86,ZN3,hL⟩:=Yj hL;obtain⟨b87,o88,_,hQ⟩:=Src.atG (fun hg=>(hS.Xk k7)) ZN3;have ZPu:=fun hg=>(hQ hg).1
      have ZQo:=fun hg=>(hQ hg).2.1
      have ZZW:=fun hg=>(hQ hg).2.2
      refine WX.gv (Zw.no rfl rfl rfl (Y7 rfl (YE rfl fh))) rfl (fun hg=>(Yn ZrV Zas (YU (YE rfl fh) rfl hg) (YU fh rfl hg) rfl (ZPu hg) (ZN3 hg))) ?_ rfl;refine WX.gv (Zw.no rfl rfl rfl (Y7 rfl (YE rfl (ZC rfl fh)))) rfl (fun hg=>(YJ ZoP Zas (YU fh rfl hg) (ZQo hg) (j:=0) rfl rfl (ws:= [.int .i64 x86.machine,.bool x86.here,.int .i64 x86.age]) rfl)) ?_ rfl;refine r3 ?_;refine WX.gv (Zw.no rfl rfl rfl (Xf rfl (YE rfl (ZC rfl fh)))) rfl (fun hg=>(YX Ztt (Zv (YU (YE rfl fh) rfl hg) (Zv lk (Zv (YU fh rfl hg) ZR))) rfl (cs':= [.int .i64 v59,.bool false,.int .i64 x79.age]) rfl)) ?_ rfl;refine WX.gv (Zw.no rfl rfl rfl (Xf rfl (Y7 rfl fh))) rfl (fun hg=>(Qg (YU (Y7 rfl fh) rfl hg) (YU fh rfl hg) (Zbj (xs:= [.int .i64 x86.machine,.bool x86.here,.int .i64 x86.age]) (ys:= [.int .i64 v59,.bool false,.int .i64 x79.age]) (ZLv x86 (YA.mk v59 false x79.age)) rfl rfl))) ?_ rfl;refine r3 ?_;refine cn hL ?_ ?_
      ·intro hc hL;refine r15 ?_;exact rt hL hT hS
      ·intro hc hL;refine r7 ?_;exact Ya.YQ (ZEc _ _ hL ⟨_,_,rfl,hS.only sl,Yv⟩)
     ·intro hc hL;refine r10 ?_;exact Ya.YQ (Znp _ _ hL ⟨_,_,rfl,hS.only sl,Yv⟩)
    ·intro hc hL;refine Jv ?_;exact rt hL hT hS
end Go.Proofs.YtbmbbcaaimehkaaGreat
end
end
section
namespace Go.Proofs.YtbmbbcaaimehkaaGreat
open Go.Lf
def ZbK (v38:Int) (Zgm:((List Int)×Int×(List Int)×(List (List Int))×(List (List Zz))×(List (List Zq))×(List Zf)×Int×(List Zj) ->Option (Zb×(List Zj)×(List Int)×Int))):(List Int)×(List Int)×(List (List Int))×(List (List Zz))×(List (List Zq))×(List Zf)×Int×(List Zj) ->Option (Zb×(List Zj)×(List Int)×Int):=fun(v73,v81,v85,v90,v95,Zb7,WI,v105)=>
 Zgm (v73,Y2 (v38 + 1),v81,v85,v90,v95,Zb7,WI,v105)
def Zoe (F:Nat) (p1:(List ZF)):(List Int)×Int×(List Int)×(List (List Int))×(List (List Zz))×(List (List Zq))×(List Zf)×Int×(List Zj) ->((List Int)×Int×(List Int)×(List (List Int))×(List (List Zz))×(List (List Zq))×(List Zf)×Int×(List Zj) ->Option (Zb×(List Zj)×(List Int)×Int)) ->Option (Zb×(List Zj)×(List Int)×Int):=fun(v31,v38,v40,v44,v49,v54,v59,v63,v64) Zgm=>
 (bif decide (v38 < (p1.length:Int)) then(ZL p1 v38).bind fun Zb6=>(Zs5 (Zb.mk v40 v44 v49 v54 v59 v63) Zb6).bind fun x115=>(gd x115 (Zs4 F (Zb.mk v40 v44 v49 v54 v59 v63) Zb6) default).bind fun ZDe=>(bif(x115 && (ZDe==0)) then(ZwE F (Yb.mk (Zb.mk v40 v44 v49 v54 v59 v63) v64) Zb6).bind fun Jm=>(app 8 v31 [v38]).bind fun Zxs=>(ZbK v38 Zgm) (Zxs,Jm.Za.Zx,Jm.Za.qK,Jm.Za.qQ,Jm.Za.qJ,Jm.Za.qG,Jm.Za.said,Jm.qX) else(ZbK v38 Zgm) (v31,v40,v44,v49,v54,v59,v63,v64)) else some ((Zb.mk v40 v44 v49 v54 v59 v63),v64,v31,0))
def Zs6 (F:Nat) (p0:Zb) (p1:(List ZF)):Option (Zb×(List Zj)×(List Int)×Int):=
 (ZqH F p0).bind fun x5=>(bif((x5 !=0) || (decide ((p1.length:Int) > 80))) then some ((Zb.mk [] [] [] [] [] 0),[],[],2) else(ZBO F p0).bind fun x7=>loop F (Zoe F p1) ([],0,x7.Zx,x7.qK,x7.qQ,x7.qJ,x7.qG,x7.said,[]))
end Go.Proofs.YtbmbbcaaimehkaaGreat
end
section
set_option maxRecDepth 20000
noncomputable section
namespace Go.Proofs.YtbmbbcaaimehkaaGreat
open Go.YT Go.Lf
theorem ZLi {F wm h} {p0:Zb} {p1:(List ZF)} {Zi Zh Zn Zm Zl Zk Zp Zo Zu Zt Y6 Y4} {r} (Z0:wm <=h.size) (ZB:Sl (Zr .i64) wm h Zi Zh p0.Zx) (ZN:Sl (ZJ (Zr .i64)) wm h Zn Zm p0.qK) (ZI:Sl (ZJ Zc) wm h Zl Zk p0.qQ) (ZM:Sl (ZJ Ze) wm h Zp Zo p0.qJ) (ZK:Sl Zd wm h Zu Zt p0.qG) (XZ:Sl Wi wm h Y6 Y4 p1) (hL:Zs6 F p0 p1=some r):
 WR XX 25 #[.agg [.slice Zi p0.Zx.length Zh,.slice Zn p0.qK.length Zm,.slice Zl p0.qQ.length Zk,.slice Zp p0.qJ.length Zo,.slice Zu p0.qG.length Zt,.int .i64 p0.said].toArray,.slice Y6 p1.length Y4] wm h (CP (fun(v:Value) (Gb:List (Ast wm))=>∃ Xo Xu Xn ZaA Zcx Zaw ZbC Zaz Zcw Zav ZbB Zay Zcv Zau ZbA Zax Zcu Zat Zhp Zhn Zho ZpF Zpy ZpC,v= .tuple [.agg [.slice Xo Xu Xn,.slice ZaA Zcx Zaw,.slice Zaz Zcw Zav,.slice Zay Zcv Zau,.slice Zax Zcu Zat,.int .i64 r.1.said].toArray,.slice Zhp Zhn Zho,.slice ZpF Zpy ZpC,.int .i64 r.2.2.2].toArray∧Gb= [ow wm (Zr .i64) Xo Xu Xn r.1.Zx,YD wm (ZO (Zr .i64)) ZaA Zcx Zaw ZbC r.1.qK,YD wm (ZO Zc) Zaz Zcw Zav ZbB r.1.qQ,YD wm (ZO Ze) Zay Zcv Zau ZbA r.1.qJ,ow wm Zd Zax Zcu Zat r.1.qG,ow wm Zy Zhp Zhn Zho r.2.1,ow wm (Zr .i64) ZpF Zpy ZpC r.2.2.1]) [] h):=by
 refine bg Tryz.ntmps25 Z0 Yc.nil ?_;intro T hT hS;unfold Zs6 at hL;refine r3 ?_;rintro _ h2 ⟨b1,eb1,rfl,hS⟩;refine r1 ?_;rintro _ h4 ⟨b3,eb3,rfl,hS⟩;refine r9 ?_;obtain⟨x5,hx5,hL⟩:=qZ hL;refine WO.cp gN rfl (Xb.fn ZPj (Zg lk ZA)) (WR.Qb rfl (ZLf (Nat.le_refl _) (hS.Xc ZB) (hS.Xc ZN) (hS.Xc ZI) (hS.Xc ZM) (hS.Xc ZK) hx5)) ?_;refine r8 ?_;refine cn hL ?_ ?_
 ·intro hc hL;refine r2 ?_;refine WO.w gN rfl (YX Zmo ZR rfl (cs':= (cV none 0 0 none 0 0 none 0 0 none 0 0 none 0 0 0)) rfl) ?_;refine r1 ?_;rintro h6 hS;refine r7 ?_;have hS:=hS.nil (e:= (Zr .i64));have hS:=hS.Zeg (e:= (ZO (Zr .i64))) (ps:=fun _=>(ZO (Zr .i64)).dflt);have hS:=hS.Zeg (e:= (ZO Zc)) (ps:=fun _=>(ZO Zc).dflt);have hS:=hS.Zeg (e:= (ZO Ze)) (ps:=fun _=>(ZO Ze).dflt);have hS:=hS.nil (e:=Zd);have hS:=hS.nil (e:=Zy);have hS:=hS.nil (e:= (Zr .i64));have hr:=Oi0 hL;subst hr;exact Yk.gen (vs:= [.agg [.slice none 0 0,.slice none 0 0,.slice none 0 0,.slice none 0 0,.slice none 0 0,.int .i64 0].toArray,.slice none 0 0,.slice none 0 0,.int .i64 2]) rfl (Y9 (Xf rfl (Y7 rfl (YE rfl (ZC rfl fh)))) (Jl ZfM KT (hS.KI k7) (j:=0) rfl rfl (ws:= (cV none 0 0 none 0 0 none 0 0 none 0 0 none 0 0 0)) rfl) (ZU lk (ZU lk (ZU lk ZE)))) rfl ⟨_,⟨none,0,0,none,0,0,(fun _=>(ZO (Zr .i64)).dflt),none,0,0,(fun _=>(ZO Zc).dflt),none,0,0,(fun _=>(ZO Ze).dflt),none,0,0,none,0,0,none,0,0,rfl,rfl⟩,hT ▸ hS.only sl⟩
 ·intro hc hL;refine r5 ?_;obtain⟨x7,hx7,hL⟩:=qZ hL;refine WO.cl gN rfl (Xb.fn ZPg (Zg lk ZA)) hS .n (fun g' hz hf hO=>ZLa (by rw [hz];exact hS.hw) ((hS.sl ZB).mono hf) ((hS.sl ZN).mono hf) ((hS.sl ZI).mono hf) ((hS.sl ZM).mono hf) ((hS.sl ZK).mono hf) hx7) ?_;rintro _ h23 _ ⟨a8,n9,c10,a11,n12,c13,Zyq,a14,n15,c16,Zyo,a17,n18,c19,ZNf,a20,n21,c22,rfl,rfl⟩ hS;obtain rfl:=hS.on k0;obtain rfl:=hS.YL k1;obtain rfl:=hS.YL k2;obtain rfl:=hS.YL k3;obtain rfl:=hS.on k4;refine WO.w gN rfl (YX ZLR (Zv lk ZR) rfl (cs':= (cG a8 x7.Zx.length c10 a11 x7.qK.length c13 a14 x7.qQ.length c16 a17 x7.qJ.length c19 a20 x7.qG.length c22 x7.said none 0 0)) rfl) ?_;refine r1 ?_;rintro _ h26 ⟨b25,ZLy,rfl,hS⟩;refine r16 ?_;refine r1 ?_;have hS:=hS.nil (e:= (Zr .i64));have hS:=hS.nil (e:=Zy);refine WC.loop (WL.lift hL (fun p s=>match p with | (v31,v38,v40,v44,v49,v54,v59,v63,v64)=>∃ Zb9 h27 a32 c33 n34 a41 c42 n43 a45 c46 n47 ZDI a50 c51 n52 ZDH a55 c56 n57 ZDG a60 c61 n62 a65 c66 n67,s= ⟨Zb9,[],h27,none⟩∧Sp wm T h [ow wm (Zr .i64) a32 n34 c33 v31,bx wm b3 (cV none 0 0 none 0 0 none 0 0 none 0 0 none 0 0 0),ow wm (Zr .i64) a41 n43 c42 v40,YD wm (ZO (Zr .i64)) a45 n47 c46 ZDI v44,YD wm (ZO Zc) a50 n52 c51 ZDH v49,YD wm (ZO Ze) a55 n57 c56 ZDG v54,ow wm Zd a60 n62 c61 v59,ow wm Zy a65 n67 c66 v64,bx wm b25 (cG a41 n43 c42 a45 n47 c46 a50 n52 c51 a55 n57 c56 a60 n62 c61 v63 a65 n67 c66)] h27∧Zb9.at 4= .pointer (some ⟨b3,0,none⟩)∧Zb9.at 8= .pointer (some ⟨b25,0,none⟩)∧Zb9.at 9= .slice a32 n34 c33∧Zb9.at 25= .slice Y6 p1.length Y4∧Zb9.at 26= .int .i64 (p1.length:Int)∧Zb9.at 27= .int .i64 v38) ⟨_,_,none,0,0,a8,c10,x7.Zx.length,a11,c13,x7.qK.length,Zyq,a14,c16,x7.qQ.length,Zyo,a17,c19,x7.qJ.length,ZNf,a20,c22,x7.qG.length,none,0,0,rfl,hS.only sl,Yv⟩ ?_);clear hL hS;rintro Zgm ⟨v31,v38,v40,v44,v49,v54,v59,v63,v64⟩ s ZEf hL ⟨Zb9,h27,a32,c33,n34,a41,c42,n43,a45,c46,n47,ZDI,a50,c51,n52,ZDH,a55,c56,n57,ZDG,a60,c61,n62,a65,c66,n67,rfl,hS,e29,e30,e35,e36,e37,e39⟩;obtain rfl:=hS.on k0;obtain rfl:=hS.on k2;obtain rfl:=hS.YL k3;obtain rfl:=hS.YL k4;obtain rfl:=hS.YL k5;obtain rfl:=hS.on k6;obtain rfl:=hS.on k7;dsimp only [Zoe] at hL;refine r6 ?_;refine cn hL ?_ ?_
  ·intro hc hL;refine r2 ?_;refine WC.Kw (r:=r) (fun(p:(List Int)×(List Int)×(List (List Int))×(List (List Zz))×(List (List Zq))×(List Zf)×Int×(List Zj)) s=>match p with | (v73,v81,v85,v90,v95,Zb7,WI,v105)=>∃ ZdN h69 a74 c75 n76 a82 c83 n84 a86 c87 n88 ZIb a91 c92 n93 ZpJ a96 c97 n98 ZIa ZFZ ZFv n103 Zrn c107 n108,s= ⟨ZdN,[],h69,none⟩∧Sp wm T h [ow wm (Zr .i64) a74 n76 c75 v73,bx wm b3 (cV none 0 0 none 0 0 none 0 0 none 0 0 none 0 0 0),ow wm (Zr .i64) a82 n84 c83 v81,YD wm (ZO (Zr .i64)) a86 n88 c87 ZIb v85,YD wm (ZO Zc) a91 n93 c92 ZpJ v90,YD wm (ZO Ze) a96 n98 c97 ZIa v95,ow wm Zd ZFZ n103 ZFv Zb7,ow wm Zy Zrn n108 c107 v105,bx wm b25 (cG a82 n84 c83 a86 n88 c87 a91 n93 c92 a96 n98 c97 ZFZ n103 ZFv WI Zrn n108 c107)] h69∧ZdN.at 4= .pointer (some ⟨b3,0,none⟩)∧ZdN.at 8= .pointer (some ⟨b25,0,none⟩)∧ZdN.at 9= .slice a74 n76 c75∧ZdN.at 25= .slice Y6 p1.length Y4∧ZdN.at 26= .int .i64 (p1.length:Int)∧ZdN.at 27= .int .i64 v38) (ZbK v38 Zgm) ?_ ?_
   ·clear hL hS;rintro⟨v73,v81,v85,v90,v95,Zb7,WI,v105⟩ s hL ⟨ZdN,h69,a74,c75,n76,a82,c83,n84,a86,c87,n88,ZIb,a91,c92,n93,ZpJ,a96,c97,n98,ZIa,ZFZ,ZFv,n103,Zrn,c107,n108,rfl,hS,e71,e72,e77,e78,e79,e80⟩;obtain rfl:=hS.on k0;obtain rfl:=hS.on k2;obtain rfl:=hS.YL k3;obtain rfl:=hS.YL k4;obtain rfl:=hS.YL k5;obtain rfl:=hS.on k6;obtain rfl:=hS.on k7;dsimp only [ZbK] at hL;refine r4 ?_;exact Ya.YQ (ZEf _ _ hL ⟨_,_,a74,c75,v73.length,a82,c83,v81.length,a86,c87,v85.length,ZIb,a91,c92,v90.length,ZpJ,a96,c97,v95.length,ZIa,ZFZ,ZFv,Zb7.length,Zrn,c107,v105.length,rfl,hS.only sl,Yv⟩)
   ·skip;refine r4 ?_;obtain⟨Zb6,Zqb,hL⟩:=qZ hL;obtain⟨b110,o111,_,ZJJ,ZA3,ZAR,ZAJ⟩:=Sl.at_ XZ Zqb;refine r1 ?_;refine WO.w gN rfl (YJ ZCt Zr1 (YG fh rfl) (At.fz hS.fz ZAR ZA3) (j:=0) rfl rfl (ws:= (cS Zb6)) rfl) ?_;refine r1 ?_;rintro _ ZQX ⟨Z8a,Z1I,rfl,hS⟩;refine r2 ?_;rintro ZEM hS;refine r3 ?_;refine WC.YC mixed Kq0 ?_;refine r5 ?_;obtain⟨x115,hx115,hL⟩:=qZ hL;refine WX.cp gN rfl (Xb.fn ZPi (Zg lk (Zg lk ZA))) (ZLe (p0:= (Zb.mk v40 v44 v49 v54 v59 v63)) (hS.ord k3) (hS.nrd k4 Jo) (hS.nrd k5 Jo) (hS.nrd k6 Jo) (hS.ord k7) hx115) ?_ rfl rfl;refine r6 ?_;obtain⟨ZDe,ZOo,hL⟩:=Yj hL;refine WX.gcp (Zw.yes rfl rfl rfl (Y7 rfl (ZC rfl fh))) rfl (fun hg=>(Xb.fn ZPh (Zg (YU (ZC rfl fh) rfl hg) (Zg (YU fh rfl hg) ZA)))) (fun hg=>ZLc (p0:= (Zb.mk v40 v44 v49 v54 v59 v63)) (hS.ord k3) (hS.nrd k4 Jo) (hS.nrd k5 Jo) (hS.nrd k6 Jo) (hS.ord k7) (ZOo hg)) ?_ rfl rfl;refine r4 ?_;refine cn hL ?_ ?_
    ·intro hc hL;refine r4 ?_;obtain⟨Jm,Zqa,hL⟩:=qZ hL;refine WO.cl gN rfl (Xb.fn ZPf (Zg lk (Zg lk ZA))) hS (.c k9 (.c k3 (.c k3 (.c k3 (.c k3 (.c k3 (.c k3 .n))))))) (fun g' hz hf hO=>ZK9 (p0:= (Yb.mk (Zb.mk v40 v44 v49 v54 v59 v63) v64)) (by rw [hz];exact hS.hw) hO Zqa) ?_;rintro _ Zwr _ ⟨Zw9,n119,ZXF,ZYp,n122,ZXD,ZH9,a124,n125,ZCb,ZH8,a127,n128,ZXC,ZH7,a130,n131,ZlB,ZFX,n134,ZXB,rfl,rfl⟩ hS;obtain rfl:=hS.on k1;obtain rfl:=hS.YL k2;obtain rfl:=hS.YL k3;obtain rfl:=hS.YL k4;obtain rfl:=hS.on k5;obtain rfl:=hS.on k6;refine r5 ?_;refine WO.hn gN rfl (QF (e:= (Zr .i64)) hS XL XA UY rfl rfl rfl (Zv lk ZR) rfl [((),v38)] rfl (xs:= [v38]) rfl (by intro q hq;simp only [List.mem_cons,List.not_mem_nil,or_false] at hq;subst hq;exact trivial) rfl) ?_;rintro _ ZKw ⟨Z70,Z1x,rfl,hS⟩;obtain⟨Zxs,ZNR,hL⟩:=qZ hL;refine WO.hv gN rfl (XT (e:= (Zr .i64)) hS k9 Xe lk lk (hS.Xk k0) (hS.on k0) ZNR) ?_;rintro _ Z5k ⟨a141,ZXA,rfl,hS⟩;refine r3 ?_;exact YO.YQ _ hL ⟨_,_,a141,ZXA,Zxs.length,Zw9,ZXF,Jm.Za.Zx.length,ZYp,ZXD,Jm.Za.qK.length,ZH9,a124,ZCb,Jm.Za.qQ.length,ZH8,a127,ZXC,Jm.Za.qJ.length,ZH7,a130,ZlB,Jm.Za.qG.length,ZFX,ZXB,Jm.qX.length,rfl,hS.only sl,Yv⟩
    ·intro hc hL;refine r2 ?_;exact YO.YQ _ hL ⟨_,_,a32,c33,v31.length,a41,c42,v40.length,a45,c46,v44.length,ZDI,a50,c51,v49.length,ZDH,a55,c56,v54.length,ZDG,a60,c61,v59.length,a65,c66,v64.length,rfl,hS.only sl,Yv⟩
  ·intro hc hL;refine r6 ?_;refine WC.YC mixed Kq0 ?_;refine r7 ?_;refine WX.wr (fun x=>x=b25) hS gN rfl (fun _ _ hR=>Y8 ZHp (YG fh rfl) (At.eqv (hR b25 rfl) (hS.KI k8)) (j:=6) rfl (v:= .slice a65 v64.length c66) rfl) ?_ rfl rfl;rintro Z5j ZXa hS;refine r1 ?_;refine WX.hu gN (Ui hS k1 KT lk lk (vs:= (cV a41 v40.length c42 a45 v44.length c46 a50 v49.length c51 a55 v54.length c56 a60 v59.length c61 v63)) rfl rfl rfl rfl (cs':= (cV a41 v40.length c42 a45 v44.length c46 a50 v49.length c51 a55 v54.length c56 a60 v59.length c61 v63)) rfl) ?_ rfl rfl [7] Kq0 (.c .z (hS.dj (.c k1 (.c k7 .n))) Yh.e);rintro ZQV hS;refine WX.w gN rfl (Zbh lk) ?_ Kq0;refine WX.w gN rfl (Zbh lk) ?_ Kq0;refine WX.w gN rfl (Zbh lk) ?_ Kq0;refine r3 ?_;have hr:=Oi0 hL;subst hr;exact Yk.gen (vs:= [.agg [.slice a41 v40.length c42,.slice a45 v44.length c46,.slice a50 v49.length c51,.slice a55 v54.length c56,.slice a60 v59.length c61,.int .i64 v63].toArray,.slice a65 v64.length c66,.slice a32 v31.length c33,.int .i64 0]) rfl (Y9 (Xf rfl (Y7 rfl (ZC rfl e29))) (Jl ZfM KT (hS.KI k0) (j:=0) rfl rfl (ws:= (cV a41 v40.length c42 a45 v44.length c46 a50 v49.length c51 a55 v54.length c56 a60 v59.length c61 v63)) rfl) (ZU lk (ZU lk (ZU lk ZE)))) rfl ⟨_,⟨a41,v40.length,c42,a45,v44.length,c46,ZDI,a50,v49.length,c51,ZDH,a55,v54.length,c56,ZDG,a60,v59.length,c61,a65,v64.length,c66,a32,v31.length,c33,rfl,rfl⟩,hT ▸ hS.only sl⟩
end Go.Proofs.YtbmbbcaaimehkaaGreat
end
end
section
namespace Go.Proofs.YtbmbbcaaimehkaaGreat
open Go.Lf
def f5L (F:Nat) (p0:Zb) (p1:(List ZF)):Option Bool:=
 (ZBR F p0).bind fun x3=>(bif((!x3) || (decide ((p1.length:Int) > 100))) then(ZFb).bind fun x4=>some x4 else(Zs6 F p0 p1).bind fun x5=>(Zoh F p0).bind fun x32=>(bif((!x32) || (decide ((p1.length:Int) > 80))) then(gd (x5.2.2.2==2) (ZwH F x5.1) default).bind fun x33=>(gd ((((x5.2.2.2==2) && x33) && ((x5.2.1.length:Int)==0)) && ((x5.2.2.1.length:Int)==0)) (ZFb) default).bind fun x34=>some (((((x5.2.2.2==2) && x33) && ((x5.2.1.length:Int)==0)) && ((x5.2.2.1.length:Int)==0)) && x34) else(ZBQ F p0 p1).bind fun x35=>(gd (x5.2.2.2==0) (Zs8 F x5.1 x35.1) default).bind fun x62=>(gd ((x5.2.2.2==0) && x62) (ZwF F x5.2.1 x35.2.1) default).bind fun x63=>(gd (((x5.2.2.2==0) && x62) && x63) (Zls F x5.2.2.1 x35.2.2) default).bind fun x64=>(gd ((((x5.2.2.2==0) && x62) && x63) && x64) (ZFb) default).bind fun x65=>some (((((x5.2.2.2==0) && x62) && x63) && x64) && x65)))
end Go.Proofs.YtbmbbcaaimehkaaGreat
end
section
set_option maxRecDepth 20000
noncomputable section
namespace Go.Proofs.YtbmbbcaaimehkaaGreat
open Go.YT Go.Lf
theorem ZQ1 {F wm h} {p0:Zb} {p1:(List ZF)} {Zi Zh Zn Zm Zl Zk Zp Zo Zu Zt Y6 Y4} {r} (Z0:wm <=h.size) (ZB:Sl (Zr .i64) wm h Zi Zh p0.Zx) (ZN:Sl (ZJ (Zr .i64)) wm h Zn Zm p0.qK) (ZI:Sl (ZJ Zc) wm h Zl Zk p0.qQ) (ZM:Sl (ZJ Ze) wm h Zp Zo p0.qJ) (ZK:Sl Zd wm h Zu Zt p0.qG) (XZ:Sl Wi wm h Y6 Y4 p1) (hL:f5L F p0 p1=some r):
 WR XX 5 #[.agg [.slice Zi p0.Zx.length Zh,.slice Zn p0.qK.length Zm,.slice Zl p0.qQ.length Zk,.slice Zp p0.qJ.length Zo,.slice Zu p0.qG.length Zt,.int .i64 p0.said].toArray,.slice Y6 p1.length Y4] wm h (CP (fun(v:Value) (Gb:List (Ast wm))=>v= .bool r∧Gb= []) [] h):=by
 refine bg Tryz.ntmps5 Z0 Yc.nil ?_;intro T hT hS;unfold f5L at hL;refine r3 ?_;rintro _ h2 ⟨b1,eb1,rfl,hS⟩;refine r7 ?_;obtain⟨x3,hx3,hL⟩:=qZ hL;refine WO.cp gN rfl (Xb.fn ZPq (Zg lk ZA)) (WR.Qb rfl (ZLq (Nat.le_refl _) (hS.Xc ZB) (hS.Xc ZN) (hS.Xc ZI) (hS.Xc ZM) (hS.Xc ZK) hx3)) ?_;refine r8 ?_;refine cn hL ?_ ?_
 ·intro hc hL;refine r2 ?_;obtain⟨x4,hx4,hL⟩:=qZ hL;refine WO.cp gN rfl (Xb.fn ZAg ZA) (Zs9 hx4) ?_;refine r5 ?_;exact rt hL hT hS
 ·intro hc hL;refine r6 ?_;obtain⟨x5,hx5,hL⟩:=qZ hL;refine WO.cl gN rfl (Xb.fn ZPl (Zg lk (Zg lk ZA))) hS .n (fun g' hz hf hO=>ZLi (by rw [hz];exact hS.hw) ((hS.sl ZB).mono hf) ((hS.sl ZN).mono hf) ((hS.sl ZI).mono hf) ((hS.sl ZM).mono hf) ((hS.sl ZK).mono hf) ((hS.sl XZ).mono hf) hx5) ?_;rintro _ h27 _ ⟨a6,n7,c8,a9,n10,c11,Z2q,a12,n13,c14,Zyp,a15,n16,c17,Ze6,a18,n19,c20,a21,n22,c23,a24,n25,c26,rfl,rfl⟩ hS;obtain rfl:=hS.on k0;obtain rfl:=hS.YL k1;obtain rfl:=hS.YL k2;obtain rfl:=hS.YL k3;obtain rfl:=hS.on k4;obtain rfl:=hS.on k5;obtain rfl:=hS.on k6;refine r6 ?_;rintro _ h30 ⟨b29,ZLx,rfl,hS⟩;refine r1 ?_;rintro h31 hS;refine r9 ?_;obtain⟨x32,hx32,hL⟩:=qZ hL;refine WO.cp gN rfl (Xb.fn ZPp (Zg lk ZA)) (ZLp (hS.Xc ZB) (hS.Xc ZN) (hS.Xc ZI) (hS.Xc ZM) (hS.Xc ZK) hx32) ?_;refine r8 ?_;refine cn hL ?_ ?_
  ·intro hc hL;refine r6 ?_;obtain⟨x33,Zzn,hL⟩:=Yj hL;refine WO.gcp (Zw.yes rfl rfl rfl (ZC rfl fh)) rfl (fun hg=>(Xb.fn ZPr (Zg (YU fh rfl hg) ZA))) (fun hg=>ZLt (hS.ord k1) (hS.nrd k2 Jo) (hS.nrd k3 Jo) (hS.nrd k4 Jo) (hS.ord k5) (Zzn hg)) ?_;refine WN ?_;obtain⟨x34,hx34,hL⟩:=Yj hL;refine WO.gcp (Zw.yes rfl rfl rfl fh) rfl (fun hg=>(Xb.fn ZAg ZA)) (fun hg=>Zs9 (hx34 hg)) ?_;refine r6 ?_;exact rt hL hT hS
  ·intro hc hL;refine r6 ?_;obtain⟨x35,ZUm,hL⟩:=qZ hL;refine WO.cl gN rfl (Xb.fn ZPk (Zg lk (Zg lk ZA))) hS .n (fun g' hz hf hO=>ZLh (by rw [hz];exact hS.hw) ((hS.sl ZB).mono hf) ((hS.sl ZN).mono hf) ((hS.sl ZI).mono hf) ((hS.sl ZM).mono hf) ((hS.sl ZK).mono hf) ((hS.sl XZ).mono hf) ZUm) ?_;rintro _ h57 _ ⟨a36,c38,a39,c41,a42,c44,a45,c47,a48,c50,a51,n52,c53,a54,n55,c56,rfl,rfl⟩ hS;simp only [List.cons_append,List.nil_append] at hS;obtain rfl:=hS.on k5;obtain rfl:=hS.on k6;refine r5 ?_;rintro _ h60 ⟨b59,Z5L,rfl,hS⟩;refine r1 ?_;rintro h61 hS;refine Jv ?_;obtain⟨x62,Zzh,hL⟩:=Yj hL;refine WO.gcp (Zw.yes rfl rfl rfl (YE rfl fh)) rfl (fun hg=>(Xb.fn ZGK (Zg (YU (ZC rfl fh) rfl hg) (Zg (YU fh rfl hg) ZA)))) (fun hg=>ZBS (hS.ord k9) (hS.nrd k10 Jo) (hS.nrd k11 Jo) (hS.nrd k12 Jo) (hS.ord k13) (hS.UB k1) (hS.UB k2) (hS.UB k3) (hS.UB k4) (hS.UB k5) (Zzh hg)) ?_;refine r4 ?_;obtain⟨x63,ZDY,hL⟩:=Yj hL;refine WO.gcp (Zw.yes rfl rfl rfl (YE rfl fh)) rfl (fun hg=>(Xb.fn ZPm (Zg (YU (ZC rfl fh) rfl hg) (Zg (YU fh rfl hg) ZA)))) (fun hg=>ZLk (hS.ord k14) (hS.ord k6) (ZDY hg)) ?_;refine r4 ?_;obtain⟨x64,Zli,hL⟩:=Yj hL;refine WO.gcp (Zw.yes rfl rfl rfl (YE rfl fh)) rfl (fun hg=>(Xb.fn Zqk (Zg (YU (ZC rfl fh) rfl hg) (Zg (YU fh rfl hg) ZA)))) (fun hg=>Zkg (hS.ord k15) (hS.ord k7) (Zli hg)) ?_;refine r2 ?_;obtain⟨x65,ZUg,hL⟩:=Yj hL;refine WO.gcp (Zw.yes rfl rfl rfl fh) rfl (fun hg=>(Xb.fn ZAg ZA)) (fun hg=>Zs9 (ZUg hg)) ?_;refine r5 ?_;exact rt hL hT hS
theorem ZQ2 {F h} {p0:Zb} {p1:(List ZF)} {Zi Zh Zn Zm Zl Zk Zp Zo Zu Zt Y6 Y4} {r} (ZB:Sl (Zr .i64) h.size h Zi Zh p0.Zx) (ZN:Sl (ZJ (Zr .i64)) h.size h Zn Zm p0.qK) (ZI:Sl (ZJ Zc) h.size h Zl Zk p0.qQ) (ZM:Sl (ZJ Ze) h.size h Zp Zo p0.qJ) (ZK:Sl Zd h.size h Zu Zt p0.qG) (XZ:Sl Wi h.size h Y6 Y4 p1) (hL:f5L F p0 p1=some r):Pure XX 5 #[.agg [.slice Zi p0.Zx.length Zh,.slice Zn p0.qK.length Zm,.slice Zl p0.qQ.length Zk,.slice Zp p0.qJ.length Zo,.slice Zu p0.qG.length Zt,.int .i64 p0.said].toArray,.slice Y6 p1.length Y4] h (.bool r):=
 WR.Qb rfl (ZQ1 (Nat.le_refl _) ZB ZN ZI ZM ZK XZ hL)
end Go.Proofs.YtbmbbcaaimehkaaGreat
end
end
section
namespace Go.Proofs.YtbmbbcaaimehkaaGreat
open Go.Lf
end Go.Proofs.YtbmbbcaaimehkaaGreat
end
section
set_option maxRecDepth 20000
noncomputable section
namespace Go.Proofs.YtbmbbcaaimehkaaGreat
open Go.YT Go.Lf
end Go.Proofs.YtbmbbcaaimehkaaGreat
end
end
section
end
section
namespace Go.Lf
theorem ZxG {k:Nat} (h:k < 4611686018427387904):Y2 ((k:Int) + 1)= ((k + 1:Nat):Int):=by
 rw [Kb (by omega) (by omega)];rfl
theorem ZxH {k:Nat} (h:k < 4611686018427387904) (h0:0 < k):Y2 ((k:Int) - 1)= ((k - 1:Nat):Int):=by
 rw [Kb (by omega) (by omega)];omega
theorem Zg9 {α:Type} {Jw:Nat} {xs ys:List α} (h:xs.length + ys.length <=1000000) (hb:Jw <=1000):app Jw xs ys=some (xs ++ ys):=
 ZtA (Nat.le_trans (Nat.mul_le_mul (show 2 * (xs.length + ys.length) + 1000 <=2001000 by omega) hb) (by decide))
def iter {α β σ:Type} (g:Nat ->α ->σ ->(σ ->Option β) ->Option β) (d:σ ->Option β):Nat ->List α ->σ ->Option β
 | _,[],s=>d s
 | i,x::l,s=>g i x s (fun s'=>iter g d (i + 1) l s')
end Go.Lf
end
section
namespace Go.Proofs.YtbmbbcaaimehkaaGreat
open Go.Lf
section
variable {β γ:Type}
theorem QW {body:γ ->(γ ->Option β) ->Option β} {r:Option β} (S:Nat ->γ) {n F:Nat} (hF:n < F) (hb:∀ k,k < n ->∀ next,body (S k) next=next (S (k + 1))) (he:∀ next,body (S n) next=r):loop F body (S 0)=r:=by
 have:∀ j F,j <=n ->n - j < F ->loop F body (S j)=r:=by
  intro j F hj hF;obtain⟨d,hd⟩:∃ d,d=n - j:= ⟨_,rfl⟩
  induction d generalizing j F with
  | zero=>
    have:j=n:=by omega
    subst this;cases F with
    | zero=>omega
    | succ F=>rw [Zdw];exact he _
  | succ d ih=>
    cases F with
    | zero=>omega
    | succ F=>rw [Zdw,hb j (by omega)];exact ih (j + 1) F (by omega) (by omega) (by omega)
 exact this 0 F (Nat.zero_le _) (by omega)
theorem ZpU {body:γ ->(γ ->Option β) ->Option β} {r1 r2:Option β} (S:Nat ->γ) (c:Nat ->Bool) {n F:Nat} (hF:n < F) (hb:∀ k,k < n ->∀ next,body (S k) next=bif c k then r1 else next (S (k + 1))) (he:∀ next,body (S n) next=r2):loop F body (S 0)=bif(List.range n).any c then r1 else r2:=by
 cases h:(List.range n).any c with
 | false=>
   rw [List.any_eq_false] at h;refine QW S hF (fun k hk next=>?_) he;have:=h k (List.mem_range.2 hk);rw [hb k hk,Bool.eq_false_iff.2 this];rfl
 | true=>
   have hex:∃ k,k < n∧c k=true:=by
    obtain⟨k,h1,h2⟩:=List.any_eq_true.1 h;exact⟨k,List.mem_range.1 h1,h2⟩
   have hm:∃ m,(m < n∧c m=true)∧∀ k,k < m ->c k=false:=by
    obtain⟨k,hk⟩:=hex
    induction k using Nat.strongRecOn with
    | _ k ih=>
      by_cases hz:∃ j,j < k∧c j=true
      ·obtain⟨j,h1,h2⟩:=hz;exact ih j h1 ⟨by omega,h2⟩
      ·exact⟨k,hk,fun j hj=>Bool.eq_false_iff.2 fun q=>hz ⟨j,hj,q⟩⟩
   obtain⟨m,⟨h1,h2⟩,h3⟩:=hm;refine QW S (n:=m) (by omega) (fun k hk next=>?_) (fun next=>?_)
   ·rw [hb k (by omega),h3 k hk];rfl
   ·rw [hb m h1,h2];rfl
end
theorem Yw {k:Nat} (h:k < 4611686018427387904):Y2 ((k:Int) + 1)= ((k + 1:Nat):Int):=ZxG h
theorem ZG {k n:Nat} (h:k < n):decide ((k:Int) < (n:Int))=true:=decide_eq_true (by omega)
theorem ZQ (n:Nat):decide ((n:Int) < (n:Int))=false:=decide_eq_false (by omega)
theorem YW {α:Type} {l:List α} {k:Nat} (h:k < l.length):ZL l (k:Int)=some l[k]:=by rw [Zjz,List.getElem?_eq_getElem h]
theorem app1 {α:Type} {b:Nat} {l:List α} {x:α} (h:l.length <=900000) (hb:b <=1000):app b l [x]=some (l ++ [x]):=Zg9 (by simp;omega) hb
theorem Qx {α:Type} [BEq α] [LawfulBEq α] (a:α):(a !=a)=false:=by simp
end Go.Proofs.YtbmbbcaaimehkaaGreat
end
section
namespace Go.Proofs.YtbmbbcaaimehkaaGreat
open Go.Lf
structure UW (n:Nat) (w:Zb):Prop where
 Zx:w.Zx.length < n
 qK:w.qK.length < n
 qQ:w.qQ.length < n
 qJ:w.qJ.length < n
 qG:w.qG.length < n
 box:∀ l ∈ w.qK,l.length < n
 row:∀ l ∈ w.qQ,l.length < n
 hel:∀ l ∈ w.qJ,l.length < n
 Xr:∀ x ∈ w.qG,x.qV.length < n∧x.Yd.length < n
theorem UW.mono {n m:Nat} {w:Zb} (h:UW n w) (hm:n <=m):UW m w:=
 ⟨Nat.lt_of_lt_of_le h.Zx hm,Nat.lt_of_lt_of_le h.qK hm,Nat.lt_of_lt_of_le h.qQ hm,Nat.lt_of_lt_of_le h.qJ hm,Nat.lt_of_lt_of_le h.qG hm,fun l q=>Nat.lt_of_lt_of_le (h.box l q) hm,fun l q=>Nat.lt_of_lt_of_le (h.row l q) hm,fun l q=>Nat.lt_of_lt_of_le (h.hel l q) hm,fun x q=>⟨Nat.lt_of_lt_of_le (h.Xr x q).1 hm,Nat.lt_of_lt_of_le (h.Xr x q).2 hm⟩⟩
theorem Za7 {F:Nat} {a:List Int} (hF:a.length < F) (hM:F <=1000000):Zls F a a=some true:=by
 unfold Zls;rw [Qx,Cq0];refine QW (fun k=>(k:Int)) hF (fun k hk next=>?_) (fun next=>?_)
 ·unfold Zoc;rw [ZG hk,Cq1,YW hk];simp only [Bq0,Qx,Cq0];rw [Yw (by omega)]
 ·unfold Zoc;rw [ZQ];rfl
theorem Zot (x:Zz):QA x x=true:=by simp [QA]
theorem ZhJ (x:Zq):Xw x x=true:=by simp [Xw]
theorem Zos (x:Zj):KD x x=true:=by simp [KD]
theorem ZqI {F:Nat} {a:List Zj} (hF:a.length < F) (hM:F <=1000000):ZwF F a a=some true:=by
 unfold ZwF;rw [Qx,Cq0];refine QW (fun k=>(k:Int)) hF (fun k hk next=>?_) (fun next=>?_)
 ·unfold Zof;rw [ZG hk,Cq1,YW hk];simp only [Bq0,Zos,Bool.not_true,Cq0];rw [Yw (by omega)]
 ·unfold Zof;rw [ZQ];rfl
theorem ZlU {n F:Nat} {w:Zb} (h:UW n w) (hF:n <=F) (hM:F <=1000000):Zs8 F w w=some true:=by
 have h5:loop F (Zkl F w w) 0=some true:=by
  refine QW (fun k=>(k:Int)) (n:=w.qG.length) (Nat.lt_of_lt_of_le h.qG hF) (fun k hk next=>?_) (fun next=>?_)
  ·unfold Zkl;have hx:=h.Xr _ (List.getElem_mem hk);rw [ZG hk,Cq1,YW hk];simp only [Bq0,Qx,ZhJ,Bool.not_true,Bool.or_false,Bool.not_false,YN,Za7 (Nat.lt_of_lt_of_le hx.1 hF) hM,Za7 (Nat.lt_of_lt_of_le hx.2 hF) hM,Cq0];rw [Yw (by have:=h.qG;omega)]
  ·unfold Zkl;rw [ZQ];rfl
 have h3:loop F (Zkm F w w) 0=some true:=by
  refine QW (fun k=>(k:Int)) (n:=w.qJ.length) (Nat.lt_of_lt_of_le h.qJ hF) (fun k hk next=>?_) (fun next=>?_)
  ·unfold Zkm;have hx:=h.hel _ (List.getElem_mem hk);rw [ZG hk,Cq1,YW hk];simp only [Bq0,Qx,Cq0];refine QW (fun j=>(j:Int)) (n:=w.qJ[k].length) (Nat.lt_of_lt_of_le hx hF) (fun j hj next=>?_) (fun next=>?_)
   ·unfold Zoi;rw [ZG hj,Cq1,YW hk];simp only [Bq0,YW hj,ZhJ,Bool.not_true,Cq0];rw [Yw (by omega)]
   ·unfold Zoi;rw [ZQ,Cq0,Yw (by have:=h.qJ;omega)]
  ·unfold Zkm;rw [ZQ];exact h5
 have h1:loop F (Zkn F w w) 0=some true:=by
  refine QW (fun k=>(k:Int)) (n:=w.qQ.length) (Nat.lt_of_lt_of_le h.qQ hF) (fun k hk next=>?_) (fun next=>?_)
  ·unfold Zkn;have hx:=h.row _ (List.getElem_mem hk);rw [ZG hk,Cq1,YW hk];simp only [Bq0,Qx,Cq0];refine QW (fun j=>(j:Int)) (n:=w.qQ[k].length) (Nat.lt_of_lt_of_le hx hF) (fun j hj next=>?_) (fun next=>?_)
   ·unfold Zoj;rw [ZG hj,Cq1,YW hk];simp only [Bq0,YW hj,Zot,Bool.not_true,Cq0];rw [Yw (by omega)]
   ·unfold Zoj;rw [ZQ,Cq0,Yw (by have:=h.qQ;omega)]
  ·unfold Zkn;rw [ZQ];exact h3
 unfold Zs8;rw [Za7 (Nat.lt_of_lt_of_le h.Zx hF) hM];simp only [Bq0,Bool.not_true,Qx,Bool.or_false,Cq0];refine QW (fun k=>(k:Int)) (n:=w.qK.length) (Nat.lt_of_lt_of_le h.qK hF) (fun k hk next=>?_) (fun next=>?_)
 ·unfold Zok;have hx:=h.box _ (List.getElem_mem hk);rw [ZG hk,Cq1,YW hk];simp only [Bq0,Za7 (Nat.lt_of_lt_of_le hx hF) hM,Bool.not_true,Cq0];rw [Yw (by have:=h.qK;omega)]
 ·unfold Zok;rw [ZQ];exact h1
abbrev Zks:Zb:= ⟨[],[],[],[],[],0⟩
theorem ZwK:UW 1 Zks:= ⟨by simp,by simp,by simp,by simp,by simp,by simp,by simp,by simp,by simp⟩
theorem Ye {β γ:Type} {body:γ ->(γ ->Option β) ->Option β} {r:Option β} {s0:γ} (S:Nat ->γ) (h0:S 0=s0) {n F:Nat} (hF:n < F) (hb:∀ k,k < n ->∀ next,body (S k) next=next (S (k + 1))) (he:∀ next,body (S n) next=r):loop F body s0=r:=h0 ▸ QW S hF hb he
def row (w:Zb) (m:Nat):List Zz:=w.qQ.getD m []
def E (w:Zb) (m p:Nat):Zz:= (row w m).getD p default
structure Wp (w:Zb):Prop where
 m1:1 <=w.qQ.length
 m2:w.qQ.length <=5
 p1:1 <=w.Zx.length
 p2:w.Zx.length <=8
 bx:w.qK.length=w.Zx.length
 hd:w.qJ.length=w.qQ.length
 rw_:∀ l ∈ w.qQ,l.length=w.Zx.length
theorem YP {α:Type} {l:List α} {k:Nat} {d:α} (h:k < l.length):l.getD k d ∈ l:=by
 rw [List.getD_eq_getElem?_getD,List.getElem?_eq_getElem h];exact List.getElem_mem h
theorem YM {α:Type} {l:List α} {k:Nat} (d:α) (h:k < l.length):ZL l (k:Int)=some (l.getD k d):=by
 rw [YW h,List.getD_eq_getElem?_getD,List.getElem?_eq_getElem h];rfl
theorem Wp.row {w:Zb} (s:Wp w) {m:Nat} (h:m < w.qQ.length):ZL w.qQ (m:Int)=some (row w m):=YM [] h
theorem Wp.len {w:Zb} (s:Wp w) {m:Nat} (h:m < w.qQ.length):(Proofs.YtbmbbcaaimehkaaGreat.row w m).length=w.Zx.length:=s.rw_ _ (YP h)
theorem Wp.ent {w:Zb} (s:Wp w) {m p:Nat} (h:m < w.qQ.length) (hp:p < w.Zx.length):ZL (Proofs.YtbmbbcaaimehkaaGreat.row w m) (p:Int)=some (E w m p):=YM default (by rw [s.len h];exact hp)
def Xv (w:Zb) (p k:Nat):List YA:= (List.range k).filterMap fun m=>if(E w m p).here then some ⟨(m:Int),true,(E w m p).age⟩ else none
def WH (x:Zf) (p j:Nat):List YA:= (List.range j).filterMap fun i=>if x.qV.getD i 0= (p:Int) then some ⟨x.ZX,false,x.Yd.getD i 0⟩ else none
def Ka (x:Zf) (p:Nat):List YA:=if x.kind=2 then WH x p x.qV.length else []
def Qj (l:List Zf) (p:Nat):List YA:=l.flatMap fun x=>Ka x p
def Xa (w:Zb) (p:Nat):List YA:=Xv w p w.qQ.length ++ Qj w.qG p
def Kl (l:List YA):YA:=l.getLastD ⟨0,false,0⟩
theorem Zjk (l:List YA) (x:YA):Kl (l ++ [x])=x:=by unfold Kl;simp
theorem ZBi {α β:Type} (f:α ->Option β) (a:α): [a].filterMap f= (f a).toList:=by
 cases h:f a <;> simp [List.filterMap_cons,h]
theorem JP (w:Zb) (p k:Nat):Xv w p (k + 1)=Xv w p k ++ (if(E w k p).here then [⟨(k:Int),true,(E w k p).age⟩] else []):=by
 unfold Xv;rw [List.range_succ,List.filterMap_append,ZBi];congr 1;by_cases h:(E w k p).here=true
 ·rw [if_pos h,if_pos h];rfl
 ·rw [if_neg h,if_neg h];rfl
theorem Zf3 (x:Zf) (p j:Nat):WH x p (j + 1)=WH x p j ++ (if x.qV.getD j 0= (p:Int) then [⟨x.ZX,false,x.Yd.getD j 0⟩] else []):=by
 unfold WH;rw [List.range_succ,List.filterMap_append,ZBi];congr 1;by_cases h:x.qV.getD j 0= (p:Int)
 ·rw [if_pos h,if_pos h];rfl
 ·rw [if_neg h,if_neg h];rfl
theorem ZvH {l:List Zf} {k:Nat} (h:k < l.length) (p:Nat):Qj (l.take (k + 1)) p=Qj (l.take k) p ++ Ka l[k] p:=by
 unfold Qj;rw [List.take_add_one,List.getElem?_eq_getElem h,List.flatMap_append];simp
theorem Zdz (w:Zb) (p k:Nat):(Xv w p k).length <=k:=by
 have:=List.length_filterMap_le (fun m=>if(E w m p).here then some (⟨(m:Int),true,(E w m p).age⟩:YA) else none) (List.range k);unfold Xv;rw [List.length_range] at this;exact this
theorem ZeQ (x:Zf) (p j:Nat):(WH x p j).length <=j:=by
 have:=List.length_filterMap_le (fun i=>if x.qV.getD i 0= (p:Int) then some (⟨x.ZX,false,x.Yd.getD i 0⟩:YA) else none) (List.range j);unfold WH;rw [List.length_range] at this;exact this
def Mvd (n:Nat) (l:List Zf):Prop:=∀ x ∈ l,x.kind=2 ->x.Yd.length=x.qV.length∧x.qV.length <=n
theorem ZxF {n:Nat} {l:List Zf} (h:Mvd n l) (p:Nat):(Qj l p).length <=n * l.length:=by
 induction l with
 | nil=>simp [Qj]
 | cons x l ih=>
   have:=ih fun y hy=>h y (by simp [hy])
   have hx:(Ka x p).length <=n:=by
    unfold Ka;by_cases hk:x.kind=2
    ·rw [if_pos hk];exact Nat.le_trans (ZeQ _ _ _) (h x (by simp) hk).2
    ·rw [if_neg hk];simp
   unfold Qj at this ⊢;rw [List.flatMap_cons,List.length_append,List.length_cons,Nat.mul_succ];omega
theorem Jf (a b:Int):(a !=b)=decide (a ≠ b):=by
 by_cases h:a=b <;> simp [h]
theorem Z6 (a b:Int):(a==b)=decide (a=b):=by
 by_cases h:a=b <;> simp [h]
theorem Zbe {α:Type} (c:Prop) [Decidable c] (a b:α):(bif decide c then a else b)=if c then a else b:=by
 by_cases h:c <;> simp [h]
def stP (l:List YA) (k:Nat):Int×Int×Int×Bool×Int:= ((l.length:Int),(k:Int),(Kl l).machine,(Kl l).here,(Kl l).age)
theorem Zwe (l:List YA):YA.mk (Kl l).machine (Kl l).here (Kl l).age=Kl l:=rfl
theorem ZiG {F:Nat} (hF:1000 <=F) (hM:F <=1000000) {w:Zb} (s:Wp w) (hv:Mvd 900 w.qG) (hw:w.qG.length < 900) {p:Nat} (hp:p < w.Zx.length):
 Zeq F w (p:Int)=some (Kl (Xa w p),((Xa w p).length:Int)):=by
 have h0:=s.m2;have hh:=Zdz w p w.qQ.length
 have hlen:∀ k,k <=w.qG.length ->(Qj (w.qG.take k) p).length <=900 * 900:=fun k hk=>by
  have:=ZxF (l:=w.qG.take k) (fun x hx=>hv x (List.mem_of_mem_take hx)) p;rw [List.length_take] at this;exact Nat.le_trans this (by apply Nat.mul_le_mul (Nat.le_refl _);omega)
 have h1:loop F (ZjR F w (p:Int)) (stP (Xv w p w.qQ.length) 0)=some (Kl (Xa w p),((Xa w p).length:Int)):=by
  refine Ye (fun k=>stP (Xv w p w.qQ.length ++ Qj (w.qG.take k) p) k) (by simp [Qj]) (n:=w.qG.length) (by omega) (fun k hk next=>?_) (fun next=>?_)
  ·have hl:=hlen k (by omega);have hx:w.qG[k] ∈ w.qG:=List.getElem_mem hk;rw [ZvH hk];unfold ZjR stP;dsimp only;rw [ZG hk,Cq1,YW hk];simp only [Bq0];rw [Jf,Zbe];by_cases hk2:w.qG[k].kind=2
   ·rw [if_neg (fun q=>q hk2)];obtain⟨v1,v2⟩:=hv _ hx hk2;have hwk:Ka w.qG[k] p=WH w.qG[k] p w.qG[k].qV.length:=by unfold Ka;rw [if_pos hk2]
    rw [hwk];have hll:(Xv w p w.qQ.length ++ Qj (w.qG.take k) p).length <=5 + 900 * 900:=by rw [List.length_append];omega
    rw [← List.append_assoc];generalize Xv w p w.qQ.length ++ Qj (w.qG.take k) p=l at hll ⊢;refine Ye (fun j=>stP (l ++ WH w.qG[k] p j) j) (by simp [WH,stP]) (n:=w.qG[k].qV.length) (by omega) (fun j hj ZyZ=>?_) (fun ZyZ=>?_)
    ·have hl2:=ZeQ w.qG[k] p j;rw [Zf3];unfold ZnV stP;dsimp only;rw [ZG hj,Cq1,YM 0 hj,YM 0 (show j < w.qG[k].Yd.length by omega)];simp only [Bq0];rw [Z6,Zbe];unfold ZjP;dsimp only;by_cases hq:w.qG[k].qV.getD j 0= (p:Int)
     ·rw [if_pos hq,if_pos hq,Yw (by rw [List.length_append];omega),Yw (by omega),← List.append_assoc,Zjk];simp [Int.add_assoc]
     ·rw [if_neg hq,if_neg hq,Yw (by omega),List.append_nil]
    ·unfold ZnV stP;dsimp only;rw [ZQ,Cq0];unfold ZgA;dsimp only;rw [Yw (by omega)]
   ·rw [if_pos hk2];have hwk:Ka w.qG[k] p= []:=by unfold Ka;rw [if_neg hk2]
    rw [hwk,List.append_nil];unfold ZgA;dsimp only;rw [Yw (by omega)]
  ·unfold ZjR stP;dsimp only;rw [ZQ,Cq0,List.take_of_length_le (Nat.le_refl _),Zwe];rfl
 unfold Zeq;refine Ye (fun k=>stP (Xv w p k) k) (by rfl) (n:=w.qQ.length) (by omega) (fun k hk next=>?_) (fun next=>?_)
 ·unfold ZnW stP;dsimp only;rw [ZG hk,Cq1,s.row hk];simp only [Bq0];rw [s.ent hk hp];simp only [Bq0];have hl:=Zdz w p k;rw [JP];unfold ZjQ;dsimp only;cases hE:(E w k p).here with
  | true=>
    simp only [Cq1,if_true];rw [Yw (by omega),Yw (by omega),Zjk];simp
  | false=>
    simp only [Cq0];rw [Yw (by omega)];simp
 ·unfold ZnW;dsimp only [stP];rw [ZQ];exact h1
def inn (w:Zb) (q:Int):Int:=w.Zx.getD q.toNat 0
def up (w:Zb):Nat ->Int ->Int
 | 0,q=>q
 | k + 1,q=>if q < 0 then q else up w k (inn w q)
theorem ZmG {w:Zb} {q:Int} (h:q < 0) (k:Nat):up w k q=q:=by
 cases k with
 | zero=>rfl
 | succ k=>show(if q < 0 then q else _)=q;rw [if_pos h]
theorem Qp (w:Zb) (k:Nat) (q:Int):up w (k + 1) q=if up w k q < 0 then up w k q else inn w (up w k q):=by
 induction k generalizing q with
 | zero=>rfl
 | succ k ih=>
   show(if q < 0 then q else up w (k + 1) (inn w q))=_;by_cases h:q < 0
   ·rw [if_pos h,ZmG h,if_pos h]
   ·rw [if_neg h,ih];show _=if(if q < 0 then q else up w k (inn w q)) < 0 then _ else _
    rw [if_neg h];show _=if _ then(if q < 0 then q else up w k (inn w q)) else inn w (if q < 0 then q else up w k (inn w q))
    rw [if_neg h]
theorem up_add (w:Zb) (a b:Nat) (q:Int):up w (a + b) q=up w b (up w a q):=by
 induction a generalizing q with
 | zero=>rw [Nat.zero_add];rfl
 | succ a ih=>
   rw [show a + 1 + b= (a + b) + 1 by omega];show(if q < 0 then q else up w (a + b) (inn w q))=up w b (if q < 0 then q else up w a (inn w q));by_cases h:q < 0
   ·rw [if_pos h,if_pos h,ZmG h]
   ·rw [if_neg h,if_neg h,ih]
theorem J5 {w:Zb} {q:Int} {a:Nat} (h:up w a q < 0) {b:Nat} (hb:a <=b):up w b q < 0:=by
 obtain⟨d,rfl⟩:∃ d,b=a + d:= ⟨b - a,by omega⟩
 rw [up_add,ZmG h];exact h
def okN (w:Zb) (q:Int):Prop:=-1 <=q∧q < (w.Zx.length:Int)
instance (w:Zb) (q:Int):Decidable (okN w q):=by unfold okN;infer_instance
structure Inn (w:Zb):Prop where
 rng:∀ p:Nat,p < w.Zx.length ->okN w (inn w p)
 acy:∀ p:Nat,p < w.Zx.length ->up w w.Zx.length p < 0
theorem Inn.up {w:Zb} (h:Inn w) {q:Int} (hq:okN w q) (k:Nat):okN w (up w k q):=by
 induction k with
 | zero=>exact hq
 | succ k ih=>
   rw [Qp];by_cases h2:Proofs.YtbmbbcaaimehkaaGreat.up w k q < 0
   ·rw [if_pos h2];exact ih
   ·rw [if_neg h2];have:=h.rng (Proofs.YtbmbbcaaimehkaaGreat.up w k q).toNat (by have:=ih.2;omega)
    rwa [Int.toNat_of_nonneg (by omega)] at this
theorem Qd {c:Nat ->Prop} {n:Nat} (h:c n):∃ m,m <=n∧c m∧∀ k,k < m ->¬ c k:=by
 induction n using Nat.strongRecOn with
 | _ n ih=>
   by_cases hz:∃ j,j < n∧c j
   ·obtain⟨j,h1,h2⟩:=hz;obtain⟨m,q1,q2,q3⟩:=ih j h1 h2;exact⟨m,by omega,q2,q3⟩
   ·exact⟨n,Nat.le_refl _,h,fun k hk q=>hz ⟨k,hk,q⟩⟩
theorem ZIo:∀ (n:Nat) (f:Nat ->Nat),(∀ i,i <=n ->f i < n) ->∃ i j,i < j∧j <=n∧f i=f j:=by
 intro n
 induction n with
 | zero=>intro f h;exact absurd (h 0 (Nat.le_refl _)) (Nat.not_lt_zero _)
 | succ n ih=>
   intro f h;by_cases hz:∃ i,i <=n∧f i=f (n + 1)
   ·obtain⟨i,h1,h2⟩:=hz;exact⟨i,n + 1,by omega,Nat.le_refl _,h2⟩
   ·have hne:∀ i,i <=n ->f i ≠ f (n + 1):=fun i hi q=>hz ⟨i,hi,q⟩
    have hl:=h (n + 1) (Nat.le_refl _)
    obtain⟨i,j,h1,h2,h3⟩:=ih (fun i=>if f i < f (n + 1) then f i else f i - 1) (fun i hi=>by
     have:=h i (by omega);have:=hne i hi;by_cases q:f i < f (n + 1)
     ·rw [if_pos q];omega
     ·rw [if_neg q];omega)
    refine⟨i,j,h1,by omega,?_⟩;have a1:=hne i (by omega);have a2:=hne j h2;by_cases q1:f i < f (n + 1) <;> by_cases q2:f j < f (n + 1)
    ·rwa [if_pos q1,if_pos q2] at h3
    ·rw [if_pos q1,if_neg q2] at h3;omega
    ·rw [if_neg q1,if_pos q2] at h3;omega
    ·rw [if_neg q1,if_neg q2] at h3;omega
theorem ZiB {w:Zb} (hr:∀ p:Nat,p < w.Zx.length ->okN w (inn w p)):(∀ p:Nat,p < w.Zx.length ->up w w.Zx.length p < 0)↔∀ p:Nat,p < w.Zx.length ->∀ j,j <=w.Zx.length ->up w (j + 1) p ≠ (p:Int):=by
 constructor
 ·intro h p hp j hj e
  have:∀ m:Nat,up w (m * (j + 1)) p= (p:Int):=fun m=>by
   induction m with
   | zero=>rw [Nat.zero_mul];rfl
   | succ m ih=>rw [Nat.succ_mul,up_add,ih,e]
  have h2:=J5 (h p hp) (b:=w.Zx.length * (j + 1)) (Nat.le_mul_of_pos_right _ (by omega));rw [this] at h2;omega
 ·intro h p hp;rcases Int.lt_or_le (up w w.Zx.length p) 0 with q | q
  ·exact q
  ·exfalso
   have hk:∀ k,k <=w.Zx.length ->0 <=up w k p:=fun k hk=>by
    rcases Int.lt_or_le (up w k p) 0 with z | z
    ·have:=J5 z hk;omega
    ·exact z
   have hok:∀ k,okN w (up w k p):=fun k=>by
    induction k with
    | zero=>exact⟨by show(-1:Int) <= (p:Int);omega,by show(p:Int) < _;omega⟩
    | succ k ih=>
      rw [Qp];by_cases h2:up w k p < 0
      ·rw [if_pos h2];exact ih
      ·rw [if_neg h2];have:=hr (up w k p).toNat (by have:=ih.2;omega)
       rwa [Int.toNat_of_nonneg (by omega)] at this
   obtain⟨i,j,h1,h2,h3⟩:=ZIo w.Zx.length (fun k=>(up w k p).toNat) fun k hk'=>by
    have:= (hok k).2;have:=hk k hk';omega
   have e:up w i p=up w j p:=by have:=hk i (by omega);have:=hk j h2;omega
   have hi:=hk i (by omega);have:=h (up w i p).toNat (by have:= (hok i).2;omega) (j - i - 1) (by omega);apply this;rw [Int.toNat_of_nonneg hi,show j - i - 1 + 1=j - i by omega,← up_add,show i + (j - i)=j by omega,e]
end Go.Proofs.YtbmbbcaaimehkaaGreat
end
section
namespace Go.Proofs.YtbmbbcaaimehkaaGreat
open Go.Lf
section
variable {β γ:Type} {R:β ->Prop}
theorem Jd {c:Bool} {A B:Option β} (h1:c=true ->∃ b,A=some b∧R b) (h2:c=false ->∃ b,B=some b∧R b):∃ b,(bif c then A else B)=some b∧R b:=by
 cases c
 ·exact h2 rfl
 ·exact h1 rfl
theorem JW {body:γ ->(γ ->Option β) ->Option β} (r1:β) (r2:Option β) {s0:γ} (S:Nat ->γ) (h0:S 0=s0) (c:Nat ->Prop) {n F:Nat} (hF:n < F)
 (hb:∀ k,k < n ->((∀ next,body (S k) next=some r1)∧c k)∨((∀ next,body (S k) next=next (S (k + 1)))∧¬ c k)) (he:∀ next,body (S n) next=r2)
 (h1:∀ k,k < n ->c k ->R r1) (h2:(∀ k,k < n ->¬ c k) ->∃ b,r2=some b∧R b):∃ b,loop F body s0=some b∧R b:=by
 by_cases hz:∃ k,k < n∧c k
 ·obtain⟨k0,hk0⟩:=hz;obtain⟨m,hm,⟨hmn,hcm⟩,hlt⟩:=Qd (c:=fun k=>k < n∧c k) hk0;refine⟨r1,Ye S h0 (n:=m) (by omega) (fun k hk=>?_) ?_,h1 m hmn hcm⟩
  ·rcases hb k (by omega) with⟨_,q⟩ | ⟨q,_⟩
   ·exact absurd ⟨by omega,q⟩ (hlt k hk)
   ·exact q
  ·rcases hb m hmn with⟨q,_⟩ | ⟨_,q⟩
   ·exact q
   ·exact absurd hcm q
 ·have hno:∀ k,k < n ->¬ c k:=fun k hk q=>hz ⟨k,hk,q⟩
  obtain⟨b,e,hR⟩:=h2 hno;refine⟨b,?_,hR⟩;rw [← e];exact Ye S h0 hF (fun k hk=>(hb k hk).elim (fun q=>absurd q.2 (hno k hk)) fun q=>q.1) he
end
theorem JU {w:Zb} {q:Int} (h:okN w q) (h2:¬ q < 0):∃ k:Nat,q= (k:Int)∧k < w.Zx.length:= ⟨q.toNat,by omega,by have:=h.2;omega⟩
theorem Xi {w:Zb} {p:Nat} (hp:p < w.Zx.length):ZL w.Zx (p:Int)=some (inn w p):=YM 0 hp
theorem Zfp (k:Nat):decide ((k:Int) >=0)=true:=decide_eq_true (by omega)
def Chn (w:Zb) (p:Nat):Prop:=okN w (inn w p)∧∃ n,n <=w.Zx.length∧(∀ j,j < n ->¬ up w j p < 0∧okN w (inn w (up w j p)))∧up w n p < 0
theorem Zvo {w:Zb}:(∀ p,p < w.Zx.length ->Chn w p)↔Inn w:=by
 constructor
 ·intro h;exact⟨fun p hp=>(h p hp).1,fun p hp=>let⟨_,n,h1,_,h3⟩:=h p hp;J5 h3 h1⟩
 ·intro h p hp;refine⟨h.rng p hp,?_⟩;obtain⟨m,h1,h2,h3⟩:=Qd (c:=fun k=>up w k p < 0) (h.acy p hp);refine⟨m,h1,fun j hj=>⟨h3 j hj,?_⟩,h2⟩;have hq:okN w ((p:Int)):= ⟨by omega,by omega⟩
  obtain⟨k,e,hk⟩:=JU (h.up hq j) (h3 j hj);rw [e];exact h.rng k hk
open Classical in
theorem ZkB {F:Nat} {w:Zb} (hF:1000 <=F) (h8:w.Zx.length <=8) {p:Nat} (hp:p < w.Zx.length) (next:Int ->Option Bool):
 ((ZL w.Zx (p:Int)).bind fun KL=>(bif((decide (KL < (-1))) || (decide (KL >= (w.Zx.length:Int)))) then some false else loop F (Zgy w (p:Int) next) (0,(p:Int))))=if Chn w p then next ((p + 1:Nat):Int) else some false:=by
 rw [Xi hp];simp only [Bq0];by_cases hr:okN w (inn w p)
 ·have e:(decide (inn w p < (-1)) || decide (inn w p >= (w.Zx.length:Int)))=false:=by
   have h1:=hr.1;have h2:=hr.2;rw [decide_eq_false (by omega),decide_eq_false (by omega)];rfl
  rw [e,Cq0];obtain⟨m,hm,hs,hlt⟩:=Qd (c:=fun k=>up w k p < 0∨k=w.Zx.length∨¬ okN w (inn w (up w k p))) (n:=w.Zx.length) (.inr (.inl rfl))
  have hj:∀ j,j < m ->¬ up w j p < 0∧j ≠ w.Zx.length∧okN w (inn w (up w j p)):=fun j hj=>by
   have:=hlt j hj;refine⟨fun q=>this (.inl q),fun q=>this (.inr (.inl q)),?_⟩;by_cases z:okN w (inn w (up w j p))
   ·exact z
   ·exact absurd (.inr (.inr z)) this
  have hok:∀ j,j <=m ->okN w (up w j p):=fun j hjm=>by
   induction j with
   | zero=>exact⟨by show(-1:Int) <= (p:Int);omega,by show(p:Int) < _;omega⟩
   | succ j ih=>
     have:=hj j (by omega);rw [Qp,if_neg this.1];exact this.2.2
  refine Ye (fun j=>((j:Int),up w j p)) rfl (n:=m) (by omega) (fun j hjm nx=>?_) (fun nx=>?_)
  ·obtain⟨a1,a2,a3⟩:=hj j hjm;obtain⟨k,e,hk⟩:=JU (hok j (by omega)) a1;unfold Zgy;dsimp only;rw [e,Zfp,Cq1,Yw (by omega),decide_eq_false (by omega),Cq0,Xi hk];have e2:inn w (k:Int)=inn w (up w j p):=by rw [e]
   have h1:=a3.1;have h2:=a3.2;simp only [Bq0];rw [e2,decide_eq_false (show ¬ inn w (up w j p) < -1 by omega),Bool.not_false,YN];simp only [Bq0];rw [decide_eq_false (show ¬ inn w (up w j p) >= (w.Zx.length:Int) by omega)];simp only [Bool.or_self,Cq0];rw [Qp,if_neg a1]
  ·by_cases hneg:up w m p < 0
   ·unfold Zgy;dsimp only;rw [decide_eq_false (by omega),Cq0,Yw (by omega),if_pos ⟨hr,m,hm,fun j hjm=>⟨(hj j hjm).1,(hj j hjm).2.2⟩,hneg⟩]
   ·have hnc:¬ Chn w p:=by
     rintro⟨_,n,h1,h2,h3⟩
     have hmn:m < n:=by
      rcases Nat.lt_or_ge m n with z | z
      ·exact z
      ·exact absurd (J5 h3 z) hneg
     rcases hs with z | z | z
     ·exact hneg z
     ·omega
     ·exact z (h2 m hmn).2
    rw [if_neg hnc];obtain⟨k,e,hk⟩:=JU (hok m (Nat.le_refl _)) hneg;unfold Zgy;dsimp only;rw [e,Zfp,Cq1,Yw (by omega)];by_cases hml:m=w.Zx.length
    ·rw [decide_eq_true (by omega)];rfl
    ·rw [decide_eq_false (by omega),Cq0,Xi hk]
     have hb:¬ okN w (inn w (k:Int)):=by
      rcases hs with z | z | z
      ·exact absurd z hneg
      ·exact absurd z hml
      ·rwa [e] at z
     simp only [Bq0];by_cases h1:inn w (k:Int) < -1
     ·rw [decide_eq_true h1];rfl
     ·rw [decide_eq_false h1,Bool.not_false,YN];simp only [Bq0]
      rw [decide_eq_true (show inn w (k:Int) >= (w.Zx.length:Int) by
       rcases Int.lt_or_le (inn w (k:Int)) (w.Zx.length:Int) with z | z
       ·exact absurd ⟨by omega,z⟩ hb
       ·exact z)]
      rfl
 ·rw [if_neg (fun q=>hr q.1)]
  have e:(decide (inn w p < (-1)) || decide (inn w p >= (w.Zx.length:Int)))=true:=by
   by_cases h1:inn w p < -1
   ·rw [decide_eq_true h1];rfl
   ·rw [decide_eq_true (show inn w p >= (w.Zx.length:Int) by
     rcases Int.lt_or_le (inn w p) (w.Zx.length:Int) with z | z
     ·exact absurd ⟨by omega,z⟩ hr
     ·exact z),Bool.or_true]
  rw [e];rfl
theorem Zr2 {F:Nat} (hF:1000 <=F) (w:Zb):∃ b,ZBF F w=some b∧(b=true↔Wp w∧Inn w):=by
 unfold ZBF;refine Jd (fun hc=>⟨false,rfl,?_⟩) (fun hc=>?_)
 ·simp only [Bool.false_eq_true,false_iff];rintro⟨s,_⟩;have:=s.m1;have:=s.m2;have:=s.p1;have:=s.p2;have:=s.bx;have:=s.hd;simp only [Bool.or_eq_true,decide_eq_true_eq,bne_iff_ne] at hc;omega
 ·simp only [Bool.or_eq_false_iff,decide_eq_false_iff_not,bne_eq_false_iff_eq] at hc;obtain⟨⟨⟨⟨⟨a1,a2⟩,a3⟩,a4⟩,a5⟩,a6⟩:=hc;refine JW false (loop F (Zgz F w) 0) (fun k=>(k:Int)) rfl (fun k=>(row w k).length ≠ w.Zx.length) (n:=w.qQ.length) (by omega) (fun k hk=>?_) (fun next=>?_) (fun k hk hc=>?_) (fun hall=>?_)
  ·have hx:ZL w.qQ (k:Int)=some (row w k):=YM [] hk;by_cases hl:(row w k).length=w.Zx.length
   ·refine .inr ⟨fun next=>?_,fun q=>q hl⟩;unfold ZjO;rw [ZG hk,Cq1,hx];simp only [Bq0];rw [hl,Qx,Cq0,Yw (by omega)]
   ·refine .inl ⟨fun next=>?_,hl⟩;unfold ZjO;rw [ZG hk,Cq1,hx];simp only [Bq0];rw [Jf,decide_eq_true (by omega)];rfl
  ·unfold ZjO;rw [ZQ];rfl
  ·simp only [Bool.false_eq_true,false_iff];rintro⟨s,_⟩;exact hc (s.len hk)
  ·have hrow:∀ l ∈ w.qQ,l.length=w.Zx.length:=fun l hl=>by
    obtain⟨k,hk,rfl⟩:=List.getElem_of_mem hl;have:=hall k hk;unfold row at this;rw [List.getD_eq_getElem?_getD,List.getElem?_eq_getElem hk] at this;exact Classical.byContradiction this
   have ZIR:Wp w:= ⟨by omega,by omega,by omega,by omega,by omega,by omega,hrow⟩
   refine JW false (some true) (fun k=>(k:Int)) rfl (fun k=>¬ Chn w k) (n:=w.Zx.length) (by omega) (fun k hk=>?_) (fun next=>?_) (fun k hk hc=>?_) (fun ZPs=>⟨true,rfl,?_⟩)
   ·by_cases hch:Chn w k
    ·refine .inr ⟨fun next=>?_,fun q=>q hch⟩;have:=ZkB hF (by omega) hk next;rw [if_pos hch] at this;unfold Zgz;rw [ZG hk,Cq1];exact this
    ·refine .inl ⟨fun next=>?_,hch⟩;have:=ZkB hF (by omega) hk next;rw [if_neg hch] at this;unfold Zgz;rw [ZG hk,Cq1];exact this
   ·unfold Zgz;rw [ZQ];rfl
   ·simp only [Bool.false_eq_true,false_iff];rintro⟨_,h⟩;exact hc (Zvo.2 h k hk)
   ·exact⟨fun _=>⟨ZIR,Zvo.1 fun p hp=>Classical.byContradiction (ZPs p hp)⟩,fun _=>rfl⟩
end Go.Proofs.YtbmbbcaaimehkaaGreat
end
section
namespace Go.Proofs.YtbmbbcaaimehkaaGreat
open Go.Lf
abbrev Zup:Zq:= ⟨0,0,0,0,0⟩
theorem Zac (x y:Zq):Xw x y=true↔x=y:=by
 unfold Xw;cases x;cases y;simp [Zq.mk.injEq]
theorem ZhL (x y:Zz):QA x y=true↔x=y:=by
 unfold QA;cases x;cases y;simp [Zz.mk.injEq]
theorem Zkr (x y:YA):ZfA x y=true↔x=y:=by
 unfold ZfA;cases x;cases y;simp [YA.mk.injEq]
def Pur (x:Zf):Prop:=
 (x.kind=1∧x.place=0∧x.at_=0∧x.age=0∧x.qV= []∧x.Yd= [])∨
 (x.kind=2∧x.place=0∧x.at_=0∧x.age=0∧x.ZV=Zup∧x.qV ≠ []∧x.qV.length=x.Yd.length)∨
 (x.kind=3∧x.ZV=Zup∧x.qV= []∧x.Yd= [])
theorem Zhz {α:Type} (l:List α):decide ((l.length:Int) > 0)=true↔l ≠ []:=by
 rw [decide_eq_true_eq]
 constructor
 ·rintro h rfl;simp at h
 ·intro h;have:=List.length_pos_iff.2 h;omega
theorem Zyn (x:Zf):∃ b,Zwz x=some b∧(b=true↔Pur x):=by
 unfold Zwz Pur
 have nl:∀ l:List Int,decide ((l.length:Int) > 0)=false↔l= []:=fun l=>by
  rw [Bool.eq_false_iff,Ne,Zhz];exact Classical.not_not
 refine Jd (fun hc=>⟨_,rfl,?_⟩) (fun hc=>Jd (fun hc2=>⟨_,rfl,?_⟩) (fun hc2=>Jd (fun hc3=>⟨_,rfl,?_⟩) (fun hc3=>⟨_,rfl,?_⟩)))
 ·have hk:x.kind=1:=by simpa using hc
  simp only [Ba0,Bool.not_eq_true',Bool.or_eq_false_iff,bne_eq_false_iff_eq,nl]
  constructor
  ·rintro⟨⟨⟨a,b⟩,c⟩,d,e⟩;exact .inl ⟨hk,a,b,c,d,e⟩
  ·rintro(⟨_,a,b,c,d,e⟩ | ⟨q,_⟩ | ⟨q,_⟩)
   ·exact⟨⟨⟨a,b⟩,c⟩,d,e⟩
   ·omega
   ·omega
 ·have hk:x.kind=2:=by simpa using hc2
  simp only [Ba0,Bool.not_eq_true',Bool.or_eq_false_iff,bne_eq_false_iff_eq,Bool.not_eq_false',Zac,Zhz,beq_iff_eq]
  constructor
  ·rintro⟨⟨⟨⟨⟨a,b⟩,c⟩,d⟩,e⟩,f⟩;exact .inr (.inl ⟨hk,a,b,c,d,e,by omega⟩)
  ·rintro(⟨q,_⟩ | ⟨_,a,b,c,d,e,f⟩ | ⟨q,_⟩)
   ·omega
   ·exact⟨⟨⟨⟨⟨a,b⟩,c⟩,d⟩,e⟩,by omega⟩
   ·omega
 ·have hk:x.kind=3:=by simpa using hc3
  simp only [Ba0,Bool.not_eq_true',Bool.or_eq_false_iff,Bool.not_eq_false',Zac,nl]
  constructor
  ·rintro⟨a,b,c⟩;exact .inr (.inr ⟨hk,a,b,c⟩)
  ·rintro(⟨q,_⟩ | ⟨q,_⟩ | ⟨_,a,b,c⟩)
   ·omega
   ·omega
   ·exact⟨a,b,c⟩
 ·simp only [Bool.false_eq_true,false_iff];have h1:x.kind ≠ 1:=by simpa using hc
  have h2:x.kind ≠ 2:=by simpa using hc2
  have h3:x.kind ≠ 3:=by simpa using hc3
  rintro(⟨q,_⟩ | ⟨q,_⟩ | ⟨q,_⟩)
  ·exact h1 q
  ·exact h2 q
  ·exact h3 q
def Zaj (w:Zb) (x:Zf) (i:Nat):Prop:=
 0 <=x.qV.getD i 0∧x.qV.getD i 0 < (w.Zx.length:Int)∧(0 < i ->x.qV.getD (i - 1) 0 < x.qV.getD i 0)∧1 <=x.Yd.getD i 0∧x.Yd.getD i 0 <=30
def Plc (w:Zb) (x:Zf):Prop:=∀ i,i < x.qV.length ->Zaj w x i
theorem ZpL (w:Zb) (x:Zf) {i:Nat} (hi:i < x.qV.length) (ha:i < x.Yd.length) (h9:x.qV.length < 900) {β:Type} (r:β) (next:Option β):
 ((ZL x.qV (i:Int)).bind fun x112=>(gd ((!((decide (x112 < 0)) || (decide (x112 >= (w.Zx.length:Int))))) && (decide ((i:Int) > 0))) (ZL x.qV (Y2 ((i:Int) - 1))) default).bind fun x115=>(gd (!(((decide (x112 < 0)) || (decide (x112 >= (w.Zx.length:Int)))) || ((decide ((i:Int) > 0)) && (decide (x112 <=x115))))) (ZL x.Yd (i:Int)) default).bind fun Zk7=>(gd (!((((decide (x112 < 0)) || (decide (x112 >= (w.Zx.length:Int)))) || ((decide ((i:Int) > 0)) && (decide (x112 <=x115)))) || (decide (Zk7 < 1)))) (ZL x.Yd (i:Int)) default).bind fun Zcl=>(bif(((((decide (x112 < 0)) || (decide (x112 >= (w.Zx.length:Int)))) || ((decide ((i:Int) > 0)) && (decide (x112 <=x115)))) || (decide (Zk7 < 1))) || (decide (Zcl > 30))) then some r else next))=open Classical in if Zaj w x i then next else some r:=by
 rw [YM 0 hi];simp only [Bq0]
 have key:∀ (c d e:Bool) (y y2:Int),ZL x.Yd (i:Int)=some (x.Yd.getD i 0) ->((gd (!(c || d)) (ZL x.Yd (i:Int)) default).bind fun Zk7=>(gd (!((c || d) || decide (Zk7 < 1))) (ZL x.Yd (i:Int)) default).bind fun Zcl=>(bif(((c || d) || (decide (Zk7 < 1))) || (decide (Zcl > 30))) then some r else next))=bif(c || d || decide (x.Yd.getD i 0 < 1) || decide (x.Yd.getD i 0 > 30)) then some r else next:=by
  intro c d e y y2 hg;rw [hg];cases h1:(c || d)
  ·simp only [Bool.not_false,YN,Bq0,Bool.false_or];cases h2:decide (x.Yd.getD i 0 < 1)
   ·simp only [Bool.not_false,YN,Bq0,Bool.false_or]
   ·simp only [Bool.not_true,XC,Bq0,Bool.true_or,Cq1]
  ·simp only [Bool.not_true,XC,Bq0,Bool.true_or,Cq1]
 by_cases hz:i=0
 ·subst hz;rw [show decide (((0:Nat):Int) > 0)=false from rfl];simp only [Bool.and_false,XC,Bq0,Bool.false_and];rw [key _ _ false 0 0 (YM 0 ha)];unfold Zaj;by_cases hp:0 <=x.qV.getD 0 0∧x.qV.getD 0 0 < (w.Zx.length:Int)∧(0 < 0 ->x.qV.getD (0 - 1) 0 < x.qV.getD 0 0)∧1 <=x.Yd.getD 0 0∧x.Yd.getD 0 0 <=30
  ·rw [if_pos hp];obtain⟨a,b,_,c,d⟩:=hp;rw [decide_eq_false (show ¬ x.qV.getD 0 0 < 0 by omega),decide_eq_false (show ¬ x.qV.getD 0 0 >= (w.Zx.length:Int) by omega),decide_eq_false (show ¬ x.Yd.getD 0 0 < 1 by omega),decide_eq_false (show ¬ x.Yd.getD 0 0 > 30 by omega)];rfl
  ·rw [if_neg hp]
   have:(decide (x.qV.getD 0 0 < 0) || decide (x.qV.getD 0 0 >= (w.Zx.length:Int)) || false || decide (x.Yd.getD 0 0 < 1) || decide (x.Yd.getD 0 0 > 30))=true:=by
    simp only [Bool.or_eq_true,decide_eq_true_eq,Bool.or_false];rcases Int.lt_or_le (x.qV.getD 0 0) 0 with z | z
    ·exact .inl (.inl (.inl z))
    ·rcases Int.lt_or_le (x.qV.getD 0 0) (w.Zx.length:Int) with z2 | z2
     ·rcases Int.lt_or_le (x.Yd.getD 0 0) 1 with z3 | z3
      ·exact .inl (.inr z3)
      ·rcases Int.lt_or_le 30 (x.Yd.getD 0 0) with z4 | z4
       ·exact .inr z4
       ·exact absurd ⟨z,z2,fun q=>absurd q (by omega),z3,z4⟩ hp
     ·exact .inl (.inl (.inr z2))
   rw [this];rfl
 ·have hi0:decide ((i:Int) > 0)=true:=decide_eq_true (by omega)
  have hg1:ZL x.qV (Y2 ((i:Int) - 1))=some (x.qV.getD (i - 1) 0):=by
   rw [ZxH (by omega) (by omega)];exact YM 0 (by omega)
  rw [hi0,hg1];simp only [Bool.and_true,Bool.true_and];have hgd:∀ c:Bool,gd (!c) (some (x.qV.getD (i - 1) 0)) (default:Int)=some (bif c then default else x.qV.getD (i - 1) 0):=fun c=>by cases c <;> rfl
  rw [hgd];simp only [Bq0];rw [key _ _ false 0 0 (YM 0 ha)];unfold Zaj;by_cases hp:0 <=x.qV.getD i 0∧x.qV.getD i 0 < (w.Zx.length:Int)∧(0 < i ->x.qV.getD (i - 1) 0 < x.qV.getD i 0)∧1 <=x.Yd.getD i 0∧x.Yd.getD i 0 <=30
  ·rw [if_pos hp];obtain⟨a,b,c0,c,d⟩:=hp;have c0:=c0 (by omega);rw [decide_eq_false (show ¬ x.qV.getD i 0 < 0 by omega),decide_eq_false (show ¬ x.qV.getD i 0 >= (w.Zx.length:Int) by omega),decide_eq_false (show ¬ x.Yd.getD i 0 < 1 by omega),decide_eq_false (show ¬ x.Yd.getD i 0 > 30 by omega)];simp only [Bool.or_self,Cq0,Bool.false_or];rw [decide_eq_false (show ¬ x.qV.getD i 0 <=x.qV.getD (i - 1) 0 by omega)];rfl
  ·rw [if_neg hp]
   have:(decide (x.qV.getD i 0 < 0) || decide (x.qV.getD i 0 >= (w.Zx.length:Int)) || decide (x.qV.getD i 0 <=bif decide (x.qV.getD i 0 < 0) || decide (x.qV.getD i 0 >= (w.Zx.length:Int)) then default else x.qV.getD (i - 1) 0) || decide (x.Yd.getD i 0 < 1) || decide (x.Yd.getD i 0 > 30))=true:=by
    rcases Int.lt_or_le (x.qV.getD i 0) 0 with z | z
    ·rw [decide_eq_true z];simp
    ·rcases Int.lt_or_le (x.qV.getD i 0) (w.Zx.length:Int) with z2 | z2
     ·rw [decide_eq_false (show ¬ x.qV.getD i 0 < 0 by omega),decide_eq_false (show ¬ x.qV.getD i 0 >= (w.Zx.length:Int) by omega)];simp only [Bool.or_self,Cq0,Bool.false_or,Bool.or_eq_true,decide_eq_true_eq];rcases Int.lt_or_le (x.qV.getD (i - 1) 0) (x.qV.getD i 0) with z5 | z5
      ·rcases Int.lt_or_le (x.Yd.getD i 0) 1 with z3 | z3
       ·exact .inl (.inr z3)
       ·rcases Int.lt_or_le 30 (x.Yd.getD i 0) with z4 | z4
        ·exact .inr z4
        ·exact absurd ⟨z,z2,fun _=>z5,z3,z4⟩ hp
      ·exact .inl (.inl z5)
     ·rw [decide_eq_true (show x.qV.getD i 0 >= (w.Zx.length:Int) by omega)];simp
   rw [this];rfl
def ZeI (w:Zb) (m p:Nat):Prop:=0 <= (E w m p).age∧(E w m p).age <=30∧0 <= (E w m p).ZX∧(E w m p).ZX < (w.qQ.length:Int)∧((E w m p).here=true↔(E w m p).ZX= (m:Int))
def ZSj (w:Zb) (x:Zf):Prop:=x.kind=3 ->0 <=x.place∧x.place < (w.Zx.length:Int)∧x.at_ ≠ x.ZX
structure ZkV (w:Zb) (x:Zf):Prop where
 to1:0 <=x.ZX
 to2:x.ZX < (w.qQ.length:Int)
 Xp:Pur x
 Uk:Plc w x
 ntd:ZSj w x
structure ShR (w:Zb):Prop where
 Kv:Wp w
 inn:Inn w
 sd1:0 <=w.said
 sd2:w.said <=40
 ent:∀ m,m < w.qQ.length ->∀ p,p < w.Zx.length ->ZeI w m p
 Xr:∀ x ∈ w.qG,ZkV w x
theorem Pur.len {x:Zf} (h:Pur x):x.Yd.length=x.qV.length:=by
 rcases h with⟨_,_,_,_,a,b⟩ | ⟨_,_,_,_,_,_,a⟩ | ⟨_,_,a,b⟩
 ·rw [a,b]
 ·omega
 ·rw [a,b]
theorem ZpT {F:Nat} {w:Zb} (hF:1000 <=F) (h8:w.Zx.length <=8) (hr:∀ p:Nat,p < w.Zx.length ->okN w (inn w p)) {p:Nat} (hp:p < w.Zx.length) (next:Int ->Option Bool):
 ((ZL w.Zx (p:Int)).bind fun x25=>loop F (Zkb w (p:Int) next) (x25,0))=open Classical in if(∃ j,j <=w.Zx.length∧up w (j + 1) p= (p:Int)) then some false else next ((p + 1:Nat):Int):=by
 rw [Xi hp];simp only [Bq0]
 have hok:∀ k,okN w (up w k p):=fun k=>by
  induction k with
  | zero=>exact⟨by show(-1:Int) <= (p:Int);omega,by show(p:Int) < _;omega⟩
  | succ k ih=>
    rw [Qp];by_cases h2:up w k p < 0
    ·rw [if_pos h2];exact ih
    ·rw [if_neg h2];obtain⟨j,e,hj⟩:=JU ih h2;rw [e];exact hr j hj
 have e0:(inn w p,(0:Int))= (up w (0 + 1) p,((0:Nat):Int)):=by
  rw [Qp];show _= (if((p:Int)) < 0 then _ else _,_);rw [if_neg (by omega)];rfl
 obtain⟨m,hm,hs,hlt⟩:=Qd (c:=fun k=>w.Zx.length < k∨up w (k + 1) p < 0∨up w (k + 1) p= (p:Int)) (n:=w.Zx.length + 1) (.inl (by omega))
 have hj:∀ j,j < m ->j <=w.Zx.length∧¬ up w (j + 1) p < 0∧up w (j + 1) p ≠ (p:Int):=fun j hj=>by
  have:=hlt j hj
  exact⟨by rcases Nat.lt_or_ge w.Zx.length j with z | z;· exact absurd (.inl z) this
           ·exact z,fun q=>this (.inr (.inl q)),fun q=>this (.inr (.inr q))⟩
 refine Ye (fun j=>(up w (j + 1) p,(j:Int))) e0.symm (n:=m) (by omega) (fun j hjm nx=>?_) (fun nx=>?_)
 ·obtain⟨a1,a2,a3⟩:=hj j hjm;obtain⟨k,e,hk⟩:=JU (hok (j + 1)) a2;unfold Zkb;dsimp only;rw [Qp w (j + 1),if_neg a2];rw [e] at a3 ⊢;rw [decide_eq_true (show(j:Int) <= (w.Zx.length:Int) by omega),Zfp,Bool.and_self,Cq1,Z6,decide_eq_false a3,Cq0,Xi hk];simp only [Bq0];rw [Yw (by omega)]
 ·unfold Zkb;dsimp only;by_cases h1:w.Zx.length < m
  ·rw [decide_eq_false (show ¬ (m:Int) <= (w.Zx.length:Int) by omega),Bool.false_and,Cq0,Yw (by omega),if_neg];rintro⟨j,q1,q2⟩;exact(hj j (by omega)).2.2 q2
  ·by_cases h2:up w (m + 1) p < 0
   ·rw [decide_eq_false (show ¬ up w (m + 1) p >=0 by omega),Bool.and_false,Cq0,Yw (by omega),if_neg];rintro⟨j,q1,q2⟩;rcases Nat.lt_or_ge j m with z | z
    ·exact(hj j z).2.2 q2
    ·have:=J5 h2 (show m + 1 <=j + 1 by omega);omega
   ·have h3:up w (m + 1) p= (p:Int):=by rcases hs with z | z | z <;> first | exact absurd z h1 | exact absurd z h2 | exact z
    rw [decide_eq_true (show(m:Int) <= (w.Zx.length:Int) by omega),h3,Zfp,Bool.and_self,Cq1,Z6,decide_eq_true rfl,Cq1,if_pos ⟨m,by omega,h3⟩]
theorem ZvU {F:Nat} (hF:1000 <=F) {w:Zb} (sm:UW 900 w):∃ b,ZBN F w=some b∧(b=true↔ShR w):=by
 unfold ZBN;refine Jd (fun hc=>⟨false,rfl,?_⟩) (fun hc=>?_)
 ·simp only [Bool.false_eq_true,false_iff];intro s;have:=s.Kv.m1;have:=s.Kv.m2;have:=s.Kv.p1;have:=s.Kv.p2;have:=s.Kv.bx;have:=s.Kv.hd;have:=s.sd1;have:=s.sd2;simp only [Bool.or_eq_true,decide_eq_true_eq,bne_iff_ne] at hc;omega
 simp only [Bool.or_eq_false_iff,decide_eq_false_iff_not,bne_eq_false_iff_eq] at hc;obtain⟨⟨⟨⟨⟨⟨⟨a1,a2⟩,a3⟩,a4⟩,a5⟩,a6⟩,a7⟩,a8⟩:=hc;refine JW false (loop F (ZgJ F w) 0) (fun k=>(k:Int)) rfl (fun k=>¬ okN w (inn w k)) (n:=w.Zx.length) (by omega) (fun k hk=>?_) (fun next=>?_) (fun k hk hc=>?_) (fun hr=>?_)
 ·by_cases ho:okN w (inn w k)
  ·refine .inr ⟨fun next=>?_,fun q=>q ho⟩;have h1:=ho.1;have h2:=ho.2;unfold Zkc;rw [ZG hk,Cq1,Xi hk];simp only [Bq0];rw [decide_eq_false (by omega),decide_eq_false (by omega),Bool.or_self,Cq0,Yw (by omega)]
  ·refine .inl ⟨fun next=>?_,ho⟩;unfold Zkc;rw [ZG hk,Cq1,Xi hk];simp only [Bq0];by_cases h1:inn w (k:Int) < -1
   ·rw [decide_eq_true h1];rfl
   ·rw [decide_eq_true (show inn w (k:Int) >= (w.Zx.length:Int) by
     rcases Int.lt_or_le (inn w (k:Int)) (w.Zx.length:Int) with z | z
     ·exact absurd ⟨by omega,z⟩ ho
     ·exact z),Bool.or_true];rfl
 ·unfold Zkc;rw [ZQ];rfl
 ·simp only [Bool.false_eq_true,false_iff];intro s;exact hc (s.inn.rng k hk)
 have hr:∀ p:Nat,p < w.Zx.length ->okN w (inn w p):=fun p hp=>Classical.byContradiction (hr p hp)
 refine JW false (loop F (Zet F w) 0) (fun k=>(k:Int)) rfl (fun p=>∃ j,j <=w.Zx.length∧up w (j + 1) p= (p:Int)) (n:=w.Zx.length) (by omega) (fun k hk=>?_) (fun next=>?_) (fun k hk hc=>?_) (fun hac=>?_)
 ·by_cases ho:∃ j,j <=w.Zx.length∧up w (j + 1) k= (k:Int)
  ·refine .inl ⟨fun next=>?_,ho⟩;have:=ZpT hF (by omega) hr hk next;rw [if_pos ho] at this;unfold ZgJ;rw [ZG hk,Cq1];exact this
  ·refine .inr ⟨fun next=>?_,ho⟩;have:=ZpT hF (by omega) hr hk next;rw [if_neg ho] at this;unfold ZgJ;rw [ZG hk,Cq1];exact this
 ·unfold ZgJ;rw [ZQ];rfl
 ·simp only [Bool.false_eq_true,false_iff];intro s;obtain⟨j,q1,q2⟩:=hc;exact(ZiB hr).1 s.inn.acy k hk j q1 q2
 have ZUH:Inn w:= ⟨hr,(ZiB hr).2 fun p hp j hj q=>hac p hp ⟨j,hj,q⟩⟩
 refine JW false (loop F (K8 F w) 0) (fun k=>(k:Int)) rfl (fun m=>¬ ((row w m).length=w.Zx.length∧∀ p,p < w.Zx.length ->ZeI w m p)) (n:=w.qQ.length) (by omega) (fun m hm=>?_) (fun next=>?_) (fun k hk hc=>?_) (fun hen=>?_)
 ·have hx:ZL w.qQ (m:Int)=some (row w m):=YM [] hm;by_cases hl:(row w m).length=w.Zx.length
  ·have hgp:∀ p,p < w.Zx.length ->ZL (row w m) (p:Int)=some (E w m p):=fun p hp=>YM default (by rw [hl];exact hp)
   have step:∀ next:Int ->Option Bool,∀ p,p < w.Zx.length ->∀ nx,ZgI w (m:Int) next (row w m) (p:Int) nx=open Classical in if ZeI w m p then nx ((p + 1:Nat):Int) else some false:=fun next p hp nx=>by
    unfold ZgI;rw [decide_eq_true (show(p:Int) < ((row w m).length:Int) by omega),Cq1,hgp p hp];simp only [Bq0];by_cases he:ZeI w m p
    ·obtain⟨e1,e2,e3,e4,e5⟩:=he
     have e6:((E w m p).here != ((E w m p).ZX== (m:Int)))=false:=by
      rw [bne_eq_false_iff_eq,Bool.eq_iff_iff,e5,beq_iff_eq]
     rw [if_pos ⟨e1,e2,e3,e4,e5⟩,decide_eq_false (by omega),decide_eq_false (by omega),decide_eq_false (by omega),decide_eq_false (by omega),e6];simp only [Bool.or_self,Cq0];rw [Yw (by omega)]
    ·rw [if_neg he]
     have:(decide ((E w m p).age < 0) || decide ((E w m p).age > 30) || decide ((E w m p).ZX < 0) || decide ((E w m p).ZX >= (w.qQ.length:Int)) || ((E w m p).here != ((E w m p).ZX== (m:Int))))=true:=by
      rw [← Bool.not_eq_false];intro hf;simp only [Bool.or_eq_false_iff,decide_eq_false_iff_not,bne_eq_false_iff_eq] at hf;obtain⟨⟨⟨⟨q1,q2⟩,q3⟩,q4⟩,q5⟩:=hf;exact he ⟨by omega,by omega,by omega,by omega,by rw [q5,beq_iff_eq]⟩
     rw [this];rfl
   have body:∀ next nx0,Zet F w (m:Int) next=loop F (ZgI w (m:Int) next (row w m)) nx0∨nx0 ≠ 0:=fun next nx0=>by
    by_cases h0:nx0=0
    ·subst h0;left;unfold Zet;rw [ZG hm,Cq1,hx];simp only [Bq0];rw [hl,Qx,Cq0]
    ·exact .inr h0
   by_cases hall:∀ p,p < w.Zx.length ->ZeI w m p
   ·refine .inr ⟨fun next=>?_,fun q=>q ⟨hl,hall⟩⟩;rw [(body next 0).resolve_right (fun q=>q rfl)];refine Ye (fun p=>(p:Int)) rfl (n:=w.Zx.length) (by omega) (fun p hp nx=>?_) (fun nx=>?_)
    ·rw [step next p hp nx,if_pos (hall p hp)]
    ·unfold ZgI;rw [decide_eq_false (by omega),Cq0,Yw (by omega)]
   ·refine .inl ⟨fun next=>?_,fun q=>hall q.2⟩;rw [(body next 0).resolve_right (fun q=>q rfl)];have hz:∃ p,p < w.Zx.length∧¬ ZeI w m p:=Classical.byContradiction fun q=>hall fun p hp=>Classical.byContradiction fun q2=>q ⟨p,hp,q2⟩
    obtain⟨p0,hp0⟩:=hz;obtain⟨p1,_,hp1,hlt⟩:=Qd (c:=fun p=>p < w.Zx.length∧¬ ZeI w m p) hp0;refine Ye (fun p=>(p:Int)) rfl (n:=p1) (by omega) (fun p hp nx=>?_) (fun nx=>?_)
    ·rw [step next p (by omega) nx,if_pos (Classical.byContradiction fun q=>hlt p hp ⟨by omega,q⟩)]
    ·rw [step next p1 hp1.1 nx,if_neg hp1.2]
  ·refine .inl ⟨fun next=>?_,fun q=>hl q.1⟩;unfold Zet;rw [ZG hm,Cq1,hx];simp only [Bq0];rw [Jf,decide_eq_true (by omega)];rfl
 ·unfold Zet;rw [ZQ];rfl
 ·simp only [Bool.false_eq_true,false_iff];intro s;exact hc ⟨s.Kv.len hk,s.ent k hk⟩
 have hen:∀ m,m < w.qQ.length ->(row w m).length=w.Zx.length∧∀ p,p < w.Zx.length ->ZeI w m p:=fun m hm=>Classical.byContradiction (hen m hm)
 have ZIR:Wp w:= ⟨by omega,by omega,by omega,by omega,by omega,by omega,fun l hl=>by
  obtain⟨k,hk,rfl⟩:=List.getElem_of_mem hl;have:= (hen k hk).1;unfold row at this
  rwa [List.getD_eq_getElem?_getD,List.getElem?_eq_getElem hk] at this⟩
 refine JW false (some true) (fun k=>(k:Int)) rfl (fun k=>∃ h:k < w.qG.length,¬ ZkV w w.qG[k]) (n:=w.qG.length) (by have:=sm.qG;omega) (fun k hk=>?_) (fun next=>?_) (fun k hk hc=>?_) (fun hlt=>⟨true,rfl,?_⟩)
 ·have hwl:=sm.qG;have hx:w.qG[k] ∈ w.qG:=List.getElem_mem hk;obtain⟨s1,s2⟩:=sm.Xr _ hx;generalize hX:w.qG[k]=x at *;have hgx:ZL w.qG (k:Int)=some x:=by rw [YW hk,hX]
  have bad:(∀ next,K8 F w (k:Int) next=some false)∧¬ ZkV w x∨(∀ next,K8 F w (k:Int) next=next ((k + 1:Nat):Int))∧ZkV w x:=by
   obtain⟨pb,hpb,hpi⟩:=Zyn x;by_cases ht:0 <=x.ZX∧x.ZX < (w.qQ.length:Int)
   ·have e1:(decide (x.ZX < 0) || decide (x.ZX >= (w.qQ.length:Int)))=false:=by
     rw [decide_eq_false (by omega),decide_eq_false (by omega)];rfl
    cases pb with
    | false=>
      have hnp:¬ Pur x:=fun q=>by have:=hpi.2 q;cases this
      refine .inl ⟨fun next=>?_,fun l=>hnp l.Xp⟩;unfold K8;rw [ZG hk,Cq1,hgx];simp only [Bq0];rw [e1,Bool.not_false,YN,hpb];rfl
    | true=>
      have hp:Pur x:=hpi.1 rfl;have hal:=hp.len
      have body:∀ next,K8 F w (k:Int) next=loop F (ZgH w (k:Int) next x) 0:=fun next=>by
       unfold K8;rw [ZG hk,Cq1,hgx];simp only [Bq0];rw [e1,Bool.not_false,YN,hpb];rfl
      have step:∀ (next:Int ->Option Bool) (i:Nat),i < x.qV.length ->∀ nx,ZgH w (k:Int) next x (i:Int) nx=open Classical in if Zaj w x i then nx ((i + 1:Nat):Int) else some false:=fun next i hi nx=>by
       have:=ZpL w x hi (by omega) s1 false (nx (Y2 ((i:Int) + 1)));unfold ZgH;rw [ZG hi,Cq1,this,Yw (by omega)]
      by_cases hpl:Plc w x
      ·have fin:∀ next,K8 F w (k:Int) next=bif((x.kind==3) && (((decide (x.place < 0)) || (decide (x.place >= (w.Zx.length:Int)))) || (x.at_==x.ZX))) then some false else next ((k + 1:Nat):Int):=fun next=>by
        rw [body];refine Ye (fun i=>(i:Int)) rfl (n:=x.qV.length) (by omega) (fun i hi nx=>?_) (fun nx=>?_)
        ·rw [step next i hi nx,if_pos (hpl i hi)]
        ·unfold ZgH;rw [ZQ,Cq0,Yw (by omega)]
       by_cases hn:ZSj w x
       ·refine .inr ⟨fun next=>?_,⟨ht.1,ht.2,hp,hpl,hn⟩⟩;rw [fin]
        have:((x.kind==3) && (((decide (x.place < 0)) || (decide (x.place >= (w.Zx.length:Int)))) || (x.at_==x.ZX)))=false:=by
         by_cases h3:x.kind=3
         ·obtain⟨q1,q2,q3⟩:=hn h3;rw [decide_eq_false (by omega),decide_eq_false (by omega),Z6 x.at_,decide_eq_false q3];simp
         ·rw [Z6,decide_eq_false h3];rfl
        rw [this];rfl
       ·refine .inl ⟨fun next=>?_,fun l=>hn l.ntd⟩;rw [fin]
        have:((x.kind==3) && (((decide (x.place < 0)) || (decide (x.place >= (w.Zx.length:Int)))) || (x.at_==x.ZX)))=true:=by
         rw [← Bool.not_eq_false];intro hf;apply hn;intro h3;simp only [Bool.and_eq_false_iff,Bool.or_eq_false_iff,decide_eq_false_iff_not,beq_eq_false_iff_ne] at hf;rcases hf with q | ⟨⟨q1,q2⟩,q3⟩
         ·exact absurd h3 q
         ·exact⟨by omega,by omega,q3⟩
        rw [this];rfl
      ·have hz:∃ i,i < x.qV.length∧¬ Zaj w x i:=Classical.byContradiction fun q=>hpl fun i hi=>Classical.byContradiction fun q2=>q ⟨i,hi,q2⟩
       obtain⟨i0,hi0⟩:=hz;obtain⟨i1,_,hi1,hlt⟩:=Qd (c:=fun i=>i < x.qV.length∧¬ Zaj w x i) hi0;refine .inl ⟨fun next=>?_,fun l=>hpl l.Uk⟩;rw [body];refine Ye (fun i=>(i:Int)) rfl (n:=i1) (by omega) (fun i hi nx=>?_) (fun nx=>?_)
       ·rw [step next i (by omega) nx,if_pos (Classical.byContradiction fun q=>hlt i hi ⟨by omega,q⟩)]
       ·rw [step next i1 hi1.1 nx,if_neg hi1.2]
   ·refine .inl ⟨fun next=>?_,fun l=>ht ⟨l.to1,l.to2⟩⟩
    have e1:(decide (x.ZX < 0) || decide (x.ZX >= (w.qQ.length:Int)))=true:=by
     rw [← Bool.not_eq_false];intro hf;simp only [Bool.or_eq_false_iff,decide_eq_false_iff_not] at hf;exact ht ⟨by omega,by omega⟩
    unfold K8;rw [ZG hk,Cq1,hgx];simp only [Bq0];rw [e1,Bool.not_true,XC];rfl
  rcases bad with⟨b1,b2⟩ | ⟨b1,b2⟩
  ·exact .inl ⟨b1,hk,by rwa [hX]⟩
  ·exact .inr ⟨b1,fun⟨_,q⟩=>by rw [hX] at q;exact q b2⟩
 ·unfold K8;rw [ZQ];rfl
 ·simp only [Bool.false_eq_true,false_iff];obtain⟨h,q⟩:=hc;intro s;exact q (s.Xr _ (List.getElem_mem h))
 ·refine⟨fun _=>⟨ZIR,ZUH,by omega,by omega,fun m hm=>(hen m hm).2,fun x hx=>?_⟩,fun _=>rfl⟩;obtain⟨k,hk,rfl⟩:=List.getElem_of_mem hx;exact Classical.byContradiction fun q=>hlt k hk ⟨hk,q⟩
def Zd1 (s:YA):XR:= ⟨s.machine,s.age,-1,true⟩
def Zpb (k:Nat) (s:YA):XR:= ⟨s.machine,s.age,(k:Int),false⟩
def ZP (w:Zb) (i:Nat):Zf:=w.qG.getD i default
def KN (w:Zb) (p k:Nat):List XR:= (List.range k).flatMap fun i=>(WH (ZP w i) p (ZP w i).qV.length).map (Zpb i)
def QX (w:Zb) (p:Nat):List XR:= (Xv w p w.qQ.length).map Zd1 ++ KN w p w.qG.length
def U1 (l:List XR):XR:=l.getLastD ⟨0,0,0,false⟩
theorem Zjl (l:List XR) (x:XR):U1 (l ++ [x])=x:=by unfold U1;simp
theorem ZiH (w:Zb) (p k:Nat):KN w p (k + 1)=KN w p k ++ (WH (ZP w k) p (ZP w k).qV.length).map (Zpb k):=by
 unfold KN;rw [List.range_succ,List.flatMap_append];simp
theorem ZlN {w:Zb} {n:Nat} (h:∀ x ∈ w.qG,x.qV.length <=n) (p:Nat):∀ k,k <=w.qG.length ->(KN w p k).length <=n * k
 | 0,_=>by simp [KN]
 | k + 1,hk=>by
   have:=ZlN h p k (by omega);have h1:=ZeQ (ZP w k) p (ZP w k).qV.length;have h2:=h (ZP w k) (YP (by omega));rw [ZiH,List.length_append,List.length_map,Nat.mul_succ];omega
def stR (l:List XR) (k:Nat):Int×Int×Int×Int×Int×Bool:= ((l.length:Int),(k:Int),(U1 l).at_,(U1 l).age,(U1 l).letter,(U1 l).is)
theorem Zwf (l:List XR):XR.mk (U1 l).at_ (U1 l).age (U1 l).letter (U1 l).is=U1 l:=rfl
theorem Zsw (w:Zb) (p k:Nat):∀ s ∈ Xv w p k,s.here=true:=fun s hs=>by
 unfold Xv at hs;obtain⟨m,_,hm⟩:=List.mem_filterMap.1 hs;by_cases h:(E w m p).here=true
 ·rw [if_pos h] at hm;cases hm;rfl
 ·rw [if_neg h] at hm;cases hm
theorem ZrN (x:Zf) (p j:Nat):∀ s ∈ WH x p j,s.here=false:=fun s hs=>by
 unfold WH at hs;obtain⟨m,_,hm⟩:=List.mem_filterMap.1 hs;by_cases h:x.qV.getD m 0= (p:Int)
 ·rw [if_pos h] at hm;cases hm;rfl
 ·rw [if_neg h] at hm;cases hm
theorem ZqA {F:Nat} (hF:1000 <=F) {w:Zb} (s:Wp w) (hv:∀ x ∈ w.qG,x.Yd.length=x.qV.length∧x.qV.length <=900) (hw:w.qG.length < 900) {p:Nat} (hp:p < w.Zx.length):
 ZgG F w (p:Int)=some (U1 (QX w p),decide ((QX w p).length=1)):=by
 have h0:=s.m2;have hh:=Zdz w p w.qQ.length
 have hlen:∀ k,k <=w.qG.length ->(KN w p k).length <=900 * 900:=fun k hk=>by
  have:=ZlN (fun x hx=>(hv x hx).2) p k hk;exact Nat.le_trans this (by apply Nat.mul_le_mul (Nat.le_refl _);omega)
 have h1:loop F (Zka F w (p:Int)) (stR ((Xv w p w.qQ.length).map Zd1) 0)=some (U1 (QX w p),decide ((QX w p).length=1)):=by
  refine Ye (fun k=>stR ((Xv w p w.qQ.length).map Zd1 ++ KN w p k) k) (by simp [KN]) (n:=w.qG.length) (by omega) (fun k hk next=>?_) (fun next=>?_)
  ·have hl:=hlen k (by omega);have hgx:ZL w.qG (k:Int)=some (ZP w k):=YM default hk;have hx:ZP w k ∈ w.qG:=YP hk;obtain⟨v1,v2⟩:=hv _ hx;rw [ZiH];generalize ZP w k=x at *;have hll:((Xv w p w.qQ.length).map Zd1 ++ KN w p k).length <=5 + 900 * 900:=by rw [List.length_append,List.length_map];omega
   rw [← List.append_assoc];generalize (Xv w p w.qQ.length).map Zd1 ++ KN w p k=l at hll ⊢;unfold Zka;dsimp only [stR];rw [ZG hk,Cq1,hgx];simp only [Bq0];refine Ye (fun j=>stR (l ++ (WH x p j).map (Zpb k)) j) (by simp [WH,stR]) (n:=x.qV.length) (by omega) (fun j hj ZyZ=>?_) (fun ZyZ=>?_)
   ·have hl2:=ZeQ x p j;rw [Zf3];unfold Zn4;dsimp only [stR];rw [ZG hj,Cq1,YM 0 hj];simp only [Bq0];rw [decide_eq_true (show(j:Int) < (x.Yd.length:Int) by omega),Bool.and_true,Z6,Zbe];unfold Zj8;dsimp only;by_cases hq:x.qV.getD j 0= (p:Int)
    ·rw [if_pos hq,if_pos hq,YM 0 (show j < x.Yd.length by omega)];simp only [Bq0];rw [Yw (by rw [List.length_append,List.length_map];omega),Yw (by omega),List.map_append,← List.append_assoc,List.map_cons,List.map_nil,Zjl];simp [Zpb,Int.add_assoc]
    ·rw [if_neg hq,if_neg hq,Yw (by omega),List.append_nil]
   ·unfold Zn4;dsimp only [stR];rw [ZQ,Cq0,Yw (by omega)]
  ·unfold Zka;dsimp only [stR];rw [ZQ,Cq0,Zwf,Z6];unfold QX;congr 2;by_cases h:((Xv w p w.qQ.length).map Zd1 ++ KN w p w.qG.length).length=1
   ·rw [decide_eq_true h,decide_eq_true (by omega)]
   ·rw [decide_eq_false h,decide_eq_false (by omega)]
 unfold ZgG;refine Ye (fun k=>stR ((Xv w p k).map Zd1) k) (by rfl) (n:=w.qQ.length) (by omega) (fun k hk next=>?_) (fun next=>?_)
 ·unfold Zn5;dsimp only [stR];rw [ZG hk,Cq1,s.row hk];simp only [Bq0];rw [s.ent hk hp];simp only [Bq0];have hl:=Zdz w p k;rw [JP];unfold Zj9;dsimp only;cases hE:(E w k p).here with
  | true=>
    simp only [Cq1,if_true];rw [Yw (by rw [List.length_map];omega),Yw (by omega),List.map_append,List.map_cons,List.map_nil,Zjl];simp [Zd1]
  | false=>
    simp only [Cq0];rw [Yw (by omega)];simp
 ·unfold Zn5;dsimp only [stR];rw [ZQ];exact h1
def toS (s:XR):YA:= ⟨s.at_,s.is,s.age⟩
theorem Zed {α β:Type} (l:List α) (d:α) (f:α ->List β):(List.range l.length).flatMap (fun i=>f (l.getD i d))=l.flatMap f:=by
 induction l with
 | nil=>rfl
 | cons x l ih=>
   rw [List.length_cons,List.range_succ_eq_map,List.flatMap_cons,List.flatMap_map,List.flatMap_cons];have:(fun a=>f ((x::l).getD a.succ d))=fun a=>f (l.getD a d):=by funext a;simp
   rw [this,ih];rfl
theorem Zuq {w:Zb} (hp:∀ x ∈ w.qG,x.kind=2∨x.qV= []) (p:Nat):(QX w p).map toS=Xa w p:=by
 unfold QX Xa KN Qj;rw [List.map_append,List.map_map,List.map_flatMap];congr 1
 ·have:∀ s ∈ Xv w p w.qQ.length,(toS ∘ Zd1) s=id s:=fun s hs=>by
   have:=Zsw w p _ s hs;cases s;simp only [Function.comp,Zd1,toS,id] at this ⊢;rw [this]
  rw [List.map_congr_left this,List.map_id]
 ·rw [← Zed w.qG default];unfold List.flatMap;congr 1;apply List.map_congr_left;intro i hi;have hx:w.qG.getD i default ∈ w.qG:=YP (List.mem_range.1 hi);rw [List.map_map];unfold ZP;generalize w.qG.getD i default=x at *
  have h1:∀ s ∈ WH x p x.qV.length,(toS ∘ Zpb i) s=id s:=fun s hs=>by
   have:=ZrN x p _ s hs;cases s;simp only [Function.comp,Zpb,toS,id] at this ⊢;rw [this]
  rw [List.map_congr_left h1,List.map_id];unfold Ka;rcases hp x hx with h | h
  ·rw [if_pos h]
  ·rw [h];by_cases hk:x.kind=2
   ·rw [if_pos hk]
   ·rw [if_neg hk];simp [WH]
theorem ZDR {w:Zb} (hp:∀ x ∈ w.qG,x.kind=2∨x.qV= []) (p:Nat):toS (U1 (QX w p))=Kl (Xa w p):=by
 rw [← Zuq hp];unfold U1 Kl;rcases List.eq_nil_or_concat (QX w p) with h | ⟨l,x,h⟩
 ·rw [h];rfl
 ·rw [h];simp
theorem len_eq {w:Zb} (hp:∀ x ∈ w.qG,x.kind=2∨x.qV= []) (p:Nat):(Xa w p).length= (QX w p).length:=by rw [← Zuq hp,List.length_map]
theorem Pur.two {x:Zf} (h:Pur x):x.kind=2∨x.qV= []:=by
 rcases h with⟨_,_,_,_,a,b⟩ | ⟨a,_⟩ | ⟨_,_,a,b⟩
 ·exact .inr a
 ·exact .inl a
 ·exact .inr a
theorem ShR.two {w:Zb} (h:ShR w):∀ x ∈ w.qG,x.kind=2∨x.qV= []:=fun x hx=>(h.Xr x hx).Xp.two
def MvX (w:Zb) (x:Zf):Prop:=x.kind=1∨x.kind=3∨(x.kind=2∧x.qV ≠ []∧x.Yd.length=x.qV.length∧Plc w x)
theorem Zsd {F:Nat} (hF:1000 <=F) {w:Zb} (sm:UW 900 w):∃ b,ZwD F w=some b∧(b=true↔∀ x ∈ w.qG,MvX w x):=by
 unfold ZwD;refine JW false (some true) (fun k=>(k:Int)) rfl (fun k=>∃ h:k < w.qG.length,¬ MvX w w.qG[k]) (n:=w.qG.length) (by have:=sm.qG;omega) (fun k hk=>?_) (fun next=>?_) (fun k hk hc=>?_) (fun hlt=>⟨true,rfl,?_⟩)
 ·have hwl:=sm.qG;have hx:w.qG[k] ∈ w.qG:=List.getElem_mem hk;obtain⟨s1,s2⟩:=sm.Xr _ hx;generalize hX:w.qG[k]=x at *;have hgx:ZL w.qG (k:Int)=some x:=by rw [YW hk,hX]
  have bad:(∀ next,ZaN F w (k:Int) next=some false)∧¬ MvX w x∨(∀ next,ZaN F w (k:Int) next=next ((k + 1:Nat):Int))∧MvX w x:=by
   by_cases h1:x.kind=1
   ·refine .inr ⟨fun next=>?_,.inl h1⟩;unfold ZaN;rw [ZG hk,Cq1,hgx];simp only [Bq0];rw [h1];show ZbJ (k:Int) next ()=_;unfold ZbJ;rw [Yw (by omega)]
   ·have b0:∀ next,ZaN F w (k:Int) next=Zeo F w (k:Int) next x (x.kind==3):=fun next=>by
     unfold ZaN;rw [ZG hk,Cq1,hgx];simp only [Bq0];rw [Z6 x.kind 1,decide_eq_false h1];rfl
    by_cases h3:x.kind=3
    ·refine .inr ⟨fun next=>?_,.inr (.inl h3)⟩;rw [b0,h3];show ZbJ (k:Int) next ()=_;unfold ZbJ;rw [Yw (by omega)]
    ·by_cases h2:x.kind=2
     ·have b1:∀ next,ZaN F w (k:Int) next=bif((decide ((x.qV.length:Int) < 1)) || ((x.Yd.length:Int) != (x.qV.length:Int))) then some false else loop F (Zep w (k:Int) next x) 0:=fun next=>by
       rw [b0];unfold Zeo;rw [Z6 x.kind 3,decide_eq_false h3,Cq0,h2];rfl
      by_cases hl:x.qV ≠ []∧x.Yd.length=x.qV.length
      ·have hpos:=List.length_pos_iff.2 hl.1
       have b2:∀ next,ZaN F w (k:Int) next=loop F (Zep w (k:Int) next x) 0:=fun next=>by
        rw [b1,decide_eq_false (by omega),Jf,decide_eq_false (by omega)];rfl
       have step:∀ (next:Int ->Option Bool) (i:Nat),i < x.qV.length ->∀ nx,Zep w (k:Int) next x (i:Int) nx=open Classical in if Zaj w x i then nx ((i + 1:Nat):Int) else some false:=fun next i hi nx=>by
        have:=ZpL w x hi (by omega) s1 false (nx (Y2 ((i:Int) + 1)));unfold Zep;rw [ZG hi,Cq1,this,Yw (by omega)]
       by_cases hpl:Plc w x
       ·refine .inr ⟨fun next=>?_,.inr (.inr ⟨h2,hl.1,hl.2,hpl⟩)⟩;rw [b2];refine Ye (fun i=>(i:Int)) rfl (n:=x.qV.length) (by omega) (fun i hi nx=>?_) (fun nx=>?_)
        ·rw [step next i hi nx,if_pos (hpl i hi)]
        ·unfold Zep;rw [ZQ,Cq0];unfold ZbJ;rw [Yw (by omega)]
       ·have hz:∃ i,i < x.qV.length∧¬ Zaj w x i:=Classical.byContradiction fun q=>hpl fun i hi=>Classical.byContradiction fun q2=>q ⟨i,hi,q2⟩
        obtain⟨i0,hi0⟩:=hz;obtain⟨i1,_,hi1,hlt⟩:=Qd (c:=fun i=>i < x.qV.length∧¬ Zaj w x i) hi0;refine .inl ⟨fun next=>?_,fun l=>?_⟩
        ·rw [b2];refine Ye (fun i=>(i:Int)) rfl (n:=i1) (by omega) (fun i hi nx=>?_) (fun nx=>?_)
         ·rw [step next i (by omega) nx,if_pos (Classical.byContradiction fun q=>hlt i hi ⟨by omega,q⟩)]
         ·rw [step next i1 hi1.1 nx,if_neg hi1.2]
        ·rcases l with q | q | ⟨_,_,_,q⟩
         ·exact h1 q
         ·exact h3 q
         ·exact hpl q
      ·refine .inl ⟨fun next=>?_,fun l=>?_⟩
       ·rw [b1]
        have:((decide ((x.qV.length:Int) < 1)) || ((x.Yd.length:Int) != (x.qV.length:Int)))=true:=by
         rw [← Bool.not_eq_false];intro hf;simp only [Bool.or_eq_false_iff,decide_eq_false_iff_not,bne_eq_false_iff_eq] at hf;exact hl ⟨List.length_pos_iff.1 (by omega),by omega⟩
        rw [this];rfl
       ·rcases l with q | q | ⟨_,q1,q2,_⟩
        ·exact h1 q
        ·exact h3 q
        ·exact hl ⟨q1,q2⟩
     ·refine .inl ⟨fun next=>?_,fun l=>?_⟩
      ·rw [b0];unfold Zeo;rw [Z6 x.kind 3,decide_eq_false h3,Cq0,Z6 x.kind 2,decide_eq_false h2];rfl
      ·rcases l with q | q | ⟨q,_⟩
       ·exact h1 q
       ·exact h3 q
       ·exact h2 q
  rcases bad with⟨b1,b2⟩ | ⟨b1,b2⟩
  ·exact .inl ⟨b1,hk,by rwa [hX]⟩
  ·exact .inr ⟨b1,fun⟨_,q⟩=>by rw [hX] at q;exact q b2⟩
 ·unfold ZaN;rw [ZQ];rfl
 ·simp only [Bool.false_eq_true,false_iff];obtain⟨h,q⟩:=hc;intro s;exact q (s _ (List.getElem_mem h))
 ·refine⟨fun _ x hx=>?_,fun _=>rfl⟩;obtain⟨k,hk,rfl⟩:=List.getElem_of_mem hx;exact Classical.byContradiction fun q=>hlt k hk ⟨hk,q⟩
end Go.Proofs.YtbmbbcaaimehkaaGreat
end
section
namespace Go.Proofs.YtbmbbcaaimehkaaGreat
open Go.Lf
section
variable {β γ:Type} {R:β ->Prop}
theorem Zko {body:γ ->(γ ->Option β) ->Option β} (r1:Nat ->β) (r2:Option β) {s0:γ} (S:Nat ->γ) (h0:S 0=s0) (c:Nat ->Prop) {n F:Nat} (hF:n < F)
 (hb:∀ k,k < n ->((∀ next,body (S k) next=some (r1 k))∧c k)∨((∀ next,body (S k) next=next (S (k + 1)))∧¬ c k)) (he:∀ next,body (S n) next=r2)
 (h1:∀ k,k < n ->c k ->R (r1 k)) (h2:(∀ k,k < n ->¬ c k) ->∃ b,r2=some b∧R b):∃ b,loop F body s0=some b∧R b:=by
 by_cases hz:∃ k,k < n∧c k
 ·obtain⟨k0,hk0⟩:=hz;obtain⟨m,hm,⟨hmn,hcm⟩,hlt⟩:=Qd (c:=fun k=>k < n∧c k) hk0;refine⟨r1 m,Ye S h0 (n:=m) (by omega) (fun k hk=>?_) ?_,h1 m hmn hcm⟩
  ·rcases hb k (by omega) with⟨_,q⟩ | ⟨q,_⟩
   ·exact absurd ⟨by omega,q⟩ (hlt k hk)
   ·exact q
  ·rcases hb m hmn with⟨q,_⟩ | ⟨_,q⟩
   ·exact q
   ·exact absurd hcm q
 ·have hno:∀ k,k < n ->¬ c k:=fun k hk q=>hz ⟨k,hk,q⟩
  obtain⟨b,e,hR⟩:=h2 hno;refine⟨b,?_,hR⟩;rw [← e];exact Ye S h0 hF (fun k hk=>(hb k hk).elim (fun q=>absurd q.2 (hno k hk)) fun q=>q.1) he
end
theorem ZaP {F:Nat} (hF:1000 <=F) {l:List Int} (hl:l.length <=900) (x:Int):∃ b,ZqE F l x=some b∧(b=true↔x ∈ l):=by
 have:∃ k,ZBt F l x=some k∧(0 <=k↔x ∈ l):=by
  unfold ZBt;refine Zko (fun k=>(k:Int)) (some (-1)) (fun k=>(k:Int)) rfl (fun k=>∃ h:k < l.length,x=l[k]) (n:=l.length) (by omega) (fun k hk=>?_) (fun next=>?_) (fun k hk hc=>?_) (fun hno=>⟨-1,rfl,?_⟩)
  ·by_cases h:x=l[k]
   ·refine .inl ⟨fun next=>?_,hk,h⟩;unfold ZjE;rw [ZG hk,Cq1,YW hk];simp only [Bq0];rw [Z6,decide_eq_true h];rfl
   ·refine .inr ⟨fun next=>?_,fun⟨_,q⟩=>h q⟩;unfold ZjE;rw [ZG hk,Cq1,YW hk];simp only [Bq0];rw [Z6,decide_eq_false h,Cq0,Yw (by omega)]
  ·unfold ZjE;rw [ZQ];rfl
  ·obtain⟨h,e⟩:=hc;exact⟨fun _=>e ▸ List.getElem_mem h,fun _=>by omega⟩
  ·refine⟨fun q=>absurd q (by omega),fun q=>?_⟩;obtain⟨k,hk,e⟩:=List.getElem_of_mem q;exact absurd ⟨hk,e.symm⟩ (hno k hk)
 obtain⟨k,h1,h2⟩:=this;refine⟨decide (k >=0),?_,?_⟩
 ·unfold ZqE;rw [h1];rfl
 ·rw [decide_eq_true_eq];exact h2
def ZkU (w:Zb) (p q:Int):Prop:=∃ x ∈ w.qG,x.kind=2∧p ∈ x.qV∧q ∈ x.qV
theorem ZvY {F:Nat} (hF:1000 <=F) {w:Zb} (sm:UW 900 w) (l:List YA) (p q:Int):∃ b,ZsY F ⟨w,l⟩ p q=some b∧(b=true↔ZkU w p q):=by
 unfold ZsY;have hwl:=sm.qG;refine Zko (fun _=>true) (some false) (fun k=>(k:Int)) rfl (fun k=>∃ h:k < w.qG.length,(w.qG[k]).kind=2∧p ∈ (w.qG[k]).qV∧q ∈ (w.qG[k]).qV) (n:=w.qG.length) (by omega) (fun k hk=>?_) (fun next=>?_) (fun k hk hc=>?_) (fun hno=>⟨false,rfl,?_⟩)
 ·have hx:w.qG[k] ∈ w.qG:=List.getElem_mem hk;obtain⟨s1,s2⟩:=sm.Xr _ hx;obtain⟨b1,e1,i1⟩:=ZaP (F:=F) hF (l:=w.qG[k].qV) (by omega) p;obtain⟨b2,e2,i2⟩:=ZaP (F:=F) hF (l:=w.qG[k].qV) (by omega) q
  have hb:∀ next,ZjG F ⟨w,l⟩ p q (k:Int) next=bif(((w.qG[k].kind==2) && b1) && b2) then some true else next ((k + 1:Nat):Int):=fun next=>by
   unfold ZjG;rw [ZG hk,Cq1,YW hk];simp only [Bq0];rw [e1,e2];cases h2:(w.qG[k].kind==2)
   ·simp only [XC,Bq0,Bool.false_and,Cq0];rw [Yw (by omega)]
   ·simp only [YN,Bq0,Bool.true_and];cases b1
    ·simp only [XC,Bq0,Bool.false_and,Cq0];rw [Yw (by omega)]
    ·simp only [YN,Bq0,Bool.true_and];cases b2
     ·simp only [Cq0];rw [Yw (by omega)]
     ·simp only [Cq1];unfold ZjF;rw [Zfp]
  by_cases hc:w.qG[k].kind=2∧p ∈ w.qG[k].qV∧q ∈ w.qG[k].qV
  ·refine .inl ⟨fun next=>?_,hk,hc⟩;rw [hb,Z6,decide_eq_true hc.1,i1.2 hc.2.1,i2.2 hc.2.2];rfl
  ·refine .inr ⟨fun next=>?_,fun⟨_,z⟩=>hc z⟩;rw [hb]
   have:(((w.qG[k].kind==2) && b1) && b2)=false:=by
    rw [← Bool.not_eq_true];intro z;simp only [Ba0,beq_iff_eq] at z;exact hc ⟨z.1.1,i1.1 z.1.2,i2.1 z.2⟩
   rw [this];rfl
 ·unfold ZjG;rw [ZQ];rfl
 ·obtain⟨h,z⟩:=hc;exact⟨fun _=>⟨_,List.getElem_mem h,z⟩,fun _=>rfl⟩
 ·simp only [Bool.false_eq_true,false_iff];rintro⟨x,hx,z⟩;obtain⟨k,hk,rfl⟩:=List.getElem_of_mem hx;exact hno k hk ⟨hk,z⟩
def sp (w:Zb) (p:Nat):YA:=Kl (Xa w p)
def spL (w:Zb):List YA:= (List.range w.Zx.length).map (sp w)
def ZL6 (w:Zb) (p:Nat):Prop:= (Xa w p).length=1∧(0 <=inn w p ->(sp w (inn w p).toNat).machine= (sp w p).machine∧(sp w (inn w p).toNat).here= (sp w p).here∧((sp w p).here=false ->ZkU w p (inn w p)))
def spK (w:Zb) (k:Nat):List YA:= (List.range k).map (sp w) ++ List.replicate (w.Zx.length - k) ⟨0,false,0⟩
theorem ZtY {w:Zb} {k:Nat} (h:k < w.Zx.length):Yl (spK w k) (k:Int) (sp w k)=spK w (k + 1):=by
 unfold Yl spK;rw [Int.toNat_natCast,List.set_append_right _ _ (by simp),List.range_succ,List.map_append,List.append_assoc];congr 1;rw [List.length_map,List.length_range,Nat.sub_self,show w.Zx.length - k= (w.Zx.length - (k + 1)) + 1 by omega,List.replicate_succ,List.set_cons_zero];rfl
theorem ZDt {w:Zb} {k:Nat} (h:k <=w.Zx.length):(spK w k).length=w.Zx.length:=by simp [spK];omega
theorem ZDu (w:Zb):spK w w.Zx.length=spL w:=by simp [spK,spL]
theorem MvX.mvd {w:Zb} (sm:UW 900 w) (h:∀ x ∈ w.qG,MvX w x):Mvd 900 w.qG:=fun x hx hk=>by
 rcases h x hx with q | q | ⟨_,_,q,_⟩
 ·omega
 ·omega
 ·exact⟨q,by have:= (sm.Xr x hx).1;omega⟩
theorem Zla {F:Nat} (hF:1000 <=F) (hM:F <=1000000) {w:Zb} (s:Wp w) (hi:Inn w) (sm:UW 900 w) (hv:Mvd 900 w.qG):
 ∃ x,ZBE F ⟨w,List.replicate w.Zx.length ⟨0,false,0⟩⟩=some x∧((x.2=true↔∀ p,p < w.Zx.length ->ZL6 w p)∧(x.2=true ->x.1= ⟨w,spL w⟩)):=by
 have h8:=s.p2;have hwh:∀ p,p < w.Zx.length ->Zeq F w (p:Int)=some (sp w p,((Xa w p).length:Int)):=fun p hp=>ZiG hF hM s hv sm.qG hp
 unfold ZBE
 let l1:Nat ->List YA:=fun k=>if(Xa w k).length=1 then spK w (k + 1) else spK w k
 refine Zko (fun k=>(⟨w,l1 k⟩,false)) (some (⟨w,spL w⟩,true)) (fun k=>((k:Int),spK w k)) (by simp [spK]) (fun k=>¬ ZL6 w k) (n:=w.Zx.length) (by omega) (fun k hk=>?_) (fun next=>?_) (fun k hk hc=>?_) (fun hno=>⟨_,rfl,?_⟩)
 ·have hok:=hi.rng k hk
  have b0:∀ next,Zgx F ⟨w,List.replicate w.Zx.length ⟨0,false,0⟩⟩ ((k:Int),spK w k) next= (bif(((Xa w k).length:Int) !=1) then some (⟨w,spK w k⟩,false) else(bif decide (inn w k < 0) then Zc2 (k:Int) next (Yl (spK w k) (k:Int) (sp w k)) else(Zeq F w (inn w k)).bind fun x37=>(gd ((!((x37.1.machine != (sp w k).machine) || (x37.1.here != (sp w k).here))) && (!(sp w k).here)) (ZsY F ⟨w,Yl (spK w k) (k:Int) (sp w k)⟩ (k:Int) (inn w k)) default).bind fun x44=>(bif(((x37.1.machine != (sp w k).machine) || (x37.1.here != (sp w k).here)) || ((!(sp w k).here) && (!x44))) then some (⟨w,Yl (spK w k) (k:Int) (sp w k)⟩,false) else Zc2 (k:Int) next (Yl (spK w k) (k:Int) (sp w k))))):=fun next=>by
   unfold Zgx;dsimp only;rw [ZG hk,Cq1,Xi hk];simp only [Bq0];rw [hwh k hk];simp only [Bq0];rw [YM ⟨0,false,0⟩ (show k < (spK w k).length by rw [ZDt (by omega)];exact hk)];simp only [Bq0]
  by_cases h1:(Xa w k).length=1
  ·have e1:(((Xa w k).length:Int) !=1)=false:=by rw [h1];rfl
   have hl1:l1 k=spK w (k + 1):=if_pos h1;have jn:∀ next,Zc2 (k:Int) next (spK w (k + 1))=next (((k + 1:Nat):Int),spK w (k + 1)):=fun next=>by unfold Zc2;rw [Yw (by omega)]
   by_cases h2:inn w k < 0
   ·refine .inr ⟨fun next=>?_,fun q=>q ⟨h1,fun z=>by omega⟩⟩;rw [b0,e1,Cq0,decide_eq_true h2,Cq1,ZtY hk,jn]
   ·obtain⟨q,eq,hq⟩:=JU hok h2;obtain⟨b,hb,hbi⟩:=ZvY hF sm (spK w (k + 1)) (k:Int) (inn w k)
    have b1:∀ next,Zgx F ⟨w,List.replicate w.Zx.length ⟨0,false,0⟩⟩ ((k:Int),spK w k) next=bif((((sp w q).machine != (sp w k).machine) || ((sp w q).here != (sp w k).here)) || ((!(sp w k).here) && (!(bif((!(((sp w q).machine != (sp w k).machine) || ((sp w q).here != (sp w k).here))) && (!(sp w k).here)) then b else default)))) then some (⟨w,spK w (k + 1)⟩,false) else next (((k + 1:Nat):Int),spK w (k + 1)):=fun next=>by
     rw [b0,e1,Cq0,decide_eq_false h2,Cq0,ZtY hk,hb,eq,hwh q hq];simp only [Bq0];have hgd:∀ c:Bool,gd c (some b) (default:Bool)=some (bif c then b else default):=fun c=>by cases c <;> rfl
     rw [hgd];simp only [Bq0];rw [jn]
    have eqn:(inn w k).toNat=q:=by omega
    by_cases ht:(sp w q).machine= (sp w k).machine∧(sp w q).here= (sp w k).here∧((sp w k).here=false ->ZkU w k (inn w k))
    ·refine .inr ⟨fun next=>?_,fun z=>z ⟨h1,fun _=>by rw [eqn];exact ht⟩⟩;rw [b1,ht.1,ht.2.1];simp only [Qx,Bool.or_self,Bool.not_false,Bool.true_and,Bool.false_or];cases hh:(sp w k).here with
     | true=>rfl
     | false=>
       rw [hbi.2 (ht.2.2 hh)];rfl
    ·refine .inl ⟨fun next=>?_,fun z=>ht (by have:=z.2 (by omega);rwa [eqn] at this)⟩;rw [b1,hl1]
     have:((((sp w q).machine != (sp w k).machine) || ((sp w q).here != (sp w k).here)) || ((!(sp w k).here) && (!(bif((!(((sp w q).machine != (sp w k).machine) || ((sp w q).here != (sp w k).here))) && (!(sp w k).here)) then b else default))))=true:=by
      rw [← Bool.not_eq_false];intro hf;rw [Bool.or_eq_false_iff] at hf;obtain⟨hf1,hf2⟩:=hf;rw [hf1] at hf2;rw [Bool.or_eq_false_iff,bne_eq_false_iff_eq,bne_eq_false_iff_eq] at hf1;refine ht ⟨hf1.1,hf1.2,fun hh=>?_⟩;rw [hh] at hf2;simp only [Bool.not_false,Bool.and_self,Cq1,Bool.true_and,Bool.not_eq_false'] at hf2;exact hbi.1 hf2
     rw [this];rfl
  ·refine .inl ⟨fun next=>?_,fun z=>h1 z.1⟩;have hl1:l1 k=spK w k:=if_neg h1;rw [b0,hl1,Jf,decide_eq_true (by omega)];rfl
 ·unfold Zgx;dsimp only;rw [ZQ,Cq0,ZDu]
 ·refine⟨?_,fun q=>by cases q⟩;simp only [Bool.false_eq_true,false_iff];intro z;exact hc (z k hk)
 ·exact⟨⟨fun _ p hp=>Classical.byContradiction (hno p hp),fun _=>rfl⟩,fun _=>rfl⟩
def RtX (w:Zb) (p:Nat) (m a:Int):Prop:=0 <=a∧a <= (sp w p).age∧0 <=m∧m < (w.qQ.length:Int)∧(a= (sp w p).age ->m= (sp w p).machine)∧(a ≠ (sp w p).age ->a < (E w m.toNat p).age)
instance (w:Zb) (p:Nat) (m a:Int):Decidable (RtX w p m a):=by unfold RtX;infer_instance
theorem ZtX {w:Zb} {p:Nat} (hp:p < w.Zx.length):ZL (spL w) (p:Int)=some (sp w p):=by
 rw [YM default (by simp [spL];exact hp)];simp [spL,hp]
theorem Zec {w:Zb} (s:Wp w) {p:Nat} (hp:p < w.Zx.length) (m a:Int):ZnN ⟨w,spL w⟩ (p:Int) m a=some (decide (RtX w p m a)):=by
 unfold ZnN;rw [ZtX hp];simp only [Bq0];unfold ZnM;dsimp only;by_cases h1:0 <=a∧a <= (sp w p).age
 ·rw [decide_eq_false (show ¬ a < 0 by omega),decide_eq_false (show ¬ a > (sp w p).age by omega)];simp only [Bool.or_self,Bool.not_false,YN,Bq0,Bool.false_or];by_cases h2:0 <=m∧m < (w.qQ.length:Int)
  ·rw [decide_eq_true h2.1,decide_eq_true h2.2];simp only [Bool.and_self,Bool.not_true,Cq0];by_cases h3:a= (sp w p).age
   ·rw [Z6,decide_eq_true h3,Cq1,Z6];congr 1;by_cases h4:m= (sp w p).machine
    ·rw [decide_eq_true h4,decide_eq_true (show RtX w p m a from⟨h1.1,h1.2,h2.1,h2.2,fun _=>h4,fun q=>absurd h3 q⟩)]
    ·rw [decide_eq_false h4,decide_eq_false (fun q:RtX w p m a=>h4 (q.2.2.2.2.1 h3))]
   ·obtain⟨k,rfl⟩:∃ k:Nat,m= (k:Int):= ⟨m.toNat,by omega⟩
    rw [Z6,decide_eq_false h3,Cq0,s.row (by omega)];simp only [Bq0];rw [s.ent (by omega) hp];simp only [Bq0];congr 1;by_cases h4:(E w k p).age > a
    ·rw [decide_eq_true h4,decide_eq_true (show RtX w p (k:Int) a from⟨h1.1,h1.2,h2.1,h2.2,fun q=>absurd q h3,fun _=>h4⟩)]
    ·rw [decide_eq_false h4,decide_eq_false (fun q:RtX w p (k:Int) a=>h4 (q.2.2.2.2.2 h3))]
  ·have:(decide (m >=0) && decide (m < (w.qQ.length:Int)))=false:=by
    rw [← Bool.not_eq_true];intro z;simp only [Ba0,decide_eq_true_eq] at z;exact h2 z
   rw [this,decide_eq_false (fun q:RtX w p m a=>h2 ⟨q.2.2.1,q.2.2.2.1⟩)];rfl
 ·have:(decide (a < 0) || decide (a > (sp w p).age))=true:=by
   rw [← Bool.not_eq_false];intro z;simp only [Bool.or_eq_false_iff,decide_eq_false_iff_not] at z;exact h1 ⟨by omega,by omega⟩
  rw [this,decide_eq_false (fun q:RtX w p m a=>h1 ⟨q.1,q.2.1⟩)];rfl
end Go.Proofs.YtbmbbcaaimehkaaGreat
end
section
namespace Go.Proofs.YtbmbbcaaimehkaaGreat
open Go.Lf
def ZtQ (w:Zb) (m p:Nat):Prop:=
 (E w m p= ⟨true,(m:Int),(E w m p).age⟩∧0 <= (E w m p).age∧(E w m p).age <=30)∨
 (E w m p ≠ ⟨true,(m:Int),(E w m p).age⟩∧(E w m p).here=false∧(E w m p).ZX ≠ (m:Int)∧RtX w p (E w m p).ZX (E w m p).age)
theorem Zou {F:Nat} (hF:1000 <=F) {w:Zb} (s:Wp w):∃ b,ZwC F ⟨w,spL w⟩=some b∧(b=true↔∀ m,m < w.qQ.length ->∀ p,p < w.Zx.length ->ZtQ w m p):=by
 have h5:=s.m2;have h8:=s.p2;unfold ZwC;refine JW false (some true) (fun k=>(k:Int)) rfl (fun m=>¬ ∀ p,p < w.Zx.length ->ZtQ w m p) (n:=w.qQ.length) (by omega) (fun m hm=>?_) (fun next=>?_) (fun k hk hc=>?_) (fun hno=>⟨true,rfl,fun _ m hm=>Classical.byContradiction (hno m hm),fun _=>rfl⟩)
 ·have b0:∀ next,ZjN F ⟨w,spL w⟩ (m:Int) next=loop F (Zgw ⟨w,spL w⟩ (m:Int) next (row w m)) 0:=fun next=>by
   unfold ZjN;rw [ZG hm,Cq1,s.row hm];rfl
  have step:∀ (next:Int ->Option Bool) (p:Nat),p < w.Zx.length ->∀ nx,Zgw ⟨w,spL w⟩ (m:Int) next (row w m) (p:Int) nx=open Classical in if ZtQ w m p then nx ((p + 1:Nat):Int) else some false:=fun next p hp nx=>by
   unfold Zgw;rw [s.len hm,ZG hp,Cq1,s.ent hm hp];simp only [Bq0];have hj:Zgv (p:Int) nx ()=nx ((p + 1:Nat):Int):=by unfold Zgv;rw [Yw (by omega)]
   by_cases he:E w m p= ⟨true,(m:Int),(E w m p).age⟩
   ·rw [(ZhL _ _).2 he,Cq1];by_cases ha:0 <= (E w m p).age∧(E w m p).age <=30
    ·rw [if_pos (.inl ⟨he,ha⟩),decide_eq_false (by omega),decide_eq_false (by omega),Bool.or_self,Cq0,hj]
    ·have:(decide ((E w m p).age < 0) || decide ((E w m p).age > 30))=true:=by
      rw [← Bool.not_eq_false];intro z;simp only [Bool.or_eq_false_iff,decide_eq_false_iff_not] at z;exact ha ⟨by omega,by omega⟩
     rw [this,if_neg (by rintro(⟨_,q⟩ | ⟨q,_⟩);· exact ha q
                         ·exact q he)];rfl
   ·have e1:QA (E w m p) ⟨true,(m:Int),(E w m p).age⟩=false:=by rw [← Bool.not_eq_true,ZhL];exact he
    rw [e1,Cq0];by_cases h2:(E w m p).here=false∧(E w m p).ZX ≠ (m:Int)
    ·have e2:((E w m p).here || ((E w m p).ZX== (m:Int)))=false:=by rw [h2.1,Z6,decide_eq_false h2.2];rfl
     rw [e2,Bool.not_false,YN,Zec s hp];simp only [Bq0,Bool.false_or];by_cases h3:RtX w p (E w m p).ZX (E w m p).age
     ·rw [decide_eq_true h3,if_pos (.inr ⟨he,h2.1,h2.2,h3⟩),Bool.not_true,Cq0,hj]
     ·rw [decide_eq_false h3,if_neg (by rintro(⟨q,_⟩ | ⟨_,_,_,q⟩);· exact he q
                                        ·exact h3 q)];rfl
    ·have e2:((E w m p).here || ((E w m p).ZX== (m:Int)))=true:=by
      rw [← Bool.not_eq_false];intro z;simp only [Bool.or_eq_false_iff,beq_eq_false_iff_ne] at z;exact h2 z
     rw [e2,if_neg (by rintro(⟨q,_⟩ | ⟨_,q1,q2,_⟩);· exact he q
                       ·exact h2 ⟨q1,q2⟩)];rfl
  by_cases hall:∀ p,p < w.Zx.length ->ZtQ w m p
  ·refine .inr ⟨fun next=>?_,fun q=>q hall⟩;rw [b0];refine Ye (fun p=>(p:Int)) rfl (n:=w.Zx.length) (by omega) (fun p hp nx=>?_) (fun nx=>?_)
   ·rw [step next p hp nx,if_pos (hall p hp)]
   ·unfold Zgw;rw [s.len hm,ZQ,Cq0,Yw (by omega)]
  ·refine .inl ⟨fun next=>?_,hall⟩;have hz:∃ p,p < w.Zx.length∧¬ ZtQ w m p:=Classical.byContradiction fun q=>hall fun p hp=>Classical.byContradiction fun q2=>q ⟨p,hp,q2⟩
   obtain⟨p0,hp0⟩:=hz;obtain⟨p1,_,hp1,hlt⟩:=Qd (c:=fun p=>p < w.Zx.length∧¬ ZtQ w m p) hp0;rw [b0];refine Ye (fun p=>(p:Int)) rfl (n:=p1) (by omega) (fun p hp nx=>?_) (fun nx=>?_)
   ·rw [step next p (by omega) nx,if_pos (Classical.byContradiction fun q=>hlt p hp ⟨by omega,q⟩)]
   ·rw [step next p1 hp1.1 nx,if_neg hp1.2]
 ·unfold ZjN;rw [ZQ];rfl
 ·simp only [Bool.false_eq_true,false_iff];intro z;exact hc (z k hk)
def Ji (w:Zb) (m:Int) (y:Zq):Prop:=0 <=y.place∧y.place < (w.Zx.length:Int)∧0 <=y.from_∧y.from_ < (w.qQ.length:Int)∧RtX w y.place.toNat m y.age∧1 <=y.hops∧y.hops <=Y2 (1 + y.age)
theorem Zl4 {w:Zb} (s:Wp w) (m:Int) (y:Zq):∃ b,ZwA ⟨w,spL w⟩ m y=some b∧(b=true↔Ji w m y):=by
 unfold ZwA ZsU ZnM;simp only [Bq0];by_cases h1:0 <=y.place∧y.place < (w.Zx.length:Int)
 ·obtain⟨p,hp⟩:∃ p:Nat,y.place= (p:Int):= ⟨y.place.toNat,by omega⟩
  have hpl:p < w.Zx.length:=by omega
  rw [hp,decide_eq_true (show(p:Int) >=0 by omega),decide_eq_true (show(p:Int) < (w.Zx.length:Int) by omega)];simp only [Bool.and_self,YN,Bq0,Bool.true_and];by_cases h2:0 <=y.from_∧y.from_ < (w.qQ.length:Int)
  ·rw [decide_eq_true h2.1,decide_eq_true h2.2];simp only [Bool.and_self,YN,Bq0,Bool.true_and];rw [Zec s hpl];refine⟨_,rfl,?_⟩;simp only [Ba0,decide_eq_true_eq];unfold Ji;rw [hp,Int.toNat_natCast]
   constructor
   ·rintro⟨⟨a,b⟩,c⟩;exact⟨by omega,by omega,h2.1,h2.2,a,b,c⟩
   ·rintro⟨_,_,_,_,a,b,c⟩;exact⟨⟨a,b⟩,c⟩
  ·have:(decide (y.from_ >=0) && decide (y.from_ < (w.qQ.length:Int)))=false:=by
    rw [← Bool.not_eq_true];intro z;simp only [Ba0,decide_eq_true_eq] at z;exact h2 z
   rw [this];refine⟨_,rfl,?_⟩;simp only [Bool.false_and,Bool.false_eq_true,false_iff];rintro⟨_,_,a,b,_⟩;exact h2 ⟨a,b⟩
 ·have:(decide (y.place >=0) && decide (y.place < (w.Zx.length:Int)))=false:=by
   rw [← Bool.not_eq_true];intro z;simp only [Ba0,decide_eq_true_eq] at z;exact h1 z
  rw [this];refine⟨_,rfl,?_⟩;simp only [Bool.false_and,Bool.false_eq_true,false_iff];rintro⟨a,b,_⟩;exact h1 ⟨a,b⟩
def ZCJ (w:Zb) (x:Zf):Prop:=0 <=x.ZX∧x.ZX < (w.qQ.length:Int)∧(x.kind ≠ 2 ->x.qV= []∧x.Yd= [])∧
 (x.kind=1 ->Ji w x.ZX x.ZV∧x.place=0∧x.at_=0∧x.age=0)∧
 (x.kind=3 ->x.at_ ≠ x.ZX∧0 <=x.place∧x.place < (w.Zx.length:Int)∧RtX w x.place.toNat x.at_ x.age∧x.ZV=Zup)∧
 (x.kind ≠ 1 ->x.kind ≠ 3 ->x.ZV=Zup∧x.place=0∧x.at_=0∧x.age=0)
theorem ZpW {w:Zb} (s:Wp w) {x:Zf} (h9:x.qV.length <=900∧x.Yd.length <=900):∃ b,ZBD ⟨w,spL w⟩ x=some b∧(b=true↔ZCJ w x):=by
 unfold ZBD ZnM;simp only [Bq0];refine Jd (fun hc=>⟨false,rfl,?_⟩) (fun hc=>?_)
 ·simp only [Bool.false_eq_true,false_iff];rintro⟨a,b,_⟩;rw [decide_eq_true (show x.ZX >=0 from a),decide_eq_true b] at hc;cases hc
 simp only [Bool.not_eq_false',Ba0,decide_eq_true_eq] at hc;refine Jd (fun hc2=>⟨false,rfl,?_⟩) (fun hc2=>?_)
 ·simp only [Bool.false_eq_true,false_iff];rintro⟨_,_,a,_⟩;simp only [Ba0,bne_iff_ne,decide_eq_true_eq] at hc2;obtain⟨a1,a2⟩:=a hc2.1;rw [a1,a2] at hc2;exact absurd hc2.2 (by decide)
 have hk2:x.kind ≠ 2 ->x.qV= []∧x.Yd= []:=fun hk=>by
  rw [Jf,decide_eq_true hk,Bool.true_and,decide_eq_false_iff_not,Kb (by omega) (by omega)] at hc2;exact⟨List.length_eq_zero_iff.1 (by omega),List.length_eq_zero_iff.1 (by omega)⟩
 have hj:∀ a b c d e f g h,Zgu x (a,b,c,d,e,f,g,h)=some ((((Xw (Zq.mk a b c d e) x.ZV) && (f==x.place)) && (g==x.at_)) && (h==x.age)):=fun _ _ _ _ _ _ _ _=>rfl
 refine Jd (fun h1=>?_) (fun h1=>?_)
 ·have h1:x.kind=1:=by simpa using h1
  obtain⟨b,hb,hbi⟩:=Zl4 s x.ZX x.ZV;rw [hb];simp only [Bq0];refine Jd (fun h2=>⟨false,rfl,?_⟩) (fun h2=>⟨_,hj _ _ _ _ _ _ _ _,?_⟩)
  ·simp only [Bool.false_eq_true,false_iff];rintro⟨_,_,_,a,_⟩;rw [hbi.2 (a h1).1] at h2;cases h2
  ·have h2:Ji w x.ZX x.ZV:=hbi.1 (by simpa using h2);simp only [Ba0,Zac,beq_iff_eq]
   constructor
   ·rintro⟨⟨⟨_,a⟩,b⟩,c⟩;exact⟨hc.1,hc.2,hk2,fun _=>⟨h2,a.symm,b.symm,c.symm⟩,fun q=>by omega,fun q=>absurd h1 q⟩
   ·rintro⟨_,_,_,a,_⟩;obtain⟨_,a1,a2,a3⟩:=a h1;exact⟨⟨⟨trivial,a1.symm⟩,a2.symm⟩,a3.symm⟩
 have h1:x.kind ≠ 1:=by simpa using h1
 refine Jd (fun h3=>?_) (fun h3=>?_)
 ·have h3:x.kind=3:=by simpa using h3
  unfold ZsU;dsimp only;by_cases hat:x.at_=x.ZX
  ·rw [hat,Z6,decide_eq_true rfl];refine⟨false,rfl,?_⟩;simp only [Bool.false_eq_true,false_iff];rintro⟨_,_,_,_,a,_⟩;exact(a h3).1 hat
  ·rw [Z6,decide_eq_false hat];simp only [Bool.not_false,YN,Bq0,Bool.false_or];by_cases hp:0 <=x.place∧x.place < (w.Zx.length:Int)
   ·rw [decide_eq_true (show x.place >=0 from hp.1),decide_eq_true hp.2];obtain⟨p,ep⟩:∃ p:Nat,x.place= (p:Int):= ⟨x.place.toNat,by omega⟩
    simp only [Bool.and_self,Bool.not_true,Bool.not_false,YN,Bool.false_or];rw [show ZnN ⟨w,spL w⟩ x.place x.at_ x.age=some (decide (RtX w x.place.toNat x.at_ x.age)) by rw [ep,Zec s (by omega),Int.toNat_natCast]];simp only [Bq0];refine Jd (fun h4=>⟨false,rfl,?_⟩) (fun h4=>⟨_,hj _ _ _ _ _ _ _ _,?_⟩)
    ·simp only [Bool.false_eq_true,false_iff];rintro⟨_,_,_,_,a,_⟩;rw [decide_eq_true (a h3).2.2.2.1] at h4;cases h4
    ·have h4:RtX w x.place.toNat x.at_ x.age:=by simpa using h4
     simp only [Ba0,Zac,beq_iff_eq]
     constructor
     ·rintro⟨⟨⟨a,_⟩,_⟩,_⟩;exact⟨hc.1,hc.2,hk2,fun q=>absurd q h1,fun _=>⟨hat,hp.1,hp.2,h4,a.symm⟩,fun _ q=>absurd h3 q⟩
     ·rintro⟨_,_,_,_,a,_⟩;exact⟨⟨⟨(a h3).2.2.2.2.symm,trivial⟩,trivial⟩,trivial⟩
   ·have:(decide (x.place >=0) && decide (x.place < (w.Zx.length:Int)))=false:=by
     rw [← Bool.not_eq_true];intro z;simp only [Ba0,decide_eq_true_eq] at z;exact hp z
    rw [this];refine⟨false,rfl,?_⟩;simp only [Bool.false_eq_true,false_iff];rintro⟨_,_,_,_,a,_⟩;exact hp ⟨(a h3).2.1,(a h3).2.2.1⟩
 have h3:x.kind ≠ 3:=by simpa using h3
 refine⟨_,hj _ _ _ _ _ _ _ _,?_⟩;simp only [Ba0,Zac,beq_iff_eq]
 constructor
 ·rintro⟨⟨⟨a,b⟩,c⟩,d⟩;exact⟨hc.1,hc.2,hk2,fun q=>absurd q h1,fun q=>absurd q h3,fun _ _=>⟨a.symm,b.symm,c.symm,d.symm⟩⟩
 ·rintro⟨_,_,_,_,_,a⟩;obtain⟨a1,a2,a3,a4⟩:=a h1 h3;exact⟨⟨⟨a1.symm,a2.symm⟩,a3.symm⟩,a4.symm⟩
def Jp (l:List Zf):List Int:= (l.filter fun x=>x.kind==1).map fun x=>x.ZV.msg
def QY (l:List (List Zq)):List Int:=l.flatMap fun x=>x.map fun y=>y.msg
def msgs (w:Zb):List Int:=w.qK.flatten ++ QY w.qJ ++ Jp w.qG
theorem ZdB {α:Type} {l:List (List α)} {k:Nat} (h:k < l.length):(l.take (k + 1)).flatten= (l.take k).flatten ++ l[k]:=by
 rw [List.take_add_one,List.getElem?_eq_getElem h,List.flatten_append];simp
theorem ZbH {l:List (List Zq)} {k:Nat} (h:k < l.length):QY (l.take (k + 1))=QY (l.take k) ++ l[k].map fun y=>y.msg:=by
 unfold QY;rw [List.take_add_one,List.getElem?_eq_getElem h,List.flatMap_append];simp
theorem Zhw {l:List Zf} {k:Nat} (h:k < l.length):Jp (l.take (k + 1))=Jp (l.take k) ++ if l[k].kind=1 then [l[k].ZV.msg] else []:=by
 unfold Jp;rw [List.take_add_one,List.getElem?_eq_getElem h,List.filter_append,List.map_append];congr 1;by_cases hk:l[k].kind=1
 ·rw [if_pos hk];simp [hk]
 ·rw [if_neg hk];simp [hk]
theorem Zc1 {α:Type} {l:List (List α)} {n:Nat} (h:∀ x ∈ l,x.length <=n):l.flatten.length <=n * l.length:=by
 induction l with
 | nil=>simp
 | cons x l ih=>
   have:=ih fun y hy=>h y (by simp [hy])
   have:=h x (by simp);rw [List.flatten_cons,List.length_append,List.length_cons,Nat.mul_succ];omega
theorem Zwp {l:List (List Zq)} {n:Nat} (h:∀ x ∈ l,x.length <=n):(QY l).length <=n * l.length:=by
 induction l with
 | nil=>simp [QY]
 | cons x l ih=>
   have:=ih fun y hy=>h y (by simp [hy])
   have:=h x (by simp);unfold QY at *;rw [List.flatMap_cons,List.length_append,List.length_map,List.length_cons,Nat.mul_succ];omega
theorem Zsg (l:List Zf):(Jp l).length <=l.length:=by
 unfold Jp;rw [List.length_map];exact List.length_filter_le _ _
theorem Zq9 {xs ys:List Int} (h:xs.length + ys.length <=1000000):app 8 xs ys=some (xs ++ ys):=Zg9 h (by decide)
structure BdM (w:Zb):Prop where
 b:w.qK.flatten.length <=160000
 h:(QY w.qJ).length <=160000
 m:(Jp w.qG).length <=400
theorem BdM.of {w:Zb} (sm:UW 400 w):BdM w:=by
 have h1:=Zc1 (n:=400) fun x hx=>Nat.le_of_lt (sm.box x hx)
 have h2:=Zwp (n:=400) fun x hx=>Nat.le_of_lt (sm.hel x hx)
 have h3:=Zsg w.qG;have:=sm.qK;have:=sm.qJ;have:=sm.qG;exact⟨by omega,by omega,by omega⟩
theorem Ku {α:Type} (l:List (List α)) (k:Nat):(l.take k).flatten.length <=l.flatten.length:=by
 have:=congrArg (fun z=>z.flatten.length) (List.take_append_drop k l);simp only [List.flatten_append,List.length_append] at this;omega
theorem Wq (l:List (List Zq)) (k:Nat):(QY (l.take k)).length <= (QY l).length:=by
 have:=congrArg (fun z=>(QY z).length) (List.take_append_drop k l);simp only [QY,List.flatMap_append,List.length_append] at this ⊢;omega
theorem Zcp (l:List Zf) (k:Nat):(Jp (l.take k)).length <= (Jp l).length:=by
 have:=congrArg (fun z=>(Jp z).length) (List.take_append_drop k l);simp only [Jp,List.filter_append,List.map_append,List.length_append] at this ⊢;omega
def Ur (l:List Int):List Int:=l.mergeSort fun x y=>decide (x <=y)
theorem Zpp {l:List Int} (h:l.length <=1000000):ZsW l=some (Ur l):=by
 unfold ZsW Ur;rw [Nm0 h];rfl
theorem Zd9 (l:List Int):(Ur l).Perm l:=List.mergeSort_perm _ _
theorem ZmK (l:List Int):(Ur l).Pairwise (· <=·):=by
 have:=List.pairwise_mergeSort (le:=fun x y:Int=>decide (x <=y)) (fun a b c h1 h2=>by simp at *;omega) (fun a b=>by simp;omega) l;exact this.imp fun h=>by simpa using h
theorem ZdU {l l':List Int} (h:l.Perm l') (hs:l'.Pairwise (· <=·)):Ur l=l':=
 List.Perm.eq_of_pairwise (le:= (· <=·)) (fun a b _ _ h1 h2=>by omega) (ZmK l) hs ((Zd9 l).trans h)
def XG (n:Nat):List Int:= (List.range n).map Int.ofNat
theorem Zlc (n:Nat):(XG n).Pairwise (· <=·):=by
 unfold XG;rw [List.pairwise_map];exact List.pairwise_lt_range.imp fun{a b} h=>by show(a:Int) <= (b:Int);omega
theorem ZiV {n k:Nat} (h:k < n):(XG n)[k]? =some (k:Int):=by simp [XG,h]
theorem Jc (n:Nat):(XG n).length=n:=by simp [XG]
theorem ZwJ {l:List Int} (h:∀ k (hk:k < l.length),l[k]= (k:Int)):l=XG l.length:=by
 apply List.ext_getElem?;intro k;by_cases hk:k < l.length
 ·rw [ZiV hk,List.getElem?_eq_getElem hk,h k hk]
 ·rw [List.getElem?_eq_none (by omega),List.getElem?_eq_none (by rw [Jc];omega)]
def ZL8 (w:Zb):Prop:=0 <=w.said∧w.said <=40∧(msgs w).Perm (XG w.said.toNat)
theorem Zlf {F:Nat} (hF:400000 <=F) {w:Zb} (sm:UW 400 w) (l:List YA):∃ b,ZwB F ⟨w,l⟩=some b∧(b=true↔ZL8 w):=by
 obtain⟨B1,B2,B3⟩:=BdM.of sm;have W1:=sm.qK;have W2:=sm.qJ;have W3:=sm.qG;unfold ZwB;refine Jd (fun hc=>⟨false,rfl,?_⟩) (fun hc=>?_)
 ·simp only [Bool.false_eq_true,false_iff];rintro⟨a,b,_⟩;simp only [Bool.or_eq_true,decide_eq_true_eq] at hc;omega
 simp only [Bool.or_eq_false_iff,decide_eq_false_iff_not] at hc
 have h4:∃ b,loop F (ZbI ⟨w,l⟩ (Ur (msgs w))) 0=some b∧(b=true↔ZL8 w):=by
  have hl:(Ur (msgs w)).length= (msgs w).length:= (Zd9 _).length_eq;have hl2:(msgs w).length <=320400:=by unfold msgs;rw [List.length_append,List.length_append];omega
  refine JW false (some (((Ur (msgs w)).length:Int)==w.said)) (fun k=>(k:Int)) rfl (fun k=>∃ h:k < (Ur (msgs w)).length,(Ur (msgs w))[k] ≠ (k:Int)) (n:= (Ur (msgs w)).length) (by omega) (fun k hk=>?_) (fun next=>?_) (fun k hk hc=>?_) (fun hno=>⟨_,rfl,?_⟩)
  ·have b0:∀ next,ZbI ⟨w,l⟩ (Ur (msgs w)) (k:Int) next=bif((Ur (msgs w))[k] != (k:Int)) then some false else next (Y2 ((k:Int) + 1)):=fun next=>by
    unfold ZbI;rw [ZG hk,Cq1,YW hk];rfl
   by_cases h:(Ur (msgs w))[k]= (k:Int)
   ·refine .inr ⟨fun next=>?_,fun⟨_,q⟩=>q h⟩;rw [b0,h,Qx,Cq0,Yw (by omega)]
   ·refine .inl ⟨fun next=>?_,hk,h⟩;rw [b0,Jf,decide_eq_true h];rfl
  ·unfold ZbI;rw [ZQ];rfl
  ·obtain⟨h,q⟩:=hc;simp only [Bool.false_eq_true,false_iff];rintro⟨_,_,hp⟩;have e:=ZdU hp (Zlc _);have hk':k < w.said.toNat:=by rw [e,Jc] at h;exact h
   have:(Ur (msgs w))[k]? =some (k:Int):=by rw [e];exact ZiV hk'
   rw [List.getElem?_eq_getElem h] at this;exact q (by simpa using this)
  ·have e:=ZwJ fun k hk=>Classical.byContradiction fun q=>hno k hk ⟨hk,q⟩
   rw [beq_iff_eq]
   constructor
   ·intro h;refine⟨by omega,by omega,?_⟩;have h2:w.said.toNat= (Ur (msgs w)).length:=by omega
    rw [h2,← e];exact(Zd9 _).symm
   ·rintro⟨_,_,hp⟩;have:=hp.length_eq;rw [Jc] at this;omega
 have h3:loop F (ZjK F ⟨w,l⟩) (w.qK.flatten ++ QY w.qJ,0)=loop F (ZbI ⟨w,l⟩ (Ur (msgs w))) 0:=by
  refine Ye (fun k=>(w.qK.flatten ++ QY w.qJ ++ Jp (w.qG.take k),(k:Int))) (by simp [Jp]) (n:=w.qG.length) (by omega) (fun k hk next=>?_) (fun next=>?_)
  ·have hm:=Zcp w.qG k;have hll:(w.qK.flatten ++ QY w.qJ ++ Jp (w.qG.take k)).length <=320400:=by rw [List.length_append,List.length_append];omega
   rw [Zhw hk];unfold ZjK;dsimp only;rw [ZG hk,Cq1,YW hk];simp only [Bq0];rw [Z6,Zbe];unfold ZjJ;by_cases h1:w.qG[k].kind=1
   ·rw [if_pos h1,if_pos h1,Zq9 (by rw [List.length_singleton];omega)];simp only [Bq0];rw [Yw (by omega),← List.append_assoc]
   ·rw [if_neg h1,if_neg h1,Yw (by omega),List.append_nil]
  ·unfold ZjK;dsimp only;rw [ZQ,Cq0,List.take_of_length_le (Nat.le_refl _)];show(ZsW (msgs w)).bind _=_;rw [Zpp (by unfold msgs;rw [List.length_append,List.length_append];omega)];rfl
 have h1:loop F (ZjL F ⟨w,l⟩) (w.qK.flatten,0)=loop F (ZbI ⟨w,l⟩ (Ur (msgs w))) 0:=by
  refine Ye (fun k=>(w.qK.flatten ++ QY (w.qJ.take k),(k:Int))) (by simp [QY]) (n:=w.qJ.length) (by omega) (fun k hk next=>?_) (fun next=>?_)
  ·have hm:=Wq w.qJ k;have hm2:=Wq w.qJ (k + 1);have hrow:=sm.hel _ (List.getElem_mem hk);rw [ZbH hk] at hm2;rw [ZbH hk];rw [List.length_append,List.length_map] at hm2;unfold ZjL;dsimp only;rw [ZG hk,Cq1,YW hk];simp only [Bq0];refine Ye (fun j=>(w.qK.flatten ++ QY (w.qJ.take k) ++ (w.qJ[k].take j).map (fun y=>y.msg),(j:Int))) (by simp) (n:=w.qJ[k].length) (by omega) (fun j hj nx=>?_) (fun nx=>?_)
   ·unfold ZnU;dsimp only;rw [ZG hj,Cq1,YW hj];simp only [Bq0];rw [Zq9 (by rw [List.length_append,List.length_append,List.length_map,List.length_take,List.length_singleton];omega)];simp only [Bq0];rw [Yw (by omega),List.take_add_one,List.getElem?_eq_getElem hj,List.map_append];simp
   ·unfold ZnU;dsimp only;rw [ZQ,Cq0,List.take_of_length_le (Nat.le_refl _),Yw (by omega),List.append_assoc]
  ·unfold ZjL;dsimp only;rw [ZQ,Cq0,List.take_of_length_le (Nat.le_refl _)];exact h3
 have h0:loop F (ZjM F ⟨w,l⟩) ([],0)=loop F (ZbI ⟨w,l⟩ (Ur (msgs w))) 0:=by
  refine Ye (fun k=>((w.qK.take k).flatten,(k:Int))) (by simp) (n:=w.qK.length) (by omega) (fun k hk next=>?_) (fun next=>?_)
  ·have hm:=Ku w.qK k;have hm2:=Ku w.qK (k + 1);rw [ZdB hk,List.length_append] at hm2;rw [ZdB hk];unfold ZjM;dsimp only;rw [ZG hk,Cq1,YW hk];simp only [Bq0];rw [Zq9 (by omega)];simp only [Bq0];rw [Yw (by omega)]
  ·unfold ZjM;dsimp only;rw [ZQ,Cq0,List.take_of_length_le (Nat.le_refl _)];exact h1
 rw [h0];exact h4
def ZH (w:Zb) (m:Nat):List Zq:=w.qJ.getD m []
structure Wd (w:Zb):Prop where
 shr:ShR w
 loc:∀ p,p < w.Zx.length ->(Xa w p).length=1
 tog:∀ p,p < w.Zx.length ->0 <=inn w p ->(sp w (inn w p).toNat).machine= (sp w p).machine∧(sp w (inn w p).toNat).here= (sp w p).here∧((sp w p).here=false ->ZkU w p (inn w p))
 ent:∀ m,m < w.qQ.length ->∀ p,p < w.Zx.length ->(E w m p).here=false ->RtX w p (E w m p).ZX (E w m p).age
 hel:∀ m,m < w.qQ.length ->∀ x ∈ ZH w m,Ji w m x∧sp w x.place.toNat= ⟨(m:Int),false,x.age⟩
 mai:∀ x ∈ w.qG,x.kind=1 ->Ji w x.ZX x.ZV
 ntd:∀ x ∈ w.qG,x.kind=3 ->RtX w x.place.toNat x.at_ x.age
 msg:(msgs w).Perm (XG w.said.toNat)
theorem Zdy {w:Zb} {p k:Nat} {s:YA}:s ∈ Xv w p k↔∃ m,m < k∧(E w m p).here=true∧s= ⟨(m:Int),true,(E w m p).age⟩:=by
 unfold Xv;rw [List.mem_filterMap]
 constructor
 ·rintro⟨m,h1,h2⟩;by_cases h:(E w m p).here=true
  ·rw [if_pos h] at h2;cases h2;exact⟨m,List.mem_range.1 h1,h,rfl⟩
  ·rw [if_neg h] at h2;cases h2
 ·rintro⟨m,h1,h2,rfl⟩;exact⟨m,List.mem_range.2 h1,if_pos h2⟩
theorem ZaV {x:Zf} {p j:Nat} {s:YA}:s ∈ WH x p j↔∃ i,i < j∧x.qV.getD i 0= (p:Int)∧s= ⟨x.ZX,false,x.Yd.getD i 0⟩:=by
 unfold WH;rw [List.mem_filterMap]
 constructor
 ·rintro⟨m,h1,h2⟩;by_cases h:x.qV.getD m 0= (p:Int)
  ·rw [if_pos h] at h2;cases h2;exact⟨m,List.mem_range.1 h1,h,rfl⟩
  ·rw [if_neg h] at h2;cases h2
 ·rintro⟨m,h1,h2,rfl⟩;exact⟨m,List.mem_range.2 h1,if_pos h2⟩
theorem ZxE {l:List Zf} {p:Nat} {s:YA}:s ∈ Qj l p↔∃ x ∈ l,x.kind=2∧∃ i,i < x.qV.length∧x.qV.getD i 0= (p:Int)∧s= ⟨x.ZX,false,x.Yd.getD i 0⟩:=by
 unfold Qj;rw [List.mem_flatMap]
 constructor
 ·rintro⟨x,h1,h2⟩;unfold Ka at h2;by_cases h:x.kind=2
  ·rw [if_pos h] at h2;exact⟨x,h1,h,ZaV.1 h2⟩
  ·rw [if_neg h] at h2;cases h2
 ·rintro⟨x,h1,h2,h3⟩;exact⟨x,h1,by unfold Ka;rw [if_pos h2];exact ZaV.2 h3⟩
theorem ZHT {w:Zb} {p:Nat} (h:(Xa w p).length=1):Xa w p= [sp w p]:=by
 obtain⟨x,e⟩:=List.length_eq_one_iff.1 h;unfold sp Kl;rw [e];rfl
theorem Zcr {w:Zb} {p:Nat} (h:(Xa w p).length=1):(∃ m,m < w.qQ.length∧(E w m p).here=true∧sp w p= ⟨(m:Int),true,(E w m p).age⟩)∨(∃ x ∈ w.qG,x.kind=2∧∃ i,i < x.qV.length∧x.qV.getD i 0= (p:Int)∧sp w p= ⟨x.ZX,false,x.Yd.getD i 0⟩):=by
 have hm:sp w p ∈ Xa w p:=by rw [ZHT h];simp
 unfold Xa at hm;rcases List.mem_append.1 hm with q | q
 ·exact .inl (Zdy.1 q)
 ·exact .inr (ZxE.1 q)
structure WdP (w:Zb):Prop where
 Kv:Wp w
 inn:Inn w
 mov:∀ x ∈ w.qG,MvX w x
 tog:∀ p,p < w.Zx.length ->ZL6 w p
 ent:∀ m,m < w.qQ.length ->∀ p,p < w.Zx.length ->ZtQ w m p
 msg:ZL8 w
 Xr:∀ x ∈ w.qG,ZCJ w x
 hel:∀ m,m < w.qQ.length ->∀ x ∈ ZH w m,Ji w m x∧sp w x.place.toNat= ⟨(m:Int),false,x.age⟩
theorem ZDf {w:Zb}:WdP w↔Wd w:=by
 constructor
 ·intro h
  have ZUT:∀ p,p < w.Zx.length ->(sp w p).age <=30:=fun p hp=>by
   rcases Zcr (h.tog p hp).1 with⟨m,h1,h2,h3⟩ | ⟨x,h1,h2,i,h3,h4,h5⟩
   ·rw [h3];rcases h.ent m h1 p hp with⟨_,_,q⟩ | ⟨_,q,_⟩
    ·exact q
    ·rw [h2] at q;cases q
   ·rw [h5];rcases h.mov x h1 with q | q | ⟨_,_,_,q⟩
    ·omega
    ·omega
    ·exact(q i h3).2.2.2.2
  have ZUA:∀ x ∈ w.qG,ZkV w x:=fun x hx=>by
   have hl:=h.Xr x hx;obtain⟨a1,a2,a3,a4,a5,a6⟩:=hl;rcases h.mov x hx with q | q | ⟨q,q1,q2,q3⟩
   ·obtain⟨b1,b2⟩:=a3 (by omega);obtain⟨_,c1,c2,c3⟩:=a4 q;refine⟨a1,a2,.inl ⟨q,c1,c2,c3,b1,b2⟩,fun i hi=>?_,fun z=>by omega⟩;rw [b1] at hi;simp at hi
   ·obtain⟨b1,b2⟩:=a3 (by omega);obtain⟨c1,c2,c3,c4,c5⟩:=a5 q;refine⟨a1,a2,.inr (.inr ⟨q,c5,b1,b2⟩),fun i hi=>?_,fun _=>⟨c2,c3,c1⟩⟩;rw [b1] at hi;simp at hi
   ·obtain⟨c1,c2,c3,c4⟩:=a6 (by omega) (by omega);exact⟨a1,a2,.inr (.inl ⟨q,c2,c3,c4,c1,q1,q2.symm⟩),q3,fun z=>by omega⟩
  refine⟨⟨h.Kv,h.inn,h.msg.1,h.msg.2.1,fun m hm p hp=>?_,ZUA⟩,fun p hp=>(h.tog p hp).1,fun p hp=>(h.tog p hp).2,fun m hm p hp hh=>?_,h.hel,fun x hx hk=>((h.Xr x hx).2.2.2.1 hk).1,fun x hx hk=>((h.Xr x hx).2.2.2.2.1 hk).2.2.2.1,h.msg.2.2⟩
  ·rcases h.ent m hm p hp with⟨e,q1,q2⟩ | ⟨e,q1,q2,q3⟩
   ·have e1:(E w m p).here=true:=by rw [e]
    have e2:(E w m p).ZX= (m:Int):=by rw [e]
    exact⟨q1,q2,by rw [e2];omega,by rw [e2];omega,fun _=>e2,fun _=>e1⟩
   ·have:=ZUT p hp;refine⟨q3.1,by have:=q3.2.1;omega,q3.2.2.1,q3.2.2.2.1,fun z=>?_,fun z=>absurd z q2⟩;rw [q1] at z;cases z
  ·rcases h.ent m hm p hp with⟨e,q1,q2⟩ | ⟨e,q1,q2,q3⟩
   ·have e1:(E w m p).here=true:=by rw [e]
    rw [hh] at e1;cases e1
   ·exact q3
 ·intro h;refine⟨h.shr.Kv,h.shr.inn,fun x hx=>?_,fun p hp=>⟨h.loc p hp,h.tog p hp⟩,fun m hm p hp=>?_,⟨h.shr.sd1,h.shr.sd2,h.msg⟩,fun x hx=>?_,h.hel⟩
  ·have hl:=h.shr.Xr x hx;rcases hl.Xp with⟨q,_⟩ | ⟨q,_,_,_,_,q1,q2⟩ | ⟨q,_⟩
   ·exact .inl q
   ·exact .inr (.inr ⟨q,q1,q2.symm,hl.Uk⟩)
   ·exact .inr (.inl q)
  ·obtain⟨a1,a2,a3,a4,a5⟩:=h.shr.ent m hm p hp;cases hh:(E w m p).here with
   | true=>
     have h2:=a5.1 hh;refine .inl ⟨?_,a1,a2⟩;have:E w m p= ⟨(E w m p).here,(E w m p).ZX,(E w m p).age⟩:=rfl;rw [hh,h2] at this;exact this
   | false=>
     have h2:(E w m p).ZX ≠ (m:Int):=fun q=>by have:=a5.2 q;rw [hh] at this;cases this
     refine .inr ⟨fun q=>?_,hh,h2,h.ent m hm p hp hh⟩;have:=congrArg Zz.here q;rw [hh] at this;cases this
  ·have hl:=h.shr.Xr x hx;rcases hl.Xp with⟨q,q1,q2,q3,q4,q5⟩ | ⟨q,q1,q2,q3,q4,q5,q6⟩ | ⟨q,q1,q2,q3⟩
   ·exact⟨hl.to1,hl.to2,fun _=>⟨q4,q5⟩,fun _=>⟨h.mai x hx q,q1,q2,q3⟩,fun z=>by omega,fun z=>absurd q z⟩
   ·exact⟨hl.to1,hl.to2,fun z=>absurd q z,fun z=>by omega,fun z=>by omega,fun _ _=>⟨q4,q1,q2,q3⟩⟩
   ·have:=hl.ntd q;exact⟨hl.to1,hl.to2,fun _=>⟨q2,q3⟩,fun z=>by omega,fun _=>⟨this.2.2,this.1,this.2.1,h.ntd x hx q,q1⟩,fun _ z=>absurd q z⟩
theorem ZkA {F:Nat} (hF:400000 <=F) (hM:F <=1000000) {w:Zb} (sm:UW 400 w):∃ e,ZqH F w=some e∧((e=0∨e=2)∧(e=0↔Wd w)):=by
 have sm9:UW 900 w:=sm.mono (by omega);have W3:=sm.qG
 suffices h:∃ e,ZqH F w=some e∧((e=0∨e=2)∧(e=0↔WdP w)) by
  obtain⟨e,h1,h2,h3⟩:=h;exact⟨e,h1,h2,h3.trans ZDf⟩
 have two:¬ WdP w ->((2:Int)=0∨(2:Int)=2)∧((2:Int)=0↔WdP w):=fun h=>⟨.inr rfl,fun q=>absurd q (by decide),fun q=>absurd q h⟩
 unfold ZqH;obtain⟨b1,e1,i1⟩:=Zr2 (F:=F) (by omega) w;obtain⟨b2,e2,i2⟩:=Zsd (F:=F) (by omega) sm9;rw [e1];simp only [Bq0];cases b1 with
 | false=>
   simp only [Bool.not_false,Bool.not_true,XC,Bq0,Bool.true_or,Cq1];exact⟨2,rfl,two fun h=>by have:=i1.2 ⟨h.Kv,h.inn⟩;cases this⟩
 | true=>
   obtain⟨s,hi⟩:=i1.1 rfl;have h8:=s.p2;have h5:=s.m2;rw [e2];simp only [Bool.not_true,Bool.not_false,YN,Bq0,Bool.false_or];cases b2 with
   | false=>exact⟨2,rfl,two fun h=>by have:=i2.2 h.mov;cases this⟩
   | true=>
     have hmv:=i2.1 rfl;simp only [Bool.not_true,Cq0]
     have hmk:mkL (YA.mk 0 false 0) 24 (w.Zx.length:Int) (w.Zx.length:Int)=some (List.replicate w.Zx.length ⟨0,false,0⟩):=by
      unfold mkL;rw [decide_eq_true (by omega),decide_eq_true (by omega),Nm0 (by rw [Int.toNat_natCast];omega),Int.toNat_natCast];rfl
     rw [hmk];simp only [Bq0];obtain⟨x,e3,i3,j3⟩:=Zla (F:=F) (by omega) hM s hi sm9 (MvX.mvd sm9 hmv);rw [e3];simp only [Bq0];cases hx:x.2 with
     | false=>
       simp only [Bool.not_false,Bool.not_true,XC,Bq0,Bool.true_or,Cq1];exact⟨2,rfl,two fun h=>by have:=i3.2 h.tog;rw [hx] at this;cases this⟩
     | true=>
       have ZUw:=i3.1 hx;have hx1:=j3 hx;rw [hx1];obtain⟨b4,e4,i4⟩:=Zou (F:=F) (by omega) s;obtain⟨b5,e5,i5⟩:=Zlf (F:=F) (by omega) sm (spL w);rw [e4];simp only [Bool.not_true,Bool.not_false,YN,Bq0,Bool.false_or];cases b4 with
       | false=>
         simp only [Bool.not_false,Bool.not_true,XC,Bq0,Bool.true_or,Cq1];exact⟨2,rfl,two fun h=>by have:=i4.2 h.ent;cases this⟩
       | true=>
         have hent:=i4.1 rfl;rw [e5];simp only [Bool.not_true,Bool.not_false,YN,Bq0,Bool.false_or];cases b5 with
         | false=>exact⟨2,rfl,two fun h=>by have:=i5.2 h.msg;cases this⟩
         | true=>
           have ZUC:=i5.1 rfl;simp only [Bool.not_true,Cq0];refine JW 2 (loop F (ZgL F w x) 0) (fun k=>(k:Int)) rfl (fun k=>∃ h:k < w.qG.length,¬ ZCJ w w.qG[k]) (n:=w.qG.length) (by omega) (fun k hk=>?_) (fun next=>?_) (fun k hk hc=>?_) (fun hno=>?_)
           ·obtain⟨b,eb,ib⟩:=ZpW s (x:=w.qG[k]) ⟨Nat.le_of_lt (sm9.Xr _ (List.getElem_mem hk)).1,Nat.le_of_lt (sm9.Xr _ (List.getElem_mem hk)).2⟩
            have b0:∀ next,Zkf F w x (k:Int) next=bif(!b) then some 2 else next ((k + 1:Nat):Int):=fun next=>by
             unfold Zkf;rw [ZG hk,Cq1,YW hk];simp only [Bq0];rw [hx1,eb];simp only [Bq0];rw [Yw (by omega)]
            by_cases hl:ZCJ w w.qG[k]
            ·refine .inr ⟨fun next=>?_,fun⟨_,q⟩=>q hl⟩;rw [b0,ib.2 hl];rfl
            ·refine .inl ⟨fun next=>?_,hk,hl⟩
             have:b=false:=by cases b;· rfl
                              ·exact absurd (ib.1 rfl) hl
             rw [b0,this];rfl
           ·unfold Zkf;rw [ZQ];rfl
           ·obtain⟨h,q⟩:=hc;exact two fun z=>q (z.Xr _ (List.getElem_mem h))
           have hlet:∀ x ∈ w.qG,ZCJ w x:=fun y hy=>by
            obtain⟨k,hk,rfl⟩:=List.getElem_of_mem hy;exact Classical.byContradiction fun q=>hno k hk ⟨hk,q⟩
           have Z3T:w.qJ.length=w.qQ.length:=s.hd;refine JW 2 (some 0) (fun k=>(k:Int)) rfl (fun m=>¬ ∀ x ∈ ZH w m,Ji w m x∧sp w x.place.toNat= ⟨(m:Int),false,x.age⟩) (n:=w.qJ.length) (by omega) (fun m hm=>?_) (fun next=>?_) (fun k hk hc=>?_) (fun hno=>⟨0,rfl,?_⟩)
           ·have hgm:ZL w.qJ (m:Int)=some (ZH w m):=YM [] hm;have hlen:(ZH w m).length < 400:=sm.hel _ (YP hm)
            have b0:∀ next,ZgL F w x (m:Int) next=loop F (ZgK x (m:Int) next (ZH w m)) 0:=fun next=>by
             unfold ZgL;rw [ZG hm,Cq1,hgm];rfl
            have step:∀ (next:Int ->Option Int) (j:Nat) (hj:j < (ZH w m).length),∀ nx,ZgK x (m:Int) next (ZH w m) (j:Int) nx=open Classical in if Ji w m (ZH w m)[j]∧sp w (ZH w m)[j].place.toNat= ⟨(m:Int),false,(ZH w m)[j].age⟩ then nx ((j + 1:Nat):Int) else some 2:=fun next j hj nx=>by
             obtain⟨b,eb,ib⟩:=Zl4 s (m:Int) (ZH w m)[j];unfold ZgK;rw [ZG hj,Cq1,YW hj];simp only [Bq0];rw [hx1,eb];simp only [Bq0];by_cases hml:Ji w m (ZH w m)[j]
             ·rw [ib.2 hml];simp only [Bool.not_true,Bool.not_false,YN];obtain⟨p,hp⟩:∃ p:Nat,(ZH w m)[j].place= (p:Int):= ⟨(ZH w m)[j].place.toNat,by have:=hml.1;omega⟩
              have hpl:p < w.Zx.length:=by have:=hml.2.1;omega
              rw [hp,ZtX hpl];simp only [Bq0,Int.toNat_natCast,Bool.false_or];by_cases hs:sp w p= ⟨(m:Int),false,(ZH w m)[j].age⟩
              ·rw [if_pos ⟨hml,hs⟩,(Zkr _ _).2 hs,Bool.not_true,Cq0,Yw (by omega)]
              ·have:ZfA (sp w p) ⟨(m:Int),false,(ZH w m)[j].age⟩=false:=by rw [← Bool.not_eq_true,Zkr];exact hs
               rw [if_neg (fun q=>hs q.2),this];rfl
             ·have:b=false:=by cases b;· rfl
                               ·exact absurd (ib.1 rfl) hml
              rw [this,if_neg (fun q=>hml q.1)];rfl
            by_cases hall:∀ x ∈ ZH w m,Ji w m x∧sp w x.place.toNat= ⟨(m:Int),false,x.age⟩
            ·refine .inr ⟨fun next=>?_,fun q=>q hall⟩;rw [b0];refine Ye (fun p=>(p:Int)) rfl (n:= (ZH w m).length) (by omega) (fun j hj nx=>?_) (fun nx=>?_)
             ·rw [step next j hj nx,if_pos (hall _ (List.getElem_mem hj))]
             ·unfold ZgK;rw [ZQ,Cq0,Yw (by omega)]
            ·refine .inl ⟨fun next=>?_,hall⟩
             have hz:∃ j,∃ hj:j < (ZH w m).length,¬ (Ji w m (ZH w m)[j]∧sp w (ZH w m)[j].place.toNat= ⟨(m:Int),false,(ZH w m)[j].age⟩):=Classical.byContradiction fun q=>hall fun y hy=>by
              obtain⟨j,hj,rfl⟩:=List.getElem_of_mem hy;exact Classical.byContradiction fun q2=>q ⟨j,hj,q2⟩
             obtain⟨j0,hj0⟩:=hz;obtain⟨j1,_,⟨hj1,hb1⟩,hlt⟩:=Qd (c:=fun j=>∃ hj:j < (ZH w m).length,¬ (Ji w m (ZH w m)[j]∧sp w (ZH w m)[j].place.toNat= ⟨(m:Int),false,(ZH w m)[j].age⟩)) hj0;rw [b0];refine Ye (fun p=>(p:Int)) rfl (n:=j1) (by omega) (fun j hj nx=>?_) (fun nx=>?_)
             ·rw [step next j (by omega) nx,if_pos (Classical.byContradiction fun q=>hlt j hj ⟨by omega,q⟩)]
             ·rw [step next j1 hj1 nx,if_neg hb1]
           ·unfold ZgL;rw [ZQ];rfl
           ·exact two fun z=>hc (z.hel k (by omega))
           ·exact⟨.inl rfl,fun _=>⟨s,hi,hmv,ZUw,hent,ZUC,hlet,fun m hm=>Classical.byContradiction (hno m (by omega))⟩,fun _=>rfl⟩
def U9 (w:Zb) (p:Nat):XR:=U1 (QX w p)
theorem Zhh {w:Zb} (h:∀ x ∈ w.qG,x.kind=2∨x.qV= []) (p:Nat):toS (U9 w p)=sp w p:=ZDR h p
theorem Zgg {w:Zb} (s:Wp w) (h2:∀ x ∈ w.qG,x.kind=2∨x.qV= []) {p:Nat} (hp:p < w.Zx.length) (m a:Int):Zn3 w (p:Int) (U9 w p) m a=some (decide (RtX w p m a)):=by
 have e1:(U9 w p).age= (sp w p).age:=by rw [← Zhh h2];rfl
 have e2:(U9 w p).at_= (sp w p).machine:=by rw [← Zhh h2];rfl
 unfold Zn3;rw [e1,e2];by_cases h1:0 <=a∧a <= (sp w p).age∧0 <=m∧m < (w.qQ.length:Int)
 ·obtain⟨a1,a2,a3,a4⟩:=h1;rw [decide_eq_false (show ¬ m < 0 by omega),decide_eq_false (show ¬ m >= (w.qQ.length:Int) by omega),decide_eq_false (show ¬ a < 0 by omega),decide_eq_false (show ¬ a > (sp w p).age by omega)];simp only [Bool.or_self,Cq0];by_cases h3:a= (sp w p).age
  ·rw [Z6,decide_eq_true h3,Cq1,Z6];congr 1;by_cases h4:m= (sp w p).machine
   ·rw [decide_eq_true h4.symm,decide_eq_true (show RtX w p m a from⟨a1,a2,a3,a4,fun _=>h4,fun q=>absurd h3 q⟩)]
   ·rw [decide_eq_false (fun q=>h4 q.symm),decide_eq_false (fun q:RtX w p m a=>h4 (q.2.2.2.2.1 h3))]
  ·obtain⟨k,rfl⟩:∃ k:Nat,m= (k:Int):= ⟨m.toNat,by omega⟩
   rw [Z6,decide_eq_false h3,Cq0,s.row (by omega)];simp only [Bq0];rw [s.ent (by omega) hp];simp only [Bq0];congr 1;by_cases h4:(E w k p).age > a
   ·rw [decide_eq_true h4,decide_eq_true (show RtX w p (k:Int) a from⟨a1,a2,a3,a4,fun q=>absurd q h3,fun _=>h4⟩)]
   ·rw [decide_eq_false h4,decide_eq_false (fun q:RtX w p (k:Int) a=>h4 (q.2.2.2.2.2 h3))]
 ·have:(decide (m < 0) || decide (m >= (w.qQ.length:Int)) || decide (a < 0) || decide (a > (sp w p).age))=true:=by
   rw [← Bool.not_eq_false];intro z;simp only [Bool.or_eq_false_iff,decide_eq_false_iff_not] at z;exact h1 ⟨by omega,by omega,by omega,by omega⟩
  rw [this,decide_eq_false (fun q:RtX w p m a=>h1 ⟨q.1,q.2.1,q.2.2.1,q.2.2.2.1⟩)];rfl
def Zbs (w:Zb):List XR:= (List.range w.Zx.length).map (U9 w)
theorem Zcs {w:Zb} {p:Nat} (hp:p < w.Zx.length):ZL (Zbs w) (p:Int)=some (U9 w p):=by
 rw [YM default (by simp [Zbs];exact hp)];simp [Zbs,hp]
theorem Zbq {a:Int} (h1:0 <=a) (h2:a <=30):Y2 (a + 1)=a + 1:=Kb (by omega) (by omega)
def UQ (w:Zb) (m:Int) (y:Zq) (waits:Bool):Prop:=0 <=y.place∧y.place < (w.Zx.length:Int)∧0 <=y.from_∧y.from_ < (w.qQ.length:Int)∧0 <=y.age∧y.age <=30∧1 <=y.hops∧y.hops <=y.age + 1∧
 (waits=true ->sp w y.place.toNat= ⟨m,false,y.age⟩)∧(waits=false ->RtX w y.place.toNat m y.age)
theorem ZpS {w:Zb} (s:Wp w) (h2:∀ x ∈ w.qG,x.kind=2∨x.qV= []) (m:Int) (y:Zq) (wt:Bool):∃ b,ZqG w (Zbs w) y m wt=some b∧(b=true↔UQ w m y wt):=by
 unfold ZqG;refine Jd (fun hc=>⟨false,rfl,?_⟩) (fun hc=>?_)
 ·simp only [Bool.false_eq_true,false_iff];rintro⟨a1,a2,a3,a4,a5,a6,a7,a8,_⟩;rw [Zbq a5 a6] at hc;simp only [Bool.or_eq_true,decide_eq_true_eq] at hc;omega
 ·simp only [Bool.or_eq_false_iff,decide_eq_false_iff_not] at hc;obtain⟨⟨⟨⟨⟨⟨⟨a1,a2⟩,a3⟩,a4⟩,a5⟩,a6⟩,a7⟩,a8⟩:=hc;rw [Zbq (by omega) (by omega)] at a8;obtain⟨p,hp⟩:∃ p:Nat,y.place= (p:Int):= ⟨y.place.toNat,by omega⟩
  have hpl:p < w.Zx.length:=by omega
  rw [hp,Zcs hpl];simp only [Bq0];have es:=Zhh h2 p;refine Jd (fun hw=>⟨_,rfl,?_⟩) (fun hw=>?_)
  ·simp only [Ba0,Bool.not_eq_true',beq_iff_eq];unfold UQ;rw [hp,Int.toNat_natCast,← es];unfold toS;rw [YA.mk.injEq]
   constructor
   ·rintro⟨⟨b1,b2⟩,b3⟩;exact⟨by omega,by omega,by omega,by omega,by omega,by omega,by omega,by omega,fun _=>⟨b2,b1,b3⟩,fun q=>(by rw [hw] at q;cases q)⟩
   ·rintro⟨_,_,_,_,_,_,_,_,b,_⟩;obtain⟨b1,b2,b3⟩:=b hw;exact⟨⟨b2,b1⟩,b3⟩
  ·rw [Zgg s h2 hpl];refine⟨_,rfl,?_⟩;rw [decide_eq_true_eq];unfold UQ;rw [hp,Int.toNat_natCast]
   constructor
   ·intro h;exact⟨by omega,by omega,by omega,by omega,by omega,by omega,by omega,by omega,fun q=>(by rw [hw] at q;cases q),fun _=>h⟩
   ·rintro⟨_,_,_,_,_,_,_,_,_,b⟩;exact b hw
theorem Zl5 {w:Zb} {p:Nat} (h:(QX w p).length=1):QX w p= [U9 w p]:=by
 obtain⟨x,e⟩:=List.length_eq_one_iff.1 h;unfold U9 U1;rw [e];rfl
theorem ZlM {w:Zb} {p k:Nat} {r:XR}:r ∈ KN w p k↔∃ j,j < k∧∃ s ∈ WH (ZP w j) p (ZP w j).qV.length,r=Zpb j s:=by
 unfold KN;rw [List.mem_flatMap]
 constructor
 ·rintro⟨j,h1,h2⟩;obtain⟨s,h3,h4⟩:=List.mem_map.1 h2;exact⟨j,List.mem_range.1 h1,s,h3,h4.symm⟩
 ·rintro⟨j,h1,s,h2,h3⟩;exact⟨j,List.mem_range.2 h1,List.mem_map.2 ⟨s,h2,h3.symm⟩⟩
theorem Zf9 {w:Zb} {p:Nat} (h:(QX w p).length=1):((U9 w p).is=true∧(U9 w p).letter=-1)∨((U9 w p).is=false∧∃ k,k < w.qG.length∧(U9 w p).letter= (k:Int)∧(p:Int) ∈ (ZP w k).qV):=by
 have hm:U9 w p ∈ QX w p:=by rw [Zl5 h];simp
 unfold QX at hm;rcases List.mem_append.1 hm with q | q
 ·obtain⟨s,h1,h2⟩:=List.mem_map.1 q;rw [← h2];exact .inl ⟨rfl,rfl⟩
 ·obtain⟨k,h1,s,h2,h3⟩:=ZlM.1 q;obtain⟨i,h4,h5,_⟩:=ZaV.1 h2;rw [h3];exact .inr ⟨rfl,k,h1,rfl,by rw [← h5];exact YP h4⟩
theorem ZeZ {w:Zb} {p:Nat} (h:(QX w p).length=1) {k:Nat} (hk:k < w.qG.length) (hp:(p:Int) ∈ (ZP w k).qV):(U9 w p).letter= (k:Int):=by
 obtain⟨i,hi,e⟩:=List.getElem_of_mem hp;have e2:(ZP w k).qV.getD i 0= (p:Int):=by rw [List.getD_eq_getElem?_getD,List.getElem?_eq_getElem hi];exact e
 have hm:Zpb k ⟨(ZP w k).ZX,false,(ZP w k).Yd.getD i 0⟩ ∈ QX w p:=by
  unfold QX;exact List.mem_append_right _ (ZlM.2 ⟨k,hk,_,ZaV.2 ⟨i,hi,e2,rfl⟩,rfl⟩)
 rw [Zl5 h] at hm;rw [← List.mem_singleton.1 hm];rfl
theorem Zpt {w:Zb} (h2:∀ x ∈ w.qG,x.kind=2∨x.qV= []) {p q:Nat} (hp:(QX w p).length=1) (hq:(QX w q).length=1) (e:(U9 w p).is= (U9 w q).is):
 (U9 w p).letter= (U9 w q).letter↔((U9 w p).is=false ->ZkU w p q):=by
 rcases Zf9 hp with⟨a1,a2⟩ | ⟨a1,k,hk,a2,a3⟩
 ·rcases Zf9 hq with⟨b1,b2⟩ | ⟨b1,j,hj,b2,b3⟩
  ·rw [a1,a2,b2];simp
  ·rw [a1,b1] at e;cases e
 ·rcases Zf9 hq with⟨b1,b2⟩ | ⟨b1,j,hj,b2,b3⟩
  ·rw [a1,b1] at e;cases e
  ·have kd:∀ i,i < w.qG.length ->∀ x:Int,x ∈ (ZP w i).qV ->(ZP w i).kind=2:=fun i hi x hx=>by
    rcases h2 (ZP w i) (YP hi) with z | z
    ·exact z
    ·rw [z] at hx;cases hx
   constructor
   ·intro h _;rw [a2,b2] at h;have:k=j:=by omega
    subst this;exact⟨ZP w k,YP hk,kd k hk _ a3,a3,b3⟩
   ·intro h;obtain⟨x,hx,_,h3,h4⟩:=h a1;obtain⟨i,hi,rfl⟩:=List.getElem_of_mem hx;have ei:w.qG[i]=ZP w i:=by unfold ZP;rw [List.getD_eq_getElem?_getD,List.getElem?_eq_getElem hi];rfl
    rw [ei] at h3 h4;rw [ZeZ hp hi h3,ZeZ hq hi h4]
theorem Zm4 {F:Nat} (hF:400000 <=F) {w:Zb} (sm:UW 400 w):ZBL F w=some (msgs w):=by
 obtain⟨B1,B2,B3⟩:=BdM.of sm;have W1:=sm.qK;have W2:=sm.qJ;have W3:=sm.qG
 have h3:loop F (Zj6 w) (w.qK.flatten ++ QY w.qJ,0)=some (msgs w):=by
  refine Ye (fun k=>(w.qK.flatten ++ QY w.qJ ++ Jp (w.qG.take k),(k:Int))) (by simp [Jp]) (n:=w.qG.length) (by omega) (fun k hk next=>?_) (fun next=>?_)
  ·have hm:=Zcp w.qG k;have hll:(w.qK.flatten ++ QY w.qJ ++ Jp (w.qG.take k)).length <=320400:=by rw [List.length_append,List.length_append];omega
   rw [Zhw hk];unfold Zj6;dsimp only;rw [ZG hk,Cq1,YW hk];simp only [Bq0];rw [Z6,Zbe];unfold Zj5;by_cases h1:w.qG[k].kind=1
   ·rw [if_pos h1,if_pos h1,Zq9 (by rw [List.length_singleton];omega)];simp only [Bq0];rw [Yw (by omega),← List.append_assoc]
   ·rw [if_neg h1,if_neg h1,Yw (by omega),List.append_nil]
  ·unfold Zj6;dsimp only;rw [ZQ,Cq0,List.take_of_length_le (Nat.le_refl _)];rfl
 have h1:loop F (Zj7 F w) (w.qK.flatten,0)=some (msgs w):=by
  refine Ye (fun k=>(w.qK.flatten ++ QY (w.qJ.take k),(k:Int))) (by simp [QY]) (n:=w.qJ.length) (by omega) (fun k hk next=>?_) (fun next=>?_)
  ·have hm:=Wq w.qJ k;have hm2:=Wq w.qJ (k + 1);have hrow:=sm.hel _ (List.getElem_mem hk);rw [ZbH hk] at hm2;rw [ZbH hk];rw [List.length_append,List.length_map] at hm2;unfold Zj7;dsimp only;rw [ZG hk,Cq1,YW hk];simp only [Bq0];refine Ye (fun j=>(w.qK.flatten ++ QY (w.qJ.take k) ++ (w.qJ[k].take j).map (fun y=>y.msg),(j:Int))) (by simp) (n:=w.qJ[k].length) (by omega) (fun j hj nx=>?_) (fun nx=>?_)
   ·unfold Zn1;dsimp only;rw [ZG hj,Cq1,YW hj];simp only [Bq0];rw [Zq9 (by rw [List.length_append,List.length_append,List.length_map,List.length_take,List.length_singleton];omega)];simp only [Bq0];rw [Yw (by omega),List.take_add_one,List.getElem?_eq_getElem hj,List.map_append];simp
   ·unfold Zn1;dsimp only;rw [ZQ,Cq0,List.take_of_length_le (Nat.le_refl _),Yw (by omega),List.append_assoc]
  ·unfold Zj7;dsimp only;rw [ZQ,Cq0,List.take_of_length_le (Nat.le_refl _)];exact h3
 unfold ZBL;refine Ye (fun k=>((w.qK.take k).flatten,(k:Int))) (by simp) (n:=w.qK.length) (by omega) (fun k hk next=>?_) (fun next=>?_)
 ·have hm:=Ku w.qK k;have hm2:=Ku w.qK (k + 1);rw [ZdB hk,List.length_append] at hm2;rw [ZdB hk];unfold Zn2;dsimp only;rw [ZG hk,Cq1,YW hk];simp only [Bq0];rw [Zq9 (by omega)];simp only [Bq0];rw [Yw (by omega)]
 ·unfold Zn2;dsimp only;rw [ZQ,Cq0,List.take_of_length_le (Nat.le_refl _)];exact h1
def ZdV (n:Nat) (l:List Int):List Bool:= (List.range n).map fun i:Nat=>decide (((i:Nat):Int) ∈ l)
theorem ZvW {n:Nat} {l:List Int} {x:Int} (h0:0 <=x) (h1:x < (n:Int)):ZL (ZdV n l) x=some (decide (x ∈ l)):=by
 obtain⟨k,rfl⟩:∃ k:Nat,x= (k:Int):= ⟨x.toNat,by omega⟩
 rw [YM default (by simp [ZdV];omega)];simp [ZdV,show k < n by omega]
theorem ZvV {n:Nat} {l:List Int} {x:Int} (h0:0 <=x) (h1:x < (n:Int)):Yl (ZdV n l) x true=ZdV n (l ++ [x]):=by
 obtain⟨k,rfl⟩:∃ k:Nat,x= (k:Int):= ⟨x.toNat,by omega⟩
 unfold Yl ZdV;rw [Int.toNat_natCast];apply List.ext_getElem?;intro i;rw [List.getElem?_set];by_cases hi:i < n
 ·by_cases e:k=i
  ·subst e;rw [if_pos rfl];simp [hi]
  ·rw [if_neg e];have:((i:Int)= (k:Int))↔False:= ⟨fun q=>e (by omega),False.elim⟩
   simp [hi,this]
 ·by_cases e:k=i
  ·subst e;omega
  ·rw [if_neg e];simp [hi]
theorem Zef {α:Type} {l:List α}:l.Nodup↔∀ k (h:k < l.length),l[k] ∉ l.take k:=by
 constructor
 ·intro hn k hk hm;obtain⟨j,hj,e⟩:=List.getElem_of_mem hm;rw [List.length_take] at hj;rw [List.getElem_take] at e;have:= (List.getElem_inj hn).1 e;omega
 ·intro h;rw [List.nodup_iff_pairwise_ne] <;> skip
  rw [List.pairwise_iff_getElem];intro i j hi hj hij e;exact h j hj (by rw [← e];exact List.mem_take_iff_getElem.2 ⟨i,by omega,rfl⟩)
theorem Zi0 {l:List Int} {n:Nat}:l.Perm (XG n)↔l.Nodup∧(∀ x ∈ l,0 <=x∧x < (n:Int))∧l.length=n:=by
 have hn:(XG n).Nodup:=by
  unfold XG;exact List.Pairwise.map _ (fun a b h q=>h (by have:((a:Nat):Int)= ((b:Nat):Int):=q;omega)) List.nodup_range
 constructor
 ·intro h;refine⟨h.nodup_iff.2 hn,fun x hx=>?_,by rw [h.length_eq,Jc]⟩;have:=h.mem_iff.1 hx;unfold XG at this;obtain⟨k,hk,rfl⟩:=List.mem_map.1 this;have:=List.mem_range.1 hk;exact⟨by show(0:Int) <= (k:Int);omega,by show(k:Int) < _;omega⟩
 ·rintro⟨h1,h2,h3⟩
  have hsub:l ⊆ XG n:=fun x hx=>by
   obtain⟨a,b⟩:=h2 x hx;unfold XG;exact List.mem_map.2 ⟨x.toNat,List.mem_range.2 (by omega),by show((x.toNat:Nat):Int)=x;omega⟩
  have hsub2:XG n ⊆ l:=fun x hx=>by
   apply Classical.byContradiction;intro hx2
   have:= (List.nodup_cons.2 ⟨hx2,h1⟩).length_le_of_subset (l₂:=XG n) (fun y hy=>by
    rcases List.mem_cons.1 hy with z | z
    ·rw [z];exact hx
    ·exact hsub z)
   rw [List.length_cons,Jc] at this;omega
  exact(List.perm_ext_iff_of_nodup h1 hn).2 fun a=>⟨fun h=>hsub h,fun h=>hsub2 h⟩
theorem Zx5 {F:Nat} (hF:400000 <=F) {w:Zb} (h0:0 <=w.said) {l:List Int} (hl:l.length <=330000):∃ b,loop F (Zew w l) (0,List.replicate w.said.toNat false)=some b∧(b=true↔l.Perm (XG w.said.toNat)):=by
 rw [Zi0]
 refine JW false (some ((l.length:Int)==w.said)) (fun k=>((k:Int),ZdV w.said.toNat (l.take k))) (by
  simp only [List.take_zero];congr 1;unfold ZdV;apply List.ext_getElem?;intro i;by_cases hi:i < w.said.toNat <;> simp [hi]) (fun k=>∃ h:k < l.length,¬ (0 <=l[k]∧l[k] < w.said∧l[k] ∉ l.take k)) (n:=l.length) (by omega) (fun k hk=>?_) (fun next=>?_) (fun k hk hc=>?_) (fun hno=>⟨_,rfl,?_⟩)
 ·by_cases hr:0 <=l[k]∧l[k] < w.said
  ·have hr2:l[k] < (w.said.toNat:Int):=by omega
   have b0:∀ next,Zew w l ((k:Int),ZdV w.said.toNat (l.take k)) next=bif decide (l[k] ∈ l.take k) then some false else next (((k + 1:Nat):Int),ZdV w.said.toNat (l.take (k + 1))):=fun next=>by
    unfold Zew;dsimp only;rw [ZG hk,Cq1,YW hk];simp only [Bq0];rw [decide_eq_false (show ¬ l[k] < 0 by omega),decide_eq_false (show ¬ l[k] >=w.said by omega)];simp only [Bool.or_self,Bool.not_false,YN];rw [ZvW hr.1 hr2];simp only [Bq0,Bool.false_or];rw [ZvV hr.1 hr2,Yw (by omega),List.take_add_one,List.getElem?_eq_getElem hk];rfl
   by_cases hs:l[k] ∈ l.take k
   ·refine .inl ⟨fun next=>?_,hk,fun q=>q.2.2 hs⟩;rw [b0,decide_eq_true hs];rfl
   ·refine .inr ⟨fun next=>?_,fun⟨_,q⟩=>q ⟨hr.1,hr.2,hs⟩⟩;rw [b0,decide_eq_false hs];rfl
  ·refine .inl ⟨fun next=>?_,hk,fun q=>hr ⟨q.1,q.2.1⟩⟩;unfold Zew;dsimp only;rw [ZG hk,Cq1,YW hk];simp only [Bq0]
   have:(decide (l[k] < 0) || decide (l[k] >=w.said))=true:=by
    rw [← Bool.not_eq_false];intro z;simp only [Bool.or_eq_false_iff,decide_eq_false_iff_not] at z;exact hr ⟨by omega,by omega⟩
   rw [this];rfl
 ·unfold Zew;dsimp only;rw [ZQ];rfl
 ·obtain⟨h,q⟩:=hc;simp only [Bool.false_eq_true,false_iff];rintro⟨n1,n2,_⟩;have:=n2 _ (List.getElem_mem h);exact q ⟨this.1,by omega,Zef.1 n1 k h⟩
 ·have hall:∀ k (h:k < l.length),0 <=l[k]∧l[k] < w.said∧l[k] ∉ l.take k:=fun k h=>Classical.byContradiction fun q=>hno k h ⟨h,q⟩
  rw [beq_iff_eq]
  constructor
  ·intro h;refine⟨Zef.2 fun k hk=>(hall k hk).2.2,fun x hx=>?_,by omega⟩;obtain⟨k,hk,rfl⟩:=List.getElem_of_mem hx;have:=hall k hk;exact⟨this.1,by omega⟩
  ·rintro⟨_,_,h⟩;omega
noncomputable def ifc {α:Sort _} (c:Prop) (a b:α):α:=@ite α c (Classical.propDecidable c) a b
theorem XH {α:Sort _} {c:Prop} (h:c) {a b:α}:ifc c a b=a:=by unfold ifc;exact if_pos h
theorem XU {α:Sort _} {c:Prop} (h:¬ c) {a b:α}:ifc c a b=b:=by unfold ifc;exact if_neg h
theorem UE {β γ:Type} {body:γ ->(γ ->Option β) ->Option β} {r1 r2:Option β} {s0:γ} (S:Nat ->γ) (h0:S 0=s0) (c:Nat ->Prop) {n F:Nat} (hF:n < F)
 (hb:∀ k,k < n ->∀ next,body (S k) next=ifc (c k) (next (S (k + 1))) r1) (he:∀ next,body (S n) next=r2):loop F body s0=ifc (∀ k,k < n ->c k) r2 r1:=by
 by_cases hall:∀ k,k < n ->c k
 ·rw [XH hall];exact Ye S h0 hF (fun k hk next=>by rw [hb k hk,XH (hall k hk)]) he
 ·rw [XU hall];have hz:∃ k,k < n∧¬ c k:=Classical.byContradiction fun q=>hall fun p hp=>Classical.byContradiction fun q2=>q ⟨p,hp,q2⟩
  obtain⟨k0,hk0⟩:=hz;obtain⟨m,_,hm,hlt⟩:=Qd (c:=fun k=>k < n∧¬ c k) hk0;exact Ye S h0 (n:=m) (by omega) (fun k hk next=>by rw [hb k (by omega),XH (Classical.byContradiction fun q=>hlt k hk ⟨by omega,q⟩)]) (fun next=>by rw [hb m hm.1,XU hm.2])
theorem Zy7 {α:Type} {z:α} {c:Nat} {a:Int} (h0:0 <=a) (h:c * a.toNat <=100000):mkL z c a a=some (List.replicate a.toNat z):=by
 unfold mkL;have e:Nat.ble (c * a.toNat) 100000=true:=by rw [Nat.ble_eq];exact h
 rw [decide_eq_true h0,decide_eq_true (show a <=a by omega),e];rfl
theorem Zgk {c:Prop} {b:Bool} (h:b=true↔c) {β:Type} (x y:β):(bif !b then x else y)=ifc c y x:=by
 cases b with
 | true=>rw [XH (h.1 rfl)];rfl
 | false=>rw [XU (fun q=>by have:=h.2 q;cases this)];rfl
def Zrr (w:Zb) (p:Nat):Prop:=0 <=inn w p ->(U9 w p).is= (U9 w (inn w p).toNat).is∧(U9 w p).at_= (U9 w (inn w p).toNat).at_∧(U9 w p).letter= (U9 w (inn w p).toNat).letter
def Zxe (w:Zb) (m p:Nat):Prop:= (E w m p).here=false ->RtX w p (E w m p).ZX (E w m p).age
def Zro (w:Zb) (x:Zf):Prop:= (x.kind=1 ->UQ w x.ZX x.ZV false)∧(x.kind=3 ->RtX w x.place.toNat x.at_ x.age)
section
variable {F:Nat} {w:Zb}
theorem Zyh (hF:400000 <=F) (sm:UW 400 w) (h:ShR w):loop F (ZgN F w (Zbs w)) 0=ifc (∀ k,k < w.qG.length ->Zro w (ZP w k)) (some (decide ((msgs w).Perm (XG w.said.toNat)))) (some false):=by
 have W3:=sm.qG;have s:=h.Kv;refine UE (fun k=>(k:Int)) rfl (fun k=>Zro w (ZP w k)) (n:=w.qG.length) (by omega) (fun k hk next=>?_) (fun next=>?_)
 ·have hl:=h.Xr (ZP w k) (YP hk);unfold ZgN;rw [ZG hk,Cq1,YM default hk];simp only [Bq0]
  change (gd ((ZP w k).kind==1) (ZqG w (Zbs w) (ZP w k).ZV (ZP w k).ZX false) default).bind (fun Zo6=>(gd ((!(((ZP w k).kind==1) && (!Zo6))) && ((ZP w k).kind==3)) (ZL (Zbs w) (ZP w k).place) default).bind fun Zo5=>(gd ((!(((ZP w k).kind==1) && (!Zo6))) && ((ZP w k).kind==3)) (Zn3 w (ZP w k).place Zo5 (ZP w k).at_ (ZP w k).age) default).bind fun x159=>(bif((((ZP w k).kind==1) && (!Zo6)) || (((ZP w k).kind==3) && (!x159))) then some false else next (Y2 ((k:Int) + 1))))=_
  rw [Yw (by omega)];generalize ZP w k=x at hl ⊢;by_cases k1:x.kind=1
  ·obtain⟨b,e,i⟩:=ZpS s h.two x.ZX x.ZV false;have k3:(x.kind==3)=false:=by rw [beq_eq_false_iff_ne];omega
   rw [show(x.kind==1)=true from beq_iff_eq.2 k1,k3,YN,e];simp only [Bq0,Bool.true_and,Bool.and_false,XC,Bool.false_and,Bool.or_false];have hi:b=true↔Zro w x:=i.trans ⟨fun q=>⟨fun _=>q,fun q2=>by omega⟩,fun q=>q.1 k1⟩;exact Zgk hi _ _
  ·rw [show(x.kind==1)=false from beq_eq_false_iff_ne.2 k1,XC];simp only [Bq0,Bool.false_and,Bool.not_false,Bool.true_and,Bool.false_or];by_cases k3:x.kind=3
   ·obtain⟨n1,n2,n3⟩:=hl.ntd k3;obtain⟨p,hp⟩:∃ p:Nat,x.place= (p:Int):= ⟨x.place.toNat,by omega⟩
    have hpl:p < w.Zx.length:=by omega
    rw [show(x.kind==3)=true from beq_iff_eq.2 k3,YN,hp,Zcs hpl];simp only [Bq0,YN];rw [Zgg s h.two hpl];simp only [Bq0,Bool.true_and]
    have hi:decide (RtX w p x.at_ x.age)=true↔Zro w x:=by
     rw [decide_eq_true_eq];unfold Zro;rw [hp,Int.toNat_natCast];exact⟨fun q=>⟨fun q2=>absurd q2 k1,fun _=>q⟩,fun q=>q.2 k3⟩
    exact Zgk hi _ _
   ·rw [show(x.kind==3)=false from beq_eq_false_iff_ne.2 k3,XC];simp only [Bq0,XC,Bool.false_and,Cq0];rw [XH (show Zro w x from⟨fun q=>absurd q k1,fun q=>absurd q k3⟩)]
 ·unfold ZgN;rw [ZQ,Cq0,Zm4 hF sm];simp only [Bq0];have h1:=h.sd1;have h2:=h.sd2;rw [Zy7 h1 (by omega)];simp only [Bq0]
  have hm:(msgs w).length <=320400:=by
   obtain⟨B1,B2,B3⟩:=BdM.of sm;unfold msgs;rw [List.length_append,List.length_append];omega
  obtain⟨b,e,i⟩:=Zx5 hF h.sd1 (l:=msgs w) (by omega);rw [e];congr 1;by_cases hq:(msgs w).Perm (XG w.said.toNat)
  ·rw [decide_eq_true hq];exact i.2 hq
  ·rw [decide_eq_false hq,← Bool.not_eq_true,i];exact hq
theorem Zyi (hF:400000 <=F) (sm:UW 400 w) (h:ShR w):loop F (ZgO F w) (Zbs w,0)=ifc (∀ m,m < w.qJ.length ->∀ k,k < (ZH w m).length ->UQ w (m:Int) ((ZH w m).getD k default) true) (loop F (ZgN F w (Zbs w)) 0) (some false):=by
 have W2:=sm.qJ;have s:=h.Kv;refine UE (fun m=>(Zbs w,(m:Int))) rfl (fun m=>∀ k,k < (ZH w m).length ->UQ w (m:Int) ((ZH w m).getD k default) true) (n:=w.qJ.length) (by omega) (fun m hm next=>?_) (fun next=>?_)
 ·have hrow:=sm.hel (ZH w m) (YP hm);unfold ZgO;dsimp only;rw [ZG hm,Cq1,YM [] hm];simp only [Bq0]
  change loop F (Zki w (m:Int) next (ZH w m)) (Zbs w,0)=_
  refine UE (fun j=>(Zbs w,(j:Int))) rfl (fun k=>UQ w (m:Int) ((ZH w m).getD k default) true) (n:= (ZH w m).length) (by omega) (fun j hj nx=>?_) (fun nx=>?_)
  ·unfold Zki;dsimp only;rw [ZG hj,Cq1,YM default hj];simp only [Bq0];obtain⟨b,e,i⟩:=ZpS s h.two (m:Int) ((ZH w m).getD j default) true;rw [e];simp only [Bq0];rw [Yw (by omega)];exact Zgk i _ _
  ·unfold Zki;dsimp only;rw [ZQ,Cq0,Yw (by omega)]
 ·unfold ZgO;dsimp only;rw [ZQ,Cq0]
theorem ZDB (hF:400000 <=F) (h:ShR w):loop F (ZgP F w (Zbs w)) 0=ifc (∀ m,m < w.qQ.length ->∀ p,p < w.Zx.length ->Zxe w m p) (loop F (ZgO F w) (Zbs w,0)) (some false):=by
 have s:=h.Kv;have h5:=s.m2;have h8:=s.p2;refine UE (fun m=>(m:Int)) rfl (fun m=>∀ p,p < w.Zx.length ->Zxe w m p) (n:=w.qQ.length) (by omega) (fun m hm next=>?_) (fun next=>?_)
 ·unfold ZgP;rw [ZG hm,Cq1,s.row hm];simp only [Bq0];refine UE (fun p=>(p:Int)) rfl (fun p=>Zxe w m p) (n:=w.Zx.length) (by omega) (fun p hp nx=>?_) (fun nx=>?_)
  ·unfold Zog;rw [s.len hm,ZG hp,Cq1,s.ent hm hp];simp only [Bq0];rw [Yw (by omega)];cases hh:(E w m p).here with
   | true=>
     simp only [Bool.not_true,XC,Bq0,Bool.false_and,Cq0];rw [XH (show Zxe w m p from fun q=>by rw [hh] at q;cases q)]
   | false=>
     simp only [Bool.not_false,YN,Bool.true_and];rw [Zcs hp];simp only [Bq0];rw [Zgg s h.two hp];simp only [Bq0];exact Zgk (show decide (RtX w p (E w m p).ZX (E w m p).age)=true↔Zxe w m p from by rw [decide_eq_true_eq];exact⟨fun q _=>q,fun q=>q hh⟩) _ _
  ·unfold Zog;rw [s.len hm,ZQ,Cq0,Yw (by omega)]
 ·unfold ZgP;rw [ZQ,Cq0]
theorem ZDA (hF:400000 <=F) (h:ShR w):loop F (ZgQ F w (Zbs w)) 0=ifc (∀ p,p < w.Zx.length ->Zrr w p) (loop F (ZgP F w (Zbs w)) 0) (some false):=by
 have s:=h.Kv;have h5:=s.m2;have h8:=s.p2;refine UE (fun p=>(p:Int)) rfl (fun p=>Zrr w p) (n:=w.Zx.length) (by omega) (fun p hp next=>?_) (fun next=>?_)
 ·unfold ZgQ;rw [ZG hp,Cq1,Xi hp];simp only [Bq0];rw [Yw (by omega)];by_cases hi:0 <=inn w p
  ·obtain⟨q,hq⟩:∃ q:Nat,inn w p= (q:Int):= ⟨(inn w p).toNat,by omega⟩
   have hr:= (h.inn.rng p hp).2;have hql:q < w.Zx.length:=by omega
   rw [hq,decide_eq_true (show(q:Int) >=0 by omega),YN,Zcs hp];simp only [Bq0,YN];rw [Zcs hql];simp only [Bq0,Bool.true_and]
   have t0:Zrr w p↔((U9 w p).is= (U9 w q).is∧(U9 w p).at_= (U9 w q).at_∧(U9 w p).letter= (U9 w q).letter):=by
    unfold Zrr;rw [hq,Int.toNat_natCast];exact⟨fun z=>z (by omega),fun z _=>z⟩
   by_cases a1:(U9 w p).is= (U9 w q).is
   ·rw [a1,Qx];simp only [Bool.not_false,YN,Bq0,Bool.false_or];by_cases a2:(U9 w p).at_= (U9 w q).at_
    ·rw [a2,Qx];simp only [Bool.not_false,YN,Bq0,Bool.false_or];rw [Jf,Zbe];by_cases a3:(U9 w p).letter= (U9 w q).letter
     ·rw [if_neg (fun z=>z a3),XH (t0.2 ⟨a1,a2,a3⟩)]
     ·rw [if_pos a3,XU (fun z=>a3 (t0.1 z).2.2)]
    ·rw [Jf,decide_eq_true a2];simp only [Bool.not_true,XC,Bq0,Bool.true_or,Cq1];rw [XU (fun z=>a2 (t0.1 z).2.1)]
   ·have:((U9 w p).is != (U9 w q).is)=true:=bne_iff_ne.2 a1;rw [this];simp only [Bool.not_true,XC,Bq0,Bool.true_or,Cq1];rw [XU (fun z=>a1 (t0.1 z).1)]
  ·rw [decide_eq_false (show ¬ inn w p >=0 by omega)];simp only [XC,Bq0,Bool.false_and,Cq0];rw [XH (show Zrr w p from fun q=>absurd q hi)]
 ·unfold ZgQ;rw [ZQ,Cq0]
def ZmJ (w:Zb) (k:Nat):List XR:= (List.range k).map (U9 w) ++ List.replicate (w.Zx.length - k) ⟨0,0,0,false⟩
theorem ZxS {w:Zb} {k:Nat} (h:k < w.Zx.length):Yl (ZmJ w k) (k:Int) (U9 w k)=ZmJ w (k + 1):=by
 unfold Yl ZmJ;rw [Int.toNat_natCast,show w.Zx.length - k= (w.Zx.length - (k + 1)) + 1 by omega,List.replicate_succ,List.set_append_right _ _ (by simp),List.range_succ,List.map_append];simp
theorem ZxT {w:Zb} {k:Nat} (h:k <=w.Zx.length):(ZmJ w k).length=w.Zx.length:=by simp [ZmJ];omega
theorem Zv0 (hF:400000 <=F) (sm:UW 400 w) (h:ShR w):loop F (Zkj F w) (0,List.replicate w.Zx.length ⟨0,0,0,false⟩)=ifc (∀ p,p < w.Zx.length ->(QX w p).length=1) (loop F (ZgQ F w (Zbs w)) 0) (some false):=by
 have s:=h.Kv;have h5:=s.m2;have h8:=s.p2;have W:=sm.qG;refine UE (fun p=>((p:Int),ZmJ w p)) (by simp [ZmJ]) (fun p=>(QX w p).length=1) (n:=w.Zx.length) (by omega) (fun p hp next=>?_) (fun next=>?_)
 ·unfold Zkj;dsimp only;rw [ZG hp,Cq1,ZqA (by omega) s (fun x hx=>⟨(h.Xr x hx).Xp.len,by have:= (sm.Xr x hx).1;omega⟩) (by omega) hp];simp only [Bq0];rw [YM default (by rw [ZxT (by omega)];exact hp)];simp only [Bq0];rw [Yw (by omega),show U1 (QX w p)=U9 w p from rfl,ZxS hp];exact Zgk decide_eq_true_iff _ _
 ·unfold Zkj;dsimp only;rw [ZQ,Cq0,show ZmJ w w.Zx.length=Zbs w from by simp [ZmJ,Zbs]]
end
theorem UQ.ZNA {w:Zb} (hag:∀ p,p < w.Zx.length ->(sp w p).age <=30) {m:Int} {y:Zq}:UQ w m y false↔Ji w m y:=by
 unfold UQ Ji
 constructor
 ·rintro⟨a1,a2,a3,a4,a5,a6,a7,a8,_,b⟩;exact⟨a1,a2,a3,a4,b rfl,a7,by rw [Int.add_comm,Zbq a5 a6];exact a8⟩
 ·rintro⟨a1,a2,a3,a4,b,a7,a8⟩;have h1:=b.1;have h2:=b.2.1;have h3:=hag y.place.toNat (by omega);rw [Int.add_comm,Zbq (by omega) (by omega)] at a8;exact⟨a1,a2,a3,a4,by omega,by omega,a7,a8,fun q=>(by cases q),fun _=>b⟩
theorem UQ.ZNB {w:Zb} (hag:∀ p,p < w.Zx.length ->(sp w p).age <=30) {m:Nat} (hm:m < w.qQ.length) {y:Zq}:UQ w (m:Int) y true↔Ji w (m:Int) y∧sp w y.place.toNat= ⟨(m:Int),false,y.age⟩:=by
 constructor
 ·rintro⟨a1,a2,a3,a4,a5,a6,a7,a8,b,_⟩;have e:=b rfl;refine⟨⟨a1,a2,a3,a4,⟨a5,by rw [e];exact Int.le_refl _,by omega,by omega,fun _=>by rw [e],fun q=>?_⟩,a7,by rw [Int.add_comm,Zbq a5 a6];exact a8⟩,e⟩;rw [e] at q;exact absurd rfl q
 ·rintro⟨⟨a1,a2,a3,a4,b,a7,a8⟩,e⟩;have h1:=b.1;have h2:=b.2.1;have h3:=hag y.place.toNat (by omega);rw [Int.add_comm,Zbq (by omega) (by omega)] at a8;exact⟨a1,a2,a3,a4,by omega,by omega,a7,a8,fun _=>e,fun q=>(by cases q)⟩
theorem Zf8 {w:Zb} (h:ShR w) {p:Nat} (hp:p < w.Zx.length) (hl:(Xa w p).length=1):(sp w p).age <=30:=by
 rcases Zcr hl with⟨m,h1,h2,h3⟩ | ⟨x,h1,h2,i,h3,h4,h5⟩
 ·rw [h3];exact(h.ent m h1 p hp).2.1
 ·rw [h5];exact((h.Xr x h1).Uk i h3).2.2.2.2
theorem Zrq {w:Zb} (h:ShR w) (hl:∀ p,p < w.Zx.length ->(QX w p).length=1) {p:Nat} (hp:p < w.Zx.length):Zrr w p↔(0 <=inn w p ->(sp w (inn w p).toNat).machine= (sp w p).machine∧(sp w (inn w p).toNat).here= (sp w p).here∧((sp w p).here=false ->ZkU w p (inn w p))):=by
 unfold Zrr;by_cases hi:0 <=inn w p
 ·obtain⟨q,hq⟩:∃ q:Nat,inn w p= (q:Int):= ⟨(inn w p).toNat,by omega⟩
  have hr:= (h.inn.rng p hp).2;have hql:q < w.Zx.length:=by omega
  rw [hq,Int.toNat_natCast,← Zhh h.two p,← Zhh h.two q];unfold toS;have same:=fun e=>Zpt h.two (hl p hp) (hl q hql) e
  constructor
  ·intro z _;obtain⟨a,b,c⟩:=z (by omega);exact⟨b.symm,a.symm,(same a).1 c⟩
  ·intro z _;obtain⟨a,b,c⟩:=z (by omega);exact⟨b.symm,a.symm,(same b.symm).2 c⟩
 ·exact⟨fun _ q=>absurd q hi,fun _ q=>absurd q hi⟩
theorem Zjd {w:Zb} {P:Zf ->Prop}:(∀ k,k < w.qG.length ->P (ZP w k))↔∀ x ∈ w.qG,P x:=by
 constructor
 ·intro h x hx;obtain⟨i,hi,rfl⟩:=List.getElem_of_mem hx;have:=h i hi;unfold ZP at this
  rwa [List.getD_eq_getElem?_getD,List.getElem?_eq_getElem hi] at this
 ·intro h k hk;exact h _ (YP hk)
theorem K6 {α:Type} {l:List α} {d:α} {P:α ->Prop}:(∀ k,k < l.length ->P (l.getD k d))↔∀ x ∈ l,P x:=by
 constructor
 ·intro h x hx;obtain⟨i,hi,rfl⟩:=List.getElem_of_mem hx;have:=h i hi
  rwa [List.getD_eq_getElem?_getD,List.getElem?_eq_getElem hi] at this
 ·intro h k hk;exact h _ (YP hk)
theorem ZlK {F:Nat} (hF:400000 <=F) {w:Zb} (sm:UW 400 w):∃ b,Zoh F w=some b∧(b=true↔Wd w):=by
 have sm9:UW 900 w:=sm.mono (by omega);obtain⟨b,e,i⟩:=ZvU (F:=F) (by omega) sm9;unfold Zoh;rw [e];simp only [Bq0];rw [Zgk i];by_cases h:ShR w
 ·rw [XH h];have hz:=h.Kv.p2;rw [Zy7 (by omega) (by rw [Int.toNat_natCast];omega),Int.toNat_natCast];simp only [Bq0];rw [Zv0 hF sm h,ZDA hF h,ZDB hF h,Zyi hF sm h,Zyh hF sm h];by_cases h1:∀ p,p < w.Zx.length ->(QX w p).length=1
  ·have h1P:∀ p,p < w.Zx.length ->(Xa w p).length=1:=fun p hp=>by rw [len_eq h.two];exact h1 p hp
   have hag:∀ p,p < w.Zx.length ->(sp w p).age <=30:=fun p hp=>Zf8 h hp (h1P p hp)
   rw [XH h1];by_cases h2:∀ p,p < w.Zx.length ->Zrr w p
   ·rw [XH h2];by_cases h3:∀ m,m < w.qQ.length ->∀ p,p < w.Zx.length ->Zxe w m p
    ·rw [XH h3];have hhd:=h.Kv.hd;by_cases h4:∀ m,m < w.qJ.length ->∀ k,k < (ZH w m).length ->UQ w (m:Int) ((ZH w m).getD k default) true
     ·rw [XH h4];by_cases h5:∀ k,k < w.qG.length ->Zro w (ZP w k)
      ·rw [XH h5];refine⟨_,rfl,?_⟩;rw [decide_eq_true_eq];have h5':= (Zjd (P:=Zro w)).1 h5
       constructor
       ·intro h6;exact⟨h,h1P,fun p hp=>(Zrq h h1 hp).1 (h2 p hp),h3,fun m hm x hx=>(UQ.ZNB hag hm).1 ((K6 (P:=fun x=>UQ w (m:Int) x true)).1 (h4 m (by omega)) x hx),fun x hx hk=>(UQ.ZNA hag).1 ((h5' x hx).1 hk),fun x hx hk=>(h5' x hx).2 hk,h6⟩
       ·intro h6;exact h6.msg
      ·rw [XU h5];refine⟨_,rfl,?_⟩;simp only [Bool.false_eq_true,false_iff];intro z;exact h5 (Zjd.2 fun x hx=>⟨fun q=>(UQ.ZNA hag).2 (z.mai x hx q),fun q=>z.ntd x hx q⟩)
     ·rw [XU h4];refine⟨_,rfl,?_⟩;simp only [Bool.false_eq_true,false_iff];intro z;exact h4 fun m hm=>(K6 (P:=fun x=>UQ w (m:Int) x true)).2 fun x hx=>(UQ.ZNB hag (by omega)).2 (z.hel m (by omega) x hx)
    ·rw [XU h3];refine⟨_,rfl,?_⟩;simp only [Bool.false_eq_true,false_iff];intro z;exact h3 z.ent
   ·rw [XU h2];refine⟨_,rfl,?_⟩;simp only [Bool.false_eq_true,false_iff];intro z;exact h2 fun p hp=>(Zrq h h1 hp).2 (z.tog p hp)
  ·rw [XU h1];refine⟨_,rfl,?_⟩;simp only [Bool.false_eq_true,false_iff];intro z;exact h1 fun p hp=>by rw [← len_eq h.two];exact z.loc p hp
 ·rw [XU h];refine⟨_,rfl,?_⟩;simp only [Bool.false_eq_true,false_iff];intro z;exact h z.shr
end Go.Proofs.YtbmbbcaaimehkaaGreat
end
section
namespace Go.Proofs.YtbmbbcaaimehkaaGreat
open Go.Lf
theorem Zx0 {F:Nat} (hF:400000 <=F) (w:Zb):∃ b,ZBR F w=some b∧(b=true ->UW 201 w):=by
 unfold ZBR;refine Jd (fun _=>⟨false,rfl,fun q=>by cases q⟩) (fun hc=>?_);simp only [Bool.or_eq_false_iff,decide_eq_false_iff_not] at hc;obtain⟨⟨⟨⟨c1,c2⟩,c3⟩,c4⟩,c5⟩:=hc
 have e3:loop F (ZgR w) 0=ifc (∀ k,k < w.qG.length ->(ZP w k).qV.length <=20∧(ZP w k).Yd.length <=20) (some true) (some false):=by
  refine UE (fun k=>(k:Int)) rfl (fun k=>(ZP w k).qV.length <=20∧(ZP w k).Yd.length <=20) (n:=w.qG.length) (by omega) (fun k hk next=>?_) (fun next=>?_)
  ·unfold ZgR;rw [ZG hk,Cq1,YM default hk];simp only [Bq0];rw [Yw (by omega),show w.qG.getD k default=ZP w k from rfl];by_cases h:(ZP w k).qV.length <=20∧(ZP w k).Yd.length <=20
   ·rw [XH h,decide_eq_false (by omega),decide_eq_false (by omega)];rfl
   ·rw [XU h]
    have:(decide (((ZP w k).qV.length:Int) > 20) || decide (((ZP w k).Yd.length:Int) > 20))=true:=by
     rw [← Bool.not_eq_false];intro z;simp only [Bool.or_eq_false_iff,decide_eq_false_iff_not] at z;exact h ⟨by omega,by omega⟩
    rw [this];rfl
  ·unfold ZgR;rw [ZQ];rfl
 have e2:loop F (ZgS F w) 0=ifc (∀ k,k < w.qJ.length ->(w.qJ.getD k []).length <=100) (loop F (ZgR w) 0) (some false):=by
  refine UE (fun k=>(k:Int)) rfl (fun k=>(w.qJ.getD k []).length <=100) (n:=w.qJ.length) (by omega) (fun k hk next=>?_) (fun next=>?_)
  ·unfold ZgS;rw [ZG hk,Cq1,YM [] hk];simp only [Bq0];rw [Yw (by omega)];by_cases h:(w.qJ.getD k []).length <=100
   ·rw [XH h,decide_eq_false (by omega)];rfl
   ·rw [XU h,decide_eq_true (by omega)];rfl
  ·unfold ZgS;rw [ZQ];rfl
 have e1:loop F (ZgT F w) 0=ifc (∀ k,k < w.qQ.length ->(w.qQ.getD k []).length <=20) (loop F (ZgS F w) 0) (some false):=by
  refine UE (fun k=>(k:Int)) rfl (fun k=>(w.qQ.getD k []).length <=20) (n:=w.qQ.length) (by omega) (fun k hk next=>?_) (fun next=>?_)
  ·unfold ZgT;rw [ZG hk,Cq1,YM [] hk];simp only [Bq0];rw [Yw (by omega)];by_cases h:(w.qQ.getD k []).length <=20
   ·rw [XH h,decide_eq_false (by omega)];rfl
   ·rw [XU h,decide_eq_true (by omega)];rfl
  ·unfold ZgT;rw [ZQ];rfl
 have e0:loop F (Zkk F w) 0=ifc (∀ k,k < w.qK.length ->(w.qK.getD k []).length <=100) (loop F (ZgT F w) 0) (some false):=by
  refine UE (fun k=>(k:Int)) rfl (fun k=>(w.qK.getD k []).length <=100) (n:=w.qK.length) (by omega) (fun k hk next=>?_) (fun next=>?_)
  ·unfold Zkk;rw [ZG hk,Cq1,YM [] hk];simp only [Bq0];rw [Yw (by omega)];by_cases h:(w.qK.getD k []).length <=100
   ·rw [XH h,decide_eq_false (by omega)];rfl
   ·rw [XU h,decide_eq_true (by omega)];rfl
  ·unfold Zkk;rw [ZQ];rfl
 rw [e0];by_cases h0:∀ k,k < w.qK.length ->(w.qK.getD k []).length <=100
 ·rw [XH h0,e1];by_cases h1:∀ k,k < w.qQ.length ->(w.qQ.getD k []).length <=20
  ·rw [XH h1,e2];by_cases h2:∀ k,k < w.qJ.length ->(w.qJ.getD k []).length <=100
   ·rw [XH h2,e3];by_cases h3:∀ k,k < w.qG.length ->(ZP w k).qV.length <=20∧(ZP w k).Yd.length <=20
    ·rw [XH h3];refine⟨true,rfl,fun _=>⟨by omega,by omega,by omega,by omega,by omega,fun l hl=>?_,fun l hl=>?_,fun l hl=>?_,fun l hl=>?_⟩⟩
     ·have:= (K6 (P:=fun l:List Int=>l.length <=100)).1 h0 l hl;omega
     ·have:= (K6 (P:=fun l:List Zz=>l.length <=20)).1 h1 l hl;omega
     ·have:= (K6 (P:=fun l:List Zq=>l.length <=100)).1 h2 l hl;omega
     ·have:= (Zjd (P:=fun x=>x.qV.length <=20∧x.Yd.length <=20)).1 h3 l hl;omega
    ·rw [XU h3];exact⟨false,rfl,fun q=>by cases q⟩
   ·rw [XU h2];exact⟨false,rfl,fun q=>by cases q⟩
  ·rw [XU h1];exact⟨false,rfl,fun q=>by cases q⟩
 ·rw [XU h0];exact⟨false,rfl,fun q=>by cases q⟩
def nx (w:Zb) (p m:Nat):Nat:= (E w m p).ZX.toNat
def tr (w:Zb) (p m:Nat):Nat ->Nat
 | 0=>m
 | i + 1=>nx w p (tr w p m i)
section
variable {F:Nat} {w:Zb}
theorem Wd.mvd (h:Wd w) (sm:UW 900 w):Mvd 900 w.qG:=fun x hx hk=>by
 have h1:= (h.shr.Xr x hx).Xp.len;have h2:=sm.Xr x hx
 first
  | exact⟨h1,by omega⟩
  | exact⟨by omega,h1⟩
theorem ZaU (hF:1000 <=F) (hM:F <=1000000) (h:Wd w) (sm:UW 900 w) {p:Nat} (hp:p < w.Zx.length):Zeq F w (p:Int)=some (sp w p,1):=by
 rw [ZiG hF hM h.shr.Kv (h.mvd sm) sm.qG hp,h.loc p hp];rfl
theorem ZdC (hF:1000 <=F) (h:Wd w) (sm:UW 900 w) {p:Nat} (hp:p < w.Zx.length):ZgG F w (p:Int)=some (U9 w p,true):=by
 rw [ZqA hF h.shr.Kv (fun x hx=>⟨(h.shr.Xr x hx).Xp.len,by have:= (sm.Xr x hx).1;omega⟩) sm.qG hp,← len_eq h.shr.two,h.loc p hp];rfl
end
end Go.Proofs.YtbmbbcaaimehkaaGreat
end
section
namespace Go.Proofs.YtbmbbcaaimehkaaGreat
open Go.Lf
section
variable {F:Nat} {w:Zb}
theorem ZB2 (hF:400000 <=F) (hM:F <=1000000) (sm:UW 400 w) (h:¬ Wd w):ZqH F w=some 2:=by
 obtain⟨e,h1,h2,h3⟩:=ZkA hF hM sm;rw [h1];rcases h2 with q | q
 ·exact absurd (h3.1 q) h
 ·rw [q]
theorem ZqY (hF:400000 <=F) (hM:F <=1000000) (sm:UW 400 w) (h:Wd w):ZqH F w=some 0:=by
 obtain⟨e,h1,h2,h3⟩:=ZkA hF hM sm;rw [h1,h3.2 h]
theorem ZxC (hF:400000 <=F) (sm:UW 400 w) (h:¬ Wd w):Zoh F w=some false:=by
 obtain⟨b,h1,h2⟩:=ZlK hF sm;rw [h1];cases b with
 | false=>rfl
 | true=>exact absurd (h2.1 rfl) h
theorem Zo9 (hF:400000 <=F) (sm:UW 400 w) (h:Wd w):Zoh F w=some true:=by
 obtain⟨b,h1,h2⟩:=ZlK hF sm;rw [h1,h2.2 h]
end
end Go.Proofs.YtbmbbcaaimehkaaGreat
end
section
namespace Go.Proofs.YtbmbbcaaimehkaaGreat
open Go.Lf
theorem app0 {α:Type} {b:Nat} {l:List α} (h:l.length <=900000) (hb:b <=1000):app b [] l=some l:=by
 rw [Zg9 (by simp;omega) hb];rfl
theorem Zg1 {α β:Type} {F b:Nat} {l:List (List α)} {g:List α ->Option (List α)} {body:List (List α)×Int ->(List (List α)×Int ->Option β) ->Option β} {r:Option β} {s:List (List α)×Int} (hs:s= ([],0)) (hF:l.length < F) (hl:l.length <=900)
 (hb:∀ k (h:k < l.length) next,body (l.take k,(k:Int)) next=next (l.take (k + 1),((k + 1:Nat):Int))) (he:∀ next,body (l,(l.length:Int)) next=r):loop F body s=r:=by
 subst hs;exact Ye (fun k=>(l.take k,(k:Int))) (by simp) hF hb (fun next=>by rw [List.take_of_length_le (Nat.le_refl _)];exact he next)
theorem WK {α:Type} {l:List α} {k b:Nat} (h:k < l.length) (hl:l.length <=900) (hb:b <=1000):app b (l.take k) [l[k]]=some (l.take (k + 1)):=by
 rw [app1 (by rw [List.length_take];omega) hb,List.take_add_one,List.getElem?_eq_getElem h];rfl
theorem ZwQ {F:Nat} (hF:1000 <=F) {l:List (List Int)} (hl:l.length < 900) (hr:∀ x ∈ l,x.length < 900):ZBB F l=some l:=by
 unfold ZBB;refine Zg1 (b:=8) (g:=fun _=>none) (l:=l) rfl (by omega) (by omega) (fun k h next=>?_) (fun next=>?_)
 ·have:=hr _ (List.getElem_mem h);unfold ZnR;dsimp only;rw [ZG h,Cq1,YW h];simp only [Bq0];unfold ZnT;rw [app0 (by omega) (by omega)];simp only [Bq0];rw [WK h (by omega) (by omega)];simp only [Bq0];rw [Yw (by omega)]
 ·unfold ZnR;dsimp only;rw [ZQ];rfl
theorem Zoz {F:Nat} (hF:1000 <=F) {l:List (List Zz)} (hl:l.length < 900) (hr:∀ x ∈ l,x.length < 900):ZBA F l=some l:=by
 unfold ZBA;refine Zg1 (b:=8) (g:=fun _=>none) (l:=l) rfl (by omega) (by omega) (fun k h next=>?_) (fun next=>?_)
 ·have:=hr _ (List.getElem_mem h);unfold ZnQ;dsimp only;rw [ZG h,Cq1,YW h];simp only [Bq0];unfold Zvc;rw [app0 (by omega) (by omega)];simp only [Bq0];rw [WK h (by omega) (by omega)];simp only [Bq0];rw [Yw (by omega)]
 ·unfold ZnQ;dsimp only;rw [ZQ];rfl
theorem Ztk {F:Nat} (hF:1000 <=F) {l:List (List Zq)} (hl:l.length < 900) (hr:∀ x ∈ l,x.length < 900):ZBz F l=some l:=by
 unfold ZBz;refine Zg1 (b:=8) (g:=fun _=>none) (l:=l) rfl (by omega) (by omega) (fun k h next=>?_) (fun next=>?_)
 ·have:=hr _ (List.getElem_mem h);unfold ZnP;dsimp only;rw [ZG h,Cq1,YW h];simp only [Bq0];unfold Zvb;rw [app0 (by omega) (by omega)];simp only [Bq0];rw [WK h (by omega) (by omega)];simp only [Bq0];rw [Yw (by omega)]
 ·unfold ZnP;dsimp only;rw [ZQ];rfl
theorem ZwP {F:Nat} (hF:1000 <=F) {w:Zb} (sm:UW 900 w):ZBO F w=some w:=by
 have h1:=sm.Zx;have h2:=sm.qG;unfold ZBO ZnT;rw [app0 (by omega) (by omega)];simp only [Bq0];rw [ZwQ hF sm.qK sm.box,Zoz hF sm.qQ sm.row,Ztk hF sm.qJ sm.hel];simp only [Bq0];refine Ye (fun k=>((k:Int),w.qG.take k)) (by simp) (n:=w.qG.length) (by omega) (fun k h next=>?_) (fun next=>?_)
 ·have:=sm.Xr _ (List.getElem_mem h);unfold Zn6;dsimp only;rw [ZG h,Cq1,YW h];simp only [Bq0];unfold ZnT;rw [app0 (by omega) (by omega),app0 (by omega) (by omega)];simp only [Bq0];rw [show Zf.mk w.qG[k].kind w.qG[k].ZX w.qG[k].ZV w.qG[k].qV w.qG[k].Yd w.qG[k].place w.qG[k].at_ w.qG[k].age=w.qG[k] from rfl,WK h (by omega) (by omega)];simp only [Bq0];rw [Yw (by omega)]
 ·unfold Zn6;dsimp only;rw [ZQ,Cq0,List.take_of_length_le (Nat.le_refl _)]
theorem ZBZ {F:Nat} (hF:1000 <=F) {w:Zb} (sm:UW 900 w):ZBI F w=some w:=by
 have h1:=sm.Zx;have h2:=sm.qG;have h3:=sm.qK;have h4:=sm.qQ;have h5:=sm.qJ
 have e3:loop F (Zj1 w w.Zx w.qK w.qQ w.qJ) (0,[])=some w:=by
  refine Ye (fun k=>((k:Int),w.qG.take k)) (by simp) (n:=w.qG.length) (by omega) (fun k h next=>?_) (fun next=>?_)
  ·have:=sm.Xr _ (List.getElem_mem h);unfold Zj1;dsimp only;rw [ZG h,Cq1,YW h];simp only [Bq0];rw [app0 (by omega) (by omega),app0 (by omega) (by omega)];simp only [Bq0];rw [show Zf.mk w.qG[k].kind w.qG[k].ZX w.qG[k].ZV w.qG[k].qV w.qG[k].Yd w.qG[k].place w.qG[k].at_ w.qG[k].age=w.qG[k] from rfl,WK h (by omega) (by omega)];simp only [Bq0];rw [Yw (by omega)]
  ·unfold Zj1;dsimp only;rw [ZQ,Cq0,List.take_of_length_le (Nat.le_refl _)]
 have e2:loop F (Zj2 F w w.Zx w.qK w.qQ) (0,[])=some w:=by
  refine Ye (fun k=>((k:Int),w.qJ.take k)) (by simp) (n:=w.qJ.length) (by omega) (fun k h next=>?_) (fun next=>?_)
  ·have:=sm.hel _ (List.getElem_mem h);unfold Zj2;dsimp only;rw [ZG h,Cq1,YW h];simp only [Bq0];rw [app0 (by omega) (by omega)];simp only [Bq0];rw [WK h (by omega) (by omega)];simp only [Bq0];rw [Yw (by omega)]
  ·unfold Zj2;dsimp only;rw [ZQ,Cq0,List.take_of_length_le (Nat.le_refl _)];exact e3
 have e1:loop F (Zj3 F w w.Zx w.qK) (0,[])=some w:=by
  refine Ye (fun k=>((k:Int),w.qQ.take k)) (by simp) (n:=w.qQ.length) (by omega) (fun k h next=>?_) (fun next=>?_)
  ·have:=sm.row _ (List.getElem_mem h);unfold Zj3;dsimp only;rw [ZG h,Cq1,YW h];simp only [Bq0];rw [app0 (by omega) (by omega)];simp only [Bq0];rw [WK h (by omega) (by omega)];simp only [Bq0];rw [Yw (by omega)]
  ·unfold Zj3;dsimp only;rw [ZQ,Cq0,List.take_of_length_le (Nat.le_refl _)];exact e2
 unfold ZBI;rw [app0 (by omega) (by omega)];simp only [Bq0];refine Ye (fun k=>((k:Int),w.qK.take k)) (by simp) (n:=w.qK.length) (by omega) (fun k h next=>?_) (fun next=>?_)
 ·have:=sm.box _ (List.getElem_mem h);unfold Zn0;dsimp only;rw [ZG h,Cq1,YW h];simp only [Bq0];rw [app0 (by omega) (by omega)];simp only [Bq0];rw [WK h (by omega) (by omega)];simp only [Bq0];rw [Yw (by omega)]
 ·unfold Zn0;dsimp only;rw [ZQ,Cq0,List.take_of_length_le (Nat.le_refl _)];exact e1
def J9 (p:Int) (n:Nat):Prop:=0 <=p∧p < (n:Int)
instance (p:Int) (n:Nat):Decidable (J9 p n):=by unfold J9;infer_instance
def Ask (w:Zb) (s:ZF):Prop:=
 (s.act=1∧J9 s.a w.qQ.length∧J9 s.b w.Zx.length)∨(s.act=2∧J9 s.a w.Zx.length∧J9 s.b w.qQ.length)∨(s.act=3∧J9 s.a w.Zx.length∧J9 s.b w.Zx.length)∨(s.act=4∧J9 s.a w.Zx.length)∨(s.act=5∧J9 s.a w.qG.length)
instance (w:Zb) (s:ZF):Decidable (Ask w s):=by unfold Ask;infer_instance
theorem Zm6 (p:Int) (n:Nat):(decide (p >=0) && decide (p < (n:Int)))=decide (J9 p n):=by
 by_cases h:J9 p n
 ·rw [decide_eq_true h,decide_eq_true h.1,decide_eq_true h.2];rfl
 ·rw [decide_eq_false h,← Bool.not_eq_true];intro z;simp only [Ba0,decide_eq_true_eq] at z;exact h ⟨z.1,z.2⟩
theorem ZDL (p:Int) (n:Nat):Zh2 p (n:Int)=some (decide (J9 p n)):=by unfold Zh2;rw [Zm6]
theorem ZFG (w:Zb) (s:ZF):Zs7 w s=some (decide (Ask w s)):=by
 have e:∀ k:Int,(s.act==k)=decide (s.act=k):=fun k=>Z6 _ _
 unfold Zs7;simp only [ZDL,Bq0,Zm6];by_cases h1:s.act=1
 ·rw [e,decide_eq_true h1,Cq1];by_cases a:J9 s.a w.qQ.length
  ·by_cases b:J9 s.b w.Zx.length
   ·simp [Ask,h1,a,b,gd]
   ·simp [Ask,h1,a,b,gd]
  ·simp [Ask,h1,a,gd]
 rw [e 1,decide_eq_false h1,Cq0];by_cases h2:s.act=2
 ·rw [e,decide_eq_true h2,Cq1];by_cases a:J9 s.a w.Zx.length
  ·by_cases b:J9 s.b w.qQ.length
   ·simp [Ask,h2,a,b,gd]
   ·simp [Ask,h2,a,b,gd]
  ·simp [Ask,h2,a,gd]
 rw [e 2,decide_eq_false h2,Cq0];by_cases h3:s.act=3
 ·rw [e,decide_eq_true h3,Cq1];by_cases a:J9 s.a w.Zx.length
  ·by_cases b:J9 s.b w.Zx.length
   ·simp [Ask,h3,a,b,gd]
   ·simp [Ask,h3,a,b,gd]
  ·simp [Ask,h3,a,gd]
 rw [e 3,decide_eq_false h3,Cq0];by_cases h4:s.act=4
 ·rw [e,decide_eq_true h4,Cq1];by_cases a:J9 s.a w.Zx.length
  ·simp [Ask,h4,a]
  ·simp [Ask,h4,a]
 rw [e 4,decide_eq_false h4,Cq0];by_cases h5:s.act=5
 ·rw [e,decide_eq_true h5,Cq1];by_cases a:J9 s.a w.qG.length
  ·simp [Ask,h5,a]
  ·simp [Ask,h5,a]
 rw [e 5,decide_eq_false h5,Cq0];simp [Ask,h1,h2,h3,h4,h5]
theorem ZCi (w:Zb) (s:ZF):Zs5 w s=some (decide (Ask w s)):=by
 have e:∀ k:Int,(s.act==k)=decide (s.act=k):=fun k=>Z6 _ _
 unfold Zs5 Zob Zke;simp only [Zm6];by_cases h1:s.act=1
 ·rw [e,decide_eq_true h1,Cq1];by_cases a:J9 s.a w.qQ.length
  ·by_cases b:J9 s.b w.Zx.length
   ·simp [Ask,h1,a,b]
   ·simp [Ask,h1,a,b]
  ·simp [Ask,h1,a]
 rw [e 1,decide_eq_false h1,Cq0];by_cases h2:s.act=2
 ·rw [e,decide_eq_true h2,Cq1];by_cases a:J9 s.a w.Zx.length
  ·by_cases b:J9 s.b w.qQ.length
   ·simp [Ask,h2,a,b]
   ·simp [Ask,h2,a,b]
  ·simp [Ask,h2,a]
 rw [e 2,decide_eq_false h2,Cq0];by_cases h3:s.act=3
 ·rw [e,decide_eq_true h3,Cq1];by_cases a:J9 s.a w.Zx.length
  ·by_cases b:J9 s.b w.Zx.length
   ·simp [Ask,h3,a,b]
   ·simp [Ask,h3,a,b]
  ·by_cases b:J9 s.b w.Zx.length
   ·simp [Ask,h3,a,b]
   ·simp [Ask,h3,a,b]
 rw [e 3,decide_eq_false h3,Cq0];by_cases h4:s.act=4
 ·rw [e,decide_eq_true h4,Cq1];by_cases a:J9 s.a w.Zx.length
  ·simp [Ask,h4,a]
  ·simp [Ask,h4,a]
 rw [e 4,decide_eq_false h4,Cq0];by_cases h5:s.act=5
 ·rw [e,decide_eq_true h5,Cq1];by_cases a:J9 s.a w.qG.length
  ·simp [Ask,h5,a]
  ·simp [Ask,h5,a]
 rw [e 5,decide_eq_false h5,Cq0];simp [Ask,h1,h2,h3,h4,h5]
def Wth (w:Zb) (p x:Nat):Prop:=∃ j,up w j (x:Int)= (p:Int)
theorem Wth.bound {w:Zb} (hi:Inn w) {p x:Nat} (hx:x < w.Zx.length) (h:Wth w p x):∃ j,j < w.Zx.length∧up w j (x:Int)= (p:Int):=by
 obtain⟨j,e⟩:=h;refine⟨j,Classical.byContradiction fun q=>?_,e⟩;have:=J5 (hi.acy x hx) (show w.Zx.length <=j by omega);omega
def ZvE (w:Zb) (p x:Nat):Bool:= (List.range w.Zx.length).any fun j=>up w j (x:Int)== (p:Int)
theorem ZaR {w:Zb} (hi:Inn w) {p x:Nat} (hx:x < w.Zx.length):ZvE w p x=true↔Wth w p x:=by
 unfold ZvE;rw [List.any_eq_true]
 constructor
 ·rintro⟨j,_,e⟩;exact⟨j,beq_iff_eq.1 e⟩
 ·intro h;obtain⟨j,hj,e⟩:=h.bound hi hx;exact⟨j,List.mem_range.2 hj,beq_iff_eq.2 e⟩
def ZaT (w:Zb) (p k:Nat):List Int:= ((List.range k).filter (ZvE w p)).map Int.ofNat
def Yg (w:Zb) (p:Nat):List Int:=ZaT w p w.Zx.length
theorem ZrL (w:Zb) (p k:Nat):ZaT w p (k + 1)=ZaT w p k ++ (if ZvE w p k then [(k:Int)] else []):=by
 unfold ZaT;rw [List.range_succ,List.filter_append,List.map_append];congr 1;by_cases h:ZvE w p k=true
 ·rw [if_pos h,List.filter_cons,if_pos h];rfl
 ·rw [if_neg h,List.filter_cons,if_neg h];rfl
theorem U8 (w:Zb) (p k:Nat):(ZaT w p k).length <=k:=by
 unfold ZaT;rw [List.length_map];have:=List.length_filter_le (ZvE w p) (List.range k)
 rwa [List.length_range] at this
theorem Zf2 {w:Zb} (hi:Inn w) {p:Nat} {y:Int}:y ∈ Yg w p↔∃ x:Nat,y= (x:Int)∧x < w.Zx.length∧Wth w p x:=by
 unfold Yg ZaT;rw [List.mem_map]
 constructor
 ·rintro⟨x,h1,rfl⟩;obtain⟨h2,h3⟩:=List.mem_filter.1 h1;have:=List.mem_range.1 h2;exact⟨x,rfl,this,(ZaR hi this).1 h3⟩
 ·rintro⟨x,rfl,h1,h2⟩;exact⟨x,List.mem_filter.2 ⟨List.mem_range.2 h1,(ZaR hi h1).2 h2⟩,rfl⟩
theorem ZeO (w:Zb) (p:Nat):(Yg w p).Pairwise (· <=·):=by
 unfold Yg ZaT;rw [List.pairwise_map];exact(List.pairwise_lt_range.filter _).imp fun{a b} h=>by show(a:Int) <= (b:Int);omega
theorem WG (w:Zb) (p:Nat):(Yg w p).Nodup:=by
 unfold Yg ZaT;exact List.Pairwise.map _ (fun a b h q=>h (by have:((a:Nat):Int)= ((b:Nat):Int):=q;omega)) (List.nodup_range.filter _)
theorem Zd6 {F:Nat} (hF:1000 <=F) {w:Zb} (hi:Inn w) (h8:w.Zx.length <=8) {p:Nat} (hp:p < w.Zx.length):ZqF F w.Zx (p:Int)=some (Yg w p):=by
 unfold ZqF;refine Ye (fun k=>(ZaT w p k,(k:Int))) rfl (n:=w.Zx.length) (by omega) (fun k hk next=>?_) (fun next=>?_)
 ·have hlen:=U8 w p k;unfold ZnZ;dsimp only;rw [ZG hk,Cq1,ZrL];obtain⟨m,hm,hc,hlt⟩:=Qd (c:=fun j=>up w j (k:Int)= (p:Int)∨up w j (k:Int) < 0) (.inr (hi.acy k hk));have hok:∀ j,okN w (up w j (k:Int)):=fun j=>hi.up ⟨by omega,by omega⟩ j
  refine Ye (fun j=>(ZaT w p k,up w j (k:Int),(j:Int))) rfl (n:=m) (by omega) (fun j hj nx=>?_) (fun nx=>?_)
  ·have hnc:=hlt j hj;have h1:¬ up w j (k:Int)= (p:Int):=fun q=>hnc (.inl q)
   have h2:¬ up w j (k:Int) < 0:=fun q=>hnc (.inr q)
   have h3:= (hok j).2;unfold ZnY;dsimp only;rw [decide_eq_true (show(j:Int) <= (w.Zx.length:Int) by omega),decide_eq_true (show up w j (k:Int) >=0 by omega),decide_eq_true h3];simp only [Bool.and_self,Cq1];rw [Z6,decide_eq_false h1,Cq0];obtain⟨q,e,hq⟩:=JU (hok j) h2;rw [Qp,if_neg h2,e,Xi hq];simp only [Bq0];rw [Yw (by omega)]
  ·unfold ZnY Zj0;dsimp only;rw [Yw (by omega)];rcases hc with h1 | h1
   ·rw [h1,decide_eq_true (show(m:Int) <= (w.Zx.length:Int) by omega),decide_eq_true (show(p:Int) >=0 by omega),decide_eq_true (show(p:Int) < (w.Zx.length:Int) by omega)];simp only [Bool.and_self,Cq1];rw [Z6,decide_eq_true rfl,Cq1,Zq9 (by rw [List.length_singleton];omega)];simp only [Bq0];rw [if_pos ((ZaR hi hk).2 ⟨m,h1⟩)]
   ·rw [decide_eq_false (show ¬ up w m (k:Int) >=0 by omega)];simp only [Bool.and_false,Bool.false_and,Cq0]
    have hn:¬ Wth w p k:=by
     rintro⟨j,e⟩;by_cases hj:j < m
     ·exact hlt j hj (.inl e)
     ·have:=J5 h1 (show m <=j by omega);omega
    rw [if_neg (fun q=>hn ((ZaR hi hk).1 q)),List.append_nil]
 ·unfold ZnZ;dsimp only;rw [ZQ];rfl
def desc (w:Zb):Nat ->Nat ->List Int
 | 0,_=>[]
 | d + 1,v=>(v:Int)::(List.range w.Zx.length).flatMap fun k:Nat=>if inn w (k:Int)= (v:Int) then desc w d k else []
def ZfR (w:Zb) (d v:Nat):Prop:=∀ k,k < w.Zx.length ->∀ j,d <=j ->up w j (k:Int) ≠ (v:Int)
theorem ZfR.all {w:Zb} (hi:Inn w) {v:Nat}:ZfR w w.Zx.length v:=fun k hk j hj q=>by
 have:=J5 (hi.acy k hk) hj;omega
theorem ZeT {w:Zb} {x k v j:Nat} (h1:up w j (x:Int)= (k:Int)) (h2:inn w (k:Int)= (v:Int)):up w (j + 1) (x:Int)= (v:Int):=by
 rw [Qp,h1,if_neg (by omega),h2]
theorem ZfR.kid {w:Zb} {d v k:Nat} (h:ZfR w (d + 1) v) (h2:inn w (k:Int)= (v:Int)):ZfR w d k:=fun x hx j hj q=>h x hx (j + 1) (by omega) (ZeT q h2)
theorem ZfB {w:Zb} (hi:Inn w):∀ d v,v < w.Zx.length ->ZfR w d v ->∀ y:Int,y ∈ desc w d v↔∃ x:Nat,y= (x:Int)∧x < w.Zx.length∧Wth w v x:=by
 intro d
 induction d with
 | zero=>intro v hv hs;exact absurd rfl (hs v hv 0 (Nat.le_refl _))
 | succ d ih=>
   intro v hv hs y;unfold desc;rw [List.mem_cons,List.mem_flatMap]
   constructor
   ·rintro(h | ⟨k,hk,h⟩)
    ·exact⟨v,h,hv,0,rfl⟩
    ·by_cases e:inn w (k:Int)= (v:Int)
     ·rw [if_pos e] at h;obtain⟨x,h1,h2,j,h3⟩:= (ih k (List.mem_range.1 hk) (hs.kid e) y).1 h;exact⟨x,h1,h2,j + 1,ZeT h3 e⟩
     ·rw [if_neg e] at h;cases h
   ·rintro⟨x,rfl,hx,j,hj⟩;cases j with
    | zero=>exact .inl hj
    | succ j=>
      right;rw [Qp] at hj;by_cases hn:up w j (x:Int) < 0
      ·rw [if_pos hn] at hj;omega
      ·rw [if_neg hn] at hj;obtain⟨k,e,hk⟩:=JU (hi.up (q:= (x:Int)) ⟨by omega,by omega⟩ j) hn;rw [e] at hj;refine⟨k,List.mem_range.2 hk,?_⟩;rw [if_pos hj];exact(ih k hk (hs.kid hj) _).2 ⟨x,rfl,hx,j,e⟩
theorem Zi6 {w:Zb} (hi:Inn w) {v j:Nat} (hv:v < w.Zx.length) (hj:0 < j):up w j (v:Int) ≠ (v:Int):=by
 intro e
 have h:∀ m,up w (m * j) (v:Int)= (v:Int):=by
  intro m
  induction m with
  | zero=>rw [Nat.zero_mul];rfl
  | succ m ih=>rw [Nat.succ_mul,up_add,ih,e]
 have:=h w.Zx.length;have h2:=J5 (hi.acy v hv) (show w.Zx.length <=w.Zx.length * j from Nat.le_mul_of_pos_right _ hj);omega
theorem Ztg {w:Zb} (hi:Inn w):∀ d v,v < w.Zx.length ->ZfR w d v ->(desc w d v).Nodup:=by
 intro d
 induction d with
 | zero=>intro v hv hs;exact absurd rfl (hs v hv 0 (Nat.le_refl _))
 | succ d ih=>
   intro v hv hs;unfold desc;rw [List.nodup_cons];refine⟨fun h=>?_,?_⟩
   ·obtain⟨k,hk,h⟩:=List.mem_flatMap.1 h;by_cases e:inn w (k:Int)= (v:Int)
    ·rw [if_pos e] at h;obtain⟨x,h1,h2,j,h3⟩:= (ZfB hi d k (List.mem_range.1 hk) (hs.kid e) _).1 h;have:x=v:=by omega
     subst this;exact Zi6 hi hv (Nat.succ_pos j) (ZeT h3 e)
    ·rw [if_neg e] at h;cases h
   ·unfold List.Nodup;rw [List.pairwise_flatMap];refine⟨fun k hk=>?_,?_⟩
    ·by_cases e:inn w (k:Int)= (v:Int)
     ·rw [if_pos e];exact ih k (List.mem_range.1 hk) (hs.kid e)
     ·rw [if_neg e];exact List.Pairwise.nil
    ·refine List.Pairwise.imp_of_mem (R:= (· < ·)) (fun{a b} ha hb hab y hy z hz e=>?_) List.pairwise_lt_range;subst e;by_cases ea:inn w (a:Int)= (v:Int)
     ·rw [if_pos ea] at hy;by_cases eb:inn w (b:Int)= (v:Int)
      ·rw [if_pos eb] at hz;obtain⟨x,h1,h2,j1,h3⟩:= (ZfB hi d a (List.mem_range.1 ha) (hs.kid ea) _).1 hy;obtain⟨x',h1',h2',j2,h4⟩:= (ZfB hi d b (List.mem_range.1 hb) (hs.kid eb) _).1 hz;have:x=x':=by omega
       subst this;have u1:=ZeT h3 ea;have u2:=ZeT h4 eb;rcases Nat.lt_trichotomy j1 j2 with q | q | q
       ·rw [show j2 + 1= (j1 + 1) + (j2 - j1) by omega,up_add,u1] at u2;exact Zi6 hi hv (by omega) u2
       ·subst q;rw [h3] at h4;omega
       ·rw [show j1 + 1= (j2 + 1) + (j1 - j2) by omega,up_add,u2] at u1;exact Zi6 hi hv (by omega) u1
      ·rw [if_neg eb] at hz;cases hz
     ·rw [if_neg ea] at hy;cases hy
theorem ZdH {w:Zb} (hi:Inn w) {v:Nat} (hv:v < w.Zx.length):(desc w w.Zx.length v).Perm (Yg w v):=
 (List.perm_ext_iff_of_nodup (Ztg hi _ v hv (ZfR.all hi)) (WG w v)).2 fun a=>by rw [ZfB hi _ v hv (ZfR.all hi),Zf2 hi]
theorem ZwO {w:Zb} (hi:Inn w) {v:Nat} (hv:v < w.Zx.length):Ur (desc w w.Zx.length v)=Yg w v:=ZdU (ZdH hi hv) (ZeO w v)
theorem Zkw {w:Zb} (hi:Inn w) {v:Nat} (hv:v < w.Zx.length):(desc w w.Zx.length v).length <=w.Zx.length:=by
 rw [(ZdH hi hv).length_eq];exact U8 _ _ _
def kids (w:Zb) (d v k:Nat):List Int:= (List.range k).flatMap fun k:Nat=>if inn w (k:Int)= (v:Int) then desc w d k else []
theorem Zgp (w:Zb) (d v k:Nat):kids w d v (k + 1)=kids w d v k ++ (if inn w (k:Int)= (v:Int) then desc w d k else []):=by
 unfold kids;rw [List.range_succ,List.flatMap_append];simp
theorem ZDU {w:Zb} {d v a b:Nat} (h:a <=b):(kids w d v a).length <= (kids w d v b).length:=by
 obtain⟨c,rfl⟩:∃ c,b=a + c:= ⟨b - a,by omega⟩
 induction c with
 | zero=>exact Nat.le_refl _
 | succ c ih=>
   rw [show a + (c + 1)= (a + c) + 1 by omega,Zgp,List.length_append];have:=ih (by omega);omega
theorem gather {F:Nat} (hF:1000 <=F) {w:Zb} (h8:w.Zx.length <=8)
 {B:Int ->(Int×List Int ->Option (Bool×List Int)) ->Int×List Int ->(Int×List Int ->Option (Bool×List Int)) ->Option (Bool×List Int)}
 {R:Int×List Int ->(Int×List Int ->Option (Bool×List Int)) ->Option (Bool×List Int)}
 (hR:∀ v l next,R (v,l) next= (app 8 l [v]).bind fun z=>loop F (B v next) (0,z))
 (hB:∀ v next k l nx,B v next (k,l) nx=bif decide (k < (w.Zx.length:Int)) then(ZL w.Zx k).bind fun x=>(bif x==v then(next (k,l)).bind fun p=>(bif !p.1 then some (false,p.2) else nx (Y2 (k + 1),p.2)) else nx (Y2 (k + 1),l)) else some (true,l)):
 ∀ d v l F',d < F' ->v < w.Zx.length ->ZfR w d v ->l.length + (desc w d v).length <=800000 ->loop F' R ((v:Int),l)=some (true,l ++ desc w d v):=by
 intro d
 induction d with
 | zero=>intro v l F' _ hv hs;exact absurd rfl (hs v hv 0 (Nat.le_refl _))
 | succ d ih=>
   intro v l F' hF' hv hs hlen;have ed:desc w (d + 1) v= (v:Int)::kids w d v w.Zx.length:=rfl;rw [ed,List.length_cons] at hlen;cases F' with
   | zero=>omega
   | succ F'=>
     rw [Zdw,hR,Zq9 (by rw [List.length_singleton];omega)];simp only [Bq0];refine Ye (fun k=>((k:Int),l ++ [(v:Int)] ++ kids w d v k)) (by simp [kids]) (n:=w.Zx.length) (by omega) (fun k hk next=>?_) (fun next=>?_)
     ·have hle:=ZDU (w:=w) (d:=d) (v:=v) (show k + 1 <=w.Zx.length by omega);rw [Zgp] at hle ⊢;rw [hB,ZG hk,Cq1,Xi hk];simp only [Bq0];by_cases e:inn w (k:Int)= (v:Int)
      ·rw [Z6,decide_eq_true e,Cq1,if_pos e];rw [if_pos e,List.length_append] at hle;rw [ih k _ F' (by omega) hk (hs.kid e) (by simp only [List.length_append,List.length_singleton];omega)];simp only [Bq0,Bool.not_true,Cq0];rw [Yw (by omega),← List.append_assoc]
      ·rw [Z6,decide_eq_false e,Cq0,if_neg e,List.append_nil,Yw (by omega)]
     ·rw [hB,ZQ,Cq0,ed,List.append_assoc];rfl
def old (w:Zb) (q:Int):Bool:=decide ((sp w q.toNat).age >=30)
def lim (w:Zb) (s:ZF):Bool:=if s.act=1 then decide (w.said >=40) else if s.act=2 then(Yg w s.a.toNat).any (old w) else false
def Alw (w:Zb) (s:ZF):Prop:=
 (s.act=2 ->(sp w s.a.toNat).here=true∧(sp w s.a.toNat).machine ≠ s.b)∧
 (s.act=3 ->s.b ∉ Yg w s.a.toNat∧inn w s.a=-1∧(sp w s.a.toNat).here=true∧(sp w s.b.toNat).here=true∧(sp w s.a.toNat).machine= (sp w s.b.toNat).machine)∧
 (s.act=4 ->(sp w s.a.toNat).here=true∧inn w s.a ≠ -1)
instance (w:Zb) (s:ZF):Decidable (Alw w s):=by unfold Alw;infer_instance
def Zex (w:Zb) (s:ZF):Int:=if lim w s then 3 else if Alw w s then 0 else 7
section
variable {F:Nat} {w:Zb}
theorem J9.nat {p:Int} {n:Nat} (h:J9 p n):∃ k:Nat,p= (k:Int)∧k < n:= ⟨p.toNat,by have:=h.1;omega,by have h1:=h.1;have h2:=h.2;omega⟩
theorem Zv9 (hF:1000 <=F) (h:Wd w) (sm:UW 900 w) {s:ZF} (ha:Ask w s):ZBK F w s=some (lim w s):=by
 have e:∀ k:Int,(s.act==k)=decide (s.act=k):=fun k=>Z6 _ _
 unfold ZBK ZgF lim;by_cases h1:s.act=1
 ·rw [e,decide_eq_true h1,Cq1,if_pos h1]
 rw [e 1,decide_eq_false h1,Cq0,if_neg h1];by_cases h2:s.act=2
 ·rw [e,decide_eq_true h2,Cq1,if_pos h2]
  have hin:J9 s.a w.Zx.length:=by
   rcases ha with q | q | q | q | q
   ·omega
   ·exact q.2.1
   ·omega
   ·omega
   ·omega
  obtain⟨p,ep,hp⟩:=hin.nat;have h8:=h.shr.Kv.p2;rw [ep,Zd6 hF h.shr.inn h8 hp,Int.toNat_natCast];simp only [Bq0];have hw:=U8 w p w.Zx.length;have hlen:(Yg w p).length <=8:=by unfold Yg;omega
  have:=ZpU (F:=F) (body:=Zj4 F w (Yg w p)) (r1:=some true) (r2:=some false) (fun k=>(k:Int)) (fun k=>old w ((Yg w p).getD k 0)) (n:= (Yg w p).length) (by omega) (fun k hk next=>?_) (fun next=>?_)
  ·refine this.trans ?_
   have e2:(List.range (Yg w p).length).any (fun k=>old w ((Yg w p).getD k 0))= (Yg w p).any (old w):=by
    rw [Bool.eq_iff_iff,List.any_eq_true,List.any_eq_true]
    constructor
    ·rintro⟨k,hk,q⟩;exact⟨_,YP (List.mem_range.1 hk),q⟩
    ·rintro⟨x,hx,q⟩;obtain⟨k,hk,rfl⟩:=List.getElem_of_mem hx;exact⟨k,List.mem_range.2 hk,by rw [List.getD_eq_getElem?_getD,List.getElem?_eq_getElem hk];exact q⟩
   rw [e2];cases (Yg w p).any (old w) <;> rfl
  ·have hm:=YP (d:= (0:Int)) hk;obtain⟨x,ex,hx,_⟩:= (Zf2 h.shr.inn).1 hm;unfold Zj4;rw [ZG hk,Cq1,YM 0 hk];simp only [Bq0];rw [ex,ZdC hF h sm hx];simp only [Bq0];rw [Yw (by omega)];unfold old;rw [Int.toNat_natCast,← Zhh h.shr.two];rfl
  ·unfold Zj4 ZgF;rw [ZQ];rfl
 rw [e 2,decide_eq_false h2,Cq0,if_neg h2]
theorem ZFF (h:Wd w) (p:Nat):(U9 w p).at_= (sp w p).machine:=by rw [← Zhh h.shr.two];rfl
theorem ZDV (h:Wd w) (p:Nat):(U9 w p).is= (sp w p).here:=by rw [← Zhh h.shr.two];rfl
theorem Zrg (hF:1000 <=F) (h:Wd w) (sm:UW 900 w) {s:ZF} (ha:Ask w s):ZBJ F w s=some (decide (Alw w s)):=by
 have e:∀ k:Int,(s.act==k)=decide (s.act=k):=fun k=>Z6 _ _
 unfold ZBJ;by_cases h2:s.act=2
 ·have hin:J9 s.a w.Zx.length:=by
   rcases ha with q | q | q | q | q
   ·omega
   ·exact q.2.1
   ·omega
   ·omega
   ·omega
  obtain⟨p,ep,hp⟩:=hin.nat;rw [e,decide_eq_true h2,Cq1,ep,ZdC hF h sm hp];simp only [Bq0];rw [ZDV h,ZFF h,Jf];congr 1;rw [Bool.eq_iff_iff];simp only [Ba0,decide_eq_true_eq];unfold Alw;rw [ep,Int.toNat_natCast];exact⟨fun q=>⟨fun _=>q,fun z=>by omega,fun z=>by omega⟩,fun q=>q.1 h2⟩
 rw [e 2,decide_eq_false h2,Cq0];by_cases h3:s.act=3
 ·have hin:J9 s.a w.Zx.length∧J9 s.b w.Zx.length:=by
   rcases ha with q | q | q | q | q
   ·omega
   ·omega
   ·exact q.2
   ·omega
   ·omega
  obtain⟨p,ep,hp⟩:=hin.1.nat;obtain⟨r,er,hr⟩:=hin.2.nat;have h8:=h.shr.Kv.p2;have hw:=U8 w p w.Zx.length;have hlen:(Yg w p).length <=8:=by unfold Yg;omega
  rw [e,decide_eq_true h3,Cq1,ep,er,ZdC hF h sm hp,ZdC hF h sm hr];simp only [Bq0];rw [Zd6 hF h.shr.inn h8 hp];simp only [Bq0]
  have hend:∃ b,loop F (ZgE w s (U9 w p,true) (U9 w r,true) (Yg w p)) 0=some b∧(b=true↔Alw w s):=by
   refine JW false (some ((((inn w s.a==-1) && (U9 w p).is) && (U9 w r).is) && ((U9 w p).at_== (U9 w r).at_))) (fun k=>(k:Int)) rfl (fun k=>(Yg w p).getD k 0=s.b) (n:= (Yg w p).length) (by omega) (fun k hk=>?_) (fun next=>?_) (fun k hk hc=>?_) (fun hno=>⟨_,rfl,?_⟩)
   ·have hb:∀ next,ZgE w s (U9 w p,true) (U9 w r,true) (Yg w p) (k:Int) next=bif decide ((Yg w p).getD k 0=s.b) then some false else next ((k + 1:Nat):Int):=fun next=>by
     unfold ZgE;dsimp only;rw [ZG hk,Cq1,YM 0 hk];simp only [Bq0];rw [Z6,Yw (by omega)]
    by_cases q:(Yg w p).getD k 0=s.b
    ·exact .inl ⟨fun next=>by rw [hb,decide_eq_true q];rfl,q⟩
    ·exact .inr ⟨fun next=>by rw [hb,decide_eq_false q];rfl,q⟩
   ·unfold ZgE;dsimp only;rw [ZQ,Cq0,ep,Xi hp];rfl
   ·simp only [Bool.false_eq_true,false_iff];intro z;have:= (z.2.1 h3).1;rw [ep,Int.toNat_natCast,← hc] at this;exact this (YP hk)
   ·have hnm:s.b ∉ Yg w p:=fun z=>by
     obtain⟨k,hk,q⟩:=List.getElem_of_mem z;exact hno k hk (by rw [List.getD_eq_getElem?_getD,List.getElem?_eq_getElem hk];exact q)
    simp only [Ba0,beq_iff_eq];rw [ZDV h,ZDV h,ZFF h,ZFF h];unfold Alw;rw [ep,er,Int.toNat_natCast,Int.toNat_natCast];rw [er] at hnm;exact⟨fun q=>⟨fun z=>by omega,fun _=>⟨hnm,q.1.1.1,q.1.1.2,q.1.2,q.2⟩,fun z=>by omega⟩,fun q=>⟨⟨⟨(q.2.1 h3).2.1,(q.2.1 h3).2.2.1⟩,(q.2.1 h3).2.2.2.1⟩,(q.2.1 h3).2.2.2.2⟩⟩
  obtain⟨b,e1,e2⟩:=hend;rw [e1];congr 1;rw [Bool.eq_iff_iff,e2,decide_eq_true_eq]
 rw [e 3,decide_eq_false h3,Cq0];by_cases h4:s.act=4
 ·have hin:J9 s.a w.Zx.length:=by
   rcases ha with q | q | q | q | q
   ·omega
   ·omega
   ·omega
   ·exact q.2
   ·omega
  obtain⟨p,ep,hp⟩:=hin.nat;have hok:=h.shr.inn.rng p hp;rw [e,decide_eq_true h4,Cq1,ep,ZdC hF h sm hp];simp only [Bq0];rw [ZDV h]
  have hA:Alw w s↔(sp w p).here=true∧inn w (p:Int) ≠ -1:=by
   unfold Alw;rw [ep,Int.toNat_natCast];exact⟨fun q=>q.2.2 h4,fun q=>⟨fun z=>by omega,fun z=>by omega,fun _=>q⟩⟩
  cases hh:(sp w p).here with
  | true=>
    rw [YN,Xi hp];simp only [Bq0,Bool.true_and];congr 1;rw [Bool.eq_iff_iff,decide_eq_true_eq,decide_eq_true_eq,hA];have:=hok.1;exact⟨fun q=>⟨hh,by omega⟩,fun q=>by have:=q.2;omega⟩
  | false=>
    simp only [XC,Bq0,Bool.false_and];congr 1;rw [Bool.eq_iff_iff,decide_eq_true_eq,hA,hh];simp
 rw [e 4,decide_eq_false h4,Cq0];congr 1;rw [Bool.eq_iff_iff,decide_eq_true_eq];exact⟨fun _=>⟨fun z=>absurd z h2,fun z=>absurd z h3,fun z=>absurd z h4⟩,fun _=>rfl⟩
end
end Go.Proofs.YtbmbbcaaimehkaaGreat
end
