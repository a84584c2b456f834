/- Keeps Part 13 of the proof. -/
import Derived.Test.YtbmbbcaaimehkaaGreatKa12
set_option linter.all false
set_option maxHeartbeats 2000000
section
noncomputable section
namespace Go.Proofs.YtbmbbcaaimehkaaGreat
open Go.YL Go.Lf
theorem ZAM {h:H} {r:Bool} (hL:ZJD=some r):Pure XX 14 #[] h (.bool r):=by
 cases hL;intro wm;have e:ev (cfg XW fun _=>false) 1 (.call 14 #[] wm h)=some (.fin (.ret (.bool true)) h):=rfl;exact ZfI (X:=XW) mixed 1 _ _ e
end Go.Proofs.YtbmbbcaaimehkaaGreat
end
end
section
namespace Go.Proofs.YtbmbbcaaimehkaaGreat
open Go.Lf
def ZjU (F:Nat) (p0:Zb) (p1:(List ZC)) (p2:(List (List Int))):Int ->(Int ->Option Bool) ->Option Bool:=fun v9 ZiL=>
 (bif decide (v9 < (p2.length:Int)) then(ZT p2 v9).bind fun x12=>(ZvM F x12).bind fun JU=>(bif(!JU) then some false else ZiL (Xd (v9 + 1))) else(ZAF F p0).bind fun x18=>some (x18 && (decide ((p1.length:Int) <=80))))
def ZAJ (F:Nat) (p0:Zb) (p1:(List ZC)) (p2:(List (List Int))):Option Bool:=
 loop F (ZjU F p0 p1 p2) 0
def ZvK (F:Nat) (p0:Z4) (p1:ZC):Option Z4:=
 (bif(p1.act==1) then(ZpZ (Z4.mk (Zb.mk p0.Za.Zv p0.Za.qK p0.Za.qQ p0.Za.qJ p0.Za.qG (Xd (p0.Za.said + 1))) p0.qX) p1.a (Zr.mk p0.Za.said p1.b p1.a 0 0) true).bind fun x4=>some x4 else(bif(p1.act==2) then(ZAo F p0 p1.a p1.b).bind fun x25=>some x25 else(bif(p1.act==3) then(ZT p0.Za.Zv p1.a).bind fun x46=>some (Z4.mk (Zb.mk (Yt p0.Za.Zv p1.a p1.b) p0.Za.qK p0.Za.qQ p0.Za.qJ p0.Za.qG p0.Za.said) p0.qX) else(bif(p1.act==4) then(ZT p0.Za.Zv p1.a).bind fun x51=>some (Z4.mk (Zb.mk (Yt p0.Za.Zv p1.a (-1)) p0.Za.qK p0.Za.qQ p0.Za.qJ p0.Za.qG p0.Za.said) p0.qX) else(bif(p1.act==5) then(Zsd F p0 p1.a).bind fun x56=>some x56 else some p0)))))
def Zf8 (p1:Zd):Int×Int×Int×Int×Int×Int×Int×Int ->Option Bool:=fun(v11,v12,v13,v14,v15,v16,v17,v18)=>
 some ((((JE (Zr.mk v11 v12 v13 v14 v15) p1.Ya) && (v16==p1.place)) && (v17==p1.at_)) && (v18==p1.age))
def ZAu (p0:ZX) (p1:Zd):Option Bool:=
 (Zm0 p0 p1.Z9).bind fun x3=>(bif(!x3) then some false else(bif((p1.kind !=2) && (decide ((Xd ((p1.qV.length:Int) + (p1.Yj.length:Int))) > 0))) then some false else(bif(p1.kind==1) then(ZvG p0 p1.Z9 p1.Ya).bind fun x20=>(bif(!x20) then some false else(Zf8 p1) (p1.Ya.msg,p1.Ya.place,p1.Ya.from_,p1.Ya.age,p1.Ya.hops,0,0,0)) else(bif(p1.kind==3) then(gd (!(p1.at_==p1.Z9)) (Zr6 p0 p1.place) default).bind fun x28=>(gd (!((p1.at_==p1.Z9) || (!x28))) (Zm1 p0 p1.place p1.at_ p1.age) default).bind fun x29=>(bif(((p1.at_==p1.Z9) || (!x28)) || (!x29)) then some false else(Zf8 p1) (0,0,0,0,0,p1.place,p1.at_,p1.age)) else(Zf8 p1) (0,0,0,0,0,0,0,0)))))
end Go.Proofs.YtbmbbcaaimehkaaGreat
end
section
set_option maxRecDepth 20000
noncomputable section
namespace Go.Proofs.YtbmbbcaaimehkaaGreat
open Go.YL Go.Lf
theorem ZJz {F wm:Nat} {h:H} {p0:Zb} {p1:(List ZC)} {p2:(List (List Int))} {Zi:Option Addr} {Zh:Nat} {Zk:Option Addr} {Zj:Nat} {Zq:Option Addr} {Zn:Nat} {Zp:Option Addr} {Zm:Nat} {Zo:Option Addr} {Zl:Nat} {Xi:Option Addr} {Xh:Nat} {JZ:Option Addr} {JY:Nat} {r:Bool} (Z0:wm <=h.size) (ZB:Sl (Zu .i64) wm h Zi Zh p0.Zv) (ZN:Sl (ZM (Zu .i64)) wm h Zk Zj p0.qK) (ZL:Sl (ZM Zc) wm h Zq Zn p0.qQ) (ZO:Sl (ZM Zg) wm h Zp Zm p0.qJ) (ZJ:Sl Ze wm h Zo Zl p0.qG) (XM:Sl Uc wm h Xi Xh p1) (Zcg:Sl (ZM (Zu .i64)) wm h JZ JY p2) (hL:ZAJ F p0 p1 p2=some r):
 WR XX 28 #[.agg [.slice Zi p0.Zv.length Zh,.slice Zk p0.qK.length Zj,.slice Zq p0.qQ.length Zn,.slice Zp p0.qJ.length Zm,.slice Zo p0.qG.length Zl,.int .i64 p0.said].toArray,.slice Xi p1.length Xh,.slice JZ p2.length JY] wm h (CP (fun(v:Value) (Gb:List (Ast wm))=>v= .bool r∧Gb= []) [] h):=by
 refine bg Tryz.ntmps28 Z0 Yh.nil ?_;intro T hT hS;unfold ZAJ at hL;refine r3 ?_;rintro _ h2 ⟨b1,eb1,rfl,hS⟩;refine XA ?_;refine WC.loop (WL.lift hL (fun(v9:Int) (s:Fs)=>∃ (Wo:Fr) (h3:H),s= ⟨Wo,[],h3,none⟩∧Sp wm T h [bx wm b1 (cW p0 Zi Zh Zk Zj Zq Zn Zp Zm Zo Zl)] h3∧Wo.at 1= .slice Xi p1.length Xh∧Wo.at 3= .pointer (some ⟨b1,0,none⟩)∧Wo.at 9= .slice JZ p2.length JY∧Wo.at 10= .int .i64 (p2.length:Int)∧Wo.at 11= .int .i64 v9) ⟨_,_,rfl,hS.only (.c k0 .n),YA⟩ ?_);clear hL hS;rintro ZiL v9 s ZmM hL ⟨Wo,h3,rfl,hS,e5,e6,e7,e8,e10⟩;dsimp only [ZjU] at hL;refine r6 ?_;refine cn hL ?_ ?_
 ·intro hc hL;refine r6 ?_;obtain⟨x12,Zyt,hL⟩:=bind_some hL;obtain⟨b13,o14,⟨a15,c16⟩,Zzn,ZzX,ZzE,Zzs⟩:=Sl.at_ Zcg Zyt;refine WO.w gN rfl (ZE Zbx JR lk lk rfl Zzn Zyt) ?_;have ZFv:Sl (Zu .i64) wm h a15 c16 x12:=Zzs;refine WO.w gN rfl (ZW ZdA (Yi fh rfl) (At.fz hS.fz ZzE ZzX) (j:=0) rfl (v:= .slice a15 x12.length c16) rfl) ?_;refine r6 ?_;obtain⟨JU,Zi3,hL⟩:=bind_some hL;refine WO.cp gN rfl (Xm.fn ZMK (Zf lk Zz)) (WR.Qy rfl (ZJt (Nat.le_refl _) (hS.Y0 ZFv) Zi3)) ?_;refine r3 ?_;refine cn hL ?_ ?_
  ·intro hc hL;refine r8 ?_;refine r3 ?_;exact rt hL hT hS
  ·intro hc hL;refine r6 ?_;refine r1 ?_;exact Yc.YZ (ZmM _ _ hL ⟨_,_,rfl,hS.only (.c k0 .n),YA⟩)
 ·intro hc hL;refine r8 ?_;obtain⟨x18,ZRo,hL⟩:=bind_some hL;refine WO.cp gN rfl (Xm.fn ZML (Zf lk Zz)) (WR.Qy rfl (ZJu (Nat.le_refl _) (hS.Y0 ZB) (hS.Y0 ZN) (hS.Y0 ZL) (hS.Y0 ZO) (hS.Y0 ZJ) ZRo)) ?_;refine r8 ?_;refine r1 ?_;exact rt hL hT hS
theorem ZJo {F wm:Nat} {h:H} {p0:Z4} {p1:ZC} {Zi:Option Addr} {Zh XT:Nat} {Zk:Option Addr} {Zj Jb:Nat} {YJ:Nat ->Option Addr×Nat×Nat} {Zq:Option Addr} {Zn Ja:Nat} {YR:Nat ->Option Addr×Nat×Nat} {Zp:Option Addr} {Zm Q9:Nat} {YI:Nat ->Option Addr×Nat×Nat} {Zo:Option Addr} {Zl Q8:Nat} {Z7:Option Addr} {Z6 Qo YX:Nat} {r:Z4} (Z0:wm <=h.size) (hO:Yh (wm:=wm) [bx wm YX (cG Zi XT Zh Zk Jb Zj Zq Ja Zn Zp Q9 Zm Zo Q8 Zl p0.Za.said Z7 Qo Z6),ow wm (Zu .i64) Zi XT Zh p0.Za.Zv,Y3 wm (ZV (Zu .i64)) Zk Jb Zj YJ p0.Za.qK,Y3 wm (ZV Zc) Zq Ja Zn YR p0.Za.qQ,Y3 wm (ZV Zg) Zp Q9 Zm YI p0.Za.qJ,ow wm Ze Zo Q8 Zl p0.Za.qG,ow wm ZQ Z7 Qo Z6 p0.qX] h) (hL:ZvK F p0 p1=some r):
 WR XX 50 #[.pointer (some ⟨YX,0,none⟩),.agg [.int .i64 p1.act,.int .i64 p1.a,.int .i64 p1.b].toArray] wm h (CP (fun(v:Value) (Gb:List (Ast wm))=>∃ (Jy:Option Addr) (UJ:Nat) (Jr:Nat) (Jw:Option Addr) (UI:Nat) (Jq:Nat) (UN:Nat ->Option Addr×Nat×Nat) (Jv:Option Addr) (UH:Nat) (Jp:Nat) (UM:Nat ->Option Addr×Nat×Nat) (Ju:Option Addr) (UG:Nat) (Jo:Nat) (UL:Nat ->Option Addr×Nat×Nat) (Jt:Option Addr) (UF:Nat) (Jm:Nat) (Js:Option Addr) (Jk:Nat) (Jl:Nat),v= .tuple [].toArray∧Gb= [bx wm YX (cG Jy UJ Jr Jw UI Jq Jv UH Jp Ju UG Jo Jt UF Jm r.Za.said Js Jk Jl),ow wm (Zu .i64) Jy UJ Jr r.Za.Zv,Y3 wm (ZV (Zu .i64)) Jw UI Jq UN r.Za.qK,Y3 wm (ZV Zc) Jv UH Jp UM r.Za.qQ,Y3 wm (ZV Zg) Ju UG Jo UL r.Za.qJ,ow wm Ze Jt UF Jm r.Za.qG,ow wm ZQ Js Jk Jl r.qX]) [bx wm YX (cG Zi XT Zh Zk Jb Zj Zq Ja Zn Zp Q9 Zm Zo Q8 Zl p0.Za.said Z7 Qo Z6),ow wm (Zu .i64) Zi XT Zh p0.Za.Zv,Y3 wm (ZV (Zu .i64)) Zk Jb Zj YJ p0.Za.qK,Y3 wm (ZV Zc) Zq Ja Zn YR p0.Za.qQ,Y3 wm (ZV Zg) Zp Q9 Zm YI p0.Za.qJ,ow wm Ze Zo Q8 Zl p0.Za.qG,ow wm ZQ Z7 Qo Z6 p0.qX] h):=by
 refine bg Tryz.ntmps50 Z0 hO ?_;intro T hT hS;unfold ZvK at hL;obtain rfl:=hS.on k1;obtain rfl:=hS.YT k2;obtain rfl:=hS.YT k3;obtain rfl:=hS.YT k4;obtain rfl:=hS.on k5;obtain rfl:=hS.on k6;refine r3 ?_;rintro _ h2 ⟨b1,eb1,rfl,hS⟩;refine XA ?_;refine r3 ?_;refine cn hL ?_ ?_
 ·intro hc hL;refine r16 ?_;refine r6 ?_;rintro h3 hS;refine r8 ?_;refine r3 ?_;refine WO.w gN rfl (XP ZF6 (ZG lk (ZG lk (ZG lk Yf))) rfl (cs':= [.int .i64 p0.Za.said,.int .i64 p1.b,.int .i64 p1.a,.int .i64 0,.int .i64 0]) rfl) ?_;obtain⟨x4,hx4,hL⟩:=bind_some hL;refine WO.cl gN rfl (Xm.fn ZFD (Zf lk (Zf lk (Zf lk (Zf lk Zz))))) hS (.c k0 (.c k1 (.c k1 (.c k1 (.c k1 (.c k1 (.c k1 .n))))))) (fun g' hz hf hO=>ZAp (p0:= (Z4.mk (Zb.mk p0.Za.Zv p0.Za.qK p0.Za.qQ p0.Za.qJ p0.Za.qG (Xd (p0.Za.said + 1))) p0.qX)) (p2:= (Zr.mk p0.Za.said p1.b p1.a 0 0)) (by rw [hz];exact hS.hw) hO hx4) ?_;rintro _ h23 _ ⟨a5,n6,c7,a8,n9,c10,ZQM,a11,n12,c13,Ztl,a14,n15,c16,Ztk,a17,n18,c19,a20,n21,c22,rfl,rfl⟩ hS;obtain rfl:=hS.on k1;obtain rfl:=hS.YT k2;obtain rfl:=hS.YT k3;obtain rfl:=hS.YT k4;obtain rfl:=hS.on k5;obtain rfl:=hS.on k6;refine r2 ?_;refine Yl.YZ ?_;have hr:=Oi0 hL;subst hr;exact Yl.gen (vs:= []) rfl ZA rfl ⟨_,⟨a5,x4.Za.Zv.length,c7,a8,x4.Za.qK.length,c10,ZQM,a11,x4.Za.qQ.length,c13,Ztl,a14,x4.Za.qJ.length,c16,Ztk,a17,x4.Za.qG.length,c19,a20,x4.qX.length,c22,rfl,rfl⟩,hT ▸ hS.only (.c k0 (.c k0 (.c k0 (.c k0 (.c k0 (.c k0 (.c k0 .n)))))))⟩
 ·intro hc hL;refine r6 ?_;refine cn hL ?_ ?_
  ·intro hc hL;refine r6 ?_;obtain⟨x25,hx25,hL⟩:=bind_some hL;refine WO.cl gN rfl (Xm.fn ZMs (Zf lk (Zf lk (Zf lk Zz)))) hS (.c k1 (.c k1 (.c k1 (.c k1 (.c k1 (.c k1 (.c k1 .n))))))) (fun g' hz hf hO=>ZI5 (by rw [hz];exact hS.hw) hO hx25) ?_;rintro _ h44 _ ⟨a26,n27,c28,a29,n30,c31,ZK3,a32,n33,c34,ZK1,a35,n36,c37,ZKZ,a38,n39,c40,a41,n42,c43,rfl,rfl⟩ hS;obtain rfl:=hS.on k1;obtain rfl:=hS.YT k2;obtain rfl:=hS.YT k3;obtain rfl:=hS.YT k4;obtain rfl:=hS.on k5;obtain rfl:=hS.on k6;refine r2 ?_;refine Yl.YZ ?_;have hr:=Oi0 hL;subst hr;exact Yl.gen (vs:= []) rfl ZA rfl ⟨_,⟨a26,x25.Za.Zv.length,c28,a29,x25.Za.qK.length,c31,ZK3,a32,x25.Za.qQ.length,c34,ZK1,a35,x25.Za.qJ.length,c37,ZKZ,a38,x25.Za.qG.length,c40,a41,x25.qX.length,c43,rfl,rfl⟩,hT ▸ hS.only (.c k0 (.c k0 (.c k0 (.c k0 (.c k0 (.c k0 (.c k0 .n)))))))⟩
  ·intro hc hL;refine r6 ?_;refine cn hL ?_ ?_
   ·intro hc hL;refine WC.Xx mixed Kq0 ?_;refine r8 ?_;refine r1 ?_;obtain⟨x46,Zvq,hL⟩:=bind_some hL;obtain⟨b47,o48,_,Zt2,ZzN,ZNq⟩:=Src.at_ (hS.QE k2) Zvq;refine WX.w gN rfl (ZE YE YF lk lk rfl Zt2 Zvq) ?_ rfl;refine WX.hu gN (Zey (e:= (Zu .i64)) p1.b () hS k2 YF (Yi fh rfl) (Yi (Zy rfl fh) rfl) Zt2 Zvq ZzN (j:=0) rfl (vs:= [.int .i64 p1.b]) rfl rfl rfl rfl rfl (cs':= [.int .i64 p1.b]) rfl rfl trivial) ?_ rfl rfl [] Kq0 YV.e;rintro h49 ⟨hS,ZXt⟩;refine r2 ?_;refine Yl.YZ ?_;have hr:=Oi0 hL;subst hr;exact Yl.gen (vs:= []) rfl ZA rfl ⟨_,⟨Zi,p0.Za.Zv.length,Zh,Zk,p0.Za.qK.length,Zj,YJ,Zq,p0.Za.qQ.length,Zn,YR,Zp,p0.Za.qJ.length,Zm,YI,Zo,p0.Za.qG.length,Zl,Z7,p0.qX.length,Z6,rfl,rfl⟩,hT ▸ hS.only (.c k2 (.c k0 (.c k1 (.c k1 (.c k1 (.c k1 (.c k1 .n)))))))⟩
   ·intro hc hL;refine r6 ?_;refine cn hL ?_ ?_
    ·intro hc hL;refine WC.Xx mixed Kq0 ?_;refine r6 ?_;refine r1 ?_;obtain⟨x51,ZG7,hL⟩:=bind_some hL;obtain⟨b52,o53,_,ZFM,ZN8,ZUI⟩:=Src.at_ (hS.QE k2) ZG7;refine WX.w gN rfl (ZE YE YF lk lk rfl ZFM ZG7) ?_ rfl;refine WX.hu gN (Zey (e:= (Zu .i64)) (-1) () hS k2 YF (Yi fh rfl) (evC rfl) ZFM ZG7 ZN8 (j:=0) rfl (vs:= [.int .i64 (-1)]) rfl rfl rfl rfl rfl (cs':= [.int .i64 (-1)]) rfl rfl trivial) ?_ rfl rfl [] Kq0 YV.e;rintro h54 ⟨hS,ZXs⟩;refine r2 ?_;refine Yl.YZ ?_;have hr:=Oi0 hL;subst hr;exact Yl.gen (vs:= []) rfl ZA rfl ⟨_,⟨Zi,p0.Za.Zv.length,Zh,Zk,p0.Za.qK.length,Zj,YJ,Zq,p0.Za.qQ.length,Zn,YR,Zp,p0.Za.qJ.length,Zm,YI,Zo,p0.Za.qG.length,Zl,Z7,p0.qX.length,Z6,rfl,rfl⟩,hT ▸ hS.only (.c k2 (.c k0 (.c k1 (.c k1 (.c k1 (.c k1 (.c k1 .n)))))))⟩
    ·intro hc hL;refine r6 ?_;refine cn hL ?_ ?_
     ·intro hc hL;refine r4 ?_;obtain⟨x56,ZRj,hL⟩:=bind_some hL;refine WO.cl gN rfl (Xm.fn ZFH (Zf lk (Zf lk Zz))) hS (.c k1 (.c k1 (.c k1 (.c k1 (.c k1 (.c k1 (.c k1 .n))))))) (fun g' hz hf hO=>ZAx (by rw [hz];exact hS.hw) hO ZRj) ?_;rintro _ h75 _ ⟨a57,n58,c59,a60,n61,c62,ZKX,a63,n64,c65,ZKW,a66,n67,c68,ZKV,a69,n70,c71,a72,n73,c74,rfl,rfl⟩ hS;obtain rfl:=hS.on k1;obtain rfl:=hS.YT k2;obtain rfl:=hS.YT k3;obtain rfl:=hS.YT k4;obtain rfl:=hS.on k5;obtain rfl:=hS.on k6;refine r2 ?_;refine Yl.YZ ?_;have hr:=Oi0 hL;subst hr;exact Yl.gen (vs:= []) rfl ZA rfl ⟨_,⟨a57,x56.Za.Zv.length,c59,a60,x56.Za.qK.length,c62,ZKX,a63,x56.Za.qQ.length,c65,ZKW,a66,x56.Za.qJ.length,c68,ZKV,a69,x56.Za.qG.length,c71,a72,x56.qX.length,c74,rfl,rfl⟩,hT ▸ hS.only (.c k0 (.c k0 (.c k0 (.c k0 (.c k0 (.c k0 (.c k0 .n)))))))⟩
     ·intro hc hL;refine r2 ?_;refine Yl.YZ ?_;have hr:=Oi0 hL;subst hr;exact Yl.gen (vs:= []) rfl ZA rfl ⟨_,⟨Zi,p0.Za.Zv.length,Zh,Zk,p0.Za.qK.length,Zj,YJ,Zq,p0.Za.qQ.length,Zn,YR,Zp,p0.Za.qJ.length,Zm,YI,Zo,p0.Za.qG.length,Zl,Z7,p0.qX.length,Z6,rfl,rfl⟩,hT ▸ hS.only (.c k1 (.c k1 (.c k1 (.c k1 (.c k1 (.c k1 (.c k1 .n)))))))⟩
theorem ZJa {wm:Nat} {h:H} {p0:ZX} {p1:Zd} {Zi:Option Addr} {Zh:Nat} {Zk:Option Addr} {Zj:Nat} {Zq:Option Addr} {Zn:Nat} {Zp:Option Addr} {Zm:Nat} {Zo:Option Addr} {Zl:Nat} {Z7:Option Addr} {Z6 YX Ke:Nat} {Xi:Option Addr} {Xh:Nat} {ZxC:Option Addr} {ZxB:Nat} {r:Bool} (Z0:wm <=h.size) (XZ:At h YX Ke [.slice Zi p0.Za.Zv.length Zh,.slice Zk p0.Za.qK.length Zj,.slice Zq p0.Za.qQ.length Zn,.slice Zp p0.Za.qJ.length Zm,.slice Zo p0.Za.qG.length Zl,.int .i64 p0.Za.said,.slice Z7 p0.Y7.length Z6]) (XY:Stb wm h YX) (ZB:Sl (Zu .i64) wm h Zi Zh p0.Za.Zv) (ZN:Sl (ZM (Zu .i64)) wm h Zk Zj p0.Za.qK) (ZL:Sl (ZM Zc) wm h Zq Zn p0.Za.qQ) (ZO:Sl (ZM Zg) wm h Zp Zm p0.Za.qJ) (ZJ:Sl Ze wm h Zo Zl p0.Za.qG) (Xr:Sl XE wm h Z7 Z6 p0.Y7) (XM:Sl (Zu .i64) wm h Xi Xh p1.qV) (ZRx:Sl (Zu .i64) wm h ZxC ZxB p1.Yj) (hL:ZAu p0 p1=some r):
 WR XX 73 #[.pointer (some ⟨YX,Ke,none⟩),.agg [.int .i64 p1.kind,.int .i64 p1.Z9,.int .i64 p1.Ya.msg,.int .i64 p1.Ya.place,.int .i64 p1.Ya.from_,.int .i64 p1.Ya.age,.int .i64 p1.Ya.hops,.slice Xi p1.qV.length Xh,.slice ZxC p1.Yj.length ZxB,.int .i64 p1.place,.int .i64 p1.at_,.int .i64 p1.age].toArray] wm h (CP (fun(v:Value) (Gb:List (Ast wm))=>v= .bool r∧Gb= []) [] h):=by
 refine bg Tryz.ntmps73 Z0 Yh.nil ?_;intro T hT hS;unfold ZAu at hL;refine r3 ?_;rintro _ h2 ⟨b1,eb1,rfl,hS⟩;refine r8 ?_;refine r1 ?_;obtain⟨x3,hx3,hL⟩:=bind_some hL;refine WO.cp gN rfl (Xm.fn ZyX (Zf lk (Zf lk Zz))) (Zr7 (At.fz hS.fz XY XZ) (Stb.up hS.hw (Stb.fz hS.fz XZ XY)) (hS.Y0 ZB) (hS.Y0 ZN) (hS.Y0 ZL) (hS.Y0 ZO) (hS.Y0 ZJ) (hS.Y0 Xr) hx3) ?_;refine r3 ?_;refine cn hL ?_ ?_
 ·intro hc hL;refine r6 ?_;refine r1 ?_;exact rt hL hT hS
 ·intro hc hL;refine r8 ?_;refine WO.w gN rfl (XP Zur (ZG lk (ZG lk Yf)) rfl (cs':= [.int .i64 p1.kind,.int .i64 p1.Z9,.int .i64 0,.int .i64 0,.int .i64 0,.int .i64 0,.int .i64 0,.slice none 0 0,.slice none 0 0,.int .i64 0,.int .i64 0,.int .i64 0]) rfl) ?_;refine r1 ?_;rintro _ h5 ⟨b4,eb4,rfl,hS⟩;refine r1 ?_;rintro h6 hS;refine r16 ?_;refine r4 ?_;refine cn hL ?_ ?_
  ·intro hc hL;refine r6 ?_;refine r1 ?_;exact rt hL hT hS
  ·intro hc hL;refine r2 ?_;refine WC.Za5 (r:=r) (fun(p:Int×Int×Int×Int×Int×Int×Int×Int) (s:Fs)=>match p with | (v11,v12,v13,v14,v15,v16,v17,v18)=>∃ (fr8:Fr) (h7:H),s= ⟨fr8,[],h7,none⟩∧Sp wm T h [bx wm b1 (cL p1 Xi Xh ZxC ZxB),bx wm b4 [.int .i64 p1.kind,.int .i64 p1.Z9,.int .i64 v11,.int .i64 v12,.int .i64 v13,.int .i64 v14,.int .i64 v15,.slice none 0 0,.slice none 0 0,.int .i64 v16,.int .i64 v17,.int .i64 v18]] h7∧fr8.at 3= .pointer (some ⟨b1,0,none⟩)∧fr8.at 5= .pointer (some ⟨b4,0,none⟩)) (Zf8 p1) ?_ ?_
   ·clear hL hS;rintro⟨v11,v12,v13,v14,v15,v16,v17,v18⟩ s hL ⟨fr8,h7,rfl,hS,e9,e10⟩;dsimp only [Zf8] at hL;refine r6 ?_;refine WO.w gN rfl (Uj (Yi (YG rfl fh) rfl) (Yi fh rfl) (ZqC (xs:= [.int .i64 v11,.int .i64 v12,.int .i64 v13,.int .i64 v14,.int .i64 v15]) (ys:= [.int .i64 p1.Ya.msg,.int .i64 p1.Ya.place,.int .i64 p1.Ya.from_,.int .i64 p1.Ya.age,.int .i64 p1.Ya.hops]) (ZF0 (Zr.mk v11 v12 v13 v14 v15) p1.Ya) rfl rfl)) ?_;refine r16 ?_;refine r8 ?_;refine r1 ?_;exact rt hL hT hS
   ·skip;refine XA ?_;refine r1 ?_;refine cn hL ?_ ?_
    ·intro hc hL;refine r6 ?_;rintro h19 hS;refine r8 ?_;refine r1 ?_;obtain⟨x20,ZRn,hL⟩:=bind_some hL;refine WO.cp gN rfl (Xm.fn ZFG (Zf lk (Zf lk (Zf lk Zz)))) (WR.Qy rfl (ZAt (Nat.le_refl _) (At.fz hS.fz XY XZ) (Stb.up hS.hw (Stb.fz hS.fz XZ XY)) (hS.Y0 ZB) (hS.Y0 ZN) (hS.Y0 ZL) (hS.Y0 ZO) (hS.Y0 ZJ) (hS.Y0 Xr) ZRn)) ?_;refine r3 ?_;refine cn hL ?_ ?_
     ·intro hc hL;refine r6 ?_;refine r1 ?_;refine Y9.ret ?_;exact rt hL hT hS
     ·intro hc hL;refine r2 ?_;exact Y9.YZ _ hL ⟨_,_,rfl,hS.only (.c k1 (.c k0 .n)),YA⟩
    ·intro hc hL;refine r6 ?_;refine cn hL ?_ ?_
     ·intro hc hL;refine r1 ?_;refine WC.Xx mixed Kq0 ?_;refine r3 ?_;refine WX.wr (fun x=>x=b1) hS gN rfl (fun _ _ hR=>ZW Xn (Yi fh rfl) (At.eqv (hR b1 rfl) (hS.atB k1)) (j:=10) rfl (v:= .int .i64 p1.at_) rfl) ?_ rfl rfl;rintro h21 e22 hS;refine r1 ?_;refine WX.wr (fun x=>x=b1) hS gN rfl (fun _ _ hR=>ZW Xn (Yi fh rfl) (At.eqv (hR b1 rfl) (hS.atB k1)) (j:=11) rfl (v:= .int .i64 p1.age) rfl) ?_ rfl rfl;rintro h23 e24 hS;refine r1 ?_;refine WX.hu gN (ZaI hS k0 YF lk lk (vs:= [.int .i64 p1.place]) rfl rfl rfl rfl (cs':= [.int .i64 p1.kind,.int .i64 p1.Z9,.int .i64 0,.int .i64 0,.int .i64 0,.int .i64 0,.int .i64 0,.slice none 0 0,.slice none 0 0,.int .i64 p1.place,.int .i64 0,.int .i64 0]) rfl) ?_ rfl rfl [3,5] Kq0 (.c (.s .z) (hS.dj (.c k0 (.c k0 .n))) (.c .z (hS.dj (.c k0 (.c k0 .n))) YV.e));rintro h25 hS;refine WX.w gN rfl (Ui Zub lk) ?_ Kq0;refine WX.hu gN (ZaI hS k0 YF lk lk (vs:= [.int .i64 p1.at_]) rfl rfl rfl rfl (cs':= [.int .i64 p1.kind,.int .i64 p1.Z9,.int .i64 0,.int .i64 0,.int .i64 0,.int .i64 0,.int .i64 0,.slice none 0 0,.slice none 0 0,.int .i64 p1.place,.int .i64 p1.at_,.int .i64 0]) rfl) ?_ rfl Kq0 [5] Kq0 (.c .z (hS.dj (.c k0 (.c k0 .n))) YV.e);rintro h26 hS;refine WX.w gN rfl (Ui Zua lk) ?_ Kq0;refine WX.hu gN (ZaI hS k0 YF lk lk (vs:= [.int .i64 p1.age]) rfl rfl rfl rfl (cs':= [.int .i64 p1.kind,.int .i64 p1.Z9,.int .i64 0,.int .i64 0,.int .i64 0,.int .i64 0,.int .i64 0,.slice none 0 0,.slice none 0 0,.int .i64 p1.place,.int .i64 p1.at_,.int .i64 p1.age]) rfl) ?_ rfl Kq0 [] Kq0 YV.e;rintro h27 hS;refine XA ?_;refine r1 ?_;obtain⟨x28,hx28,hL⟩:=Yp hL;refine WO.gcp (Zt.no rfl rfl rfl (YG rfl (Zy rfl fh))) rfl (fun hg=>(Xm.fn ZFA (Zf (Y4 (YG rfl fh) rfl hg) (Zf (Y4 fh rfl hg) Zz)))) (fun hg=>ZAl (At.fz hS.fz XY XZ) (Stb.up hS.hw (Stb.fz hS.fz XZ XY)) (hS.Y0 ZB) (hS.Y0 ZN) (hS.Y0 ZL) (hS.Y0 ZO) (hS.Y0 ZJ) (hS.Y0 Xr) (hx28 hg)) ?_;refine r8 ?_;refine r2 ?_;obtain⟨x29,hx29,hL⟩:=Yp hL;refine WO.gcp (Zt.no rfl rfl rfl (Y5 rfl (YG rfl (Zy rfl fh)))) rfl (fun hg=>(Xm.fn ZyY (Zf (Y4 (Y5 rfl (YG rfl fh)) rfl hg) (Zf (Y4 (Y5 rfl fh) rfl hg) (Zf (Y4 (YG rfl fh) rfl hg) (Zf (Y4 fh rfl hg) Zz)))))) (fun hg=>Zr9 (At.fz hS.fz XY XZ) (Stb.up hS.hw (Stb.fz hS.fz XZ XY)) (hS.Y0 ZB) (hS.Y0 ZN) (hS.Y0 ZL) (hS.Y0 ZO) (hS.Y0 ZJ) (hS.Y0 Xr) (hx29 hg)) ?_;refine r4 ?_;refine cn hL ?_ ?_
      ·intro hc hL;refine r6 ?_;refine r1 ?_;refine Y9.ret ?_;exact rt hL hT hS
      ·intro hc hL;refine r2 ?_;exact Y9.YZ _ hL ⟨_,_,rfl,hS.only (.c k1 (.c k0 .n)),YA⟩
     ·intro hc hL;refine r2 ?_;exact Y9.YZ _ hL ⟨_,_,rfl,hS.only (.c k1 (.c k0 .n)),YA⟩
end Go.Proofs.YtbmbbcaaimehkaaGreat
end
end
section
namespace Go.Proofs.YtbmbbcaaimehkaaGreat
open Go.Lf
def Zgj (Xw:(ZX×Bool)) (v59:Int) (Zmm:(Int ->Option Int)) (x62:(List Zr)):Int ->(Int ->Option Int) ->Option Int:=fun v76 ZxN=>
 (bif decide (v76 < (x62.length:Int)) then(ZT x62 v76).bind fun x79=>(ZvG Xw.1 v59 x79).bind fun x85=>(gd (!(!x85)) (ZT Xw.1.Y7 x79.place) default).bind fun x86=>(bif((!x85) || (!(Zfc x86 (Yo.mk v59 false x79.age)))) then some 2 else ZxN (Xd (v76 + 1))) else Zmm (Xd (v59 + 1)))
def Zgk (F:Nat) (p0:Zb) (Xw:(ZX×Bool)):Int ->(Int ->Option Int) ->Option Int:=fun v59 Zmm=>
 (bif decide (v59 < (p0.qJ.length:Int)) then(ZT p0.qJ v59).bind fun x62=>loop F (Zgj Xw v59 Zmm x62) 0 else some 0)
def ZjS (F:Nat) (p0:Zb) (Xw:(ZX×Bool)):Int ->(Int ->Option Int) ->Option Int:=fun v40 ZxV=>
 (bif decide (v40 < (p0.qG.length:Int)) then(ZT p0.qG v40).bind fun x43=>(ZAu Xw.1 x43).bind fun x53=>(bif(!x53) then some 2 else ZxV (Xd (v40 + 1))) else loop F (Zgk F p0 Xw) 0)
def Zp2 (F:Nat) (p0:Zb):Option Int:=
 (ZAw F p0).bind fun x3=>(gd (!(!x3)) (ZvJ F p0) default).bind fun x4=>(bif((!x3) || (!x4)) then some 2 else(mkL (Yo.mk 0 false 0) 24 (p0.Zv.length:Int) (p0.Zv.length:Int)).bind fun z5=>(ZAv F (ZX.mk p0 z5)).bind fun Xw=>(gd (!(!Xw.2)) (ZvI F Xw.1) default).bind fun x32=>(gd (!((!Xw.2) || (!x32))) (ZvH F Xw.1) default).bind fun x33=>(bif(((!Xw.2) || (!x32)) || (!x33)) then some 2 else loop F (ZjS F p0 Xw) 0))
end Go.Proofs.YtbmbbcaaimehkaaGreat
end
section
set_option maxRecDepth 20000
noncomputable section
namespace Go.Proofs.YtbmbbcaaimehkaaGreat
open Go.YL Go.Lf
theorem ZAE {F wm:Nat} {h:H} {p0:Zb} {Zi:Option Addr} {Zh:Nat} {Zk:Option Addr} {Zj:Nat} {Zq:Option Addr} {Zn:Nat} {Zp:Option Addr} {Zm:Nat} {Zo:Option Addr} {Zl:Nat} {r:Int} (Z0:wm <=h.size) (ZB:Sl (Zu .i64) wm h Zi Zh p0.Zv) (ZN:Sl (ZM (Zu .i64)) wm h Zk Zj p0.qK) (ZL:Sl (ZM Zc) wm h Zq Zn p0.qQ) (ZO:Sl (ZM Zg) wm h Zp Zm p0.qJ) (ZJ:Sl Ze wm h Zo Zl p0.qG) (hL:Zp2 F p0=some r):
 WR XX 36 #[.agg [.slice Zi p0.Zv.length Zh,.slice Zk p0.qK.length Zj,.slice Zq p0.qQ.length Zn,.slice Zp p0.qJ.length Zm,.slice Zo p0.qG.length Zl,.int .i64 p0.said].toArray] wm h (CP (fun(v:Value) (Gb:List (Ast wm))=>v= .int .i64 r∧Gb= []) [] h):=by
 refine bg Tryz.ntmps36 Z0 Yh.nil ?_;intro T hT hS;unfold Zp2 at hL;refine r3 ?_;rintro _ h2 ⟨b1,eb1,rfl,hS⟩;refine r6 ?_;refine r1 ?_;obtain⟨x3,hx3,hL⟩:=bind_some hL;refine WO.cp gN rfl (Xm.fn ZMB (Zf lk Zz)) (WR.Qy rfl (ZJi (Nat.le_refl _) (hS.Y0 ZB) (hS.Y0 ZN) (hS.Y0 ZL) (hS.Y0 ZO) (hS.Y0 ZJ) hx3)) ?_;refine r3 ?_;obtain⟨x4,hx4,hL⟩:=Yp hL;refine WO.gcp (Zt.no rfl rfl rfl (Zy rfl fh)) rfl (fun hg=>(Xm.fn ZMA (Zf (Y4 fh rfl hg) Zz))) (fun hg=>ZJh (hS.Y0 ZB) (hS.Y0 ZN) (hS.Y0 ZL) (hS.Y0 ZO) (hS.Y0 ZJ) (hx4 hg)) ?_;refine r4 ?_;refine cn hL ?_ ?_
 ·intro hc hL;refine r6 ?_;refine r1 ?_;exact rt hL hT hS
 ·intro hc hL;refine r3 ?_;refine WC.Xx mixed Kq0 ?_;refine r4 ?_;obtain⟨z5,hz5,hL⟩:=bind_some hL;refine WX.hn gN rfl (Zxa (e:=XE) (x0:= (Yo.mk 0 false 0)) () hS Zii Wt (ZEq) ZlU rfl rfl (Yi fh rfl) (Yi fh rfl) rfl trivial hz5) ?_ rfl;rintro _ h7 ⟨b6,c8,eb6,rfl,hS⟩;refine WX.w gN rfl (XP ZJU (ZG lk (ZG lk Yf)) rfl (cs':= (cG Zi p0.Zv.length Zh Zk p0.qK.length Zj Zq p0.qQ.length Zn Zp p0.qJ.length Zm Zo p0.qG.length Zl p0.said (some ⟨b6,0,none⟩) z5.length c8)) rfl) ?_ rfl;refine WX.hn gN rfl (ZE3 hS lk (vs:= (cG Zi p0.Zv.length Zh Zk p0.qK.length Zj Zq p0.qQ.length Zn Zp p0.qJ.length Zm Zo p0.qG.length Zl p0.said (some ⟨b6,0,none⟩) z5.length c8)) rfl) ?_ rfl;rintro _ h10 ⟨b9,eb9,rfl,hS⟩;refine r6 ?_;refine r1 ?_;obtain⟨Xw,ZhC,hL⟩:=bind_some hL;refine WO.cl gN rfl (Xm.fn ZMz (Zf lk Zz)) hS (.c k0 (.c k0 .n)) (fun g' hz hf hO=>ZJf (p0:= (ZX.mk p0 z5)) (by rw [hz];exact hS.hw) ((hS.sl ZB).mono hf) ((hS.sl ZN).mono hf) ((hS.sl ZL).mono hf) ((hS.sl ZO).mono hf) ((hS.sl ZJ).mono hf) hO ZhC) ?_;rintro _ h30 _ ⟨a12,c14,a15,c17,a18,c20,a21,c23,a24,c26,a27,n28,c29,rfl,rfl⟩ hS;obtain rfl:=hS.on k6;refine r3 ?_;obtain⟨x32,hx32,hL⟩:=Yp hL;refine WO.gcp (Zt.no rfl rfl rfl (Zy rfl fh)) rfl (fun hg=>(Xm.fn ZMy (Zf (Y4 fh rfl hg) Zz))) (fun hg=>ZJe (hS.atB k0) (.inl (hS.lt k0)) (hS.ZaR k1) (hS.ZaR k2) (hS.ZaR k3) (hS.ZaR k4) (hS.ZaR k5) (hS.ord k6) (hx32 hg)) ?_;refine r4 ?_;obtain⟨x33,ZRm,hL⟩:=Yp hL;refine WO.gcp (Zt.no rfl rfl rfl (Zy rfl fh)) rfl (fun hg=>(Xm.fn ZMx (Zf (Y4 fh rfl hg) Zz))) (fun hg=>ZJc (hS.atB k0) (.inl (hS.lt k0)) (hS.ZaR k1) (hS.ZaR k2) (hS.ZaR k3) (hS.ZaR k4) (hS.ZaR k5) (hS.ord k6) (ZRm hg)) ?_;refine r4 ?_;refine cn hL ?_ ?_
  ·intro hc hL;refine r6 ?_;refine r1 ?_;exact rt hL hT hS
  ·intro hc hL;refine XA ?_;refine WC.loop (WL.lift hL (fun(v40:Int) (s:Fs)=>∃ (Zr0:Fr) (h34:H),s= ⟨Zr0,[],h34,none⟩∧Sp wm T h [bx wm b1 (cW p0 Zi Zh Zk Zj Zq Zn Zp Zm Zo Zl),bx wm b9 (cG a12 Xw.1.Za.Zv.length c14 a15 Xw.1.Za.qK.length c17 a18 Xw.1.Za.qQ.length c20 a21 Xw.1.Za.qJ.length c23 a24 Xw.1.Za.qG.length c26 Xw.1.Za.said a27 Xw.1.Y7.length c29),YD wm (ZM (Zu .i64)) (a12,c14) Xw.1.Za.Zv,YD wm (ZM (ZM (Zu .i64))) (a15,c17) Xw.1.Za.qK,YD wm (ZM (ZM Zc)) (a18,c20) Xw.1.Za.qQ,YD wm (ZM (ZM Zg)) (a21,c23) Xw.1.Za.qJ,YD wm (ZM Ze) (a24,c26) Xw.1.Za.qG,ow wm XE a27 Xw.1.Y7.length c29 Xw.1.Y7] h34∧Zr0.at 1= .pointer (some ⟨b1,0,none⟩)∧Zr0.at 3= .pointer (some ⟨b9,0,none⟩)∧Zr0.at 39= .slice Zo p0.qG.length Zl∧Zr0.at 40= .int .i64 (p0.qG.length:Int)∧Zr0.at 41= .int .i64 v40) ⟨_,_,rfl,hS.only (.c k7 (.c k0 (.c k0 (.c k0 (.c k0 (.c k0 (.c k0 (.c k0 .n)))))))),YA⟩ ?_);clear hL hS;rintro ZxV v40 s ZDn hL ⟨Zr0,h34,rfl,hS,e36,e37,e38,e39,e41⟩;dsimp only [ZjS] at hL;refine r6 ?_;refine cn hL ?_ ?_
   ·intro hc hL;refine r6 ?_;obtain⟨x43,Zym,hL⟩:=bind_some hL;obtain⟨b44,o45,⟨⟨a46,c47⟩,⟨a48,c49⟩⟩,Zzc,ZzO,ZNO,Zzq⟩:=Sl.at_ ZJ Zym;refine WO.w gN rfl (ZE Jj Y2 lk lk rfl Zzc Zym) ?_;have ZLZ:Sl (Zu .i64) wm h a46 c47 x43.qV:=Zzq.1;have ZpA:Sl (Zu .i64) wm h a48 c49 x43.Yj:=Zzq.2;refine WO.w gN rfl (Xf Zak Y2 (Yi fh rfl) (At.fz hS.fz ZNO ZzO) (j:=0) rfl rfl (ws:= (cL x43 a46 c47 a48 c49)) rfl) ?_;refine r1 ?_;rintro _ h51 ⟨b50,ZYM,rfl,hS⟩;refine r1 ?_;rintro h52 hS;refine r6 ?_;obtain⟨x53,ZRk,hL⟩:=bind_some hL;refine WO.cp gN rfl (Xm.fn ZMw (Zf lk (Zf lk Zz))) (WR.Qy rfl (ZJa (Nat.le_refl _) (hS.atB k2) (.inl (hS.lt k2)) (hS.ZaR k3) (hS.ZaR k4) (hS.ZaR k5) (hS.ZaR k6) (hS.ZaR k7) (hS.ord k8) (hS.Y0 ZLZ) (hS.Y0 ZpA) ZRk)) ?_;refine r3 ?_;refine cn hL ?_ ?_
    ·intro hc hL;refine r8 ?_;refine r3 ?_;exact rt hL hT hS
    ·intro hc hL;refine r6 ?_;refine r1 ?_;exact Yc.YZ (ZDn _ _ hL ⟨_,_,rfl,hS.only (.c k1 (.c k1 (.c k1 (.c k1 (.c k1 (.c k1 (.c k1 (.c k1 .n)))))))),YA⟩)
   ·intro hc hL;refine XA ?_;refine r3 ?_;refine WC.loop (WL.lift hL (fun(v59:Int) (s:Fs)=>∃ (Zdh:Fr) (h54:H),s= ⟨Zdh,[],h54,none⟩∧Sp wm T h [bx wm b9 (cG a12 Xw.1.Za.Zv.length c14 a15 Xw.1.Za.qK.length c17 a18 Xw.1.Za.qQ.length c20 a21 Xw.1.Za.qJ.length c23 a24 Xw.1.Za.qG.length c26 Xw.1.Za.said a27 Xw.1.Y7.length c29),YD wm (ZM (Zu .i64)) (a12,c14) Xw.1.Za.Zv,YD wm (ZM (ZM (Zu .i64))) (a15,c17) Xw.1.Za.qK,YD wm (ZM (ZM Zc)) (a18,c20) Xw.1.Za.qQ,YD wm (ZM (ZM Zg)) (a21,c23) Xw.1.Za.qJ,YD wm (ZM Ze) (a24,c26) Xw.1.Za.qG,ow wm XE a27 Xw.1.Y7.length c29 Xw.1.Y7] h54∧Zdh.at 3= .pointer (some ⟨b9,0,none⟩)∧Zdh.at 51= .slice Zp p0.qJ.length Zm∧Zdh.at 52= .int .i64 (p0.qJ.length:Int)∧Zdh.at 53= .int .i64 v59) ⟨_,_,rfl,hS.only (.c k1 (.c k1 (.c k1 (.c k1 (.c k1 (.c k1 (.c k1 .n))))))),YA⟩ ?_);clear hL hS;rintro Zmm v59 s ZDg hL ⟨Zdh,h54,rfl,hS,e56,e57,e58,e60⟩;dsimp only [Zgk] at hL;refine r6 ?_;refine cn hL ?_ ?_
    ·intro hc hL;refine r6 ?_;refine r1 ?_;obtain⟨x62,ZLy,hL⟩:=bind_some hL;obtain⟨b63,o64,⟨a65,c66⟩,ZM2,ZN5,ZNE,ZNk⟩:=Sl.at_ ZO ZLy;refine WO.w gN rfl (ZE Kb QR lk lk rfl ZM2 ZLy) ?_;have ZLX:Sl Zg wm h a65 c66 x62:=ZNk;refine WO.w gN rfl (ZW ZbF (Yi fh rfl) (At.fz hS.fz ZNE ZN5) (j:=0) rfl (v:= .slice a65 x62.length c66) rfl) ?_;refine XA ?_;refine WC.loop (WL.lift hL (fun(v76:Int) (s:Fs)=>∃ (ZbL:Fr) (h67:H),s= ⟨ZbL,[],h67,none⟩∧Sp wm T h [bx wm b9 (cG a12 Xw.1.Za.Zv.length c14 a15 Xw.1.Za.qK.length c17 a18 Xw.1.Za.qQ.length c20 a21 Xw.1.Za.qJ.length c23 a24 Xw.1.Za.qG.length c26 Xw.1.Za.said a27 Xw.1.Y7.length c29),YD wm (ZM (Zu .i64)) (a12,c14) Xw.1.Za.Zv,YD wm (ZM (ZM (Zu .i64))) (a15,c17) Xw.1.Za.qK,YD wm (ZM (ZM Zc)) (a18,c20) Xw.1.Za.qQ,YD wm (ZM (ZM Zg)) (a21,c23) Xw.1.Za.qJ,YD wm (ZM Ze) (a24,c26) Xw.1.Za.qG,ow wm XE a27 Xw.1.Y7.length c29 Xw.1.Y7] h67∧ZbL.at 3= .pointer (some ⟨b9,0,none⟩)∧ZbL.at 6= .int .i64 v59∧ZbL.at 51= .slice Zp p0.qJ.length Zm∧ZbL.at 52= .int .i64 (p0.qJ.length:Int)∧ZbL.at 53= .int .i64 v59∧ZbL.at 58= .slice a65 x62.length c66∧ZbL.at 59= .int .i64 (x62.length:Int)∧ZbL.at 60= .int .i64 v76) ⟨_,_,rfl,hS.only (.c k0 (.c k0 (.c k0 (.c k0 (.c k0 (.c k0 (.c k0 .n))))))),YA⟩ ?_);clear hL hS;rintro ZxN v76 s ZDb hL ⟨ZbL,h67,rfl,hS,e69,e70,e71,e72,e73,e74,e75,e77⟩;dsimp only [Zgj] at hL;refine r6 ?_;refine cn hL ?_ ?_
     ·intro hc hL;refine r6 ?_;obtain⟨x79,ZLw,hL⟩:=bind_some hL;obtain⟨b80,o81,_,ZMZ,ZN2,ZNA,ZUE⟩:=Sl.at_ ZLX ZLw;refine WO.w gN rfl (ZE ZaB JQ lk lk rfl ZMZ ZLw) ?_;refine WO.w gN rfl (Xf Zkm JQ (Yi fh rfl) (At.fz hS.fz ZNA ZN2) (j:=0) rfl rfl (ws:= (cM x79)) rfl) ?_;refine r1 ?_;rintro _ h83 ⟨b82,ZYz,rfl,hS⟩;refine r1 ?_;rintro h84 hS;refine r3 ?_;refine WC.Xx mixed Kq0 ?_;refine r3 ?_;obtain⟨x85,ZRh,hL⟩:=bind_some hL;refine WX.cp gN rfl (Xm.fn ZFG (Zf lk (Zf lk (Zf lk Zz)))) (WR.Qy rfl (ZAt (Nat.le_refl _) (hS.atB k1) (.inl (hS.lt k1)) (hS.ZaR k2) (hS.ZaR k3) (hS.ZaR k4) (hS.ZaR k5) (hS.ZaR k6) (hS.ord k7) ZRh)) ?_ rfl rfl;refine r8 ?_;obtain⟨x86,ZLv,hL⟩:=Yp hL;obtain⟨b87,o88,_,hQ⟩:=Src.atG (fun hg=>(hS.QE k7)) ZLv;have ZMX:=fun hg=>(hQ hg).1
      have ZN0:=fun hg=>(hQ hg).2.1
      have ZUC:=fun hg=>(hQ hg).2.2
      refine WX.gv (Zt.no rfl rfl rfl (Y5 rfl (YG rfl fh))) rfl (fun hg=>(ZE Zii Wt (Y4 (YG rfl fh) rfl hg) (Y4 fh rfl hg) rfl (ZMX hg) (ZLv hg))) ?_ rfl;refine WX.gv (Zt.no rfl rfl rfl (Y5 rfl (YG rfl (Zy rfl fh)))) rfl (fun hg=>(Xf Zn3 Wt (Y4 fh rfl hg) (ZN0 hg) (j:=0) rfl rfl (ws:= [.int .i64 x86.machine,.bool x86.here,.int .i64 x86.age]) rfl)) ?_ rfl;refine r3 ?_;refine WX.gv (Zt.no rfl rfl rfl (Xa rfl (YG rfl (Zy rfl fh)))) rfl (fun hg=>(XP Zsz (ZG (Y4 (YG rfl fh) rfl hg) (ZG lk (ZG (Y4 fh rfl hg) Yf))) rfl (cs':= [.int .i64 v59,.bool false,.int .i64 x79.age]) rfl)) ?_ rfl;refine WX.gv (Zt.no rfl rfl rfl (Xa rfl (Y5 rfl fh))) rfl (fun hg=>(Uj (Y4 (Y5 rfl fh) rfl hg) (Y4 fh rfl hg) (ZqB (xs:= [.int .i64 x86.machine,.bool x86.here,.int .i64 x86.age]) (ys:= [.int .i64 v59,.bool false,.int .i64 x79.age]) (ZJE x86 (Yo.mk v59 false x79.age)) rfl rfl))) ?_ rfl;refine r3 ?_;refine cn hL ?_ ?_
      ·intro hc hL;refine XA ?_;refine r3 ?_;exact rt hL hT hS
      ·intro hc hL;refine r6 ?_;refine r1 ?_;exact Yc.YZ (ZDb _ _ hL ⟨_,_,rfl,hS.only (.c k1 (.c k1 (.c k1 (.c k1 (.c k1 (.c k1 (.c k1 .n))))))),YA⟩)
     ·intro hc hL;refine r8 ?_;refine r2 ?_;exact Yc.YZ (ZDg _ _ hL ⟨_,_,rfl,hS.only (.c k0 (.c k0 (.c k0 (.c k0 (.c k0 (.c k0 (.c k0 .n))))))),YA⟩)
    ·intro hc hL;refine r8 ?_;refine r3 ?_;exact rt hL hT hS
end Go.Proofs.YtbmbbcaaimehkaaGreat
end
end
section
namespace Go.Proofs.YtbmbbcaaimehkaaGreat
open Go.Lf
def Zbk (v38:Int) (ZfV:((List Int)×Int×(List Int)×(List (List Int))×(List (List Zw))×(List (List Zr))×(List Zd)×Int×(List Zx) ->Option (Zb×(List Zx)×(List Int)×Int))):(List Int)×(List Int)×(List (List Int))×(List (List Zw))×(List (List Zr))×(List Zd)×Int×(List Zx) ->Option (Zb×(List Zx)×(List Int)×Int):=fun(v73,v81,v85,v90,v95,ZbI,WG,v105)=>
 ZfV (v73,Xd (v38 + 1),v81,v85,v90,v95,ZbI,WG,v105)
def Znw (F:Nat) (p1:(List ZC)):(List Int)×Int×(List Int)×(List (List Int))×(List (List Zw))×(List (List Zr))×(List Zd)×Int×(List Zx) ->((List Int)×Int×(List Int)×(List (List Int))×(List (List Zw))×(List (List Zr))×(List Zd)×Int×(List Zx) ->Option (Zb×(List Zx)×(List Int)×Int)) ->Option (Zb×(List Zx)×(List Int)×Int):=fun(v31,v38,v40,v44,v49,v54,v59,v63,v64) ZfV=>
 (bif decide (v38 < (p1.length:Int)) then(ZT p1 v38).bind fun Zel=>(Zsh (Zb.mk v40 v44 v49 v54 v59 v63) Zel).bind fun x115=>(gd x115 (Zsg F (Zb.mk v40 v44 v49 v54 v59 v63) Zel) default).bind fun ZCb=>(bif(x115 && (ZCb==0)) then(ZvK F (Z4.mk (Zb.mk v40 v44 v49 v54 v59 v63) v64) Zel).bind fun JI=>(app 8 v31 [v38]).bind fun ZwB=>(Zbk v38 ZfV) (ZwB,JI.Za.Zv,JI.Za.qK,JI.Za.qQ,JI.Za.qJ,JI.Za.qG,JI.Za.said,JI.qX) else(Zbk v38 ZfV) (v31,v40,v44,v49,v54,v59,v63,v64)) else some ((Zb.mk v40 v44 v49 v54 v59 v63),v64,v31,0))
def ZAK (F:Nat) (p0:Zb) (p1:(List ZC)):Option (Zb×(List Zx)×(List Int)×Int):=
 (Zp2 F p0).bind fun x5=>(bif((x5 !=0) || (decide ((p1.length:Int) > 80))) then some ((Zb.mk [] [] [] [] [] 0),[],[],2) else(ZvL F p0).bind fun x7=>loop F (Znw F p1) ([],0,x7.Zv,x7.qK,x7.qQ,x7.qJ,x7.qG,x7.said,[]))
def Zgl (F:Nat) (v36:Int) (v38:(List Int)) (v42:(List (List Int))) (v47:(List (List Zw))) (v52:(List (List Zr))) (v57:(List Zd)) (v61:Int) (v62:(List Zx)) (KT:(Int×(List Int)×(List (List Int))×(List (List Zw))×(List (List Zr))×(List Zd)×Int×(List Zx) ->Option (Zb×(List Zx)×Int×Int))):Int ->Option (Zb×(List Zx)×Int×Int):=fun v73=>
 (Zsd F (Z4.mk (Zb.mk v38 v42 v47 v52 v57 v61) v62) v73).bind fun x75=>KT (Xd (v36 + 1),x75.Za.Zv,x75.Za.qK,x75.Za.qQ,x75.Za.qJ,x75.Za.qG,x75.Za.said,x75.qX)
def Znp (F:Nat) (p1:(List Int)):Int×(List Int)×(List (List Int))×(List (List Zw))×(List (List Zr))×(List Zd)×Int×(List Zx) ->(Int×(List Int)×(List (List Int))×(List (List Zw))×(List (List Zr))×(List Zd)×Int×(List Zx) ->Option (Zb×(List Zx)×Int×Int)) ->Option (Zb×(List Zx)×Int×Int):=fun(v36,v38,v42,v47,v52,v57,v61,v62) KT=>
 (bif decide ((v57.length:Int) > 0) then(bif decide (v36 < (p1.length:Int)) then(ZT p1 v36).bind fun x96=>(Zu5 x96 (v57.length:Int)).bind fun x99=>(Zgl F v36 v38 v42 v47 v52 v57 v61 v62 KT) x99 else(Zgl F v36 v38 v42 v47 v52 v57 v61 v62 KT) 0) else some ((Zb.mk v38 v42 v47 v52 v57 v61),v62,v36,0))
def Zct (F:Nat) (p0:Zb) (p1:(List Int)):Int ->Option (Zb×(List Zx)×Int×Int):=fun v9=>
 (bif decide (v9 >=0) then some ((Zb.mk [] [] [] [] [] 0),[],0,2) else(ZvL F p0).bind fun Xw=>loop F (Znp F p1) (0,Xw.Zv,Xw.qK,Xw.qQ,Xw.qJ,Xw.qG,Xw.said,[]))
def ZjT (F:Nat) (p0:Zb) (p1:(List Int)):Int ->(Int ->Option (Zb×(List Zx)×Int×Int)) ->Option (Zb×(List Zx)×Int×Int):=fun ZdF ZtB=>
 (bif decide (ZdF < (p1.length:Int)) then(ZT p1 ZdF).bind fun ZGs=>(bif decide (ZGs < 0) then(Zct F p0 p1) ZdF else ZtB (Xd (ZdF + 1))) else(Zct F p0 p1) (-1))
def ZAH (F:Nat) (p0:Zb) (p1:(List Int)):Option (Zb×(List Zx)×Int×Int):=
 (Zp2 F p0).bind fun x5=>(bif(!((x5 !=0) || (decide ((p1.length:Int) > 80)))) then loop F (ZjT F p0 p1) 0 else some ((Zb.mk [] [] [] [] [] 0),[],0,2))
end Go.Proofs.YtbmbbcaaimehkaaGreat
end
section
set_option maxRecDepth 20000
noncomputable section
namespace Go.Proofs.YtbmbbcaaimehkaaGreat
open Go.YL Go.Lf
theorem ZJA {F wm:Nat} {h:H} {p0:Zb} {p1:(List ZC)} {Zi:Option Addr} {Zh:Nat} {Zk:Option Addr} {Zj:Nat} {Zq:Option Addr} {Zn:Nat} {Zp:Option Addr} {Zm:Nat} {Zo:Option Addr} {Zl:Nat} {Xi:Option Addr} {Xh:Nat} {r:(Zb×(List Zx)×(List Int)×Int)} (Z0:wm <=h.size) (ZB:Sl (Zu .i64) wm h Zi Zh p0.Zv) (ZN:Sl (ZM (Zu .i64)) wm h Zk Zj p0.qK) (ZL:Sl (ZM Zc) wm h Zq Zn p0.qQ) (ZO:Sl (ZM Zg) wm h Zp Zm p0.qJ) (ZJ:Sl Ze wm h Zo Zl p0.qG) (XM:Sl Uc wm h Xi Xh p1) (hL:ZAK F p0 p1=some r):
 WR XX 25 #[.agg [.slice Zi p0.Zv.length Zh,.slice Zk p0.qK.length Zj,.slice Zq p0.qQ.length Zn,.slice Zp p0.qJ.length Zm,.slice Zo p0.qG.length Zl,.int .i64 p0.said].toArray,.slice Xi p1.length Xh] wm h (CP (fun(v:Value) (Gb:List (Ast wm))=>∃ (X7:Option Addr) (X5:Nat) (X6:Nat) (Zhc:Option Addr) (Zg4:Nat) (Zg8:Nat) (ZeE:Nat ->Option Addr×Nat×Nat) (Zhb:Option Addr) (Zg3:Nat) (Zg7:Nat) (ZeD:Nat ->Option Addr×Nat×Nat) (Zha:Option Addr) (Zg2:Nat) (Zg6:Nat) (ZeC:Nat ->Option Addr×Nat×Nat) (Zg9:Option Addr) (Zg1:Nat) (Zg5:Nat) (Zo0:Option Addr) (ZoT:Nat) (ZoX:Nat) (ZE7:Option Addr) (ZE4:Nat) (ZE6:Nat),v= .tuple [.agg [.slice X7 X5 X6,.slice Zhc Zg4 Zg8,.slice Zhb Zg3 Zg7,.slice Zha Zg2 Zg6,.slice Zg9 Zg1 Zg5,.int .i64 r.1.said].toArray,.slice Zo0 ZoT ZoX,.slice ZE7 ZE4 ZE6,.int .i64 r.2.2.2].toArray∧Gb= [ow wm (Zu .i64) X7 X5 X6 r.1.Zv,Y3 wm (ZV (Zu .i64)) Zhc Zg4 Zg8 ZeE r.1.qK,Y3 wm (ZV Zc) Zhb Zg3 Zg7 ZeD r.1.qQ,Y3 wm (ZV Zg) Zha Zg2 Zg6 ZeC r.1.qJ,ow wm Ze Zg9 Zg1 Zg5 r.1.qG,ow wm ZQ Zo0 ZoT ZoX r.2.1,ow wm (Zu .i64) ZE7 ZE4 ZE6 r.2.2.1]) [] h):=by
 refine bg Tryz.ntmps25 Z0 Yh.nil ?_;intro T hT hS;unfold ZAK at hL;refine r3 ?_;rintro _ h2 ⟨b1,eb1,rfl,hS⟩;refine r1 ?_;rintro _ h4 ⟨b3,eb3,rfl,hS⟩;refine r8 ?_;refine r1 ?_;obtain⟨x5,hx5,hL⟩:=bind_some hL;refine WO.cp gN rfl (Xm.fn ZFK (Zf lk Zz)) (WR.Qy rfl (ZAE (Nat.le_refl _) (hS.Y0 ZB) (hS.Y0 ZN) (hS.Y0 ZL) (hS.Y0 ZO) (hS.Y0 ZJ) hx5)) ?_;refine r8 ?_;refine cn hL ?_ ?_
 ·intro hc hL;refine r2 ?_;refine WO.w gN rfl (XP Zut Yf rfl (cs':= (cV none 0 0 none 0 0 none 0 0 none 0 0 none 0 0 0)) rfl) ?_;refine r1 ?_;rintro h6 hS;refine r6 ?_;refine r1 ?_;have hS:=hS.nil (e:= (Zu .i64));have hS:=hS.ZhB (e:= (ZV (Zu .i64))) (ps:=fun _=>(ZV (Zu .i64)).dflt);have hS:=hS.ZhB (e:= (ZV Zc)) (ps:=fun _=>(ZV Zc).dflt);have hS:=hS.ZhB (e:= (ZV Zg)) (ps:=fun _=>(ZV Zg).dflt);have hS:=hS.nil (e:=Ze);have hS:=hS.nil (e:=ZQ);have hS:=hS.nil (e:= (Zu .i64));have hr:=Oi0 hL;subst hr;exact Yl.gen (vs:= [.agg [.slice none 0 0,.slice none 0 0,.slice none 0 0,.slice none 0 0,.slice none 0 0,.int .i64 0].toArray,.slice none 0 0,.slice none 0 0,.int .i64 2]) rfl (Y6 (Xa rfl (Y5 rfl (YG rfl (Zy rfl fh)))) (UA Zkn Zan (hS.atB k7) (j:=0) rfl rfl (ws:= (cV none 0 0 none 0 0 none 0 0 none 0 0 none 0 0 0)) rfl) (ZP lk (ZP lk (ZP lk ZA)))) rfl ⟨_,⟨none,0,0,none,0,0,(fun _=>(ZV (Zu .i64)).dflt),none,0,0,(fun _=>(ZV Zc).dflt),none,0,0,(fun _=>(ZV Zg).dflt),none,0,0,none,0,0,none,0,0,rfl,rfl⟩,hT ▸ hS.only (.c k6 (.c k5 (.c k4 (.c k3 (.c k2 (.c k1 (.c k0 .n)))))))⟩
 ·intro hc hL;refine r4 ?_;refine r1 ?_;obtain⟨x7,hx7,hL⟩:=bind_some hL;refine WO.cl gN rfl (Xm.fn ZFJ (Zf lk Zz)) hS .n (fun g' hz hf hO=>ZAC (by rw [hz];exact hS.hw) ((hS.sl ZB).mono hf) ((hS.sl ZN).mono hf) ((hS.sl ZL).mono hf) ((hS.sl ZO).mono hf) ((hS.sl ZJ).mono hf) hx7) ?_;rintro _ h23 _ ⟨a8,n9,c10,a11,n12,c13,Ztl,a14,n15,c16,Ztk,a17,n18,c19,ZE9,a20,n21,c22,rfl,rfl⟩ hS;obtain rfl:=hS.on k0;obtain rfl:=hS.YT k1;obtain rfl:=hS.YT k2;obtain rfl:=hS.YT k3;obtain rfl:=hS.on k4;refine WO.w gN rfl (XP ZA3 (ZG lk Yf) rfl (cs':= (cG a8 x7.Zv.length c10 a11 x7.qK.length c13 a14 x7.qQ.length c16 a17 x7.qJ.length c19 a20 x7.qG.length c22 x7.said none 0 0)) rfl) ?_;refine r1 ?_;rintro _ h26 ⟨b25,ZJH,rfl,hS⟩;refine r16 ?_;refine r1 ?_;have hS:=hS.nil (e:= (Zu .i64));have hS:=hS.nil (e:=ZQ);refine WC.loop (WL.lift hL (fun(p:(List Int)×Int×(List Int)×(List (List Int))×(List (List Zw))×(List (List Zr))×(List Zd)×Int×(List Zx)) (s:Fs)=>match p with | (v31,v38,v40,v44,v49,v54,v59,v63,v64)=>∃ (ZbN:Fr) (h27:H) (a32:Option Addr) (c33:Nat) (n34:Nat) (a41:Option Addr) (c42:Nat) (n43:Nat) (a45:Option Addr) (c46:Nat) (n47:Nat) (ZCH:Nat ->Option Addr×Nat×Nat) (a50:Option Addr) (c51:Nat) (n52:Nat) (ZCF:Nat ->Option Addr×Nat×Nat) (a55:Option Addr) (c56:Nat) (n57:Nat) (ZCE:Nat ->Option Addr×Nat×Nat) (a60:Option Addr) (c61:Nat) (n62:Nat) (a65:Option Addr) (c66:Nat) (n67:Nat),s= ⟨ZbN,[],h27,none⟩∧Sp wm T h [ow wm (Zu .i64) a32 n34 c33 v31,bx wm b3 (cV none 0 0 none 0 0 none 0 0 none 0 0 none 0 0 0),ow wm (Zu .i64) a41 n43 c42 v40,Y3 wm (ZV (Zu .i64)) a45 n47 c46 ZCH v44,Y3 wm (ZV Zc) a50 n52 c51 ZCF v49,Y3 wm (ZV Zg) a55 n57 c56 ZCE v54,ow wm Ze a60 n62 c61 v59,ow wm ZQ a65 n67 c66 v64,bx wm b25 (cG a41 n43 c42 a45 n47 c46 a50 n52 c51 a55 n57 c56 a60 n62 c61 v63 a65 n67 c66)] h27∧ZbN.at 4= .pointer (some ⟨b3,0,none⟩)∧ZbN.at 8= .pointer (some ⟨b25,0,none⟩)∧ZbN.at 9= .slice a32 n34 c33∧ZbN.at 25= .slice Xi p1.length Xh∧ZbN.at 26= .int .i64 (p1.length:Int)∧ZbN.at 27= .int .i64 v38) ⟨_,_,none,0,0,a8,c10,x7.Zv.length,a11,c13,x7.qK.length,Ztl,a14,c16,x7.qQ.length,Ztk,a17,c19,x7.qJ.length,ZE9,a20,c22,x7.qG.length,none,0,0,rfl,hS.only (.c k1 (.c k7 (.c k2 (.c k2 (.c k2 (.c k2 (.c k2 (.c k0 (.c k0 .n))))))))),YA⟩ ?_);clear hL hS;rintro ZfV ⟨v31,v38,v40,v44,v49,v54,v59,v63,v64⟩ s ZDe hL ⟨ZbN,h27,a32,c33,n34,a41,c42,n43,a45,c46,n47,ZCH,a50,c51,n52,ZCF,a55,c56,n57,ZCE,a60,c61,n62,a65,c66,n67,rfl,hS,e29,e30,e35,e36,e37,e39⟩;obtain rfl:=hS.on k0;obtain rfl:=hS.on k2;obtain rfl:=hS.YT k3;obtain rfl:=hS.YT k4;obtain rfl:=hS.YT k5;obtain rfl:=hS.on k6;obtain rfl:=hS.on k7;dsimp only [Znw] at hL;refine r6 ?_;refine cn hL ?_ ?_
  ·intro hc hL;refine r2 ?_;refine WC.Za5 (r:=r) (fun(p:(List Int)×(List Int)×(List (List Int))×(List (List Zw))×(List (List Zr))×(List Zd)×Int×(List Zx)) (s:Fs)=>match p with | (v73,v81,v85,v90,v95,ZbI,WG,v105)=>∃ (Zdg:Fr) (h69:H) (a74:Option Addr) (c75:Nat) (n76:Nat) (a82:Option Addr) (c83:Nat) (n84:Nat) (a86:Option Addr) (c87:Nat) (n88:Nat) (ZGR:Nat ->Option Addr×Nat×Nat) (a91:Option Addr) (c92:Nat) (n93:Nat) (ZGQ:Nat ->Option Addr×Nat×Nat) (a96:Option Addr) (c97:Nat) (n98:Nat) (ZGP:Nat ->Option Addr×Nat×Nat) (ZEM:Option Addr) (ZEp:Nat) (n103:Nat) (Zks:Option Addr) (c107:Nat) (n108:Nat),s= ⟨Zdg,[],h69,none⟩∧Sp wm T h [ow wm (Zu .i64) a74 n76 c75 v73,bx wm b3 (cV none 0 0 none 0 0 none 0 0 none 0 0 none 0 0 0),ow wm (Zu .i64) a82 n84 c83 v81,Y3 wm (ZV (Zu .i64)) a86 n88 c87 ZGR v85,Y3 wm (ZV Zc) a91 n93 c92 ZGQ v90,Y3 wm (ZV Zg) a96 n98 c97 ZGP v95,ow wm Ze ZEM n103 ZEp ZbI,ow wm ZQ Zks n108 c107 v105,bx wm b25 (cG a82 n84 c83 a86 n88 c87 a91 n93 c92 a96 n98 c97 ZEM n103 ZEp WG Zks n108 c107)] h69∧Zdg.at 4= .pointer (some ⟨b3,0,none⟩)∧Zdg.at 8= .pointer (some ⟨b25,0,none⟩)∧Zdg.at 9= .slice a74 n76 c75∧Zdg.at 25= .slice Xi p1.length Xh∧Zdg.at 26= .int .i64 (p1.length:Int)∧Zdg.at 27= .int .i64 v38) (Zbk v38 ZfV) ?_ ?_
   ·clear hL hS;rintro⟨v73,v81,v85,v90,v95,ZbI,WG,v105⟩ s hL ⟨Zdg,h69,a74,c75,n76,a82,c83,n84,a86,c87,n88,ZGR,a91,c92,n93,ZGQ,a96,c97,n98,ZGP,ZEM,ZEp,n103,Zks,c107,n108,rfl,hS,e71,e72,e77,e78,e79,e80⟩;obtain rfl:=hS.on k0;obtain rfl:=hS.on k2;obtain rfl:=hS.YT k3;obtain rfl:=hS.YT k4;obtain rfl:=hS.YT k5;obtain rfl:=hS.on k6;obtain rfl:=hS.on k7;dsimp only [Zbk] at hL;refine r4 ?_;exact Yc.YZ (ZDe _ _ hL ⟨_,_,a74,c75,v73.length,a82,c83,v81.length,a86,c87,v85.length,ZGR,a91,c92,v90.length,ZGQ,a96,c97,v95.length,ZGP,ZEM,ZEp,ZbI.length,Zks,c107,v105.length,rfl,hS.only (.c k0 (.c k0 (.c k0 (.c k0 (.c k0 (.c k0 (.c k0 (.c k0 (.c k0 .n))))))))),YA⟩)
   ·skip;refine r4 ?_;obtain⟨Zel,ZtO,hL⟩:=bind_some hL;obtain⟨b110,o111,_,ZHT,ZIK,ZIg,ZSn⟩:=Sl.at_ XM ZtO;refine WO.w gN rfl (ZE Zs6 Zim lk lk rfl ZHT ZtO) ?_;refine WO.w gN rfl (Xf ZF9 Zim (Yi fh rfl) (At.fz hS.fz ZIg ZIK) (j:=0) rfl rfl (ws:= (cS Zel)) rfl) ?_;refine r1 ?_;rintro _ ZOy ⟨ZTD,ZVo,rfl,hS⟩;refine r2 ?_;rintro ZzZ hS;refine r3 ?_;refine WC.Xx mixed Kq0 ?_;refine r4 ?_;refine r1 ?_;obtain⟨x115,hx115,hL⟩:=bind_some hL;refine WX.cp gN rfl (Xm.fn ZMJ (Zf lk (Zf lk Zz))) (ZJs (p0:= (Zb.mk v40 v44 v49 v54 v59 v63)) (hS.ord k3) (hS.nrd k4 Q6) (hS.nrd k5 Q6) (hS.nrd k6 Q6) (hS.ord k7) hx115) ?_ rfl rfl;refine r6 ?_;obtain⟨ZCb,ZLN,hL⟩:=Yp hL;refine WX.gcp (Zt.yes rfl rfl rfl (Y5 rfl (Zy rfl fh))) rfl (fun hg=>(Xm.fn ZMI (Zf (Y4 (Zy rfl fh) rfl hg) (Zf (Y4 fh rfl hg) Zz)))) (fun hg=>ZJq (p0:= (Zb.mk v40 v44 v49 v54 v59 v63)) (hS.ord k3) (hS.nrd k4 Q6) (hS.nrd k5 Q6) (hS.nrd k6 Q6) (hS.ord k7) (ZLN hg)) ?_ rfl rfl;refine r4 ?_;refine cn hL ?_ ?_
    ·intro hc hL;refine r4 ?_;obtain⟨JI,ZtN,hL⟩:=bind_some hL;refine WO.cl gN rfl (Xm.fn ZMH (Zf lk (Zf lk Zz))) hS (.c k9 (.c k3 (.c k3 (.c k3 (.c k3 (.c k3 (.c k3 .n))))))) (fun g' hz hf hO=>ZJo (p0:= (Z4.mk (Zb.mk v40 v44 v49 v54 v59 v63) v64)) (by rw [hz];exact hS.hw) hO ZtN) ?_;rintro _ ZzY _ ⟨ZEK,n119,ZTw,ZTO,n122,ZTv,ZGO,a124,n125,ZEn,ZGN,a127,n128,ZTu,ZGM,a130,n131,Zqn,ZTN,n134,ZTt,rfl,rfl⟩ hS;obtain rfl:=hS.on k1;obtain rfl:=hS.YT k2;obtain rfl:=hS.YT k3;obtain rfl:=hS.YT k4;obtain rfl:=hS.on k5;obtain rfl:=hS.on k6;refine r4 ?_;refine r1 ?_;refine WO.hn gN rfl (K9 (e:= (Zu .i64)) hS YE YF Zbv rfl rfl rfl (ZG lk Yf) rfl [((),v38)] rfl (xs:= [v38]) rfl (by intro q hq;simp only [List.mem_cons,List.not_mem_nil,or_false] at hq;subst hq;exact trivial) rfl) ?_;rintro _ ZOw ⟨Z0u,ZVg,rfl,hS⟩;obtain⟨ZwB,ZLq,hL⟩:=bind_some hL;refine WO.hv gN rfl (Ko (e:= (Zu .i64)) hS k9 QX lk lk (hS.QE k0) (hS.on k0) ZLq) ?_;rintro _ ZYg ⟨a141,ZTs,rfl,hS⟩;refine r3 ?_;exact Y9.YZ _ hL ⟨_,_,a141,ZTs,ZwB.length,ZEK,ZTw,JI.Za.Zv.length,ZTO,ZTv,JI.Za.qK.length,ZGO,a124,ZEn,JI.Za.qQ.length,ZGN,a127,ZTu,JI.Za.qJ.length,ZGM,a130,Zqn,JI.Za.qG.length,ZTN,ZTt,JI.qX.length,rfl,hS.only (.c k0 (.c k9 (.c k2 (.c k2 (.c k2 (.c k2 (.c k2 (.c k2 (.c k1 .n))))))))),YA⟩
    ·intro hc hL;refine r2 ?_;exact Y9.YZ _ hL ⟨_,_,a32,c33,v31.length,a41,c42,v40.length,a45,c46,v44.length,ZCH,a50,c51,v49.length,ZCF,a55,c56,v54.length,ZCE,a60,c61,v59.length,a65,c66,v64.length,rfl,hS.only (.c k1 (.c k1 (.c k1 (.c k1 (.c k1 (.c k1 (.c k1 (.c k1 (.c k1 .n))))))))),YA⟩
  ·intro hc hL;refine r6 ?_;refine WC.Xx mixed Kq0 ?_;refine r6 ?_;refine r1 ?_;refine WX.wr (fun x=>x=b25) hS gN rfl (fun _ _ hR=>ZW ZBm (Yi fh rfl) (At.eqv (hR b25 rfl) (hS.atB k8)) (j:=6) rfl (v:= .slice a65 v64.length c66) rfl) ?_ rfl rfl;rintro ZYf ZS5 hS;refine r1 ?_;refine WX.hu gN (ZaI hS k1 Zan lk lk (vs:= (cV a41 v40.length c42 a45 v44.length c46 a50 v49.length c51 a55 v54.length c56 a60 v59.length c61 v63)) rfl rfl rfl rfl (cs':= (cV a41 v40.length c42 a45 v44.length c46 a50 v49.length c51 a55 v54.length c56 a60 v59.length c61 v63)) rfl) ?_ rfl rfl [7] Kq0 (.c .z (hS.dj (.c k1 (.c k7 .n))) YV.e);rintro ZYe hS;refine WX.w gN rfl (Uv lk) ?_ Kq0;refine WX.w gN rfl (Uv lk) ?_ Kq0;refine WX.w gN rfl (Uv lk) ?_ Kq0;refine r3 ?_;have hr:=Oi0 hL;subst hr;exact Yl.gen (vs:= [.agg [.slice a41 v40.length c42,.slice a45 v44.length c46,.slice a50 v49.length c51,.slice a55 v54.length c56,.slice a60 v59.length c61,.int .i64 v63].toArray,.slice a65 v64.length c66,.slice a32 v31.length c33,.int .i64 0]) rfl (Y6 (Xa rfl (Y5 rfl (Zy rfl e29))) (UA Zkn Zan (hS.atB k0) (j:=0) rfl rfl (ws:= (cV a41 v40.length c42 a45 v44.length c46 a50 v49.length c51 a55 v54.length c56 a60 v59.length c61 v63)) rfl) (ZP lk (ZP lk (ZP lk ZA)))) rfl ⟨_,⟨a41,v40.length,c42,a45,v44.length,c46,ZCH,a50,v49.length,c51,ZCF,a55,v54.length,c56,ZCE,a60,v59.length,c61,a65,v64.length,c66,a32,v31.length,c33,rfl,rfl⟩,hT ▸ hS.only (.c k2 (.c k2 (.c k2 (.c k2 (.c k2 (.c k2 (.c k1 .n)))))))⟩
theorem ZJx {F wm:Nat} {h:H} {p0:Zb} {p1:(List Int)} {Zi:Option Addr} {Zh:Nat} {Zk:Option Addr} {Zj:Nat} {Zq:Option Addr} {Zn:Nat} {Zp:Option Addr} {Zm:Nat} {Zo:Option Addr} {Zl:Nat} {Xi:Option Addr} {Xh:Nat} {r:(Zb×(List Zx)×Int×Int)} (Z0:wm <=h.size) (ZB:Sl (Zu .i64) wm h Zi Zh p0.Zv) (ZN:Sl (ZM (Zu .i64)) wm h Zk Zj p0.qK) (ZL:Sl (ZM Zc) wm h Zq Zn p0.qQ) (ZO:Sl (ZM Zg) wm h Zp Zm p0.qJ) (ZJ:Sl Ze wm h Zo Zl p0.qG) (XM:Sl (Zu .i64) wm h Xi Xh p1) (hL:ZAH F p0 p1=some r):
 WR XX 30 #[.agg [.slice Zi p0.Zv.length Zh,.slice Zk p0.qK.length Zj,.slice Zq p0.qQ.length Zn,.slice Zp p0.qJ.length Zm,.slice Zo p0.qG.length Zl,.int .i64 p0.said].toArray,.slice Xi p1.length Xh] wm h (CP (fun(v:Value) (Gb:List (Ast wm))=>∃ (X7:Option Addr) (X5:Nat) (X6:Nat) (Zhc:Option Addr) (Zg4:Nat) (Zg8:Nat) (ZeE:Nat ->Option Addr×Nat×Nat) (Zhb:Option Addr) (Zg3:Nat) (Zg7:Nat) (ZeD:Nat ->Option Addr×Nat×Nat) (Zha:Option Addr) (Zg2:Nat) (Zg6:Nat) (ZeC:Nat ->Option Addr×Nat×Nat) (Zg9:Option Addr) (Zg1:Nat) (Zg5:Nat) (Zo0:Option Addr) (ZoT:Nat) (ZoX:Nat),v= .tuple [.agg [.slice X7 X5 X6,.slice Zhc Zg4 Zg8,.slice Zhb Zg3 Zg7,.slice Zha Zg2 Zg6,.slice Zg9 Zg1 Zg5,.int .i64 r.1.said].toArray,.slice Zo0 ZoT ZoX,.int .i64 r.2.2.1,.int .i64 r.2.2.2].toArray∧Gb= [ow wm (Zu .i64) X7 X5 X6 r.1.Zv,Y3 wm (ZV (Zu .i64)) Zhc Zg4 Zg8 ZeE r.1.qK,Y3 wm (ZV Zc) Zhb Zg3 Zg7 ZeD r.1.qQ,Y3 wm (ZV Zg) Zha Zg2 Zg6 ZeC r.1.qJ,ow wm Ze Zg9 Zg1 Zg5 r.1.qG,ow wm ZQ Zo0 ZoT ZoX r.2.1]) [] h):=by
 refine bg Tryz.ntmps30 Z0 Yh.nil ?_;intro T hT hS;unfold ZAH at hL;refine r3 ?_;rintro _ h2 ⟨b1,eb1,rfl,hS⟩;refine r1 ?_;rintro _ h4 ⟨b3,eb3,rfl,hS⟩;refine r8 ?_;refine r1 ?_;obtain⟨x5,hx5,hL⟩:=bind_some hL;refine WO.cp gN rfl (Xm.fn ZFK (Zf lk Zz)) (WR.Qy rfl (ZAE (Nat.le_refl _) (hS.Y0 ZB) (hS.Y0 ZN) (hS.Y0 ZL) (hS.Y0 ZO) (hS.Y0 ZJ) hx5)) ?_;refine r8 ?_;refine WO.Zbh (Zt.no rfl rfl rfl (Zy rfl fh)) (fun hk6=>?_) (fun hk6=>?_)
 ·replace hL:=JL hk6 hL;refine WO.inl (Zt.on (Zt.no rfl rfl rfl (Zy rfl fh)) hk6) rfl (Xm.fn ZMD (Zf (Y4 fh rfl hk6) (Zf ZSM Zz))) (WF.begin (args:= [_,_]) (fn:=Tryz.f63) Kq0 (by exact rfl) Tryz.ntmps63 (by simp) ?_);simp only [ZY,Z8,Nat.reduceAdd];refine r8 ?_;refine r1 ?_;refine WO.Zrt (r:=r) (fun(v9:Int) (v:Value) (h7:H)=>v= .int .i64 v9∧Sp wm T h [bx wm b1 (cW p0 Zi Zh Zk Zj Zq Zn Zp Zm Zo Zl),bx wm b3 (cV none 0 0 none 0 0 none 0 0 none 0 0 none 0 0 0)] h7) (Zct F p0 p1) gN rfl (Xm.fn ZMq (Zf lk (Zf lk Zz))) ?_ (WF.begin (args:= [_,_]) (fn:=Tryz.f87) Kq0 (by exact rfl) Tryz.ntmps87 (by simp) ?_)
  ·clear hL hS;rintro v9 v h7 hL ⟨rfl,hS⟩;dsimp only [Zct] at hL;refine r4 ?_;refine r1 ?_;refine Yl.X0 rfl (ZP lk ZA) ?_;refine WO.w gN rfl (ZcC lk (ZxH hk6) lk) ?_;refine r2 ?_;refine cn hL ?_ ?_
   ·intro hc hL;refine r2 ?_;refine WO.w gN rfl (XP Zut Yf rfl (cs':= (cV none 0 0 none 0 0 none 0 0 none 0 0 none 0 0 0)) rfl) ?_;refine r1 ?_;rintro h10 hS;refine r6 ?_;refine r1 ?_;have hS:=hS.nil (e:= (Zu .i64));have hS:=hS.ZhB (e:= (ZV (Zu .i64))) (ps:=fun _=>(ZV (Zu .i64)).dflt);have hS:=hS.ZhB (e:= (ZV Zc)) (ps:=fun _=>(ZV Zc).dflt);have hS:=hS.ZhB (e:= (ZV Zg)) (ps:=fun _=>(ZV Zg).dflt);have hS:=hS.nil (e:=Ze);have hS:=hS.nil (e:=ZQ);have hr:=Oi0 hL;subst hr;exact Yl.gen (vs:= [.agg [.slice none 0 0,.slice none 0 0,.slice none 0 0,.slice none 0 0,.slice none 0 0,.int .i64 0].toArray,.slice none 0 0,.int .i64 0,.int .i64 2]) rfl (Y6 (Xa rfl (Xa rfl (YG rfl (Zy rfl fh)))) (UA Zkn Zan (hS.atB k6) (j:=0) rfl rfl (ws:= (cV none 0 0 none 0 0 none 0 0 none 0 0 none 0 0 0)) rfl) (ZP lk (ZP lk (ZP lk ZA)))) rfl ⟨_,⟨none,0,0,none,0,0,(fun _=>(ZV (Zu .i64)).dflt),none,0,0,(fun _=>(ZV Zc).dflt),none,0,0,(fun _=>(ZV Zg).dflt),none,0,0,none,0,0,rfl,rfl⟩,hT ▸ hS.only (.c k5 (.c k4 (.c k3 (.c k2 (.c k1 (.c k0 .n))))))⟩
   ·intro hc hL;refine r4 ?_;refine r1 ?_;obtain⟨Xw,ZhC,hL⟩:=bind_some hL;refine WO.cl gN rfl (Xm.fn ZFJ (Zf lk Zz)) hS .n (fun g' hz hf hO=>ZAC (by rw [hz];exact hS.hw) ((hS.sl ZB).mono hf) ((hS.sl ZN).mono hf) ((hS.sl ZL).mono hf) ((hS.sl ZO).mono hf) ((hS.sl ZJ).mono hf) ZhC) ?_;rintro _ h27 _ ⟨a12,n13,c14,a15,n16,c17,ZK8,a18,n19,c20,Ztj,a21,n22,c23,ZK6,a24,n25,c26,rfl,rfl⟩ hS;obtain rfl:=hS.on k0;obtain rfl:=hS.YT k1;obtain rfl:=hS.YT k2;obtain rfl:=hS.YT k3;obtain rfl:=hS.on k4;refine WO.w gN rfl (XP ZA3 (ZG lk Yf) rfl (cs':= (cG a12 Xw.Zv.length c14 a15 Xw.qK.length c17 a18 Xw.qQ.length c20 a21 Xw.qJ.length c23 a24 Xw.qG.length c26 Xw.said none 0 0)) rfl) ?_;refine r1 ?_;rintro _ h30 ⟨b29,ZJG,rfl,hS⟩;refine r8 ?_;refine r2 ?_;have hS:=hS.nil (e:=ZQ);refine WC.loop (WL.lift hL (fun(p:Int×(List Int)×(List (List Int))×(List (List Zw))×(List (List Zr))×(List Zd)×Int×(List Zx)) (s:Fs)=>match p with | (v36,v38,v42,v47,v52,v57,v61,v62)=>∃ (ZvB:Fr) (h31:H) (a39:Option Addr) (c40:Nat) (n41:Nat) (a43:Option Addr) (c44:Nat) (n45:Nat) (ZCI:Nat ->Option Addr×Nat×Nat) (a48:Option Addr) (c49:Nat) (n50:Nat) (ZCG:Nat ->Option Addr×Nat×Nat) (a53:Option Addr) (c54:Nat) (n55:Nat) (Zo4:Nat ->Option Addr×Nat×Nat) (a58:Option Addr) (c59:Nat) (n60:Nat) (a63:Option Addr) (c64:Nat) (n65:Nat),s= ⟨ZvB,[],h31,none⟩∧Sp wm T h [bx wm b3 (cV none 0 0 none 0 0 none 0 0 none 0 0 none 0 0 0),ow wm (Zu .i64) a39 n41 c40 v38,Y3 wm (ZV (Zu .i64)) a43 n45 c44 ZCI v42,Y3 wm (ZV Zc) a48 n50 c49 ZCG v47,Y3 wm (ZV Zg) a53 n55 c54 Zo4 v52,ow wm Ze a58 n60 c59 v57,ow wm ZQ a63 n65 c64 v62,bx wm b29 (cG a39 n41 c40 a43 n45 c44 a48 n50 c49 a53 n55 c54 a58 n60 c59 v61 a63 n65 c64)] h31∧ZvB.at 1= .slice Xi p1.length Xh∧ZvB.at 4= .pointer (some ⟨b3,0,none⟩)∧ZvB.at 8= .pointer (some ⟨b29,0,none⟩)∧ZvB.at 9= .int .i64 v36) ⟨_,_,a12,c14,Xw.Zv.length,a15,c17,Xw.qK.length,ZK8,a18,c20,Xw.qQ.length,Ztj,a21,c23,Xw.qJ.length,ZK6,a24,c26,Xw.qG.length,none,0,0,rfl,hS.only (.c k8 (.c k2 (.c k2 (.c k2 (.c k2 (.c k2 (.c k0 (.c k0 .n)))))))),YA⟩ ?_);clear hL hS;rintro KT ⟨v36,v38,v42,v47,v52,v57,v61,v62⟩ s ZmB hL ⟨ZvB,h31,a39,c40,n41,a43,c44,n45,ZCI,a48,c49,n50,ZCG,a53,c54,n55,Zo4,a58,c59,n60,a63,c64,n65,rfl,hS,e33,e34,e35,e37⟩;obtain rfl:=hS.on k1;obtain rfl:=hS.YT k2;obtain rfl:=hS.YT k3;obtain rfl:=hS.YT k4;obtain rfl:=hS.on k5;obtain rfl:=hS.on k6;dsimp only [Znp] at hL;refine XA ?_;refine cn hL ?_ ?_
    ·intro hc hL;refine r8 ?_;refine WC.Za5 (r:=r) (fun(v73:Int) (s:Fs)=>∃ (ZbL:Fr) (h67:H),s= ⟨ZbL,[],h67,none⟩∧Sp wm T h [bx wm b3 (cV none 0 0 none 0 0 none 0 0 none 0 0 none 0 0 0),bx wm b29 (cG a39 v38.length c40 a43 v42.length c44 a48 v47.length c49 a53 v52.length c54 a58 v57.length c59 v61 a63 v62.length c64),ow wm (Zu .i64) a39 v38.length c40 v38,Y3 wm (ZV (Zu .i64)) a43 v42.length c44 ZCI v42,Y3 wm (ZV Zc) a48 v47.length c49 ZCG v47,Y3 wm (ZV Zg) a53 v52.length c54 Zo4 v52,ow wm Ze a58 v57.length c59 v57,ow wm ZQ a63 v62.length c64 v62] h67∧ZbL.at 1= .slice Xi p1.length Xh∧ZbL.at 4= .pointer (some ⟨b3,0,none⟩)∧ZbL.at 8= .pointer (some ⟨b29,0,none⟩)∧ZbL.at 9= .int .i64 v36∧ZbL.at 10= .int .i64 v73) (Zgl F v36 v38 v42 v47 v52 v57 v61 v62 KT) ?_ ?_
     ·clear hL hS;rintro v73 s hL ⟨ZbL,h67,rfl,hS,e69,e70,e71,e72,e74⟩;dsimp only [Zgl] at hL;refine r4 ?_;obtain⟨x75,ZG6,hL⟩:=bind_some hL;refine WO.cl gN rfl (Xm.fn ZFH (Zf lk (Zf lk Zz))) hS (.c k1 (.c k1 (.c k1 (.c k1 (.c k1 (.c k1 (.c k1 .n))))))) (fun g' hz hf hO=>ZAx (p0:= (Z4.mk (Zb.mk v38 v42 v47 v52 v57 v61) v62)) (by rw [hz];exact hS.hw) hO ZG6) ?_;rintro _ h94 _ ⟨a76,n77,c78,a79,n80,c81,ZKU,a82,n83,c84,ZKT,a85,n86,c87,ZKS,a88,n89,c90,a91,n92,c93,rfl,rfl⟩ hS;obtain rfl:=hS.on k1;obtain rfl:=hS.YT k2;obtain rfl:=hS.YT k3;obtain rfl:=hS.YT k4;obtain rfl:=hS.on k5;obtain rfl:=hS.on k6;refine r8 ?_;exact Yc.YZ (ZmB _ _ hL ⟨_,_,a76,c78,x75.Za.Zv.length,a79,c81,x75.Za.qK.length,ZKU,a82,c84,x75.Za.qQ.length,ZKT,a85,c87,x75.Za.qJ.length,ZKS,a88,c90,x75.Za.qG.length,a91,c93,x75.qX.length,rfl,hS.only (.c k7 (.c k1 (.c k1 (.c k1 (.c k1 (.c k1 (.c k1 (.c k0 .n)))))))),YA⟩)
     ·skip;refine r8 ?_;refine cn hL ?_ ?_
      ·intro hc hL;refine WC.Xx mixed Kq0 ?_;refine r2 ?_;obtain⟨x96,hx96,hL⟩:=bind_some hL;obtain⟨b97,o98,_,ZMU,ZNX,ZNx,ZUA⟩:=Sl.at_ XM hx96;refine WX.w gN rfl (ZE YE YF lk lk rfl ZMU hx96) ?_ rfl;refine WX.w gN rfl (ZW Xn (Yi fh rfl) (At.fz hS.fz ZNx ZNX) (j:=0) rfl (v:= .int .i64 x96) rfl) ?_ rfl;refine r6 ?_;obtain⟨x99,hx99,hL⟩:=bind_some hL;refine WX.w gN rfl (Uj (Yi (Y5 rfl (YG rfl fh)) rfl) (Yi fh rfl) (Zwe hx99)) ?_ rfl;refine r2 ?_;exact Y9.YZ _ hL ⟨_,_,rfl,hS.only (.c k0 (.c k6 (.c k0 (.c k0 (.c k0 (.c k0 (.c k0 (.c k0 .n)))))))),YA⟩
      ·intro hc hL;refine r1 ?_;exact Y9.YZ _ hL ⟨_,_,rfl,hS.only (.c k0 (.c k6 (.c k0 (.c k0 (.c k0 (.c k0 (.c k0 (.c k0 .n)))))))),YA⟩
    ·intro hc hL;refine r6 ?_;refine WC.Xx mixed Kq0 ?_;refine r6 ?_;refine r1 ?_;refine WX.wr (fun x=>x=b29) hS gN rfl (fun _ _ hR=>ZW ZBm (Yi fh rfl) (At.eqv (hR b29 rfl) (hS.atB k7)) (j:=6) rfl (v:= .slice a63 v62.length c64) rfl) ?_ rfl rfl;rintro ZYo ZD9 hS;refine r1 ?_;refine WX.hu gN (ZaI hS k0 Zan lk lk (vs:= (cV a39 v38.length c40 a43 v42.length c44 a48 v47.length c49 a53 v52.length c54 a58 v57.length c59 v61)) rfl rfl rfl rfl (cs':= (cV a39 v38.length c40 a43 v42.length c44 a48 v47.length c49 a53 v52.length c54 a58 v57.length c59 v61)) rfl) ?_ rfl rfl [7] Kq0 (.c .z (hS.dj (.c k0 (.c k6 .n))) YV.e);rintro ZOA hS;refine WX.w gN rfl (Uv lk) ?_ Kq0;refine WX.w gN rfl (Uv lk) ?_ Kq0;refine WX.w gN rfl (Uv lk) ?_ Kq0;refine r3 ?_;have hr:=Oi0 hL;subst hr;exact Yl.gen (vs:= [.agg [.slice a39 v38.length c40,.slice a43 v42.length c44,.slice a48 v47.length c49,.slice a53 v52.length c54,.slice a58 v57.length c59,.int .i64 v61].toArray,.slice a63 v62.length c64,.int .i64 v36,.int .i64 0]) rfl (Y6 (Xa rfl (Xa rfl (YG rfl (Zy rfl e34)))) (UA Zkn Zan (hS.atB k0) (j:=0) rfl rfl (ws:= (cV a39 v38.length c40 a43 v42.length c44 a48 v47.length c49 a53 v52.length c54 a58 v57.length c59 v61)) rfl) (ZP lk (ZP lk (ZP lk ZA)))) rfl ⟨_,⟨a39,v38.length,c40,a43,v42.length,c44,ZCI,a48,v47.length,c49,ZCG,a53,v52.length,c54,Zo4,a58,v57.length,c59,a63,v62.length,c64,rfl,rfl⟩,hT ▸ hS.only (.c k1 (.c k1 (.c k1 (.c k1 (.c k1 (.c k1 .n))))))⟩
  ·skip;simp only [ZY,Z8,Nat.reduceAdd];refine XA ?_;refine r2 ?_;refine WC.loop (WL.lift hL (fun(ZdF:Int) (s:Fs)=>∃ (ZlI:Fr) (ZDA:H),s= ⟨ZlI,[],ZDA,none⟩∧Sp wm T h [bx wm b1 (cW p0 Zi Zh Zk Zj Zq Zn Zp Zm Zo Zl),bx wm b3 (cV none 0 0 none 0 0 none 0 0 none 0 0 none 0 0 0)] ZDA∧ZlI.at 0= .slice Xi p1.length Xh∧ZlI.at 1= .func (.func 64) #[] [].toArray∧ZlI.at 7= .int .i64 (p1.length:Int)∧ZlI.at 8= .int .i64 ZdF) ⟨_,_,rfl,hS.only (.c k1 (.c k0 .n)),YA⟩ ?_);clear hL hS;rintro ZtB ZdF s ZyO hL ⟨ZlI,ZDA,rfl,hS,ZJJ,ZTd,ZOP,e109⟩;dsimp only [ZjT] at hL;refine r6 ?_;refine cn hL ?_ ?_
   ·intro hc hL;refine XA ?_;refine r3 ?_;obtain⟨ZGs,ZFs,hL⟩:=bind_some hL;obtain⟨ZTD,ZWS,_,ZHS,ZIJ,ZIf,ZSm⟩:=Sl.at_ XM ZFs;refine WO.w gN rfl (ZE YE YF lk lk rfl ZHS ZFs) ?_;refine WO.w gN rfl (ZW Xn (Yi fh rfl) (At.fz hS.fz ZIf ZIJ) (j:=0) rfl (v:= .int .i64 ZGs) rfl) ?_;refine WO.inl gN rfl (Xm.clo (first:= []) (cap:= []) lk ZMC lks rfl) (WF.begin (args:= [_]) (fn:=Tryz.f64) Kq0 (by exact rfl) Tryz.ntmps64 (by simp) ?_);simp only [ZY,Z8,Nat.reduceAdd];refine XA ?_;refine r1 ?_;refine Yl.X0 rfl (ZP lk ZA) ?_;refine r2 ?_;refine cn hL ?_ ?_
    ·intro hc hL;refine XA ?_;exact Yl.X0 rfl (ZP lk ZA) ⟨_,hL,⟨rfl,hS.only (.c k0 (.c k0 .n))⟩⟩
    ·intro hc hL;refine r6 ?_;refine r1 ?_;exact Yc.YZ (ZyO _ _ hL ⟨_,_,rfl,hS.only (.c k0 (.c k0 .n)),YA⟩)
   ·intro hc hL;refine r8 ?_;refine r3 ?_;exact Yl.X0 rfl (ZP lk ZA) ⟨_,hL,⟨rfl,hS.only (.c k0 (.c k0 .n))⟩⟩
 ·replace hL:=JM hk6 hL;refine WO.ZbK (Zt.no rfl rfl rfl (Zy rfl fh)) hk6 rfl ?_;refine WO.w gN rfl (ZcB lk (ZxI hk6) lk) ?_;refine r2 ?_;refine WC.Zka lk rfl ?_;refine r2 ?_;refine WO.w gN rfl (XP Zut Yf rfl (cs':= (cV none 0 0 none 0 0 none 0 0 none 0 0 none 0 0 0)) rfl) ?_;refine r1 ?_;rintro ZzZ hS;refine r6 ?_;refine r1 ?_;have hS:=hS.nil (e:= (Zu .i64));have hS:=hS.ZhB (e:= (ZV (Zu .i64))) (ps:=fun _=>(ZV (Zu .i64)).dflt);have hS:=hS.ZhB (e:= (ZV Zc)) (ps:=fun _=>(ZV Zc).dflt);have hS:=hS.ZhB (e:= (ZV Zg)) (ps:=fun _=>(ZV Zg).dflt);have hS:=hS.nil (e:=Ze);have hS:=hS.nil (e:=ZQ);have hr:=Oi0 hL;subst hr;exact Yl.gen (vs:= [.agg [.slice none 0 0,.slice none 0 0,.slice none 0 0,.slice none 0 0,.slice none 0 0,.int .i64 0].toArray,.slice none 0 0,.int .i64 0,.int .i64 2]) rfl (Y6 (Xa rfl (Xa rfl (YG rfl (Zy rfl fh)))) (UA Zkn Zan (hS.atB k6) (j:=0) rfl rfl (ws:= (cV none 0 0 none 0 0 none 0 0 none 0 0 none 0 0 0)) rfl) (ZP lk (ZP lk (ZP lk ZA)))) rfl ⟨_,⟨none,0,0,none,0,0,(fun _=>(ZV (Zu .i64)).dflt),none,0,0,(fun _=>(ZV Zc).dflt),none,0,0,(fun _=>(ZV Zg).dflt),none,0,0,none,0,0,rfl,rfl⟩,hT ▸ hS.only (.c k5 (.c k4 (.c k3 (.c k2 (.c k1 (.c k0 .n))))))⟩
end Go.Proofs.YtbmbbcaaimehkaaGreat
end
end
section
namespace Go.Proofs.YtbmbbcaaimehkaaGreat
open Go.Lf
def f6L (F:Nat) (p0:Zb) (p1:(List ZC)) (p2:(List Int)):Option Bool:=
 (ZAJ F p0 p1 [p2]).bind fun x5=>(bif(!x5) then(ZJD).bind fun x6=>some x6 else(ZAK F p0 p1).bind fun x7=>(gd (!(x7.2.2.2 !=0)) (Zny F x7.1) default).bind fun x34=>(bif((x7.2.2.2 !=0) || (!x34)) then some false else(ZAI F p0 p1 x7.2.2.1).bind fun x35=>(bif(!x35.2) then some false else(ZAH F x7.1 p2).bind fun x39=>(gd (x39.2.2.2==0) (Zny F x39.1) default).bind fun x73=>(gd ((x39.2.2.2==0) && x73) (ZvN F x39.1 x35.1) default).bind fun x74=>(gd (((x39.2.2.2==0) && x73) && x74) (ZJD) default).bind fun x75=>some ((((x39.2.2.2==0) && x73) && x74) && x75))))
end Go.Proofs.YtbmbbcaaimehkaaGreat
end
section
set_option maxRecDepth 20000
noncomputable section
namespace Go.Proofs.YtbmbbcaaimehkaaGreat
open Go.YL Go.Lf
theorem ZOB {F wm:Nat} {h:H} {p0:Zb} {p1:(List ZC)} {p2:(List Int)} {Zi:Option Addr} {Zh:Nat} {Zk:Option Addr} {Zj:Nat} {Zq:Option Addr} {Zn:Nat} {Zp:Option Addr} {Zm:Nat} {Zo:Option Addr} {Zl:Nat} {Xi:Option Addr} {Xh:Nat} {JZ:Option Addr} {JY:Nat} {r:Bool} (Z0:wm <=h.size) (ZB:Sl (Zu .i64) wm h Zi Zh p0.Zv) (ZN:Sl (ZM (Zu .i64)) wm h Zk Zj p0.qK) (ZL:Sl (ZM Zc) wm h Zq Zn p0.qQ) (ZO:Sl (ZM Zg) wm h Zp Zm p0.qJ) (ZJ:Sl Ze wm h Zo Zl p0.qG) (XM:Sl Uc wm h Xi Xh p1) (Zcg:Sl (Zu .i64) wm h JZ JY p2) (hL:f6L F p0 p1 p2=some r):
 WR XX 6 #[.agg [.slice Zi p0.Zv.length Zh,.slice Zk p0.qK.length Zj,.slice Zq p0.qQ.length Zn,.slice Zp p0.qJ.length Zm,.slice Zo p0.qG.length Zl,.int .i64 p0.said].toArray,.slice Xi p1.length Xh,.slice JZ p2.length JY] wm h (CP (fun(v:Value) (Gb:List (Ast wm))=>v= .bool r∧Gb= []) [] h):=by
 refine bg Tryz.ntmps6 Z0 Yh.nil ?_;intro T hT hS;unfold f6L at hL;refine r3 ?_;rintro _ h2 ⟨b1,eb1,rfl,hS⟩;refine r8 ?_;refine r1 ?_;refine WO.hn gN rfl (K9 (e:= (ZM (Zu .i64))) hS Zbx JR ZqP rfl rfl rfl (ZG (Yi fh rfl) Yf) rfl [((JZ,JY),p2)] rfl (xs:= [p2]) rfl (by intro q hq;simp only [List.mem_cons,List.not_mem_nil,or_false] at hq;subst hq;exact(hS.sl Zcg)) rfl) ?_;rintro _ h4 ⟨b3,eb3,rfl,hS⟩;obtain⟨x5,hx5,hL⟩:=bind_some hL;refine WO.cp gN rfl (Xm.fn ZMP (Zf (Yi (YG rfl (Zy rfl fh)) rfl) (Zf (Yi (YG rfl fh) rfl) (Zf (Yi fh rfl) Zz)))) (WR.Qy rfl (ZJz (Nat.le_refl _) (hS.Y0 ZB) (hS.Y0 ZN) (hS.Y0 ZL) (hS.Y0 ZO) (hS.Y0 ZJ) (hS.Y0 XM) (hS.ord k0) hx5)) ?_;refine r3 ?_;refine cn hL ?_ ?_
 ·intro hc hL;refine r2 ?_;obtain⟨x6,hx6,hL⟩:=bind_some hL;refine WO.cp gN rfl (Xm.fn ZFL Zz) (ZAM hx6) ?_;refine r4 ?_;refine r1 ?_;exact rt hL hT hS
 ·intro hc hL;refine r6 ?_;obtain⟨x7,hx7,hL⟩:=bind_some hL;refine WO.cl gN rfl (Xm.fn ZMQ (Zf (Yi (Zy rfl fh) rfl) (Zf (Yi fh rfl) Zz))) hS .n (fun g' hz hf hO=>ZJA (by rw [hz];exact hS.hw) ((hS.sl ZB).mono hf) ((hS.sl ZN).mono hf) ((hS.sl ZL).mono hf) ((hS.sl ZO).mono hf) ((hS.sl ZJ).mono hf) ((hS.sl XM).mono hf) hx7) ?_;rintro _ h29 _ ⟨a8,n9,c10,a11,n12,c13,Ztl,a14,n15,c16,Ztk,a17,n18,c19,ZE9,a20,n21,c22,a23,n24,c25,a26,n27,c28,rfl,rfl⟩ hS;obtain rfl:=hS.on k0;obtain rfl:=hS.YT k1;obtain rfl:=hS.YT k2;obtain rfl:=hS.YT k3;obtain rfl:=hS.on k4;obtain rfl:=hS.on k5;obtain rfl:=hS.on k6;refine r6 ?_;rintro _ h32 ⟨b31,ZYT,rfl,hS⟩;refine r1 ?_;rintro h33 hS;refine XA ?_;obtain⟨x34,hx34,hL⟩:=Yp hL;refine WO.gcp (Zt.no rfl rfl rfl (Zy rfl fh)) rfl (fun hg=>(Xm.fn Zy2 (Zf (Y4 fh rfl hg) Zz))) (fun hg=>Zsi (hS.ord k1) (hS.nrd k2 Q6) (hS.nrd k3 Q6) (hS.nrd k4 Q6) (hS.ord k5) (hx34 hg)) ?_;refine r4 ?_;refine cn hL ?_ ?_
  ·intro hc hL;refine r6 ?_;refine r1 ?_;exact rt hL hT hS
  ·intro hc hL;refine r6 ?_;refine r1 ?_;obtain⟨x35,ZRl,hL⟩:=bind_some hL;refine WO.clR gN rfl (Xm.fn ZMO (Zf (Yi (YG rfl fh) rfl) (Zf (Yi (Zy rfl fh) rfl) (Zf (Yi fh rfl) Zz)))) hS.hw (ZJy (Nat.le_refl _) (hS.Y0 ZB) (hS.Y0 ZN) (hS.Y0 ZL) (hS.Y0 ZO) (hS.Y0 ZJ) (hS.Y0 XM) (hS.ord k7) ZRl) ?_;rintro _ h37 _ ⟨m36,rfl,rfl⟩ ZR1;have hS:=hS.clR ZR1 (.c (cvM hS.hw) .n);refine XA ?_;refine r2 ?_;refine cn hL ?_ ?_
   ·intro hc hL;refine r6 ?_;refine r1 ?_;exact rt hL hT hS
   ·intro hc hL;refine r6 ?_;obtain⟨x39,hx39,hL⟩:=bind_some hL;refine WO.fzn hS k2 ?_;rintro h40 ⟨ZXh,hS⟩;refine WO.ZIT hS k3 ?_;rintro h42 ⟨hn43,hS⟩;refine WO.ZIT hS k4 ?_;rintro h44 ⟨hn45,hS⟩;refine WO.ZIT hS k5 ?_;rintro h46 ⟨hn47,hS⟩;refine WO.fzn hS k6 ?_;rintro h48 ⟨ZXg,hS⟩;refine WO.cl gN rfl (Xm.fn ZMN (Zf (Yi (Zy rfl fh) rfl) (Zf (Yi fh rfl) Zz))) hS .n (fun g' hz hf hO=>ZJx (by rw [hz];exact hS.hw) ((hS.fsl k4).mono hf) ((hS.fsl k3).mono hf) ((hS.fsl k2).mono hf) ((hS.fsl k1).mono hf) ((hS.fsl k0).mono hf) ((hS.sl Zcg).mono hf) hx39) ?_;rintro _ h68 _ ⟨a50,n51,c52,a53,n54,c55,ZT7,a56,n57,c58,ZT6,a59,n60,c61,ZT5,a62,n63,c64,a65,n66,c67,rfl,rfl⟩ hS;simp only [List.cons_append,List.nil_append] at hS;obtain rfl:=hS.on k0;obtain rfl:=hS.YT k1;obtain rfl:=hS.YT k2;obtain rfl:=hS.YT k3;obtain rfl:=hS.on k4;obtain rfl:=hS.on k5;refine r6 ?_;rintro _ h71 ⟨b70,ZYF,rfl,hS⟩;refine r1 ?_;rintro h72 hS;refine r8 ?_;refine r3 ?_;obtain⟨x73,Zpq,hL⟩:=Yp hL;refine WO.gcp (Zt.yes rfl rfl rfl (Zy rfl fh)) rfl (fun hg=>(Xm.fn Zy2 (Zf (Y4 fh rfl hg) Zz))) (fun hg=>Zsi (hS.ord k1) (hS.nrd k2 Q6) (hS.nrd k3 Q6) (hS.nrd k4 Q6) (hS.ord k5) (Zpq hg)) ?_;refine r4 ?_;obtain⟨x74,Zrw,hL⟩:=Yp hL;refine WO.gcp (Zt.yes rfl rfl rfl (YG rfl fh)) rfl (fun hg=>(Xm.fn ZMM (Zf (Y4 (Zy rfl fh) rfl hg) (Zf (Y4 fh rfl hg) Zz)))) (fun hg=>ZJw (hS.ord k1) (hS.nrd k2 Q6) (hS.nrd k3 Q6) (hS.nrd k4 Q6) (hS.ord k5) (hS.mrd k12) (Zrw hg)) ?_;refine r2 ?_;obtain⟨x75,ZG6,hL⟩:=Yp hL;refine WO.gcp (Zt.yes rfl rfl rfl fh) rfl (fun hg=>(Xm.fn ZFL Zz)) (fun hg=>ZAM (ZG6 hg)) ?_;refine r4 ?_;refine r1 ?_;exact rt hL hT hS
theorem ZOC {F:Nat} {h:H} {p0:Zb} {p1:(List ZC)} {p2:(List Int)} {Zi:Option Addr} {Zh:Nat} {Zk:Option Addr} {Zj:Nat} {Zq:Option Addr} {Zn:Nat} {Zp:Option Addr} {Zm:Nat} {Zo:Option Addr} {Zl:Nat} {Xi:Option Addr} {Xh:Nat} {JZ:Option Addr} {JY:Nat} {r:Bool} (ZB:Sl (Zu .i64) h.size h Zi Zh p0.Zv) (ZN:Sl (ZM (Zu .i64)) h.size h Zk Zj p0.qK) (ZL:Sl (ZM Zc) h.size h Zq Zn p0.qQ) (ZO:Sl (ZM Zg) h.size h Zp Zm p0.qJ) (ZJ:Sl Ze h.size h Zo Zl p0.qG) (XM:Sl Uc h.size h Xi Xh p1) (Zcg:Sl (Zu .i64) h.size h JZ JY p2) (hL:f6L F p0 p1 p2=some r):Pure XX 6 #[.agg [.slice Zi p0.Zv.length Zh,.slice Zk p0.qK.length Zj,.slice Zq p0.qQ.length Zn,.slice Zp p0.qJ.length Zm,.slice Zo p0.qG.length Zl,.int .i64 p0.said].toArray,.slice Xi p1.length Xh,.slice JZ p2.length JY] h (.bool r):=
 WR.Qy rfl (ZOB (Nat.le_refl _) ZB ZN ZL ZO ZJ XM Zcg hL)
end Go.Proofs.YtbmbbcaaimehkaaGreat
end
end
section
namespace Go.Proofs.YtbmbbcaaimehkaaGreat
open Go.Lf
end Go.Proofs.YtbmbbcaaimehkaaGreat
end
section
set_option maxRecDepth 20000
noncomputable section
namespace Go.Proofs.YtbmbbcaaimehkaaGreat
open Go.YL Go.Lf
end Go.Proofs.YtbmbbcaaimehkaaGreat
end
end
section
end
section
namespace Go.Lf
theorem ZwI {k:Nat} (h:k < 4611686018427387904):Xd ((k:Int) + 1)= ((k + 1:Nat):Int):=by
 rw [Za2 (by omega) (by omega)];rfl
theorem ZwJ {k:Nat} (h:k < 4611686018427387904) (h0:0 < k):Xd ((k:Int) - 1)= ((k - 1:Nat):Int):=by
 rw [Za2 (by omega) (by omega)];omega
theorem Zn1 {α:Type} {Jh:Nat} {xs ys:List α} (h:xs.length + ys.length <=1000000) (hb:Jh <=1000):app Jh xs ys=some (xs ++ ys):=
 ZsG (Nat.le_trans (Nat.mul_le_mul (show 2 * (xs.length + ys.length) + 1000 <=2001000 by omega) hb) (by decide))
def iter {α β σ:Type} (g:Nat ->α ->σ ->(σ ->Option β) ->Option β) (d:σ ->Option β):Nat ->List α ->σ ->Option β
 | _,[],s=>d s
 | i,x::l,s=>g i x s (fun s'=>iter g d (i + 1) l s')
end Go.Lf
end
section
namespace Go.Proofs.YtbmbbcaaimehkaaGreat
open Go.Lf
section
variable {β γ:Type}
theorem ZfX {body:γ ->(γ ->Option β) ->Option β} {r:Option β} (S:Nat ->γ) {n F:Nat} (hF:n < F) (hb:∀ k,k < n ->∀ next,body (S k) next=next (S (k + 1))) (he:∀ next,body (S n) next=r):loop F body (S 0)=r:=by
 have:∀ j F,j <=n ->n - j < F ->loop F body (S j)=r:=by
  intro j F hj hF;obtain⟨d,hd⟩:∃ d,d=n - j:= ⟨_,rfl⟩
  induction d generalizing j F with
  | zero=>
    have:j=n:=by omega
    subst this;cases F with
    | zero=>omega
    | succ F=>rw [ZcZ];exact he _
  | succ d ih=>
    cases F with
    | zero=>omega
    | succ F=>rw [ZcZ,hb j (by omega)];exact ih (j + 1) F (by omega) (by omega) (by omega)
 exact this 0 F (Nat.zero_le _) (by omega)
theorem ZiP {body:γ ->(γ ->Option β) ->Option β} {r1 r2:Option β} (S:Nat ->γ) (c:Nat ->Bool) {n F:Nat} (hF:n < F) (hb:∀ k,k < n ->∀ next,body (S k) next=bif c k then r1 else next (S (k + 1))) (he:∀ next,body (S n) next=r2):loop F body (S 0)=bif(List.range n).any c then r1 else r2:=by
 cases h:(List.range n).any c with
 | false=>
   rw [List.any_eq_false] at h;refine ZfX S hF (fun k hk next=>?_) he;have:=h k (List.mem_range.2 hk);rw [hb k hk,Bool.eq_false_iff.2 this];rfl
 | true=>
   have hex:∃ k,k < n∧c k=true:=by
    obtain⟨k,h1,h2⟩:=List.any_eq_true.1 h;exact⟨k,List.mem_range.1 h1,h2⟩
   have hm:∃ m,(m < n∧c m=true)∧∀ k,k < m ->c k=false:=by
    obtain⟨k,hk⟩:=hex
    induction k using Nat.strongRecOn with
    | _ k ih=>
      by_cases hz:∃ j,j < k∧c j=true
      ·obtain⟨j,h1,h2⟩:=hz;exact ih j h1 ⟨by omega,h2⟩
      ·exact⟨k,hk,fun j hj=>Bool.eq_false_iff.2 fun q=>hz ⟨j,hj,q⟩⟩
   obtain⟨m,⟨h1,h2⟩,h3⟩:=hm;refine ZfX S (n:=m) (by omega) (fun k hk next=>?_) (fun next=>?_)
   ·rw [hb k (by omega),h3 k hk];rfl
   ·rw [hb m h1,h2];rfl
end
theorem Yv {k:Nat} (h:k < 4611686018427387904):Xd ((k:Int) + 1)= ((k + 1:Nat):Int):=ZwI h
theorem ZI {k n:Nat} (h:k < n):decide ((k:Int) < (n:Int))=true:=decide_eq_true (by omega)
theorem ZR (n:Nat):decide ((n:Int) < (n:Int))=false:=decide_eq_false (by omega)
theorem XO {α:Type} {l:List α} {k:Nat} (h:k < l.length):ZT l (k:Int)=some l[k]:=by rw [Zji,List.getElem?_eq_getElem h]
theorem app1 {α:Type} {b:Nat} {l:List α} {x:α} (h:l.length <=900000) (hb:b <=1000):app b l [x]=some (l ++ [x]):=Zn1 (by simp;omega) hb
theorem JJ {α:Type} [BEq α] [LawfulBEq α] (a:α):(a !=a)=false:=by simp
end Go.Proofs.YtbmbbcaaimehkaaGreat
end
section
namespace Go.Proofs.YtbmbbcaaimehkaaGreat
open Go.Lf
structure Kl (n:Nat) (w:Zb):Prop where
 Zv:w.Zv.length < n
 qK:w.qK.length < n
 qQ:w.qQ.length < n
 qJ:w.qJ.length < n
 qG:w.qG.length < n
 box:∀ l ∈ w.qK,l.length < n
 row:∀ l ∈ w.qQ,l.length < n
 hel:∀ l ∈ w.qJ,l.length < n
 Xp:∀ x ∈ w.qG,x.qV.length < n∧x.Yj.length < n
theorem Kl.mono {n m:Nat} {w:Zb} (h:Kl n w) (hm:n <=m):Kl m w:=
 ⟨Nat.lt_of_lt_of_le h.Zv hm,Nat.lt_of_lt_of_le h.qK hm,Nat.lt_of_lt_of_le h.qQ hm,Nat.lt_of_lt_of_le h.qJ hm,Nat.lt_of_lt_of_le h.qG hm,fun l q=>Nat.lt_of_lt_of_le (h.box l q) hm,fun l q=>Nat.lt_of_lt_of_le (h.row l q) hm,fun l q=>Nat.lt_of_lt_of_le (h.hel l q) hm,fun x q=>⟨Nat.lt_of_lt_of_le (h.Xp x q).1 hm,Nat.lt_of_lt_of_le (h.Xp x q).2 hm⟩⟩
abbrev ZAP:Zb:= ⟨[],[],[],[],[],0⟩
theorem Zld {α:Type} (l:List α) (c:α ->Bool) (d:α):(List.range l.length).any (fun k=>c (l.getD k d))=l.any c:=by
 rw [Bool.eq_iff_iff,List.any_eq_true,List.any_eq_true]
 constructor
 ·rintro⟨k,h1,h2⟩;have hk:=List.mem_range.1 h1;rw [List.getD_eq_getElem?_getD,List.getElem?_eq_getElem hk] at h2;exact⟨_,List.getElem_mem hk,h2⟩
 ·rintro⟨x,h1,h2⟩;obtain⟨k,hk,rfl⟩:=List.getElem_of_mem h1;exact⟨k,List.mem_range.2 hk,by rw [List.getD_eq_getElem?_getD,List.getElem?_eq_getElem hk];exact h2⟩
theorem Ye {β γ:Type} {body:γ ->(γ ->Option β) ->Option β} {r:Option β} {s0:γ} (S:Nat ->γ) (h0:S 0=s0) {n F:Nat} (hF:n < F) (hb:∀ k,k < n ->∀ next,body (S k) next=next (S (k + 1))) (he:∀ next,body (S n) next=r):loop F body s0=r:=h0 ▸ ZfX S hF hb he
def row (w:Zb) (m:Nat):List Zw:=w.qQ.getD m []
def E (w:Zb) (m p:Nat):Zw:= (row w m).getD p default
structure W9 (w:Zb):Prop where
 m1:1 <=w.qQ.length
 m2:w.qQ.length <=5
 p1:1 <=w.Zv.length
 p2:w.Zv.length <=8
 bx:w.qK.length=w.Zv.length
 hd:w.qJ.length=w.qQ.length
 rw_:∀ l ∈ w.qQ,l.length=w.Zv.length
theorem Yn {α:Type} {l:List α} {k:Nat} {d:α} (h:k < l.length):l.getD k d ∈ l:=by
 rw [List.getD_eq_getElem?_getD,List.getElem?_eq_getElem h];exact List.getElem_mem h
theorem YB {α:Type} {l:List α} {k:Nat} (d:α) (h:k < l.length):ZT l (k:Int)=some (l.getD k d):=by
 rw [XO h,List.getD_eq_getElem?_getD,List.getElem?_eq_getElem h];rfl
theorem W9.row {w:Zb} (s:W9 w) {m:Nat} (h:m < w.qQ.length):ZT w.qQ (m:Int)=some (row w m):=YB [] h
theorem W9.len {w:Zb} (s:W9 w) {m:Nat} (h:m < w.qQ.length):(Proofs.YtbmbbcaaimehkaaGreat.row w m).length=w.Zv.length:=s.rw_ _ (Yn h)
theorem W9.ent {w:Zb} (s:W9 w) {m p:Nat} (h:m < w.qQ.length) (hp:p < w.Zv.length):ZT (Proofs.YtbmbbcaaimehkaaGreat.row w m) (p:Int)=some (E w m p):=YB default (by rw [s.len h];exact hp)
def Xj (w:Zb) (p k:Nat):List Yo:= (List.range k).filterMap fun m=>if(E w m p).here then some ⟨(m:Int),true,(E w m p).age⟩ else none
def WB (x:Zd) (p j:Nat):List Yo:= (List.range j).filterMap fun i=>if x.qV.getD i 0= (p:Int) then some ⟨x.Z9,false,x.Yj.getD i 0⟩ else none
def WU (x:Zd) (p:Nat):List Yo:=if x.kind=2 then WB x p x.qV.length else []
def X8 (l:List Zd) (p:Nat):List Yo:=l.flatMap fun x=>WU x p
def YM (w:Zb) (p:Nat):List Yo:=Xj w p w.qQ.length ++ X8 w.qG p
def Kg (l:List Yo):Yo:=l.getLastD ⟨0,false,0⟩
theorem ZiV (l:List Yo) (x:Yo):Kg (l ++ [x])=x:=by unfold Kg;simp
theorem Zz8 {α β:Type} (f:α ->Option β) (a:α): [a].filterMap f= (f a).toList:=by
 cases h:f a <;> simp [List.filterMap_cons,h]
theorem JC (w:Zb) (p k:Nat):Xj w p (k + 1)=Xj w p k ++ (if(E w k p).here then [⟨(k:Int),true,(E w k p).age⟩] else []):=by
 unfold Xj;rw [List.range_succ,List.filterMap_append,Zz8];congr 1;by_cases h:(E w k p).here=true
 ·rw [if_pos h,if_pos h];rfl
 ·rw [if_neg h,if_neg h];rfl
theorem ZfA (x:Zd) (p j:Nat):WB x p (j + 1)=WB x p j ++ (if x.qV.getD j 0= (p:Int) then [⟨x.Z9,false,x.Yj.getD j 0⟩] else []):=by
 unfold WB;rw [List.range_succ,List.filterMap_append,Zz8];congr 1;by_cases h:x.qV.getD j 0= (p:Int)
 ·rw [if_pos h,if_pos h];rfl
 ·rw [if_neg h,if_neg h];rfl
theorem ZuJ {l:List Zd} {k:Nat} (h:k < l.length) (p:Nat):X8 (l.take (k + 1)) p=X8 (l.take k) p ++ WU l[k] p:=by
 unfold X8;rw [List.take_add_one,List.getElem?_eq_getElem h,List.flatMap_append];simp
theorem Zc2 (w:Zb) (p k:Nat):(Xj w p k).length <=k:=by
 have:=List.length_filterMap_le (fun m=>if(E w m p).here then some (⟨(m:Int),true,(E w m p).age⟩:Yo) else none) (List.range k);unfold Xj;rw [List.length_range] at this;exact this
theorem Zeo (x:Zd) (p j:Nat):(WB x p j).length <=j:=by
 have:=List.length_filterMap_le (fun i=>if x.qV.getD i 0= (p:Int) then some (⟨x.Z9,false,x.Yj.getD i 0⟩:Yo) else none) (List.range j);unfold WB;rw [List.length_range] at this;exact this
def Mvd (n:Nat) (l:List Zd):Prop:=∀ x ∈ l,x.kind=2 ->x.Yj.length=x.qV.length∧x.qV.length <=n
theorem ZwH {n:Nat} {l:List Zd} (h:Mvd n l) (p:Nat):(X8 l p).length <=n * l.length:=by
 induction l with
 | nil=>simp [X8]
 | cons x l ih=>
   have:=ih fun y hy=>h y (by simp [hy])
   have hx:(WU x p).length <=n:=by
    unfold WU;by_cases hk:x.kind=2
    ·rw [if_pos hk];exact Nat.le_trans (Zeo _ _ _) (h x (by simp) hk).2
    ·rw [if_neg hk];simp
   unfold X8 at this ⊢;rw [List.flatMap_cons,List.length_append,List.length_cons,Nat.mul_succ];omega
theorem J8 (a b:Int):(a !=b)=decide (a ≠ b):=by
 by_cases h:a=b <;> simp [h]
theorem Yg (a b:Int):(a==b)=decide (a=b):=by
 by_cases h:a=b <;> simp [h]
theorem ZaV {α:Type} (c:Prop) [Decidable c] (a b:α):(bif decide c then a else b)=if c then a else b:=by
 by_cases h:c <;> simp [h]
def stP (l:List Yo) (k:Nat):Int×Int×Int×Bool×Int:= ((l.length:Int),(k:Int),(Kg l).machine,(Kg l).here,(Kg l).age)
theorem Zvj (l:List Yo):Yo.mk (Kg l).machine (Kg l).here (Kg l).age=Kg l:=rfl
theorem Zie {F:Nat} (hF:1000 <=F) (hM:F <=1000000) {w:Zb} (s:W9 w) (hv:Mvd 900 w.qG) (hw:w.qG.length < 900) {p:Nat} (hp:p < w.Zv.length):
 Zd1 F w (p:Int)=some (Kg (YM w p),((YM w p).length:Int)):=by
 have h0:=s.m2;have hh:=Zc2 w p w.qQ.length
 have hlen:∀ k,k <=w.qG.length ->(X8 (w.qG.take k) p).length <=900 * 900:=fun k hk=>by
  have:=ZwH (l:=w.qG.take k) (fun x hx=>hv x (List.mem_of_mem_take hx)) p;rw [List.length_take] at this;exact Nat.le_trans this (by apply Nat.mul_le_mul (Nat.le_refl _);omega)
 have h1:loop F (ZjC F w (p:Int)) (stP (Xj w p w.qQ.length) 0)=some (Kg (YM w p),((YM w p).length:Int)):=by
  refine Ye (fun k=>stP (Xj w p w.qQ.length ++ X8 (w.qG.take k) p) k) (by simp [X8]) (n:=w.qG.length) (by omega) (fun k hk next=>?_) (fun next=>?_)
  ·have hl:=hlen k (by omega);have hx:w.qG[k] ∈ w.qG:=List.getElem_mem hk;rw [ZuJ hk];unfold ZjC stP;dsimp only;rw [ZI hk,Cq1,XO hk];simp only [Bq0];rw [J8,ZaV];by_cases hk2:w.qG[k].kind=2
   ·rw [if_neg (fun q=>q hk2)];obtain⟨v1,v2⟩:=hv _ hx hk2;have hwk:WU w.qG[k] p=WB w.qG[k] p w.qG[k].qV.length:=by unfold WU;rw [if_pos hk2]
    rw [hwk];have hll:(Xj w p w.qQ.length ++ X8 (w.qG.take k) p).length <=5 + 900 * 900:=by rw [List.length_append];omega
    rw [← List.append_assoc];generalize Xj w p w.qQ.length ++ X8 (w.qG.take k) p=l at hll ⊢;refine Ye (fun j=>stP (l ++ WB w.qG[k] p j) j) (by simp [WB,stP]) (n:=w.qG[k].qV.length) (by omega) (fun j hj ZxY=>?_) (fun ZxY=>?_)
    ·have hl2:=Zeo w.qG[k] p j;rw [ZfA];unfold Zm9 stP;dsimp only;rw [ZI hj,Cq1,YB 0 hj,YB 0 (show j < w.qG[k].Yj.length by omega)];simp only [Bq0];rw [Yg,ZaV];unfold ZjA;dsimp only;by_cases hq:w.qG[k].qV.getD j 0= (p:Int)
     ·rw [if_pos hq,if_pos hq,Yv (by rw [List.length_append];omega),Yv (by omega),← List.append_assoc,ZiV];simp [Int.add_assoc]
     ·rw [if_neg hq,if_neg hq,Yv (by omega),List.append_nil]
    ·unfold Zm9 stP;dsimp only;rw [ZR,Cq0];unfold Zge;dsimp only;rw [Yv (by omega)]
   ·rw [if_pos hk2];have hwk:WU w.qG[k] p= []:=by unfold WU;rw [if_neg hk2]
    rw [hwk,List.append_nil];unfold Zge;dsimp only;rw [Yv (by omega)]
  ·unfold ZjC stP;dsimp only;rw [ZR,Cq0,List.take_of_length_le (Nat.le_refl _),Zvj];rfl
 unfold Zd1;refine Ye (fun k=>stP (Xj w p k) k) (by rfl) (n:=w.qQ.length) (by omega) (fun k hk next=>?_) (fun next=>?_)
 ·unfold Zna stP;dsimp only;rw [ZI hk,Cq1,s.row hk];simp only [Bq0];rw [s.ent hk hp];simp only [Bq0];have hl:=Zc2 w p k;rw [JC];unfold ZjB;dsimp only;cases hE:(E w k p).here with
  | true=>
    simp only [Cq1,if_true];rw [Yv (by omega),Yv (by omega),ZiV];simp
  | false=>
    simp only [Cq0];rw [Yv (by omega)];simp
 ·unfold Zna;dsimp only [stP];rw [ZR];exact h1
def inn (w:Zb) (q:Int):Int:=w.Zv.getD q.toNat 0
def up (w:Zb):Nat ->Int ->Int
 | 0,q=>q
 | k + 1,q=>if q < 0 then q else up w k (inn w q)
theorem Zl4 {w:Zb} {q:Int} (h:q < 0) (k:Nat):up w k q=q:=by
 cases k with
 | zero=>rfl
 | succ k=>show(if q < 0 then q else _)=q;rw [if_pos h]
theorem QC (w:Zb) (k:Nat) (q:Int):up w (k + 1) q=if up w k q < 0 then up w k q else inn w (up w k q):=by
 induction k generalizing q with
 | zero=>rfl
 | succ k ih=>
   show(if q < 0 then q else up w (k + 1) (inn w q))=_;by_cases h:q < 0
   ·rw [if_pos h,Zl4 h,if_pos h]
   ·rw [if_neg h,ih];show _=if(if q < 0 then q else up w k (inn w q)) < 0 then _ else _
    rw [if_neg h];show _=if _ then(if q < 0 then q else up w k (inn w q)) else inn w (if q < 0 then q else up w k (inn w q))
    rw [if_neg h]
theorem up_add (w:Zb) (a b:Nat) (q:Int):up w (a + b) q=up w b (up w a q):=by
 induction a generalizing q with
 | zero=>rw [Nat.zero_add];rfl
 | succ a ih=>
   rw [show a + 1 + b= (a + b) + 1 by omega];show(if q < 0 then q else up w (a + b) (inn w q))=up w b (if q < 0 then q else up w a (inn w q));by_cases h:q < 0
   ·rw [if_pos h,if_pos h,Zl4 h]
   ·rw [if_neg h,if_neg h,ih]
theorem UC {w:Zb} {q:Int} {a:Nat} (h:up w a q < 0) {b:Nat} (hb:a <=b):up w b q < 0:=by
 obtain⟨d,rfl⟩:∃ d,b=a + d:= ⟨b - a,by omega⟩
 rw [up_add,Zl4 h];exact h
def okN (w:Zb) (q:Int):Prop:=-1 <=q∧q < (w.Zv.length:Int)
instance (w:Zb) (q:Int):Decidable (okN w q):=by unfold okN;infer_instance
structure Inn (w:Zb):Prop where
 rng:∀ p:Nat,p < w.Zv.length ->okN w (inn w p)
 acy:∀ p:Nat,p < w.Zv.length ->up w w.Zv.length p < 0
theorem Inn.up {w:Zb} (h:Inn w) {q:Int} (hq:okN w q) (k:Nat):okN w (up w k q):=by
 induction k with
 | zero=>exact hq
 | succ k ih=>
   rw [QC];by_cases h2:Proofs.YtbmbbcaaimehkaaGreat.up w k q < 0
   ·rw [if_pos h2];exact ih
   ·rw [if_neg h2];have:=h.rng (Proofs.YtbmbbcaaimehkaaGreat.up w k q).toNat (by have:=ih.2;omega)
    rwa [Int.toNat_of_nonneg (by omega)] at this
theorem Qb {c:Nat ->Prop} {n:Nat} (h:c n):∃ m,m <=n∧c m∧∀ k,k < m ->¬ c k:=by
 induction n using Nat.strongRecOn with
 | _ n ih=>
   by_cases hz:∃ j,j < n∧c j
   ·obtain⟨j,h1,h2⟩:=hz;obtain⟨m,q1,q2,q3⟩:=ih j h1 h2;exact⟨m,by omega,q2,q3⟩
   ·exact⟨n,Nat.le_refl _,h,fun k hk q=>hz ⟨k,hk,q⟩⟩
theorem ZGU:∀ (n:Nat) (f:Nat ->Nat),(∀ i,i <=n ->f i < n) ->∃ i j,i < j∧j <=n∧f i=f j:=by
 intro n
 induction n with
 | zero=>intro f h;exact absurd (h 0 (Nat.le_refl _)) (Nat.not_lt_zero _)
 | succ n ih=>
   intro f h;by_cases hz:∃ i,i <=n∧f i=f (n + 1)
   ·obtain⟨i,h1,h2⟩:=hz;exact⟨i,n + 1,by omega,Nat.le_refl _,h2⟩
   ·have hne:∀ i,i <=n ->f i ≠ f (n + 1):=fun i hi q=>hz ⟨i,hi,q⟩
    have hl:=h (n + 1) (Nat.le_refl _)
    obtain⟨i,j,h1,h2,h3⟩:=ih (fun i=>if f i < f (n + 1) then f i else f i - 1) (fun i hi=>by
     have:=h i (by omega);have:=hne i hi;by_cases q:f i < f (n + 1)
     ·rw [if_pos q];omega
     ·rw [if_neg q];omega)
    refine⟨i,j,h1,by omega,?_⟩;have a1:=hne i (by omega);have a2:=hne j h2;by_cases q1:f i < f (n + 1) <;> by_cases q2:f j < f (n + 1)
    ·rwa [if_pos q1,if_pos q2] at h3
    ·rw [if_pos q1,if_neg q2] at h3;omega
    ·rw [if_neg q1,if_pos q2] at h3;omega
    ·rw [if_neg q1,if_neg q2] at h3;omega
theorem Zh9 {w:Zb} (hr:∀ p:Nat,p < w.Zv.length ->okN w (inn w p)):(∀ p:Nat,p < w.Zv.length ->up w w.Zv.length p < 0)↔∀ p:Nat,p < w.Zv.length ->∀ j,j <=w.Zv.length ->up w (j + 1) p ≠ (p:Int):=by
 constructor
 ·intro h p hp j hj e
  have:∀ m:Nat,up w (m * (j + 1)) p= (p:Int):=fun m=>by
   induction m with
   | zero=>rw [Nat.zero_mul];rfl
   | succ m ih=>rw [Nat.succ_mul,up_add,ih,e]
  have h2:=UC (h p hp) (b:=w.Zv.length * (j + 1)) (Nat.le_mul_of_pos_right _ (by omega));rw [this] at h2;omega
 ·intro h p hp;rcases Int.lt_or_le (up w w.Zv.length p) 0 with q | q
  ·exact q
  ·exfalso
   have hk:∀ k,k <=w.Zv.length ->0 <=up w k p:=fun k hk=>by
    rcases Int.lt_or_le (up w k p) 0 with z | z
    ·have:=UC z hk;omega
    ·exact z
   have hok:∀ k,okN w (up w k p):=fun k=>by
    induction k with
    | zero=>exact⟨by show(-1:Int) <= (p:Int);omega,by show(p:Int) < _;omega⟩
    | succ k ih=>
      rw [QC];by_cases h2:up w k p < 0
      ·rw [if_pos h2];exact ih
      ·rw [if_neg h2];have:=hr (up w k p).toNat (by have:=ih.2;omega)
       rwa [Int.toNat_of_nonneg (by omega)] at this
   obtain⟨i,j,h1,h2,h3⟩:=ZGU w.Zv.length (fun k=>(up w k p).toNat) fun k hk'=>by
    have:= (hok k).2;have:=hk k hk';omega
   have e:up w i p=up w j p:=by have:=hk i (by omega);have:=hk j h2;omega
   have hi:=hk i (by omega);have:=h (up w i p).toNat (by have:= (hok i).2;omega) (j - i - 1) (by omega);apply this;rw [Int.toNat_of_nonneg hi,show j - i - 1 + 1=j - i by omega,← up_add,show i + (j - i)=j by omega,e]
end Go.Proofs.YtbmbbcaaimehkaaGreat
end
section
namespace Go.Proofs.YtbmbbcaaimehkaaGreat
open Go.Lf
section
variable {β γ:Type} {R:β ->Prop}
theorem QS {c:Bool} {A B:Option β} (h1:c=true ->∃ b,A=some b∧R b) (h2:c=false ->∃ b,B=some b∧R b):∃ b,(bif c then A else B)=some b∧R b:=by
 cases c
 ·exact h2 rfl
 ·exact h1 rfl
theorem J7 {body:γ ->(γ ->Option β) ->Option β} (r1:β) (r2:Option β) {s0:γ} (S:Nat ->γ) (h0:S 0=s0) (c:Nat ->Prop) {n F:Nat} (hF:n < F)
 (hb:∀ k,k < n ->((∀ next,body (S k) next=some r1)∧c k)∨((∀ next,body (S k) next=next (S (k + 1)))∧¬ c k)) (he:∀ next,body (S n) next=r2)
 (h1:∀ k,k < n ->c k ->R r1) (h2:(∀ k,k < n ->¬ c k) ->∃ b,r2=some b∧R b):∃ b,loop F body s0=some b∧R b:=by
 by_cases hz:∃ k,k < n∧c k
 ·obtain⟨k0,hk0⟩:=hz;obtain⟨m,hm,⟨hmn,hcm⟩,hlt⟩:=Qb (c:=fun k=>k < n∧c k) hk0;refine⟨r1,Ye S h0 (n:=m) (by omega) (fun k hk=>?_) ?_,h1 m hmn hcm⟩
  ·rcases hb k (by omega) with⟨_,q⟩ | ⟨q,_⟩
   ·exact absurd ⟨by omega,q⟩ (hlt k hk)
   ·exact q
  ·rcases hb m hmn with⟨q,_⟩ | ⟨_,q⟩
   ·exact q
   ·exact absurd hcm q
 ·have hno:∀ k,k < n ->¬ c k:=fun k hk q=>hz ⟨k,hk,q⟩
  obtain⟨b,e,hR⟩:=h2 hno;refine⟨b,?_,hR⟩;rw [← e];exact Ye S h0 hF (fun k hk=>(hb k hk).elim (fun q=>absurd q.2 (hno k hk)) fun q=>q.1) he
end
theorem J5 {w:Zb} {q:Int} (h:okN w q) (h2:¬ q < 0):∃ k:Nat,q= (k:Int)∧k < w.Zv.length:= ⟨q.toNat,by omega,by have:=h.2;omega⟩
theorem XU {w:Zb} {p:Nat} (hp:p < w.Zv.length):ZT w.Zv (p:Int)=some (inn w p):=YB 0 hp
theorem Ze0 (k:Nat):decide ((k:Int) >=0)=true:=decide_eq_true (by omega)
def Chn (w:Zb) (p:Nat):Prop:=okN w (inn w p)∧∃ n,n <=w.Zv.length∧(∀ j,j < n ->¬ up w j p < 0∧okN w (inn w (up w j p)))∧up w n p < 0
theorem Zun {w:Zb}:(∀ p,p < w.Zv.length ->Chn w p)↔Inn w:=by
 constructor
 ·intro h;exact⟨fun p hp=>(h p hp).1,fun p hp=>let⟨_,n,h1,_,h3⟩:=h p hp;UC h3 h1⟩
 ·intro h p hp;refine⟨h.rng p hp,?_⟩;obtain⟨m,h1,h2,h3⟩:=Qb (c:=fun k=>up w k p < 0) (h.acy p hp);refine⟨m,h1,fun j hj=>⟨h3 j hj,?_⟩,h2⟩;have hq:okN w ((p:Int)):= ⟨by omega,by omega⟩
  obtain⟨k,e,hk⟩:=J5 (h.up hq j) (h3 j hj);rw [e];exact h.rng k hk
open Classical in
theorem Zkb {F:Nat} {w:Zb} (hF:1000 <=F) (h8:w.Zv.length <=8) {p:Nat} (hp:p < w.Zv.length) (next:Int ->Option Bool):
 ((ZT w.Zv (p:Int)).bind fun Kz=>(bif((decide (Kz < (-1))) || (decide (Kz >= (w.Zv.length:Int)))) then some false else loop F (Zgc w (p:Int) next) (0,(p:Int))))=if Chn w p then next ((p + 1:Nat):Int) else some false:=by
 rw [XU hp];simp only [Bq0];by_cases hr:okN w (inn w p)
 ·have e:(decide (inn w p < (-1)) || decide (inn w p >= (w.Zv.length:Int)))=false:=by
   have h1:=hr.1;have h2:=hr.2;rw [decide_eq_false (by omega),decide_eq_false (by omega)];rfl
  rw [e,Cq0];obtain⟨m,hm,hs,hlt⟩:=Qb (c:=fun k=>up w k p < 0∨k=w.Zv.length∨¬ okN w (inn w (up w k p))) (n:=w.Zv.length) (.inr (.inl rfl))
  have hj:∀ j,j < m ->¬ up w j p < 0∧j ≠ w.Zv.length∧okN w (inn w (up w j p)):=fun j hj=>by
   have:=hlt j hj;refine⟨fun q=>this (.inl q),fun q=>this (.inr (.inl q)),?_⟩;by_cases z:okN w (inn w (up w j p))
   ·exact z
   ·exact absurd (.inr (.inr z)) this
  have hok:∀ j,j <=m ->okN w (up w j p):=fun j hjm=>by
   induction j with
   | zero=>exact⟨by show(-1:Int) <= (p:Int);omega,by show(p:Int) < _;omega⟩
   | succ j ih=>
     have:=hj j (by omega);rw [QC,if_neg this.1];exact this.2.2
  refine Ye (fun j=>((j:Int),up w j p)) rfl (n:=m) (by omega) (fun j hjm nx=>?_) (fun nx=>?_)
  ·obtain⟨a1,a2,a3⟩:=hj j hjm;obtain⟨k,e,hk⟩:=J5 (hok j (by omega)) a1;unfold Zgc;dsimp only;rw [e,Ze0,Cq1,Yv (by omega),decide_eq_false (by omega),Cq0,XU hk];have e2:inn w (k:Int)=inn w (up w j p):=by rw [e]
   have h1:=a3.1;have h2:=a3.2;simp only [Bq0];rw [e2,decide_eq_false (show ¬ inn w (up w j p) < -1 by omega),Bool.not_false,YK];simp only [Bq0];rw [decide_eq_false (show ¬ inn w (up w j p) >= (w.Zv.length:Int) by omega)];simp only [Bool.or_self,Cq0];rw [QC,if_neg a1]
  ·by_cases hneg:up w m p < 0
   ·unfold Zgc;dsimp only;rw [decide_eq_false (by omega),Cq0,Yv (by omega),if_pos ⟨hr,m,hm,fun j hjm=>⟨(hj j hjm).1,(hj j hjm).2.2⟩,hneg⟩]
   ·have hnc:¬ Chn w p:=by
     rintro⟨_,n,h1,h2,h3⟩
     have hmn:m < n:=by
      rcases Nat.lt_or_ge m n with z | z
      ·exact z
      ·exact absurd (UC h3 z) hneg
     rcases hs with z | z | z
     ·exact hneg z
     ·omega
     ·exact z (h2 m hmn).2
    rw [if_neg hnc];obtain⟨k,e,hk⟩:=J5 (hok m (Nat.le_refl _)) hneg;unfold Zgc;dsimp only;rw [e,Ze0,Cq1,Yv (by omega)];by_cases hml:m=w.Zv.length
    ·rw [decide_eq_true (by omega)];rfl
    ·rw [decide_eq_false (by omega),Cq0,XU hk]
     have hb:¬ okN w (inn w (k:Int)):=by
      rcases hs with z | z | z
      ·exact absurd z hneg
      ·exact absurd z hml
      ·rwa [e] at z
     simp only [Bq0];by_cases h1:inn w (k:Int) < -1
     ·rw [decide_eq_true h1];rfl
     ·rw [decide_eq_false h1,Bool.not_false,YK];simp only [Bq0]
      rw [decide_eq_true (show inn w (k:Int) >= (w.Zv.length:Int) by
       rcases Int.lt_or_le (inn w (k:Int)) (w.Zv.length:Int) with z | z
       ·exact absurd ⟨by omega,z⟩ hb
       ·exact z)]
      rfl
 ·rw [if_neg (fun q=>hr q.1)]
  have e:(decide (inn w p < (-1)) || decide (inn w p >= (w.Zv.length:Int)))=true:=by
   by_cases h1:inn w p < -1
   ·rw [decide_eq_true h1];rfl
   ·rw [decide_eq_true (show inn w p >= (w.Zv.length:Int) by
     rcases Int.lt_or_le (inn w p) (w.Zv.length:Int) with z | z
     ·exact absurd ⟨by omega,z⟩ hr
     ·exact z),Bool.or_true]
  rw [e];rfl
theorem Zq6 {F:Nat} (hF:1000 <=F) (w:Zb):∃ b,ZAw F w=some b∧(b=true↔W9 w∧Inn w):=by
 unfold ZAw;refine QS (fun hc=>⟨false,rfl,?_⟩) (fun hc=>?_)
 ·simp only [Bool.false_eq_true,false_iff];rintro⟨s,_⟩;have:=s.m1;have:=s.m2;have:=s.p1;have:=s.p2;have:=s.bx;have:=s.hd;simp only [Bool.or_eq_true,decide_eq_true_eq,bne_iff_ne] at hc;omega
 ·simp only [Bool.or_eq_false_iff,decide_eq_false_iff_not,bne_eq_false_iff_eq] at hc;obtain⟨⟨⟨⟨⟨a1,a2⟩,a3⟩,a4⟩,a5⟩,a6⟩:=hc;refine J7 false (loop F (Zgd F w) 0) (fun k=>(k:Int)) rfl (fun k=>(row w k).length ≠ w.Zv.length) (n:=w.qQ.length) (by omega) (fun k hk=>?_) (fun next=>?_) (fun k hk hc=>?_) (fun hall=>?_)
  ·have hx:ZT w.qQ (k:Int)=some (row w k):=YB [] hk;by_cases hl:(row w k).length=w.Zv.length
   ·refine .inr ⟨fun next=>?_,fun q=>q hl⟩;unfold Zjz;rw [ZI hk,Cq1,hx];simp only [Bq0];rw [hl,JJ,Cq0,Yv (by omega)]
   ·refine .inl ⟨fun next=>?_,hl⟩;unfold Zjz;rw [ZI hk,Cq1,hx];simp only [Bq0];rw [J8,decide_eq_true (by omega)];rfl
  ·unfold Zjz;rw [ZR];rfl
  ·simp only [Bool.false_eq_true,false_iff];rintro⟨s,_⟩;exact hc (s.len hk)
  ·have hrow:∀ l ∈ w.qQ,l.length=w.Zv.length:=fun l hl=>by
    obtain⟨k,hk,rfl⟩:=List.getElem_of_mem hl;have:=hall k hk;unfold row at this;rw [List.getD_eq_getElem?_getD,List.getElem?_eq_getElem hk] at this;exact Classical.byContradiction this
   have ZG8:W9 w:= ⟨by omega,by omega,by omega,by omega,by omega,by omega,hrow⟩
   refine J7 false (some true) (fun k=>(k:Int)) rfl (fun k=>¬ Chn w k) (n:=w.Zv.length) (by omega) (fun k hk=>?_) (fun next=>?_) (fun k hk hc=>?_) (fun ZMS=>⟨true,rfl,?_⟩)
   ·by_cases hch:Chn w k
    ·refine .inr ⟨fun next=>?_,fun q=>q hch⟩;have:=Zkb hF (by omega) hk next;rw [if_pos hch] at this;unfold Zgd;rw [ZI hk,Cq1];exact this
    ·refine .inl ⟨fun next=>?_,hch⟩;have:=Zkb hF (by omega) hk next;rw [if_neg hch] at this;unfold Zgd;rw [ZI hk,Cq1];exact this
   ·unfold Zgd;rw [ZR];rfl
   ·simp only [Bool.false_eq_true,false_iff];rintro⟨_,h⟩;exact hc (Zun.2 h k hk)
   ·exact⟨fun _=>⟨ZG8,Zun.1 fun p hp=>Classical.byContradiction (ZMS p hp)⟩,fun _=>rfl⟩
end Go.Proofs.YtbmbbcaaimehkaaGreat
end
section
namespace Go.Proofs.YtbmbbcaaimehkaaGreat
open Go.Lf
abbrev ZtE:Zr:= ⟨0,0,0,0,0⟩
theorem K3 (x y:Zr):JE x y=true↔x=y:=by
 unfold JE;cases x;cases y;simp [Zr.mk.injEq]
theorem Zhv (x y:Zw):UW x y=true↔x=y:=by
 unfold UW;cases x;cases y;simp [Zw.mk.injEq]
theorem Zj2 (x y:Yo):Zfc x y=true↔x=y:=by
 unfold Zfc;cases x;cases y;simp [Yo.mk.injEq]
def Pur (x:Zd):Prop:=
 (x.kind=1∧x.place=0∧x.at_=0∧x.age=0∧x.qV= []∧x.Yj= [])∨
 (x.kind=2∧x.place=0∧x.at_=0∧x.age=0∧x.Ya=ZtE∧x.qV ≠ []∧x.qV.length=x.Yj.length)∨
 (x.kind=3∧x.Ya=ZtE∧x.qV= []∧x.Yj= [])
theorem Zhl {α:Type} (l:List α):decide ((l.length:Int) > 0)=true↔l ≠ []:=by
 rw [decide_eq_true_eq]
 constructor
 ·rintro h rfl;simp at h
 ·intro h;have:=List.length_pos_iff.2 h;omega
theorem Zxp (x:Zd):∃ b,ZvF x=some b∧(b=true↔Pur x):=by
 unfold ZvF Pur
 have nl:∀ l:List Int,decide ((l.length:Int) > 0)=false↔l= []:=fun l=>by
  rw [Bool.eq_false_iff,Ne,Zhl];exact Classical.not_not
 refine QS (fun hc=>⟨_,rfl,?_⟩) (fun hc=>QS (fun hc2=>⟨_,rfl,?_⟩) (fun hc2=>QS (fun hc3=>⟨_,rfl,?_⟩) (fun hc3=>⟨_,rfl,?_⟩)))
 ·have hk:x.kind=1:=by simpa using hc
  simp only [Ba0,Bool.not_eq_true',Bool.or_eq_false_iff,bne_eq_false_iff_eq,nl]
  constructor
  ·rintro⟨⟨⟨a,b⟩,c⟩,d,e⟩;exact .inl ⟨hk,a,b,c,d,e⟩
  ·rintro(⟨_,a,b,c,d,e⟩ | ⟨q,_⟩ | ⟨q,_⟩)
   ·exact⟨⟨⟨a,b⟩,c⟩,d,e⟩
   ·omega
   ·omega
 ·have hk:x.kind=2:=by simpa using hc2
  simp only [Ba0,Bool.not_eq_true',Bool.or_eq_false_iff,bne_eq_false_iff_eq,Bool.not_eq_false',K3,Zhl,beq_iff_eq]
  constructor
  ·rintro⟨⟨⟨⟨⟨a,b⟩,c⟩,d⟩,e⟩,f⟩;exact .inr (.inl ⟨hk,a,b,c,d,e,by omega⟩)
  ·rintro(⟨q,_⟩ | ⟨_,a,b,c,d,e,f⟩ | ⟨q,_⟩)
   ·omega
   ·exact⟨⟨⟨⟨⟨a,b⟩,c⟩,d⟩,e⟩,by omega⟩
   ·omega
 ·have hk:x.kind=3:=by simpa using hc3
  simp only [Ba0,Bool.not_eq_true',Bool.or_eq_false_iff,Bool.not_eq_false',K3,nl]
  constructor
  ·rintro⟨a,b,c⟩;exact .inr (.inr ⟨hk,a,b,c⟩)
  ·rintro(⟨q,_⟩ | ⟨q,_⟩ | ⟨_,a,b,c⟩)
   ·omega
   ·omega
   ·exact⟨a,b,c⟩
 ·simp only [Bool.false_eq_true,false_iff];have h1:x.kind ≠ 1:=by simpa using hc
  have h2:x.kind ≠ 2:=by simpa using hc2
  have h3:x.kind ≠ 3:=by simpa using hc3
  rintro(⟨q,_⟩ | ⟨q,_⟩ | ⟨q,_⟩)
  ·exact h1 q
  ·exact h2 q
  ·exact h3 q
def K7 (w:Zb) (x:Zd) (i:Nat):Prop:=
 0 <=x.qV.getD i 0∧x.qV.getD i 0 < (w.Zv.length:Int)∧(0 < i ->x.qV.getD (i - 1) 0 < x.qV.getD i 0)∧1 <=x.Yj.getD i 0∧x.Yj.getD i 0 <=30
def Plc (w:Zb) (x:Zd):Prop:=∀ i,i < x.qV.length ->K7 w x i
theorem Zo6 (w:Zb) (x:Zd) {i:Nat} (hi:i < x.qV.length) (ha:i < x.Yj.length) (h9:x.qV.length < 900) {β:Type} (r:β) (next:Option β):
 ((ZT x.qV (i:Int)).bind fun x112=>(gd ((!((decide (x112 < 0)) || (decide (x112 >= (w.Zv.length:Int))))) && (decide ((i:Int) > 0))) (ZT x.qV (Xd ((i:Int) - 1))) default).bind fun x115=>(gd (!(((decide (x112 < 0)) || (decide (x112 >= (w.Zv.length:Int)))) || ((decide ((i:Int) > 0)) && (decide (x112 <=x115))))) (ZT x.Yj (i:Int)) default).bind fun ZkE=>(gd (!((((decide (x112 < 0)) || (decide (x112 >= (w.Zv.length:Int)))) || ((decide ((i:Int) > 0)) && (decide (x112 <=x115)))) || (decide (ZkE < 1)))) (ZT x.Yj (i:Int)) default).bind fun ZdD=>(bif(((((decide (x112 < 0)) || (decide (x112 >= (w.Zv.length:Int)))) || ((decide ((i:Int) > 0)) && (decide (x112 <=x115)))) || (decide (ZkE < 1))) || (decide (ZdD > 30))) then some r else next))=open Classical in if K7 w x i then next else some r:=by
 rw [YB 0 hi];simp only [Bq0]
 have key:∀ (c d e:Bool) (y y2:Int),ZT x.Yj (i:Int)=some (x.Yj.getD i 0) ->((gd (!(c || d)) (ZT x.Yj (i:Int)) default).bind fun ZkE=>(gd (!((c || d) || decide (ZkE < 1))) (ZT x.Yj (i:Int)) default).bind fun ZdD=>(bif(((c || d) || (decide (ZkE < 1))) || (decide (ZdD > 30))) then some r else next))=bif(c || d || decide (x.Yj.getD i 0 < 1) || decide (x.Yj.getD i 0 > 30)) then some r else next:=by
  intro c d e y y2 hg;rw [hg];cases h1:(c || d)
  ·simp only [Bool.not_false,YK,Bq0,Bool.false_or];cases h2:decide (x.Yj.getD i 0 < 1)
   ·simp only [Bool.not_false,YK,Bq0,Bool.false_or]
   ·simp only [Bool.not_true,Xy,Bq0,Bool.true_or,Cq1]
  ·simp only [Bool.not_true,Xy,Bq0,Bool.true_or,Cq1]
 by_cases hz:i=0
 ·subst hz;rw [show decide (((0:Nat):Int) > 0)=false from rfl];simp only [Bool.and_false,Xy,Bq0,Bool.false_and];rw [key _ _ false 0 0 (YB 0 ha)];unfold K7;by_cases hp:0 <=x.qV.getD 0 0∧x.qV.getD 0 0 < (w.Zv.length:Int)∧(0 < 0 ->x.qV.getD (0 - 1) 0 < x.qV.getD 0 0)∧1 <=x.Yj.getD 0 0∧x.Yj.getD 0 0 <=30
  ·rw [if_pos hp];obtain⟨a,b,_,c,d⟩:=hp;rw [decide_eq_false (show ¬ x.qV.getD 0 0 < 0 by omega),decide_eq_false (show ¬ x.qV.getD 0 0 >= (w.Zv.length:Int) by omega),decide_eq_false (show ¬ x.Yj.getD 0 0 < 1 by omega),decide_eq_false (show ¬ x.Yj.getD 0 0 > 30 by omega)];rfl
  ·rw [if_neg hp]
   have:(decide (x.qV.getD 0 0 < 0) || decide (x.qV.getD 0 0 >= (w.Zv.length:Int)) || false || decide (x.Yj.getD 0 0 < 1) || decide (x.Yj.getD 0 0 > 30))=true:=by
    simp only [Bool.or_eq_true,decide_eq_true_eq,Bool.or_false];rcases Int.lt_or_le (x.qV.getD 0 0) 0 with z | z
    ·exact .inl (.inl (.inl z))
    ·rcases Int.lt_or_le (x.qV.getD 0 0) (w.Zv.length:Int) with z2 | z2
     ·rcases Int.lt_or_le (x.Yj.getD 0 0) 1 with z3 | z3
      ·exact .inl (.inr z3)
      ·rcases Int.lt_or_le 30 (x.Yj.getD 0 0) with z4 | z4
       ·exact .inr z4
       ·exact absurd ⟨z,z2,fun q=>absurd q (by omega),z3,z4⟩ hp
     ·exact .inl (.inl (.inr z2))
   rw [this];rfl
 ·have hi0:decide ((i:Int) > 0)=true:=decide_eq_true (by omega)
  have hg1:ZT x.qV (Xd ((i:Int) - 1))=some (x.qV.getD (i - 1) 0):=by
   rw [ZwJ (by omega) (by omega)];exact YB 0 (by omega)
  rw [hi0,hg1];simp only [Bool.and_true,Bool.true_and];have hgd:∀ c:Bool,gd (!c) (some (x.qV.getD (i - 1) 0)) (default:Int)=some (bif c then default else x.qV.getD (i - 1) 0):=fun c=>by cases c <;> rfl
  rw [hgd];simp only [Bq0];rw [key _ _ false 0 0 (YB 0 ha)];unfold K7;by_cases hp:0 <=x.qV.getD i 0∧x.qV.getD i 0 < (w.Zv.length:Int)∧(0 < i ->x.qV.getD (i - 1) 0 < x.qV.getD i 0)∧1 <=x.Yj.getD i 0∧x.Yj.getD i 0 <=30
  ·rw [if_pos hp];obtain⟨a,b,c0,c,d⟩:=hp;have c0:=c0 (by omega);rw [decide_eq_false (show ¬ x.qV.getD i 0 < 0 by omega),decide_eq_false (show ¬ x.qV.getD i 0 >= (w.Zv.length:Int) by omega),decide_eq_false (show ¬ x.Yj.getD i 0 < 1 by omega),decide_eq_false (show ¬ x.Yj.getD i 0 > 30 by omega)];simp only [Bool.or_self,Cq0,Bool.false_or];rw [decide_eq_false (show ¬ x.qV.getD i 0 <=x.qV.getD (i - 1) 0 by omega)];rfl
  ·rw [if_neg hp]
   have:(decide (x.qV.getD i 0 < 0) || decide (x.qV.getD i 0 >= (w.Zv.length:Int)) || decide (x.qV.getD i 0 <=bif decide (x.qV.getD i 0 < 0) || decide (x.qV.getD i 0 >= (w.Zv.length:Int)) then default else x.qV.getD (i - 1) 0) || decide (x.Yj.getD i 0 < 1) || decide (x.Yj.getD i 0 > 30))=true:=by
    rcases Int.lt_or_le (x.qV.getD i 0) 0 with z | z
    ·rw [decide_eq_true z];simp
    ·rcases Int.lt_or_le (x.qV.getD i 0) (w.Zv.length:Int) with z2 | z2
     ·rw [decide_eq_false (show ¬ x.qV.getD i 0 < 0 by omega),decide_eq_false (show ¬ x.qV.getD i 0 >= (w.Zv.length:Int) by omega)];simp only [Bool.or_self,Cq0,Bool.false_or,Bool.or_eq_true,decide_eq_true_eq];rcases Int.lt_or_le (x.qV.getD (i - 1) 0) (x.qV.getD i 0) with z5 | z5
      ·rcases Int.lt_or_le (x.Yj.getD i 0) 1 with z3 | z3
       ·exact .inl (.inr z3)
       ·rcases Int.lt_or_le 30 (x.Yj.getD i 0) with z4 | z4
        ·exact .inr z4
        ·exact absurd ⟨z,z2,fun _=>z5,z3,z4⟩ hp
      ·exact .inl (.inl z5)
     ·rw [decide_eq_true (show x.qV.getD i 0 >= (w.Zv.length:Int) by omega)];simp
   rw [this];rfl
def Zef (w:Zb) (m p:Nat):Prop:=0 <= (E w m p).age∧(E w m p).age <=30∧0 <= (E w m p).Z9∧(E w m p).Z9 < (w.qQ.length:Int)∧((E w m p).here=true↔(E w m p).Z9= (m:Int))
def ZPG (w:Zb) (x:Zd):Prop:=x.kind=3 ->0 <=x.place∧x.place < (w.Zv.length:Int)∧x.at_ ≠ x.Z9
structure Zkv (w:Zb) (x:Zd):Prop where
 to1:0 <=x.Z9
 to2:x.Z9 < (w.qQ.length:Int)
 Xc:Pur x
 KD:Plc w x
 ntd:ZPG w x
structure ShR (w:Zb):Prop where
 KA:W9 w
 inn:Inn w
 sd1:0 <=w.said
 sd2:w.said <=40
 ent:∀ m,m < w.qQ.length ->∀ p,p < w.Zv.length ->Zef w m p
 Xp:∀ x ∈ w.qG,Zkv w x
theorem Pur.len {x:Zd} (h:Pur x):x.Yj.length=x.qV.length:=by
 rcases h with⟨_,_,_,_,a,b⟩ | ⟨_,_,_,_,_,_,a⟩ | ⟨_,_,a,b⟩
 ·rw [a,b]
 ·omega
 ·rw [a,b]
theorem Zpj {F:Nat} {w:Zb} (hF:1000 <=F) (h8:w.Zv.length <=8) (hr:∀ p:Nat,p < w.Zv.length ->okN w (inn w p)) {p:Nat} (hp:p < w.Zv.length) (next:Int ->Option Bool):
 ((ZT w.Zv (p:Int)).bind fun x25=>loop F (ZjN w (p:Int) next) (x25,0))=open Classical in if(∃ j,j <=w.Zv.length∧up w (j + 1) p= (p:Int)) then some false else next ((p + 1:Nat):Int):=by
 rw [XU hp];simp only [Bq0]
 have hok:∀ k,okN w (up w k p):=fun k=>by
  induction k with
  | zero=>exact⟨by show(-1:Int) <= (p:Int);omega,by show(p:Int) < _;omega⟩
  | succ k ih=>
    rw [QC];by_cases h2:up w k p < 0
    ·rw [if_pos h2];exact ih
    ·rw [if_neg h2];obtain⟨j,e,hj⟩:=J5 ih h2;rw [e];exact hr j hj
 have e0:(inn w p,(0:Int))= (up w (0 + 1) p,((0:Nat):Int)):=by
  rw [QC];show _= (if((p:Int)) < 0 then _ else _,_);rw [if_neg (by omega)];rfl
 obtain⟨m,hm,hs,hlt⟩:=Qb (c:=fun k=>w.Zv.length < k∨up w (k + 1) p < 0∨up w (k + 1) p= (p:Int)) (n:=w.Zv.length + 1) (.inl (by omega))
 have hj:∀ j,j < m ->j <=w.Zv.length∧¬ up w (j + 1) p < 0∧up w (j + 1) p ≠ (p:Int):=fun j hj=>by
  have:=hlt j hj
  exact⟨by rcases Nat.lt_or_ge w.Zv.length j with z | z;· exact absurd (.inl z) this
           ·exact z,fun q=>this (.inr (.inl q)),fun q=>this (.inr (.inr q))⟩
 refine Ye (fun j=>(up w (j + 1) p,(j:Int))) e0.symm (n:=m) (by omega) (fun j hjm nx=>?_) (fun nx=>?_)
 ·obtain⟨a1,a2,a3⟩:=hj j hjm;obtain⟨k,e,hk⟩:=J5 (hok (j + 1)) a2;unfold ZjN;dsimp only;rw [QC w (j + 1),if_neg a2];rw [e] at a3 ⊢;rw [decide_eq_true (show(j:Int) <= (w.Zv.length:Int) by omega),Ze0,Bool.and_self,Cq1,Yg,decide_eq_false a3,Cq0,XU hk];simp only [Bq0];rw [Yv (by omega)]
 ·unfold ZjN;dsimp only;by_cases h1:w.Zv.length < m
  ·rw [decide_eq_false (show ¬ (m:Int) <= (w.Zv.length:Int) by omega),Bool.false_and,Cq0,Yv (by omega),if_neg];rintro⟨j,q1,q2⟩;exact(hj j (by omega)).2.2 q2
  ·by_cases h2:up w (m + 1) p < 0
   ·rw [decide_eq_false (show ¬ up w (m + 1) p >=0 by omega),Bool.and_false,Cq0,Yv (by omega),if_neg];rintro⟨j,q1,q2⟩;rcases Nat.lt_or_ge j m with z | z
    ·exact(hj j z).2.2 q2
    ·have:=UC h2 (show m + 1 <=j + 1 by omega);omega
   ·have h3:up w (m + 1) p= (p:Int):=by rcases hs with z | z | z <;> first | exact absurd z h1 | exact absurd z h2 | exact z
    rw [decide_eq_true (show(m:Int) <= (w.Zv.length:Int) by omega),h3,Ze0,Bool.and_self,Cq1,Yg,decide_eq_true rfl,Cq1,if_pos ⟨m,by omega,h3⟩]
theorem ZuV {F:Nat} (hF:1000 <=F) {w:Zb} (sm:Kl 900 w):∃ b,ZAB F w=some b∧(b=true↔ShR w):=by
 unfold ZAB;refine QS (fun hc=>⟨false,rfl,?_⟩) (fun hc=>?_)
 ·simp only [Bool.false_eq_true,false_iff];intro s;have:=s.KA.m1;have:=s.KA.m2;have:=s.KA.p1;have:=s.KA.p2;have:=s.KA.bx;have:=s.KA.hd;have:=s.sd1;have:=s.sd2;simp only [Bool.or_eq_true,decide_eq_true_eq,bne_iff_ne] at hc;omega
 simp only [Bool.or_eq_false_iff,decide_eq_false_iff_not,bne_eq_false_iff_eq] at hc;obtain⟨⟨⟨⟨⟨⟨⟨a1,a2⟩,a3⟩,a4⟩,a5⟩,a6⟩,a7⟩,a8⟩:=hc;refine J7 false (loop F (Zgi F w) 0) (fun k=>(k:Int)) rfl (fun k=>¬ okN w (inn w k)) (n:=w.Zv.length) (by omega) (fun k hk=>?_) (fun next=>?_) (fun k hk hc=>?_) (fun hr=>?_)
 ·by_cases ho:okN w (inn w k)
  ·refine .inr ⟨fun next=>?_,fun q=>q ho⟩;have h1:=ho.1;have h2:=ho.2;unfold ZjO;rw [ZI hk,Cq1,XU hk];simp only [Bq0];rw [decide_eq_false (by omega),decide_eq_false (by omega),Bool.or_self,Cq0,Yv (by omega)]
  ·refine .inl ⟨fun next=>?_,ho⟩;unfold ZjO;rw [ZI hk,Cq1,XU hk];simp only [Bq0];by_cases h1:inn w (k:Int) < -1
   ·rw [decide_eq_true h1];rfl
   ·rw [decide_eq_true (show inn w (k:Int) >= (w.Zv.length:Int) by
     rcases Int.lt_or_le (inn w (k:Int)) (w.Zv.length:Int) with z | z
     ·exact absurd ⟨by omega,z⟩ ho
     ·exact z),Bool.or_true];rfl
 ·unfold ZjO;rw [ZR];rfl
 ·simp only [Bool.false_eq_true,false_iff];intro s;exact hc (s.inn.rng k hk)
 have hr:∀ p:Nat,p < w.Zv.length ->okN w (inn w p):=fun p hp=>Classical.byContradiction (hr p hp)
 refine J7 false (loop F (Zd2 F w) 0) (fun k=>(k:Int)) rfl (fun p=>∃ j,j <=w.Zv.length∧up w (j + 1) p= (p:Int)) (n:=w.Zv.length) (by omega) (fun k hk=>?_) (fun next=>?_) (fun k hk hc=>?_) (fun hac=>?_)
 ·by_cases ho:∃ j,j <=w.Zv.length∧up w (j + 1) k= (k:Int)
  ·refine .inl ⟨fun next=>?_,ho⟩;have:=Zpj hF (by omega) hr hk next;rw [if_pos ho] at this;unfold Zgi;rw [ZI hk,Cq1];exact this
  ·refine .inr ⟨fun next=>?_,ho⟩;have:=Zpj hF (by omega) hr hk next;rw [if_neg ho] at this;unfold Zgi;rw [ZI hk,Cq1];exact this
 ·unfold Zgi;rw [ZR];rfl
 ·simp only [Bool.false_eq_true,false_iff];intro s;obtain⟨j,q1,q2⟩:=hc;exact(Zh9 hr).1 s.inn.acy k hk j q1 q2
 have ZRK:Inn w:= ⟨hr,(Zh9 hr).2 fun p hp j hj q=>hac p hp ⟨j,hj,q⟩⟩
 refine J7 false (loop F (KX F w) 0) (fun k=>(k:Int)) rfl (fun m=>¬ ((row w m).length=w.Zv.length∧∀ p,p < w.Zv.length ->Zef w m p)) (n:=w.qQ.length) (by omega) (fun m hm=>?_) (fun next=>?_) (fun k hk hc=>?_) (fun hen=>?_)
 ·have hx:ZT w.qQ (m:Int)=some (row w m):=YB [] hm;by_cases hl:(row w m).length=w.Zv.length
  ·have hgp:∀ p,p < w.Zv.length ->ZT (row w m) (p:Int)=some (E w m p):=fun p hp=>YB default (by rw [hl];exact hp)
   have step:∀ next:Int ->Option Bool,∀ p,p < w.Zv.length ->∀ nx,Zgh w (m:Int) next (row w m) (p:Int) nx=open Classical in if Zef w m p then nx ((p + 1:Nat):Int) else some false:=fun next p hp nx=>by
    unfold Zgh;rw [decide_eq_true (show(p:Int) < ((row w m).length:Int) by omega),Cq1,hgp p hp];simp only [Bq0];by_cases he:Zef w m p
    ·obtain⟨e1,e2,e3,e4,e5⟩:=he
     have e6:((E w m p).here != ((E w m p).Z9== (m:Int)))=false:=by
      rw [bne_eq_false_iff_eq,Bool.eq_iff_iff,e5,beq_iff_eq]
     rw [if_pos ⟨e1,e2,e3,e4,e5⟩,decide_eq_false (by omega),decide_eq_false (by omega),decide_eq_false (by omega),decide_eq_false (by omega),e6];simp only [Bool.or_self,Cq0];rw [Yv (by omega)]
    ·rw [if_neg he]
     have:(decide ((E w m p).age < 0) || decide ((E w m p).age > 30) || decide ((E w m p).Z9 < 0) || decide ((E w m p).Z9 >= (w.qQ.length:Int)) || ((E w m p).here != ((E w m p).Z9== (m:Int))))=true:=by
      rw [← Bool.not_eq_false];intro hf;simp only [Bool.or_eq_false_iff,decide_eq_false_iff_not,bne_eq_false_iff_eq] at hf;obtain⟨⟨⟨⟨q1,q2⟩,q3⟩,q4⟩,q5⟩:=hf;exact he ⟨by omega,by omega,by omega,by omega,by rw [q5,beq_iff_eq]⟩
     rw [this];rfl
   have body:∀ next nx0,Zd2 F w (m:Int) next=loop F (Zgh w (m:Int) next (row w m)) nx0∨nx0 ≠ 0:=fun next nx0=>by
    by_cases h0:nx0=0
    ·subst h0;left;unfold Zd2;rw [ZI hm,Cq1,hx];simp only [Bq0];rw [hl,JJ,Cq0]
    ·exact .inr h0
   by_cases hall:∀ p,p < w.Zv.length ->Zef w m p
   ·refine .inr ⟨fun next=>?_,fun q=>q ⟨hl,hall⟩⟩;rw [(body next 0).resolve_right (fun q=>q rfl)];refine Ye (fun p=>(p:Int)) rfl (n:=w.Zv.length) (by omega) (fun p hp nx=>?_) (fun nx=>?_)
    ·rw [step next p hp nx,if_pos (hall p hp)]
    ·unfold Zgh;rw [decide_eq_false (by omega),Cq0,Yv (by omega)]
   ·refine .inl ⟨fun next=>?_,fun q=>hall q.2⟩;rw [(body next 0).resolve_right (fun q=>q rfl)];have hz:∃ p,p < w.Zv.length∧¬ Zef w m p:=Classical.byContradiction fun q=>hall fun p hp=>Classical.byContradiction fun q2=>q ⟨p,hp,q2⟩
    obtain⟨p0,hp0⟩:=hz;obtain⟨p1,_,hp1,hlt⟩:=Qb (c:=fun p=>p < w.Zv.length∧¬ Zef w m p) hp0;refine Ye (fun p=>(p:Int)) rfl (n:=p1) (by omega) (fun p hp nx=>?_) (fun nx=>?_)
    ·rw [step next p (by omega) nx,if_pos (Classical.byContradiction fun q=>hlt p hp ⟨by omega,q⟩)]
    ·rw [step next p1 hp1.1 nx,if_neg hp1.2]
  ·refine .inl ⟨fun next=>?_,fun q=>hl q.1⟩;unfold Zd2;rw [ZI hm,Cq1,hx];simp only [Bq0];rw [J8,decide_eq_true (by omega)];rfl
 ·unfold Zd2;rw [ZR];rfl
 ·simp only [Bool.false_eq_true,false_iff];intro s;exact hc ⟨s.KA.len hk,s.ent k hk⟩
 have hen:∀ m,m < w.qQ.length ->(row w m).length=w.Zv.length∧∀ p,p < w.Zv.length ->Zef w m p:=fun m hm=>Classical.byContradiction (hen m hm)
 have ZG8:W9 w:= ⟨by omega,by omega,by omega,by omega,by omega,by omega,fun l hl=>by
  obtain⟨k,hk,rfl⟩:=List.getElem_of_mem hl;have:= (hen k hk).1;unfold row at this
  rwa [List.getD_eq_getElem?_getD,List.getElem?_eq_getElem hk] at this⟩
 refine J7 false (some true) (fun k=>(k:Int)) rfl (fun k=>∃ h:k < w.qG.length,¬ Zkv w w.qG[k]) (n:=w.qG.length) (by have:=sm.qG;omega) (fun k hk=>?_) (fun next=>?_) (fun k hk hc=>?_) (fun hlt=>⟨true,rfl,?_⟩)
 ·have hwl:=sm.qG;have hx:w.qG[k] ∈ w.qG:=List.getElem_mem hk;obtain⟨s1,s2⟩:=sm.Xp _ hx;generalize hX:w.qG[k]=x at *;have hgx:ZT w.qG (k:Int)=some x:=by rw [XO hk,hX]
  have bad:(∀ next,KX F w (k:Int) next=some false)∧¬ Zkv w x∨(∀ next,KX F w (k:Int) next=next ((k + 1:Nat):Int))∧Zkv w x:=by
   obtain⟨pb,hpb,hpi⟩:=Zxp x;by_cases ht:0 <=x.Z9∧x.Z9 < (w.qQ.length:Int)
   ·have e1:(decide (x.Z9 < 0) || decide (x.Z9 >= (w.qQ.length:Int)))=false:=by
     rw [decide_eq_false (by omega),decide_eq_false (by omega)];rfl
    cases pb with
    | false=>
      have hnp:¬ Pur x:=fun q=>by have:=hpi.2 q;cases this
      refine .inl ⟨fun next=>?_,fun l=>hnp l.Xc⟩;unfold KX;rw [ZI hk,Cq1,hgx];simp only [Bq0];rw [e1,Bool.not_false,YK,hpb];rfl
    | true=>
      have hp:Pur x:=hpi.1 rfl;have hal:=hp.len
      have body:∀ next,KX F w (k:Int) next=loop F (Zgg w (k:Int) next x) 0:=fun next=>by
       unfold KX;rw [ZI hk,Cq1,hgx];simp only [Bq0];rw [e1,Bool.not_false,YK,hpb];rfl
      have step:∀ (next:Int ->Option Bool) (i:Nat),i < x.qV.length ->∀ nx,Zgg w (k:Int) next x (i:Int) nx=open Classical in if K7 w x i then nx ((i + 1:Nat):Int) else some false:=fun next i hi nx=>by
       have:=Zo6 w x hi (by omega) s1 false (nx (Xd ((i:Int) + 1)));unfold Zgg;rw [ZI hi,Cq1,this,Yv (by omega)]
      by_cases hpl:Plc w x
      ·have fin:∀ next,KX F w (k:Int) next=bif((x.kind==3) && (((decide (x.place < 0)) || (decide (x.place >= (w.Zv.length:Int)))) || (x.at_==x.Z9))) then some false else next ((k + 1:Nat):Int):=fun next=>by
        rw [body];refine Ye (fun i=>(i:Int)) rfl (n:=x.qV.length) (by omega) (fun i hi nx=>?_) (fun nx=>?_)
        ·rw [step next i hi nx,if_pos (hpl i hi)]
        ·unfold Zgg;rw [ZR,Cq0,Yv (by omega)]
       by_cases hn:ZPG w x
       ·refine .inr ⟨fun next=>?_,⟨ht.1,ht.2,hp,hpl,hn⟩⟩;rw [fin]
        have:((x.kind==3) && (((decide (x.place < 0)) || (decide (x.place >= (w.Zv.length:Int)))) || (x.at_==x.Z9)))=false:=by
         by_cases h3:x.kind=3
         ·obtain⟨q1,q2,q3⟩:=hn h3;rw [decide_eq_false (by omega),decide_eq_false (by omega),Yg x.at_,decide_eq_false q3];simp
         ·rw [Yg,decide_eq_false h3];rfl
        rw [this];rfl
       ·refine .inl ⟨fun next=>?_,fun l=>hn l.ntd⟩;rw [fin]
        have:((x.kind==3) && (((decide (x.place < 0)) || (decide (x.place >= (w.Zv.length:Int)))) || (x.at_==x.Z9)))=true:=by
         rw [← Bool.not_eq_false];intro hf;apply hn;intro h3;simp only [Bool.and_eq_false_iff,Bool.or_eq_false_iff,decide_eq_false_iff_not,beq_eq_false_iff_ne] at hf;rcases hf with q | ⟨⟨q1,q2⟩,q3⟩
         ·exact absurd h3 q
         ·exact⟨by omega,by omega,q3⟩
        rw [this];rfl
      ·have hz:∃ i,i < x.qV.length∧¬ K7 w x i:=Classical.byContradiction fun q=>hpl fun i hi=>Classical.byContradiction fun q2=>q ⟨i,hi,q2⟩
       obtain⟨i0,hi0⟩:=hz;obtain⟨i1,_,hi1,hlt⟩:=Qb (c:=fun i=>i < x.qV.length∧¬ K7 w x i) hi0;refine .inl ⟨fun next=>?_,fun l=>hpl l.KD⟩;rw [body];refine Ye (fun i=>(i:Int)) rfl (n:=i1) (by omega) (fun i hi nx=>?_) (fun nx=>?_)
       ·rw [step next i (by omega) nx,if_pos (Classical.byContradiction fun q=>hlt i hi ⟨by omega,q⟩)]
       ·rw [step next i1 hi1.1 nx,if_neg hi1.2]
   ·refine .inl ⟨fun next=>?_,fun l=>ht ⟨l.to1,l.to2⟩⟩
    have e1:(decide (x.Z9 < 0) || decide (x.Z9 >= (w.qQ.length:Int)))=true:=by
     rw [← Bool.not_eq_false];intro hf;simp only [Bool.or_eq_false_iff,decide_eq_false_iff_not] at hf;exact ht ⟨by omega,by omega⟩
    unfold KX;rw [ZI hk,Cq1,hgx];simp only [Bq0];rw [e1,Bool.not_true,Xy];rfl
  rcases bad with⟨b1,b2⟩ | ⟨b1,b2⟩
  ·exact .inl ⟨b1,hk,by rwa [hX]⟩
  ·exact .inr ⟨b1,fun⟨_,q⟩=>by rw [hX] at q;exact q b2⟩
 ·unfold KX;rw [ZR];rfl
 ·simp only [Bool.false_eq_true,false_iff];obtain⟨h,q⟩:=hc;intro s;exact q (s.Xp _ (List.getElem_mem h))
 ·refine⟨fun _=>⟨ZG8,ZRK,by omega,by omega,fun m hm=>(hen m hm).2,fun x hx=>?_⟩,fun _=>rfl⟩;obtain⟨k,hk,rfl⟩:=List.getElem_of_mem hx;exact Classical.byContradiction fun q=>hlt k hk ⟨hk,q⟩
def Zdu (s:Yo):XI:= ⟨s.machine,s.age,-1,true⟩
def Zos (k:Nat) (s:Yo):XI:= ⟨s.machine,s.age,(k:Int),false⟩
def ZF (w:Zb) (i:Nat):Zd:=w.qG.getD i default
def KL (w:Zb) (p k:Nat):List XI:= (List.range k).flatMap fun i=>(WB (ZF w i) p (ZF w i).qV.length).map (Zos i)
def QF (w:Zb) (p:Nat):List XI:= (Xj w p w.qQ.length).map Zdu ++ KL w p w.qG.length
def U7 (l:List XI):XI:=l.getLastD ⟨0,0,0,false⟩
theorem ZiW (l:List XI) (x:XI):U7 (l ++ [x])=x:=by unfold U7;simp
theorem Zif (w:Zb) (p k:Nat):KL w p (k + 1)=KL w p k ++ (WB (ZF w k) p (ZF w k).qV.length).map (Zos k):=by
 unfold KL;rw [List.range_succ,List.flatMap_append];simp
theorem Zll {w:Zb} {n:Nat} (h:∀ x ∈ w.qG,x.qV.length <=n) (p:Nat):∀ k,k <=w.qG.length ->(KL w p k).length <=n * k
 | 0,_=>by simp [KL]
 | k + 1,hk=>by
   have:=Zll h p k (by omega);have h1:=Zeo (ZF w k) p (ZF w k).qV.length;have h2:=h (ZF w k) (Yn (by omega));rw [Zif,List.length_append,List.length_map,Nat.mul_succ];omega
def stR (l:List XI) (k:Nat):Int×Int×Int×Int×Int×Bool:= ((l.length:Int),(k:Int),(U7 l).at_,(U7 l).age,(U7 l).letter,(U7 l).is)
theorem Zvk (l:List XI):XI.mk (U7 l).at_ (U7 l).age (U7 l).letter (U7 l).is=U7 l:=rfl
theorem ZrF (w:Zb) (p k:Nat):∀ s ∈ Xj w p k,s.here=true:=fun s hs=>by
 unfold Xj at hs;obtain⟨m,_,hm⟩:=List.mem_filterMap.1 hs;by_cases h:(E w m p).here=true
 ·rw [if_pos h] at hm;cases hm;rfl
 ·rw [if_neg h] at hm;cases hm
theorem ZqX (x:Zd) (p j:Nat):∀ s ∈ WB x p j,s.here=false:=fun s hs=>by
 unfold WB at hs;obtain⟨m,_,hm⟩:=List.mem_filterMap.1 hs;by_cases h:x.qV.getD m 0= (p:Int)
 ·rw [if_pos h] at hm;cases hm;rfl
 ·rw [if_neg h] at hm;cases hm
theorem ZAi {F:Nat} (hF:1000 <=F) {w:Zb} (s:W9 w) (hv:∀ x ∈ w.qG,x.Yj.length=x.qV.length∧x.qV.length <=900) (hw:w.qG.length < 900) {p:Nat} (hp:p < w.Zv.length):
 ZAA F w (p:Int)=some (U7 (QF w p),decide ((QF w p).length=1)):=by
 have h0:=s.m2;have hh:=Zc2 w p w.qQ.length
 have hlen:∀ k,k <=w.qG.length ->(KL w p k).length <=900 * 900:=fun k hk=>by
  have:=Zll (fun x hx=>(hv x hx).2) p k hk;exact Nat.le_trans this (by apply Nat.mul_le_mul (Nat.le_refl _);omega)
 have h1:loop F (ZjM F w (p:Int)) (stR ((Xj w p w.qQ.length).map Zdu) 0)=some (U7 (QF w p),decide ((QF w p).length=1)):=by
  refine Ye (fun k=>stR ((Xj w p w.qQ.length).map Zdu ++ KL w p k) k) (by simp [KL]) (n:=w.qG.length) (by omega) (fun k hk next=>?_) (fun next=>?_)
  ·have hl:=hlen k (by omega);have hgx:ZT w.qG (k:Int)=some (ZF w k):=YB default hk;have hx:ZF w k ∈ w.qG:=Yn hk;obtain⟨v1,v2⟩:=hv _ hx;rw [Zif];generalize ZF w k=x at *;have hll:((Xj w p w.qQ.length).map Zdu ++ KL w p k).length <=5 + 900 * 900:=by rw [List.length_append,List.length_map];omega
   rw [← List.append_assoc];generalize (Xj w p w.qQ.length).map Zdu ++ KL w p k=l at hll ⊢;unfold ZjM;dsimp only [stR];rw [ZI hk,Cq1,hgx];simp only [Bq0];refine Ye (fun j=>stR (l ++ (WB x p j).map (Zos k)) j) (by simp [WB,stR]) (n:=x.qV.length) (by omega) (fun j hj ZxY=>?_) (fun ZxY=>?_)
   ·have hl2:=Zeo x p j;rw [ZfA];unfold Zne;dsimp only [stR];rw [ZI hj,Cq1,YB 0 hj];simp only [Bq0];rw [decide_eq_true (show(j:Int) < (x.Yj.length:Int) by omega),Bool.and_true,Yg,ZaV];unfold ZjK;dsimp only;by_cases hq:x.qV.getD j 0= (p:Int)
    ·rw [if_pos hq,if_pos hq,YB 0 (show j < x.Yj.length by omega)];simp only [Bq0];rw [Yv (by rw [List.length_append,List.length_map];omega),Yv (by omega),List.map_append,← List.append_assoc,List.map_cons,List.map_nil,ZiW];simp [Zos,Int.add_assoc]
    ·rw [if_neg hq,if_neg hq,Yv (by omega),List.append_nil]
   ·unfold Zne;dsimp only [stR];rw [ZR,Cq0,Yv (by omega)]
  ·unfold ZjM;dsimp only [stR];rw [ZR,Cq0,Zvk,Yg];unfold QF;congr 2;by_cases h:((Xj w p w.qQ.length).map Zdu ++ KL w p w.qG.length).length=1
   ·rw [decide_eq_true h,decide_eq_true (by omega)]
   ·rw [decide_eq_false h,decide_eq_false (by omega)]
 unfold ZAA;refine Ye (fun k=>stR ((Xj w p k).map Zdu) k) (by rfl) (n:=w.qQ.length) (by omega) (fun k hk next=>?_) (fun next=>?_)
 ·unfold Znf;dsimp only [stR];rw [ZI hk,Cq1,s.row hk];simp only [Bq0];rw [s.ent hk hp];simp only [Bq0];have hl:=Zc2 w p k;rw [JC];unfold ZjL;dsimp only;cases hE:(E w k p).here with
  | true=>
    simp only [Cq1,if_true];rw [Yv (by rw [List.length_map];omega),Yv (by omega),List.map_append,List.map_cons,List.map_nil,ZiW];simp [Zdu]
  | false=>
    simp only [Cq0];rw [Yv (by omega)];simp
 ·unfold Znf;dsimp only [stR];rw [ZR];exact h1
def toS (s:XI):Yo:= ⟨s.at_,s.is,s.age⟩
theorem ZdM {α β:Type} (l:List α) (d:α) (f:α ->List β):(List.range l.length).flatMap (fun i=>f (l.getD i d))=l.flatMap f:=by
 induction l with
 | nil=>rfl
 | cons x l ih=>
   rw [List.length_cons,List.range_succ_eq_map,List.flatMap_cons,List.flatMap_map,List.flatMap_cons];have:(fun a=>f ((x::l).getD a.succ d))=fun a=>f (l.getD a d):=by funext a;simp
   rw [this,ih];rfl
theorem ZtF {w:Zb} (hp:∀ x ∈ w.qG,x.kind=2∨x.qV= []) (p:Nat):(QF w p).map toS=YM w p:=by
 unfold QF YM KL X8;rw [List.map_append,List.map_map,List.map_flatMap];congr 1
 ·have:∀ s ∈ Xj w p w.qQ.length,(toS ∘ Zdu) s=id s:=fun s hs=>by
   have:=ZrF w p _ s hs;cases s;simp only [Function.comp,Zdu,toS,id] at this ⊢;rw [this]
  rw [List.map_congr_left this,List.map_id]
 ·rw [← ZdM w.qG default];unfold List.flatMap;congr 1;apply List.map_congr_left;intro i hi;have hx:w.qG.getD i default ∈ w.qG:=Yn (List.mem_range.1 hi);rw [List.map_map];unfold ZF;generalize w.qG.getD i default=x at *
  have h1:∀ s ∈ WB x p x.qV.length,(toS ∘ Zos i) s=id s:=fun s hs=>by
   have:=ZqX x p _ s hs;cases s;simp only [Function.comp,Zos,toS,id] at this ⊢;rw [this]
  rw [List.map_congr_left h1,List.map_id];unfold WU;rcases hp x hx with h | h
  ·rw [if_pos h]
  ·rw [h];by_cases hk:x.kind=2
   ·rw [if_pos hk]
   ·rw [if_neg hk];simp [WB]
theorem ZCQ {w:Zb} (hp:∀ x ∈ w.qG,x.kind=2∨x.qV= []) (p:Nat):toS (U7 (QF w p))=Kg (YM w p):=by
 rw [← ZtF hp];unfold U7 Kg;rcases List.eq_nil_or_concat (QF w p) with h | ⟨l,x,h⟩
 ·rw [h];rfl
 ·rw [h];simp
theorem len_eq {w:Zb} (hp:∀ x ∈ w.qG,x.kind=2∨x.qV= []) (p:Nat):(YM w p).length= (QF w p).length:=by rw [← ZtF hp,List.length_map]
theorem Pur.two {x:Zd} (h:Pur x):x.kind=2∨x.qV= []:=by
 rcases h with⟨_,_,_,_,a,b⟩ | ⟨a,_⟩ | ⟨_,_,a,b⟩
 ·exact .inr a
 ·exact .inl a
 ·exact .inr a
theorem ShR.two {w:Zb} (h:ShR w):∀ x ∈ w.qG,x.kind=2∨x.qV= []:=fun x hx=>(h.Xp x hx).Xc.two
def MvX (w:Zb) (x:Zd):Prop:=x.kind=1∨x.kind=3∨(x.kind=2∧x.qV ≠ []∧x.Yj.length=x.qV.length∧Plc w x)
theorem Zrj {F:Nat} (hF:1000 <=F) {w:Zb} (sm:Kl 900 w):∃ b,ZvJ F w=some b∧(b=true↔∀ x ∈ w.qG,MvX w x):=by
 unfold ZvJ;refine J7 false (some true) (fun k=>(k:Int)) rfl (fun k=>∃ h:k < w.qG.length,¬ MvX w w.qG[k]) (n:=w.qG.length) (by have:=sm.qG;omega) (fun k hk=>?_) (fun next=>?_) (fun k hk hc=>?_) (fun hlt=>⟨true,rfl,?_⟩)
 ·have hwl:=sm.qG;have hx:w.qG[k] ∈ w.qG:=List.getElem_mem hk;obtain⟨s1,s2⟩:=sm.Xp _ hx;generalize hX:w.qG[k]=x at *;have hgx:ZT w.qG (k:Int)=some x:=by rw [XO hk,hX]
  have bad:(∀ next,Zaq F w (k:Int) next=some false)∧¬ MvX w x∨(∀ next,Zaq F w (k:Int) next=next ((k + 1:Nat):Int))∧MvX w x:=by
   by_cases h1:x.kind=1
   ·refine .inr ⟨fun next=>?_,.inl h1⟩;unfold Zaq;rw [ZI hk,Cq1,hgx];simp only [Bq0];rw [h1];show Zbj (k:Int) next ()=_;unfold Zbj;rw [Yv (by omega)]
   ·have b0:∀ next,Zaq F w (k:Int) next=ZdZ F w (k:Int) next x (x.kind==3):=fun next=>by
     unfold Zaq;rw [ZI hk,Cq1,hgx];simp only [Bq0];rw [Yg x.kind 1,decide_eq_false h1];rfl
    by_cases h3:x.kind=3
    ·refine .inr ⟨fun next=>?_,.inr (.inl h3)⟩;rw [b0,h3];show Zbj (k:Int) next ()=_;unfold Zbj;rw [Yv (by omega)]
    ·by_cases h2:x.kind=2
     ·have b1:∀ next,Zaq F w (k:Int) next=bif((decide ((x.qV.length:Int) < 1)) || ((x.Yj.length:Int) != (x.qV.length:Int))) then some false else loop F (Zd0 w (k:Int) next x) 0:=fun next=>by
       rw [b0];unfold ZdZ;rw [Yg x.kind 3,decide_eq_false h3,Cq0,h2];rfl
      by_cases hl:x.qV ≠ []∧x.Yj.length=x.qV.length
      ·have hpos:=List.length_pos_iff.2 hl.1
       have b2:∀ next,Zaq F w (k:Int) next=loop F (Zd0 w (k:Int) next x) 0:=fun next=>by
        rw [b1,decide_eq_false (by omega),J8,decide_eq_false (by omega)];rfl
       have step:∀ (next:Int ->Option Bool) (i:Nat),i < x.qV.length ->∀ nx,Zd0 w (k:Int) next x (i:Int) nx=open Classical in if K7 w x i then nx ((i + 1:Nat):Int) else some false:=fun next i hi nx=>by
        have:=Zo6 w x hi (by omega) s1 false (nx (Xd ((i:Int) + 1)));unfold Zd0;rw [ZI hi,Cq1,this,Yv (by omega)]
       by_cases hpl:Plc w x
       ·refine .inr ⟨fun next=>?_,.inr (.inr ⟨h2,hl.1,hl.2,hpl⟩)⟩;rw [b2];refine Ye (fun i=>(i:Int)) rfl (n:=x.qV.length) (by omega) (fun i hi nx=>?_) (fun nx=>?_)
        ·rw [step next i hi nx,if_pos (hpl i hi)]
        ·unfold Zd0;rw [ZR,Cq0];unfold Zbj;rw [Yv (by omega)]
       ·have hz:∃ i,i < x.qV.length∧¬ K7 w x i:=Classical.byContradiction fun q=>hpl fun i hi=>Classical.byContradiction fun q2=>q ⟨i,hi,q2⟩
        obtain⟨i0,hi0⟩:=hz;obtain⟨i1,_,hi1,hlt⟩:=Qb (c:=fun i=>i < x.qV.length∧¬ K7 w x i) hi0;refine .inl ⟨fun next=>?_,fun l=>?_⟩
        ·rw [b2];refine Ye (fun i=>(i:Int)) rfl (n:=i1) (by omega) (fun i hi nx=>?_) (fun nx=>?_)
         ·rw [step next i (by omega) nx,if_pos (Classical.byContradiction fun q=>hlt i hi ⟨by omega,q⟩)]
         ·rw [step next i1 hi1.1 nx,if_neg hi1.2]
        ·rcases l with q | q | ⟨_,_,_,q⟩
         ·exact h1 q
         ·exact h3 q
         ·exact hpl q
      ·refine .inl ⟨fun next=>?_,fun l=>?_⟩
       ·rw [b1]
        have:((decide ((x.qV.length:Int) < 1)) || ((x.Yj.length:Int) != (x.qV.length:Int)))=true:=by
         rw [← Bool.not_eq_false];intro hf;simp only [Bool.or_eq_false_iff,decide_eq_false_iff_not,bne_eq_false_iff_eq] at hf;exact hl ⟨List.length_pos_iff.1 (by omega),by omega⟩
        rw [this];rfl
       ·rcases l with q | q | ⟨_,q1,q2,_⟩
        ·exact h1 q
        ·exact h3 q
        ·exact hl ⟨q1,q2⟩
     ·refine .inl ⟨fun next=>?_,fun l=>?_⟩
      ·rw [b0];unfold ZdZ;rw [Yg x.kind 3,decide_eq_false h3,Cq0,Yg x.kind 2,decide_eq_false h2];rfl
      ·rcases l with q | q | ⟨q,_⟩
       ·exact h1 q
       ·exact h3 q
       ·exact h2 q
  rcases bad with⟨b1,b2⟩ | ⟨b1,b2⟩
  ·exact .inl ⟨b1,hk,by rwa [hX]⟩
  ·exact .inr ⟨b1,fun⟨_,q⟩=>by rw [hX] at q;exact q b2⟩
 ·unfold Zaq;rw [ZR];rfl
 ·simp only [Bool.false_eq_true,false_iff];obtain⟨h,q⟩:=hc;intro s;exact q (s _ (List.getElem_mem h))
 ·refine⟨fun _ x hx=>?_,fun _=>rfl⟩;obtain⟨k,hk,rfl⟩:=List.getElem_of_mem hx;exact Classical.byContradiction fun q=>hlt k hk ⟨hk,q⟩
end Go.Proofs.YtbmbbcaaimehkaaGreat
end
section
namespace Go.Proofs.YtbmbbcaaimehkaaGreat
open Go.Lf
section
variable {β γ:Type} {R:β ->Prop}
theorem ZjY {body:γ ->(γ ->Option β) ->Option β} (r1:Nat ->β) (r2:Option β) {s0:γ} (S:Nat ->γ) (h0:S 0=s0) (c:Nat ->Prop) {n F:Nat} (hF:n < F)
 (hb:∀ k,k < n ->((∀ next,body (S k) next=some (r1 k))∧c k)∨((∀ next,body (S k) next=next (S (k + 1)))∧¬ c k)) (he:∀ next,body (S n) next=r2)
 (h1:∀ k,k < n ->c k ->R (r1 k)) (h2:(∀ k,k < n ->¬ c k) ->∃ b,r2=some b∧R b):∃ b,loop F body s0=some b∧R b:=by
 by_cases hz:∃ k,k < n∧c k
 ·obtain⟨k0,hk0⟩:=hz;obtain⟨m,hm,⟨hmn,hcm⟩,hlt⟩:=Qb (c:=fun k=>k < n∧c k) hk0;refine⟨r1 m,Ye S h0 (n:=m) (by omega) (fun k hk=>?_) ?_,h1 m hmn hcm⟩
  ·rcases hb k (by omega) with⟨_,q⟩ | ⟨q,_⟩
   ·exact absurd ⟨by omega,q⟩ (hlt k hk)
   ·exact q
  ·rcases hb m hmn with⟨q,_⟩ | ⟨_,q⟩
   ·exact q
   ·exact absurd hcm q
 ·have hno:∀ k,k < n ->¬ c k:=fun k hk q=>hz ⟨k,hk,q⟩
  obtain⟨b,e,hR⟩:=h2 hno;refine⟨b,?_,hR⟩;rw [← e];exact Ye S h0 hF (fun k hk=>(hb k hk).elim (fun q=>absurd q.2 (hno k hk)) fun q=>q.1) he
end
theorem Zas {F:Nat} (hF:1000 <=F) {l:List Int} (hl:l.length <=900) (x:Int):∃ b,Zp0 F l x=some b∧(b=true↔x ∈ l):=by
 have:∃ k,ZAk F l x=some k∧(0 <=k↔x ∈ l):=by
  unfold ZAk;refine ZjY (fun k=>(k:Int)) (some (-1)) (fun k=>(k:Int)) rfl (fun k=>∃ h:k < l.length,x=l[k]) (n:=l.length) (by omega) (fun k hk=>?_) (fun next=>?_) (fun k hk hc=>?_) (fun hno=>⟨-1,rfl,?_⟩)
  ·by_cases h:x=l[k]
   ·refine .inl ⟨fun next=>?_,hk,h⟩;unfold Zjp;rw [ZI hk,Cq1,XO hk];simp only [Bq0];rw [Yg,decide_eq_true h];rfl
   ·refine .inr ⟨fun next=>?_,fun⟨_,q⟩=>h q⟩;unfold Zjp;rw [ZI hk,Cq1,XO hk];simp only [Bq0];rw [Yg,decide_eq_false h,Cq0,Yv (by omega)]
  ·unfold Zjp;rw [ZR];rfl
  ·obtain⟨h,e⟩:=hc;exact⟨fun _=>e ▸ List.getElem_mem h,fun _=>by omega⟩
  ·refine⟨fun q=>absurd q (by omega),fun q=>?_⟩;obtain⟨k,hk,e⟩:=List.getElem_of_mem q;exact absurd ⟨hk,e.symm⟩ (hno k hk)
 obtain⟨k,h1,h2⟩:=this;refine⟨decide (k >=0),?_,?_⟩
 ·unfold Zp0;rw [h1];rfl
 ·rw [decide_eq_true_eq];exact h2
def Zku (w:Zb) (p q:Int):Prop:=∃ x ∈ w.qG,x.kind=2∧p ∈ x.qV∧q ∈ x.qV
theorem Zu0 {F:Nat} (hF:1000 <=F) {w:Zb} (sm:Kl 900 w) (l:List Yo) (p q:Int):∃ b,Zsa F ⟨w,l⟩ p q=some b∧(b=true↔Zku w p q):=by
 unfold Zsa;have hwl:=sm.qG;refine ZjY (fun _=>true) (some false) (fun k=>(k:Int)) rfl (fun k=>∃ h:k < w.qG.length,(w.qG[k]).kind=2∧p ∈ (w.qG[k]).qV∧q ∈ (w.qG[k]).qV) (n:=w.qG.length) (by omega) (fun k hk=>?_) (fun next=>?_) (fun k hk hc=>?_) (fun hno=>⟨false,rfl,?_⟩)
 ·have hx:w.qG[k] ∈ w.qG:=List.getElem_mem hk;obtain⟨s1,s2⟩:=sm.Xp _ hx;obtain⟨b1,e1,i1⟩:=Zas (F:=F) hF (l:=w.qG[k].qV) (by omega) p;obtain⟨b2,e2,i2⟩:=Zas (F:=F) hF (l:=w.qG[k].qV) (by omega) q
  have hb:∀ next,Zjr F ⟨w,l⟩ p q (k:Int) next=bif(((w.qG[k].kind==2) && b1) && b2) then some true else next ((k + 1:Nat):Int):=fun next=>by
   unfold Zjr;rw [ZI hk,Cq1,XO hk];simp only [Bq0];rw [e1,e2];cases h2:(w.qG[k].kind==2)
   ·simp only [Xy,Bq0,Bool.false_and,Cq0];rw [Yv (by omega)]
   ·simp only [YK,Bq0,Bool.true_and];cases b1
    ·simp only [Xy,Bq0,Bool.false_and,Cq0];rw [Yv (by omega)]
    ·simp only [YK,Bq0,Bool.true_and];cases b2
     ·simp only [Cq0];rw [Yv (by omega)]
     ·simp only [Cq1];unfold Zjq;rw [Ze0]
  by_cases hc:w.qG[k].kind=2∧p ∈ w.qG[k].qV∧q ∈ w.qG[k].qV
  ·refine .inl ⟨fun next=>?_,hk,hc⟩;rw [hb,Yg,decide_eq_true hc.1,i1.2 hc.2.1,i2.2 hc.2.2];rfl
  ·refine .inr ⟨fun next=>?_,fun⟨_,z⟩=>hc z⟩;rw [hb]
   have:(((w.qG[k].kind==2) && b1) && b2)=false:=by
    rw [← Bool.not_eq_true];intro z;simp only [Ba0,beq_iff_eq] at z;exact hc ⟨z.1.1,i1.1 z.1.2,i2.1 z.2⟩
   rw [this];rfl
 ·unfold Zjr;rw [ZR];rfl
 ·obtain⟨h,z⟩:=hc;exact⟨fun _=>⟨_,List.getElem_mem h,z⟩,fun _=>rfl⟩
 ·simp only [Bool.false_eq_true,false_iff];rintro⟨x,hx,z⟩;obtain⟨k,hk,rfl⟩:=List.getElem_of_mem hx;exact hno k hk ⟨hk,z⟩
def sp (w:Zb) (p:Nat):Yo:=Kg (YM w p)
def spL (w:Zb):List Yo:= (List.range w.Zv.length).map (sp w)
def ZJ5 (w:Zb) (p:Nat):Prop:= (YM w p).length=1∧(0 <=inn w p ->(sp w (inn w p).toNat).machine= (sp w p).machine∧(sp w (inn w p).toNat).here= (sp w p).here∧((sp w p).here=false ->Zku w p (inn w p)))
def spK (w:Zb) (k:Nat):List Yo:= (List.range k).map (sp w) ++ List.replicate (w.Zv.length - k) ⟨0,false,0⟩
theorem Ztb {w:Zb} {k:Nat} (h:k < w.Zv.length):Yt (spK w k) (k:Int) (sp w k)=spK w (k + 1):=by
 unfold Yt spK;rw [Int.toNat_natCast,List.set_append_right _ _ (by simp),List.range_succ,List.map_append,List.append_assoc];congr 1;rw [List.length_map,List.length_range,Nat.sub_self,show w.Zv.length - k= (w.Zv.length - (k + 1)) + 1 by omega,List.replicate_succ,List.set_cons_zero];rfl
theorem ZCt {w:Zb} {k:Nat} (h:k <=w.Zv.length):(spK w k).length=w.Zv.length:=by simp [spK];omega
theorem ZCu (w:Zb):spK w w.Zv.length=spL w:=by simp [spK,spL]
theorem MvX.mvd {w:Zb} (sm:Kl 900 w) (h:∀ x ∈ w.qG,MvX w x):Mvd 900 w.qG:=fun x hx hk=>by
 rcases h x hx with q | q | ⟨_,_,q,_⟩
 ·omega
 ·omega
 ·exact⟨q,by have:= (sm.Xp x hx).1;omega⟩
theorem ZkH {F:Nat} (hF:1000 <=F) (hM:F <=1000000) {w:Zb} (s:W9 w) (hi:Inn w) (sm:Kl 900 w) (hv:Mvd 900 w.qG):
 ∃ x,ZAv F ⟨w,List.replicate w.Zv.length ⟨0,false,0⟩⟩=some x∧((x.2=true↔∀ p,p < w.Zv.length ->ZJ5 w p)∧(x.2=true ->x.1= ⟨w,spL w⟩)):=by
 have h8:=s.p2;have hwh:∀ p,p < w.Zv.length ->Zd1 F w (p:Int)=some (sp w p,((YM w p).length:Int)):=fun p hp=>Zie hF hM s hv sm.qG hp
 unfold ZAv
 let l1:Nat ->List Yo:=fun k=>if(YM w k).length=1 then spK w (k + 1) else spK w k
 refine ZjY (fun k=>(⟨w,l1 k⟩,false)) (some (⟨w,spL w⟩,true)) (fun k=>((k:Int),spK w k)) (by simp [spK]) (fun k=>¬ ZJ5 w k) (n:=w.Zv.length) (by omega) (fun k hk=>?_) (fun next=>?_) (fun k hk hc=>?_) (fun hno=>⟨_,rfl,?_⟩)
 ·have hok:=hi.rng k hk
  have b0:∀ next,Zgb F ⟨w,List.replicate w.Zv.length ⟨0,false,0⟩⟩ ((k:Int),spK w k) next= (bif(((YM w k).length:Int) !=1) then some (⟨w,spK w k⟩,false) else(bif decide (inn w k < 0) then Zcq (k:Int) next (Yt (spK w k) (k:Int) (sp w k)) else(Zd1 F w (inn w k)).bind fun x37=>(gd ((!((x37.1.machine != (sp w k).machine) || (x37.1.here != (sp w k).here))) && (!(sp w k).here)) (Zsa F ⟨w,Yt (spK w k) (k:Int) (sp w k)⟩ (k:Int) (inn w k)) default).bind fun x44=>(bif(((x37.1.machine != (sp w k).machine) || (x37.1.here != (sp w k).here)) || ((!(sp w k).here) && (!x44))) then some (⟨w,Yt (spK w k) (k:Int) (sp w k)⟩,false) else Zcq (k:Int) next (Yt (spK w k) (k:Int) (sp w k))))):=fun next=>by
   unfold Zgb;dsimp only;rw [ZI hk,Cq1,XU hk];simp only [Bq0];rw [hwh k hk];simp only [Bq0];rw [YB ⟨0,false,0⟩ (show k < (spK w k).length by rw [ZCt (by omega)];exact hk)];simp only [Bq0]
  by_cases h1:(YM w k).length=1
  ·have e1:(((YM w k).length:Int) !=1)=false:=by rw [h1];rfl
   have hl1:l1 k=spK w (k + 1):=if_pos h1;have jn:∀ next,Zcq (k:Int) next (spK w (k + 1))=next (((k + 1:Nat):Int),spK w (k + 1)):=fun next=>by unfold Zcq;rw [Yv (by omega)]
   by_cases h2:inn w k < 0
   ·refine .inr ⟨fun next=>?_,fun q=>q ⟨h1,fun z=>by omega⟩⟩;rw [b0,e1,Cq0,decide_eq_true h2,Cq1,Ztb hk,jn]
   ·obtain⟨q,eq,hq⟩:=J5 hok h2;obtain⟨b,hb,hbi⟩:=Zu0 hF sm (spK w (k + 1)) (k:Int) (inn w k)
    have b1:∀ next,Zgb F ⟨w,List.replicate w.Zv.length ⟨0,false,0⟩⟩ ((k:Int),spK w k) next=bif((((sp w q).machine != (sp w k).machine) || ((sp w q).here != (sp w k).here)) || ((!(sp w k).here) && (!(bif((!(((sp w q).machine != (sp w k).machine) || ((sp w q).here != (sp w k).here))) && (!(sp w k).here)) then b else default)))) then some (⟨w,spK w (k + 1)⟩,false) else next (((k + 1:Nat):Int),spK w (k + 1)):=fun next=>by
     rw [b0,e1,Cq0,decide_eq_false h2,Cq0,Ztb hk,hb,eq,hwh q hq];simp only [Bq0];have hgd:∀ c:Bool,gd c (some b) (default:Bool)=some (bif c then b else default):=fun c=>by cases c <;> rfl
     rw [hgd];simp only [Bq0];rw [jn]
    have eqn:(inn w k).toNat=q:=by omega
    by_cases ht:(sp w q).machine= (sp w k).machine∧(sp w q).here= (sp w k).here∧((sp w k).here=false ->Zku w k (inn w k))
    ·refine .inr ⟨fun next=>?_,fun z=>z ⟨h1,fun _=>by rw [eqn];exact ht⟩⟩;rw [b1,ht.1,ht.2.1];simp only [JJ,Bool.or_self,Bool.not_false,Bool.true_and,Bool.false_or];cases hh:(sp w k).here with
     | true=>rfl
     | false=>
       rw [hbi.2 (ht.2.2 hh)];rfl
    ·refine .inl ⟨fun next=>?_,fun z=>ht (by have:=z.2 (by omega);rwa [eqn] at this)⟩;rw [b1,hl1]
     have:((((sp w q).machine != (sp w k).machine) || ((sp w q).here != (sp w k).here)) || ((!(sp w k).here) && (!(bif((!(((sp w q).machine != (sp w k).machine) || ((sp w q).here != (sp w k).here))) && (!(sp w k).here)) then b else default))))=true:=by
      rw [← Bool.not_eq_false];intro hf;rw [Bool.or_eq_false_iff] at hf;obtain⟨hf1,hf2⟩:=hf;rw [hf1] at hf2;rw [Bool.or_eq_false_iff,bne_eq_false_iff_eq,bne_eq_false_iff_eq] at hf1;refine ht ⟨hf1.1,hf1.2,fun hh=>?_⟩;rw [hh] at hf2;simp only [Bool.not_false,Bool.and_self,Cq1,Bool.true_and,Bool.not_eq_false'] at hf2;exact hbi.1 hf2
     rw [this];rfl
  ·refine .inl ⟨fun next=>?_,fun z=>h1 z.1⟩;have hl1:l1 k=spK w k:=if_neg h1;rw [b0,hl1,J8,decide_eq_true (by omega)];rfl
 ·unfold Zgb;dsimp only;rw [ZR,Cq0,ZCu]
 ·refine⟨?_,fun q=>by cases q⟩;simp only [Bool.false_eq_true,false_iff];intro z;exact hc (z k hk)
 ·exact⟨⟨fun _ p hp=>Classical.byContradiction (hno p hp),fun _=>rfl⟩,fun _=>rfl⟩
def RtX (w:Zb) (p:Nat) (m a:Int):Prop:=0 <=a∧a <= (sp w p).age∧0 <=m∧m < (w.qQ.length:Int)∧(a= (sp w p).age ->m= (sp w p).machine)∧(a ≠ (sp w p).age ->a < (E w m.toNat p).age)
instance (w:Zb) (p:Nat) (m a:Int):Decidable (RtX w p m a):=by unfold RtX;infer_instance
theorem Zta {w:Zb} {p:Nat} (hp:p < w.Zv.length):ZT (spL w) (p:Int)=some (sp w p):=by
 rw [YB default (by simp [spL];exact hp)];simp [spL,hp]
theorem ZdL {w:Zb} (s:W9 w) {p:Nat} (hp:p < w.Zv.length) (m a:Int):Zm1 ⟨w,spL w⟩ (p:Int) m a=some (decide (RtX w p m a)):=by
 unfold Zm1;rw [Zta hp];simp only [Bq0];unfold Zm0;dsimp only;by_cases h1:0 <=a∧a <= (sp w p).age
 ·rw [decide_eq_false (show ¬ a < 0 by omega),decide_eq_false (show ¬ a > (sp w p).age by omega)];simp only [Bool.or_self,Bool.not_false,YK,Bq0,Bool.false_or];by_cases h2:0 <=m∧m < (w.qQ.length:Int)
  ·rw [decide_eq_true h2.1,decide_eq_true h2.2];simp only [Bool.and_self,Bool.not_true,Cq0];by_cases h3:a= (sp w p).age
   ·rw [Yg,decide_eq_true h3,Cq1,Yg];congr 1;by_cases h4:m= (sp w p).machine
    ·rw [decide_eq_true h4,decide_eq_true (show RtX w p m a from⟨h1.1,h1.2,h2.1,h2.2,fun _=>h4,fun q=>absurd h3 q⟩)]
    ·rw [decide_eq_false h4,decide_eq_false (fun q:RtX w p m a=>h4 (q.2.2.2.2.1 h3))]
   ·obtain⟨k,rfl⟩:∃ k:Nat,m= (k:Int):= ⟨m.toNat,by omega⟩
    rw [Yg,decide_eq_false h3,Cq0,s.row (by omega)];simp only [Bq0];rw [s.ent (by omega) hp];simp only [Bq0];congr 1;by_cases h4:(E w k p).age > a
    ·rw [decide_eq_true h4,decide_eq_true (show RtX w p (k:Int) a from⟨h1.1,h1.2,h2.1,h2.2,fun q=>absurd q h3,fun _=>h4⟩)]
    ·rw [decide_eq_false h4,decide_eq_false (fun q:RtX w p (k:Int) a=>h4 (q.2.2.2.2.2 h3))]
  ·have:(decide (m >=0) && decide (m < (w.qQ.length:Int)))=false:=by
    rw [← Bool.not_eq_true];intro z;simp only [Ba0,decide_eq_true_eq] at z;exact h2 z
   rw [this,decide_eq_false (fun q:RtX w p m a=>h2 ⟨q.2.2.1,q.2.2.2.1⟩)];rfl
 ·have:(decide (a < 0) || decide (a > (sp w p).age))=true:=by
   rw [← Bool.not_eq_false];intro z;simp only [Bool.or_eq_false_iff,decide_eq_false_iff_not] at z;exact h1 ⟨by omega,by omega⟩
  rw [this,decide_eq_false (fun q:RtX w p m a=>h1 ⟨q.1,q.2.1⟩)];rfl
end Go.Proofs.YtbmbbcaaimehkaaGreat
end
section
namespace Go.Proofs.YtbmbbcaaimehkaaGreat
open Go.Lf
def ZsX (w:Zb) (m p:Nat):Prop:=
 (E w m p= ⟨true,(m:Int),(E w m p).age⟩∧0 <= (E w m p).age∧(E w m p).age <=30)∨
 (E w m p ≠ ⟨true,(m:Int),(E w m p).age⟩∧(E w m p).here=false∧(E w m p).Z9 ≠ (m:Int)∧RtX w p (E w m p).Z9 (E w m p).age)
theorem ZnI {F:Nat} (hF:1000 <=F) {w:Zb} (s:W9 w):∃ b,ZvI F ⟨w,spL w⟩=some b∧(b=true↔∀ m,m < w.qQ.length ->∀ p,p < w.Zv.length ->ZsX w m p):=by
 have h5:=s.m2;have h8:=s.p2;unfold ZvI;refine J7 false (some true) (fun k=>(k:Int)) rfl (fun m=>¬ ∀ p,p < w.Zv.length ->ZsX w m p) (n:=w.qQ.length) (by omega) (fun m hm=>?_) (fun next=>?_) (fun k hk hc=>?_) (fun hno=>⟨true,rfl,fun _ m hm=>Classical.byContradiction (hno m hm),fun _=>rfl⟩)
 ·have b0:∀ next,Zjy F ⟨w,spL w⟩ (m:Int) next=loop F (Zga ⟨w,spL w⟩ (m:Int) next (row w m)) 0:=fun next=>by
   unfold Zjy;rw [ZI hm,Cq1,s.row hm];rfl
  have step:∀ (next:Int ->Option Bool) (p:Nat),p < w.Zv.length ->∀ nx,Zga ⟨w,spL w⟩ (m:Int) next (row w m) (p:Int) nx=open Classical in if ZsX w m p then nx ((p + 1:Nat):Int) else some false:=fun next p hp nx=>by
   unfold Zga;rw [s.len hm,ZI hp,Cq1,s.ent hm hp];simp only [Bq0];have hj:Zf9 (p:Int) nx ()=nx ((p + 1:Nat):Int):=by unfold Zf9;rw [Yv (by omega)]
   by_cases he:E w m p= ⟨true,(m:Int),(E w m p).age⟩
   ·rw [(Zhv _ _).2 he,Cq1];by_cases ha:0 <= (E w m p).age∧(E w m p).age <=30
    ·rw [if_pos (.inl ⟨he,ha⟩),decide_eq_false (by omega),decide_eq_false (by omega),Bool.or_self,Cq0,hj]
    ·have:(decide ((E w m p).age < 0) || decide ((E w m p).age > 30))=true:=by
      rw [← Bool.not_eq_false];intro z;simp only [Bool.or_eq_false_iff,decide_eq_false_iff_not] at z;exact ha ⟨by omega,by omega⟩
     rw [this,if_neg (by rintro(⟨_,q⟩ | ⟨q,_⟩);· exact ha q
                         ·exact q he)];rfl
   ·have e1:UW (E w m p) ⟨true,(m:Int),(E w m p).age⟩=false:=by rw [← Bool.not_eq_true,Zhv];exact he
    rw [e1,Cq0];by_cases h2:(E w m p).here=false∧(E w m p).Z9 ≠ (m:Int)
    ·have e2:((E w m p).here || ((E w m p).Z9== (m:Int)))=false:=by rw [h2.1,Yg,decide_eq_false h2.2];rfl
     rw [e2,Bool.not_false,YK,ZdL s hp];simp only [Bq0,Bool.false_or];by_cases h3:RtX w p (E w m p).Z9 (E w m p).age
     ·rw [decide_eq_true h3,if_pos (.inr ⟨he,h2.1,h2.2,h3⟩),Bool.not_true,Cq0,hj]
     ·rw [decide_eq_false h3,if_neg (by rintro(⟨q,_⟩ | ⟨_,_,_,q⟩);· exact he q
                                        ·exact h3 q)];rfl
    ·have e2:((E w m p).here || ((E w m p).Z9== (m:Int)))=true:=by
      rw [← Bool.not_eq_false];intro z;simp only [Bool.or_eq_false_iff,beq_eq_false_iff_ne] at z;exact h2 z
     rw [e2,if_neg (by rintro(⟨q,_⟩ | ⟨_,q1,q2,_⟩);· exact he q
                       ·exact h2 ⟨q1,q2⟩)];rfl
  by_cases hall:∀ p,p < w.Zv.length ->ZsX w m p
  ·refine .inr ⟨fun next=>?_,fun q=>q hall⟩;rw [b0];refine Ye (fun p=>(p:Int)) rfl (n:=w.Zv.length) (by omega) (fun p hp nx=>?_) (fun nx=>?_)
   ·rw [step next p hp nx,if_pos (hall p hp)]
   ·unfold Zga;rw [s.len hm,ZR,Cq0,Yv (by omega)]
  ·refine .inl ⟨fun next=>?_,hall⟩;have hz:∃ p,p < w.Zv.length∧¬ ZsX w m p:=Classical.byContradiction fun q=>hall fun p hp=>Classical.byContradiction fun q2=>q ⟨p,hp,q2⟩
   obtain⟨p0,hp0⟩:=hz;obtain⟨p1,_,hp1,hlt⟩:=Qb (c:=fun p=>p < w.Zv.length∧¬ ZsX w m p) hp0;rw [b0];refine Ye (fun p=>(p:Int)) rfl (n:=p1) (by omega) (fun p hp nx=>?_) (fun nx=>?_)
   ·rw [step next p (by omega) nx,if_pos (Classical.byContradiction fun q=>hlt p hp ⟨by omega,q⟩)]
   ·rw [step next p1 hp1.1 nx,if_neg hp1.2]
 ·unfold Zjy;rw [ZR];rfl
 ·simp only [Bool.false_eq_true,false_iff];intro z;exact hc (z k hk)
def QY (w:Zb) (m:Int) (y:Zr):Prop:=0 <=y.place∧y.place < (w.Zv.length:Int)∧0 <=y.from_∧y.from_ < (w.qQ.length:Int)∧RtX w y.place.toNat m y.age∧1 <=y.hops∧y.hops <=Xd (1 + y.age)
theorem Zly {w:Zb} (s:W9 w) (m:Int) (y:Zr):∃ b,ZvG ⟨w,spL w⟩ m y=some b∧(b=true↔QY w m y):=by
 unfold ZvG Zr6 Zm0;simp only [Bq0];by_cases h1:0 <=y.place∧y.place < (w.Zv.length:Int)
 ·obtain⟨p,hp⟩:∃ p:Nat,y.place= (p:Int):= ⟨y.place.toNat,by omega⟩
  have hpl:p < w.Zv.length:=by omega
  rw [hp,decide_eq_true (show(p:Int) >=0 by omega),decide_eq_true (show(p:Int) < (w.Zv.length:Int) by omega)];simp only [Bool.and_self,YK,Bq0,Bool.true_and];by_cases h2:0 <=y.from_∧y.from_ < (w.qQ.length:Int)
  ·rw [decide_eq_true h2.1,decide_eq_true h2.2];simp only [Bool.and_self,YK,Bq0,Bool.true_and];rw [ZdL s hpl];refine⟨_,rfl,?_⟩;simp only [Ba0,decide_eq_true_eq];unfold QY;rw [hp,Int.toNat_natCast]
   constructor
   ·rintro⟨⟨a,b⟩,c⟩;exact⟨by omega,by omega,h2.1,h2.2,a,b,c⟩
   ·rintro⟨_,_,_,_,a,b,c⟩;exact⟨⟨a,b⟩,c⟩
  ·have:(decide (y.from_ >=0) && decide (y.from_ < (w.qQ.length:Int)))=false:=by
    rw [← Bool.not_eq_true];intro z;simp only [Ba0,decide_eq_true_eq] at z;exact h2 z
   rw [this];refine⟨_,rfl,?_⟩;simp only [Bool.false_and,Bool.false_eq_true,false_iff];rintro⟨_,_,a,b,_⟩;exact h2 ⟨a,b⟩
 ·have:(decide (y.place >=0) && decide (y.place < (w.Zv.length:Int)))=false:=by
   rw [← Bool.not_eq_true];intro z;simp only [Ba0,decide_eq_true_eq] at z;exact h1 z
  rw [this];refine⟨_,rfl,?_⟩;simp only [Bool.false_and,Bool.false_eq_true,false_iff];rintro⟨a,b,_⟩;exact h1 ⟨a,b⟩
def ZBE (w:Zb) (x:Zd):Prop:=0 <=x.Z9∧x.Z9 < (w.qQ.length:Int)∧(x.kind ≠ 2 ->x.qV= []∧x.Yj= [])∧
 (x.kind=1 ->QY w x.Z9 x.Ya∧x.place=0∧x.at_=0∧x.age=0)∧
 (x.kind=3 ->x.at_ ≠ x.Z9∧0 <=x.place∧x.place < (w.Zv.length:Int)∧RtX w x.place.toNat x.at_ x.age∧x.Ya=ZtE)∧
 (x.kind ≠ 1 ->x.kind ≠ 3 ->x.Ya=ZtE∧x.place=0∧x.at_=0∧x.age=0)
theorem Zpk {w:Zb} (s:W9 w) {x:Zd} (h9:x.qV.length <=900∧x.Yj.length <=900):∃ b,ZAu ⟨w,spL w⟩ x=some b∧(b=true↔ZBE w x):=by
 unfold ZAu Zm0;simp only [Bq0];refine QS (fun hc=>⟨false,rfl,?_⟩) (fun hc=>?_)
 ·simp only [Bool.false_eq_true,false_iff];rintro⟨a,b,_⟩;rw [decide_eq_true (show x.Z9 >=0 from a),decide_eq_true b] at hc;cases hc
 simp only [Bool.not_eq_false',Ba0,decide_eq_true_eq] at hc;refine QS (fun hc2=>⟨false,rfl,?_⟩) (fun hc2=>?_)
 ·simp only [Bool.false_eq_true,false_iff];rintro⟨_,_,a,_⟩;simp only [Ba0,bne_iff_ne,decide_eq_true_eq] at hc2;obtain⟨a1,a2⟩:=a hc2.1;rw [a1,a2] at hc2;exact absurd hc2.2 (by decide)
 have hk2:x.kind ≠ 2 ->x.qV= []∧x.Yj= []:=fun hk=>by
  rw [J8,decide_eq_true hk,Bool.true_and,decide_eq_false_iff_not,Za2 (by omega) (by omega)] at hc2;exact⟨List.length_eq_zero_iff.1 (by omega),List.length_eq_zero_iff.1 (by omega)⟩
 have hj:∀ a b c d e f g h,Zf8 x (a,b,c,d,e,f,g,h)=some ((((JE (Zr.mk a b c d e) x.Ya) && (f==x.place)) && (g==x.at_)) && (h==x.age)):=fun _ _ _ _ _ _ _ _=>rfl
 refine QS (fun h1=>?_) (fun h1=>?_)
 ·have h1:x.kind=1:=by simpa using h1
  obtain⟨b,hb,hbi⟩:=Zly s x.Z9 x.Ya;rw [hb];simp only [Bq0];refine QS (fun h2=>⟨false,rfl,?_⟩) (fun h2=>⟨_,hj _ _ _ _ _ _ _ _,?_⟩)
  ·simp only [Bool.false_eq_true,false_iff];rintro⟨_,_,_,a,_⟩;rw [hbi.2 (a h1).1] at h2;cases h2
  ·have h2:QY w x.Z9 x.Ya:=hbi.1 (by simpa using h2);simp only [Ba0,K3,beq_iff_eq]
   constructor
   ·rintro⟨⟨⟨_,a⟩,b⟩,c⟩;exact⟨hc.1,hc.2,hk2,fun _=>⟨h2,a.symm,b.symm,c.symm⟩,fun q=>by omega,fun q=>absurd h1 q⟩
   ·rintro⟨_,_,_,a,_⟩;obtain⟨_,a1,a2,a3⟩:=a h1;exact⟨⟨⟨trivial,a1.symm⟩,a2.symm⟩,a3.symm⟩
 have h1:x.kind ≠ 1:=by simpa using h1
 refine QS (fun h3=>?_) (fun h3=>?_)
 ·have h3:x.kind=3:=by simpa using h3
  unfold Zr6;dsimp only;by_cases hat:x.at_=x.Z9
  ·rw [hat,Yg,decide_eq_true rfl];refine⟨false,rfl,?_⟩;simp only [Bool.false_eq_true,false_iff];rintro⟨_,_,_,_,a,_⟩;exact(a h3).1 hat
  ·rw [Yg,decide_eq_false hat];simp only [Bool.not_false,YK,Bq0,Bool.false_or];by_cases hp:0 <=x.place∧x.place < (w.Zv.length:Int)
   ·rw [decide_eq_true (show x.place >=0 from hp.1),decide_eq_true hp.2];obtain⟨p,ep⟩:∃ p:Nat,x.place= (p:Int):= ⟨x.place.toNat,by omega⟩
    simp only [Bool.and_self,Bool.not_true,Bool.not_false,YK,Bool.false_or];rw [show Zm1 ⟨w,spL w⟩ x.place x.at_ x.age=some (decide (RtX w x.place.toNat x.at_ x.age)) by rw [ep,ZdL s (by omega),Int.toNat_natCast]];simp only [Bq0];refine QS (fun h4=>⟨false,rfl,?_⟩) (fun h4=>⟨_,hj _ _ _ _ _ _ _ _,?_⟩)
    ·simp only [Bool.false_eq_true,false_iff];rintro⟨_,_,_,_,a,_⟩;rw [decide_eq_true (a h3).2.2.2.1] at h4;cases h4
    ·have h4:RtX w x.place.toNat x.at_ x.age:=by simpa using h4
     simp only [Ba0,K3,beq_iff_eq]
     constructor
     ·rintro⟨⟨⟨a,_⟩,_⟩,_⟩;exact⟨hc.1,hc.2,hk2,fun q=>absurd q h1,fun _=>⟨hat,hp.1,hp.2,h4,a.symm⟩,fun _ q=>absurd h3 q⟩
     ·rintro⟨_,_,_,_,a,_⟩;exact⟨⟨⟨(a h3).2.2.2.2.symm,trivial⟩,trivial⟩,trivial⟩
   ·have:(decide (x.place >=0) && decide (x.place < (w.Zv.length:Int)))=false:=by
     rw [← Bool.not_eq_true];intro z;simp only [Ba0,decide_eq_true_eq] at z;exact hp z
    rw [this];refine⟨false,rfl,?_⟩;simp only [Bool.false_eq_true,false_iff];rintro⟨_,_,_,_,a,_⟩;exact hp ⟨(a h3).2.1,(a h3).2.2.1⟩
 have h3:x.kind ≠ 3:=by simpa using h3
 refine⟨_,hj _ _ _ _ _ _ _ _,?_⟩;simp only [Ba0,K3,beq_iff_eq]
 constructor
 ·rintro⟨⟨⟨a,b⟩,c⟩,d⟩;exact⟨hc.1,hc.2,hk2,fun q=>absurd q h1,fun q=>absurd q h3,fun _ _=>⟨a.symm,b.symm,c.symm,d.symm⟩⟩
 ·rintro⟨_,_,_,_,_,a⟩;obtain⟨a1,a2,a3,a4⟩:=a h1 h3;exact⟨⟨⟨a1.symm,a2.symm⟩,a3.symm⟩,a4.symm⟩
def Q7 (l:List Zd):List Int:= (l.filter fun x=>x.kind==1).map fun x=>x.Ya.msg
def QG (l:List (List Zr)):List Int:=l.flatMap fun x=>x.map fun y=>y.msg
def msgs (w:Zb):List Int:=w.qK.flatten ++ QG w.qJ ++ Q7 w.qG
theorem Zc5 {α:Type} {l:List (List α)} {k:Nat} (h:k < l.length):(l.take (k + 1)).flatten= (l.take k).flatten ++ l[k]:=by
 rw [List.take_add_one,List.getElem?_eq_getElem h,List.flatten_append];simp
theorem Zbg {l:List (List Zr)} {k:Nat} (h:k < l.length):QG (l.take (k + 1))=QG (l.take k) ++ l[k].map fun y=>y.msg:=by
 unfold QG;rw [List.take_add_one,List.getElem?_eq_getElem h,List.flatMap_append];simp
theorem Zhk {l:List Zd} {k:Nat} (h:k < l.length):Q7 (l.take (k + 1))=Q7 (l.take k) ++ if l[k].kind=1 then [l[k].Ya.msg] else []:=by
 unfold Q7;rw [List.take_add_one,List.getElem?_eq_getElem h,List.filter_append,List.map_append];congr 1;by_cases hk:l[k].kind=1
 ·rw [if_pos hk];simp [hk]
 ·rw [if_neg hk];simp [hk]
theorem Zcp {α:Type} {l:List (List α)} {n:Nat} (h:∀ x ∈ l,x.length <=n):l.flatten.length <=n * l.length:=by
 induction l with
 | nil=>simp
 | cons x l ih=>
   have:=ih fun y hy=>h y (by simp [hy])
   have:=h x (by simp);rw [List.flatten_cons,List.length_append,List.length_cons,Nat.mul_succ];omega
theorem Zvt {l:List (List Zr)} {n:Nat} (h:∀ x ∈ l,x.length <=n):(QG l).length <=n * l.length:=by
 induction l with
 | nil=>simp [QG]
 | cons x l ih=>
   have:=ih fun y hy=>h y (by simp [hy])
   have:=h x (by simp);unfold QG at *;rw [List.flatMap_cons,List.length_append,List.length_map,List.length_cons,Nat.mul_succ];omega
theorem Zrn (l:List Zd):(Q7 l).length <=l.length:=by
 unfold Q7;rw [List.length_map];exact List.length_filter_le _ _
theorem ZsH {xs ys:List Int} (h:xs.length + ys.length <=1000000):app 8 xs ys=some (xs ++ ys):=Zn1 h (by decide)
structure BdM (w:Zb):Prop where
 b:w.qK.flatten.length <=160000
 h:(QG w.qJ).length <=160000
 m:(Q7 w.qG).length <=400
theorem BdM.of {w:Zb} (sm:Kl 400 w):BdM w:=by
 have h1:=Zcp (n:=400) fun x hx=>Nat.le_of_lt (sm.box x hx)
 have h2:=Zvt (n:=400) fun x hx=>Nat.le_of_lt (sm.hel x hx)
 have h3:=Zrn w.qG;have:=sm.qK;have:=sm.qJ;have:=sm.qG;exact⟨by omega,by omega,by omega⟩
theorem Km {α:Type} (l:List (List α)) (k:Nat):(l.take k).flatten.length <=l.flatten.length:=by
 have:=congrArg (fun z=>z.flatten.length) (List.take_append_drop k l);simp only [List.flatten_append,List.length_append] at this;omega
theorem Ws (l:List (List Zr)) (k:Nat):(QG (l.take k)).length <= (QG l).length:=by
 have:=congrArg (fun z=>(QG z).length) (List.take_append_drop k l);simp only [QG,List.flatMap_append,List.length_append] at this ⊢;omega
theorem ZbY (l:List Zd) (k:Nat):(Q7 (l.take k)).length <= (Q7 l).length:=by
 have:=congrArg (fun z=>(Q7 z).length) (List.take_append_drop k l);simp only [Q7,List.filter_append,List.map_append,List.length_append] at this ⊢;omega
def Um (l:List Int):List Int:=l.mergeSort fun x y=>decide (x <=y)
theorem ZoF {l:List Int} (h:l.length <=1000000):Zr8 l=some (Um l):=by
 unfold Zr8 Um;rw [Nm0 h];rfl
theorem ZdI (l:List Int):(Um l).Perm l:=List.mergeSort_perm _ _
theorem Zl8 (l:List Int):(Um l).Pairwise (· <=·):=by
 have:=List.pairwise_mergeSort (le:=fun x y:Int=>decide (x <=y)) (fun a b c h1 h2=>by simp at *;omega) (fun a b=>by simp;omega) l;exact this.imp fun h=>by simpa using h
theorem Zdn {l l':List Int} (h:l.Perm l') (hs:l'.Pairwise (· <=·)):Um l=l':=
 List.Perm.eq_of_pairwise (le:= (· <=·)) (fun a b _ _ h1 h2=>by omega) (Zl8 l) hs ((ZdI l).trans h)
def Xe (n:Nat):List Int:= (List.range n).map Int.ofNat
theorem ZkJ (n:Nat):(Xe n).Pairwise (· <=·):=by
 unfold Xe;rw [List.pairwise_map];exact List.pairwise_lt_range.imp fun{a b} h=>by show(a:Int) <= (b:Int);omega
theorem Ziw {n k:Nat} (h:k < n):(Xe n)[k]? =some (k:Int):=by simp [Xe,h]
theorem XL (n:Nat):(Xe n).length=n:=by simp [Xe]
theorem ZvP {l:List Int} (h:∀ k (hk:k < l.length),l[k]= (k:Int)):l=Xe l.length:=by
 apply List.ext_getElem?;intro k;by_cases hk:k < l.length
 ·rw [Ziw hk,List.getElem?_eq_getElem hk,h k hk]
 ·rw [List.getElem?_eq_none (by omega),List.getElem?_eq_none (by rw [XL];omega)]
def ZJ7 (w:Zb):Prop:=0 <=w.said∧w.said <=40∧(msgs w).Perm (Xe w.said.toNat)
theorem ZkM {F:Nat} (hF:400000 <=F) {w:Zb} (sm:Kl 400 w) (l:List Yo):∃ b,ZvH F ⟨w,l⟩=some b∧(b=true↔ZJ7 w):=by
 obtain⟨B1,B2,B3⟩:=BdM.of sm;have W1:=sm.qK;have W2:=sm.qJ;have W3:=sm.qG;unfold ZvH;refine QS (fun hc=>⟨false,rfl,?_⟩) (fun hc=>?_)
 ·simp only [Bool.false_eq_true,false_iff];rintro⟨a,b,_⟩;simp only [Bool.or_eq_true,decide_eq_true_eq] at hc;omega
 simp only [Bool.or_eq_false_iff,decide_eq_false_iff_not] at hc
 have h4:∃ b,loop F (Zbi ⟨w,l⟩ (Um (msgs w))) 0=some b∧(b=true↔ZJ7 w):=by
  have hl:(Um (msgs w)).length= (msgs w).length:= (ZdI _).length_eq;have hl2:(msgs w).length <=320400:=by unfold msgs;rw [List.length_append,List.length_append];omega
  refine J7 false (some (((Um (msgs w)).length:Int)==w.said)) (fun k=>(k:Int)) rfl (fun k=>∃ h:k < (Um (msgs w)).length,(Um (msgs w))[k] ≠ (k:Int)) (n:= (Um (msgs w)).length) (by omega) (fun k hk=>?_) (fun next=>?_) (fun k hk hc=>?_) (fun hno=>⟨_,rfl,?_⟩)
  ·have b0:∀ next,Zbi ⟨w,l⟩ (Um (msgs w)) (k:Int) next=bif((Um (msgs w))[k] != (k:Int)) then some false else next (Xd ((k:Int) + 1)):=fun next=>by
    unfold Zbi;rw [ZI hk,Cq1,XO hk];rfl
   by_cases h:(Um (msgs w))[k]= (k:Int)
   ·refine .inr ⟨fun next=>?_,fun⟨_,q⟩=>q h⟩;rw [b0,h,JJ,Cq0,Yv (by omega)]
   ·refine .inl ⟨fun next=>?_,hk,h⟩;rw [b0,J8,decide_eq_true h];rfl
  ·unfold Zbi;rw [ZR];rfl
  ·obtain⟨h,q⟩:=hc;simp only [Bool.false_eq_true,false_iff];rintro⟨_,_,hp⟩;have e:=Zdn hp (ZkJ _);have hk':k < w.said.toNat:=by rw [e,XL] at h;exact h
   have:(Um (msgs w))[k]? =some (k:Int):=by rw [e];exact Ziw hk'
   rw [List.getElem?_eq_getElem h] at this;exact q (by simpa using this)
  ·have e:=ZvP fun k hk=>Classical.byContradiction fun q=>hno k hk ⟨hk,q⟩
   rw [beq_iff_eq]
   constructor
   ·intro h;refine⟨by omega,by omega,?_⟩;have h2:w.said.toNat= (Um (msgs w)).length:=by omega
    rw [h2,← e];exact(ZdI _).symm
   ·rintro⟨_,_,hp⟩;have:=hp.length_eq;rw [XL] at this;omega
 have h3:loop F (Zjv F ⟨w,l⟩) (w.qK.flatten ++ QG w.qJ,0)=loop F (Zbi ⟨w,l⟩ (Um (msgs w))) 0:=by
  refine Ye (fun k=>(w.qK.flatten ++ QG w.qJ ++ Q7 (w.qG.take k),(k:Int))) (by simp [Q7]) (n:=w.qG.length) (by omega) (fun k hk next=>?_) (fun next=>?_)
  ·have hm:=ZbY w.qG k;have hll:(w.qK.flatten ++ QG w.qJ ++ Q7 (w.qG.take k)).length <=320400:=by rw [List.length_append,List.length_append];omega
   rw [Zhk hk];unfold Zjv;dsimp only;rw [ZI hk,Cq1,XO hk];simp only [Bq0];rw [Yg,ZaV];unfold Zju;by_cases h1:w.qG[k].kind=1
   ·rw [if_pos h1,if_pos h1,ZsH (by rw [List.length_singleton];omega)];simp only [Bq0];rw [Yv (by omega),← List.append_assoc]
   ·rw [if_neg h1,if_neg h1,Yv (by omega),List.append_nil]
  ·unfold Zjv;dsimp only;rw [ZR,Cq0,List.take_of_length_le (Nat.le_refl _)];show(Zr8 (msgs w)).bind _=_;rw [ZoF (by unfold msgs;rw [List.length_append,List.length_append];omega)];rfl
 have h1:loop F (Zjw F ⟨w,l⟩) (w.qK.flatten,0)=loop F (Zbi ⟨w,l⟩ (Um (msgs w))) 0:=by
  refine Ye (fun k=>(w.qK.flatten ++ QG (w.qJ.take k),(k:Int))) (by simp [QG]) (n:=w.qJ.length) (by omega) (fun k hk next=>?_) (fun next=>?_)
  ·have hm:=Ws w.qJ k;have hm2:=Ws w.qJ (k + 1);have hrow:=sm.hel _ (List.getElem_mem hk);rw [Zbg hk] at hm2;rw [Zbg hk];rw [List.length_append,List.length_map] at hm2;unfold Zjw;dsimp only;rw [ZI hk,Cq1,XO hk];simp only [Bq0];refine Ye (fun j=>(w.qK.flatten ++ QG (w.qJ.take k) ++ (w.qJ[k].take j).map (fun y=>y.msg),(j:Int))) (by simp) (n:=w.qJ[k].length) (by omega) (fun j hj nx=>?_) (fun nx=>?_)
   ·unfold Zm8;dsimp only;rw [ZI hj,Cq1,XO hj];simp only [Bq0];rw [ZsH (by rw [List.length_append,List.length_append,List.length_map,List.length_take,List.length_singleton];omega)];simp only [Bq0];rw [Yv (by omega),List.take_add_one,List.getElem?_eq_getElem hj,List.map_append];simp
   ·unfold Zm8;dsimp only;rw [ZR,Cq0,List.take_of_length_le (Nat.le_refl _),Yv (by omega),List.append_assoc]
  ·unfold Zjw;dsimp only;rw [ZR,Cq0,List.take_of_length_le (Nat.le_refl _)];exact h3
 have h0:loop F (Zjx F ⟨w,l⟩) ([],0)=loop F (Zbi ⟨w,l⟩ (Um (msgs w))) 0:=by
  refine Ye (fun k=>((w.qK.take k).flatten,(k:Int))) (by simp) (n:=w.qK.length) (by omega) (fun k hk next=>?_) (fun next=>?_)
  ·have hm:=Km w.qK k;have hm2:=Km w.qK (k + 1);rw [Zc5 hk,List.length_append] at hm2;rw [Zc5 hk];unfold Zjx;dsimp only;rw [ZI hk,Cq1,XO hk];simp only [Bq0];rw [ZsH (by omega)];simp only [Bq0];rw [Yv (by omega)]
  ·unfold Zjx;dsimp only;rw [ZR,Cq0,List.take_of_length_le (Nat.le_refl _)];exact h1
 rw [h0];exact h4
def ZH (w:Zb) (m:Nat):List Zr:=w.qJ.getD m []
structure Wd (w:Zb):Prop where
 shr:ShR w
 loc:∀ p,p < w.Zv.length ->(YM w p).length=1
 tog:∀ p,p < w.Zv.length ->0 <=inn w p ->(sp w (inn w p).toNat).machine= (sp w p).machine∧(sp w (inn w p).toNat).here= (sp w p).here∧((sp w p).here=false ->Zku w p (inn w p))
 ent:∀ m,m < w.qQ.length ->∀ p,p < w.Zv.length ->(E w m p).here=false ->RtX w p (E w m p).Z9 (E w m p).age
 hel:∀ m,m < w.qQ.length ->∀ x ∈ ZH w m,QY w m x∧sp w x.place.toNat= ⟨(m:Int),false,x.age⟩
 mai:∀ x ∈ w.qG,x.kind=1 ->QY w x.Z9 x.Ya
 ntd:∀ x ∈ w.qG,x.kind=3 ->RtX w x.place.toNat x.at_ x.age
 msg:(msgs w).Perm (Xe w.said.toNat)
theorem Zc1 {w:Zb} {p k:Nat} {s:Yo}:s ∈ Xj w p k↔∃ m,m < k∧(E w m p).here=true∧s= ⟨(m:Int),true,(E w m p).age⟩:=by
 unfold Xj;rw [List.mem_filterMap]
 constructor
 ·rintro⟨m,h1,h2⟩;by_cases h:(E w m p).here=true
  ·rw [if_pos h] at h2;cases h2;exact⟨m,List.mem_range.1 h1,h,rfl⟩
  ·rw [if_neg h] at h2;cases h2
 ·rintro⟨m,h1,h2,rfl⟩;exact⟨m,List.mem_range.2 h1,if_pos h2⟩
theorem Zay {x:Zd} {p j:Nat} {s:Yo}:s ∈ WB x p j↔∃ i,i < j∧x.qV.getD i 0= (p:Int)∧s= ⟨x.Z9,false,x.Yj.getD i 0⟩:=by
 unfold WB;rw [List.mem_filterMap]
 constructor
 ·rintro⟨m,h1,h2⟩;by_cases h:x.qV.getD m 0= (p:Int)
  ·rw [if_pos h] at h2;cases h2;exact⟨m,List.mem_range.1 h1,h,rfl⟩
  ·rw [if_neg h] at h2;cases h2
 ·rintro⟨m,h1,h2,rfl⟩;exact⟨m,List.mem_range.2 h1,if_pos h2⟩
theorem ZwG {l:List Zd} {p:Nat} {s:Yo}:s ∈ X8 l p↔∃ x ∈ l,x.kind=2∧∃ i,i < x.qV.length∧x.qV.getD i 0= (p:Int)∧s= ⟨x.Z9,false,x.Yj.getD i 0⟩:=by
 unfold X8;rw [List.mem_flatMap]
 constructor
 ·rintro⟨x,h1,h2⟩;unfold WU at h2;by_cases h:x.kind=2
  ·rw [if_pos h] at h2;exact⟨x,h1,h,Zay.1 h2⟩
  ·rw [if_neg h] at h2;cases h2
 ·rintro⟨x,h1,h2,h3⟩;exact⟨x,h1,by unfold WU;rw [if_pos h2];exact Zay.2 h3⟩
theorem ZGy {w:Zb} {p:Nat} (h:(YM w p).length=1):YM w p= [sp w p]:=by
 obtain⟨x,e⟩:=List.length_eq_one_iff.1 h;unfold sp Kg;rw [e];rfl
theorem ZaF {w:Zb} {p:Nat} (h:(YM w p).length=1):(∃ m,m < w.qQ.length∧(E w m p).here=true∧sp w p= ⟨(m:Int),true,(E w m p).age⟩)∨(∃ x ∈ w.qG,x.kind=2∧∃ i,i < x.qV.length∧x.qV.getD i 0= (p:Int)∧sp w p= ⟨x.Z9,false,x.Yj.getD i 0⟩):=by
 have hm:sp w p ∈ YM w p:=by rw [ZGy h];simp
 unfold YM at hm;rcases List.mem_append.1 hm with q | q
 ·exact .inl (Zc1.1 q)
 ·exact .inr (ZwG.1 q)
structure WdP (w:Zb):Prop where
 KA:W9 w
 inn:Inn w
 mov:∀ x ∈ w.qG,MvX w x
 tog:∀ p,p < w.Zv.length ->ZJ5 w p
 ent:∀ m,m < w.qQ.length ->∀ p,p < w.Zv.length ->ZsX w m p
 msg:ZJ7 w
 Xp:∀ x ∈ w.qG,ZBE w x
 hel:∀ m,m < w.qQ.length ->∀ x ∈ ZH w m,QY w m x∧sp w x.place.toNat= ⟨(m:Int),false,x.age⟩
theorem ZCd {w:Zb}:WdP w↔Wd w:=by
 constructor
 ·intro h
  have ZRX:∀ p,p < w.Zv.length ->(sp w p).age <=30:=fun p hp=>by
   rcases ZaF (h.tog p hp).1 with⟨m,h1,h2,h3⟩ | ⟨x,h1,h2,i,h3,h4,h5⟩
   ·rw [h3];rcases h.ent m h1 p hp with⟨_,_,q⟩ | ⟨_,q,_⟩
    ·exact q
    ·rw [h2] at q;cases q
   ·rw [h5];rcases h.mov x h1 with q | q | ⟨_,_,_,q⟩
    ·omega
    ·omega
    ·exact(q i h3).2.2.2.2
  have ZRD:∀ x ∈ w.qG,Zkv w x:=fun x hx=>by
   have hl:=h.Xp x hx;obtain⟨a1,a2,a3,a4,a5,a6⟩:=hl;rcases h.mov x hx with q | q | ⟨q,q1,q2,q3⟩
   ·obtain⟨b1,b2⟩:=a3 (by omega);obtain⟨_,c1,c2,c3⟩:=a4 q;refine⟨a1,a2,.inl ⟨q,c1,c2,c3,b1,b2⟩,fun i hi=>?_,fun z=>by omega⟩;rw [b1] at hi;simp at hi
   ·obtain⟨b1,b2⟩:=a3 (by omega);obtain⟨c1,c2,c3,c4,c5⟩:=a5 q;refine⟨a1,a2,.inr (.inr ⟨q,c5,b1,b2⟩),fun i hi=>?_,fun _=>⟨c2,c3,c1⟩⟩;rw [b1] at hi;simp at hi
   ·obtain⟨c1,c2,c3,c4⟩:=a6 (by omega) (by omega);exact⟨a1,a2,.inr (.inl ⟨q,c2,c3,c4,c1,q1,q2.symm⟩),q3,fun z=>by omega⟩
  refine⟨⟨h.KA,h.inn,h.msg.1,h.msg.2.1,fun m hm p hp=>?_,ZRD⟩,fun p hp=>(h.tog p hp).1,fun p hp=>(h.tog p hp).2,fun m hm p hp hh=>?_,h.hel,fun x hx hk=>((h.Xp x hx).2.2.2.1 hk).1,fun x hx hk=>((h.Xp x hx).2.2.2.2.1 hk).2.2.2.1,h.msg.2.2⟩
  ·rcases h.ent m hm p hp with⟨e,q1,q2⟩ | ⟨e,q1,q2,q3⟩
   ·have e1:(E w m p).here=true:=by rw [e]
    have e2:(E w m p).Z9= (m:Int):=by rw [e]
    exact⟨q1,q2,by rw [e2];omega,by rw [e2];omega,fun _=>e2,fun _=>e1⟩
   ·have:=ZRX p hp;refine⟨q3.1,by have:=q3.2.1;omega,q3.2.2.1,q3.2.2.2.1,fun z=>?_,fun z=>absurd z q2⟩;rw [q1] at z;cases z
  ·rcases h.ent m hm p hp with⟨e,q1,q2⟩ | ⟨e,q1,q2,q3⟩
   ·have e1:(E w m p).here=true:=by rw [e]
    rw [hh] at e1;cases e1
   ·exact q3
 ·intro h;refine⟨h.shr.KA,h.shr.inn,fun x hx=>?_,fun p hp=>⟨h.loc p hp,h.tog p hp⟩,fun m hm p hp=>?_,⟨h.shr.sd1,h.shr.sd2,h.msg⟩,fun x hx=>?_,h.hel⟩
  ·have hl:=h.shr.Xp x hx;rcases hl.Xc with⟨q,_⟩ | ⟨q,_,_,_,_,q1,q2⟩ | ⟨q,_⟩
   ·exact .inl q
   ·exact .inr (.inr ⟨q,q1,q2.symm,hl.KD⟩)
   ·exact .inr (.inl q)
  ·obtain⟨a1,a2,a3,a4,a5⟩:=h.shr.ent m hm p hp;cases hh:(E w m p).here with
   | true=>
     have h2:=a5.1 hh;refine .inl ⟨?_,a1,a2⟩;have:E w m p= ⟨(E w m p).here,(E w m p).Z9,(E w m p).age⟩:=rfl;rw [hh,h2] at this;exact this
   | false=>
     have h2:(E w m p).Z9 ≠ (m:Int):=fun q=>by have:=a5.2 q;rw [hh] at this;cases this
     refine .inr ⟨fun q=>?_,hh,h2,h.ent m hm p hp hh⟩;have:=congrArg Zw.here q;rw [hh] at this;cases this
  ·have hl:=h.shr.Xp x hx;rcases hl.Xc with⟨q,q1,q2,q3,q4,q5⟩ | ⟨q,q1,q2,q3,q4,q5,q6⟩ | ⟨q,q1,q2,q3⟩
   ·exact⟨hl.to1,hl.to2,fun _=>⟨q4,q5⟩,fun _=>⟨h.mai x hx q,q1,q2,q3⟩,fun z=>by omega,fun z=>absurd q z⟩
   ·exact⟨hl.to1,hl.to2,fun z=>absurd q z,fun z=>by omega,fun z=>by omega,fun _ _=>⟨q4,q1,q2,q3⟩⟩
   ·have:=hl.ntd q;exact⟨hl.to1,hl.to2,fun _=>⟨q2,q3⟩,fun z=>by omega,fun _=>⟨this.2.2,this.1,this.2.1,h.ntd x hx q,q1⟩,fun _ z=>absurd q z⟩
theorem Zsv {F:Nat} (hF:400000 <=F) (hM:F <=1000000) {w:Zb} (sm:Kl 400 w):∃ e,Zp2 F w=some e∧((e=0∨e=2)∧(e=0↔Wd w)):=by
 have sm9:Kl 900 w:=sm.mono (by omega);have W3:=sm.qG
 suffices h:∃ e,Zp2 F w=some e∧((e=0∨e=2)∧(e=0↔WdP w)) by
  obtain⟨e,h1,h2,h3⟩:=h;exact⟨e,h1,h2,h3.trans ZCd⟩
 have two:¬ WdP w ->((2:Int)=0∨(2:Int)=2)∧((2:Int)=0↔WdP w):=fun h=>⟨.inr rfl,fun q=>absurd q (by decide),fun q=>absurd q h⟩
 unfold Zp2;obtain⟨b1,e1,i1⟩:=Zq6 (F:=F) (by omega) w;obtain⟨b2,e2,i2⟩:=Zrj (F:=F) (by omega) sm9;rw [e1];simp only [Bq0];cases b1 with
 | false=>
   simp only [Bool.not_false,Bool.not_true,Xy,Bq0,Bool.true_or,Cq1];exact⟨2,rfl,two fun h=>by have:=i1.2 ⟨h.KA,h.inn⟩;cases this⟩
 | true=>
   obtain⟨s,hi⟩:=i1.1 rfl;have h8:=s.p2;have h5:=s.m2;rw [e2];simp only [Bool.not_true,Bool.not_false,YK,Bq0,Bool.false_or];cases b2 with
   | false=>exact⟨2,rfl,two fun h=>by have:=i2.2 h.mov;cases this⟩
   | true=>
     have hmv:=i2.1 rfl;simp only [Bool.not_true,Cq0]
     have hmk:mkL (Yo.mk 0 false 0) 24 (w.Zv.length:Int) (w.Zv.length:Int)=some (List.replicate w.Zv.length ⟨0,false,0⟩):=by
      unfold mkL;rw [decide_eq_true (by omega),decide_eq_true (by omega),Nm0 (by rw [Int.toNat_natCast];omega),Int.toNat_natCast];rfl
     rw [hmk];simp only [Bq0];obtain⟨x,e3,i3,j3⟩:=ZkH (F:=F) (by omega) hM s hi sm9 (MvX.mvd sm9 hmv);rw [e3];simp only [Bq0];cases hx:x.2 with
     | false=>
       simp only [Bool.not_false,Bool.not_true,Xy,Bq0,Bool.true_or,Cq1];exact⟨2,rfl,two fun h=>by have:=i3.2 h.tog;rw [hx] at this;cases this⟩
     | true=>
       have ZRu:=i3.1 hx;have hx1:=j3 hx;rw [hx1];obtain⟨b4,e4,i4⟩:=ZnI (F:=F) (by omega) s;obtain⟨b5,e5,i5⟩:=ZkM (F:=F) (by omega) sm (spL w);rw [e4];simp only [Bool.not_true,Bool.not_false,YK,Bq0,Bool.false_or];cases b4 with
       | false=>
         simp only [Bool.not_false,Bool.not_true,Xy,Bq0,Bool.true_or,Cq1];exact⟨2,rfl,two fun h=>by have:=i4.2 h.ent;cases this⟩
       | true=>
         have hent:=i4.1 rfl;rw [e5];simp only [Bool.not_true,Bool.not_false,YK,Bq0,Bool.false_or];cases b5 with
         | false=>exact⟨2,rfl,two fun h=>by have:=i5.2 h.msg;cases this⟩
         | true=>
           have ZRF:=i5.1 rfl;simp only [Bool.not_true,Cq0];refine J7 2 (loop F (Zgk F w x) 0) (fun k=>(k:Int)) rfl (fun k=>∃ h:k < w.qG.length,¬ ZBE w w.qG[k]) (n:=w.qG.length) (by omega) (fun k hk=>?_) (fun next=>?_) (fun k hk hc=>?_) (fun hno=>?_)
           ·obtain⟨b,eb,ib⟩:=Zpk s (x:=w.qG[k]) ⟨Nat.le_of_lt (sm9.Xp _ (List.getElem_mem hk)).1,Nat.le_of_lt (sm9.Xp _ (List.getElem_mem hk)).2⟩
            have b0:∀ next,ZjS F w x (k:Int) next=bif(!b) then some 2 else next ((k + 1:Nat):Int):=fun next=>by
             unfold ZjS;rw [ZI hk,Cq1,XO hk];simp only [Bq0];rw [hx1,eb];simp only [Bq0];rw [Yv (by omega)]
            by_cases hl:ZBE w w.qG[k]
            ·refine .inr ⟨fun next=>?_,fun⟨_,q⟩=>q hl⟩;rw [b0,ib.2 hl];rfl
            ·refine .inl ⟨fun next=>?_,hk,hl⟩
             have:b=false:=by cases b;· rfl
                              ·exact absurd (ib.1 rfl) hl
             rw [b0,this];rfl
           ·unfold ZjS;rw [ZR];rfl
           ·obtain⟨h,q⟩:=hc;exact two fun z=>q (z.Xp _ (List.getElem_mem h))
           have hlet:∀ x ∈ w.qG,ZBE w x:=fun y hy=>by
            obtain⟨k,hk,rfl⟩:=List.getElem_of_mem hy;exact Classical.byContradiction fun q=>hno k hk ⟨hk,q⟩
           have ZXj:w.qJ.length=w.qQ.length:=s.hd;refine J7 2 (some 0) (fun k=>(k:Int)) rfl (fun m=>¬ ∀ x ∈ ZH w m,QY w m x∧sp w x.place.toNat= ⟨(m:Int),false,x.age⟩) (n:=w.qJ.length) (by omega) (fun m hm=>?_) (fun next=>?_) (fun k hk hc=>?_) (fun hno=>⟨0,rfl,?_⟩)
           ·have hgm:ZT w.qJ (m:Int)=some (ZH w m):=YB [] hm;have hlen:(ZH w m).length < 400:=sm.hel _ (Yn hm)
            have b0:∀ next,Zgk F w x (m:Int) next=loop F (Zgj x (m:Int) next (ZH w m)) 0:=fun next=>by
             unfold Zgk;rw [ZI hm,Cq1,hgm];rfl
            have step:∀ (next:Int ->Option Int) (j:Nat) (hj:j < (ZH w m).length),∀ nx,Zgj x (m:Int) next (ZH w m) (j:Int) nx=open Classical in if QY w m (ZH w m)[j]∧sp w (ZH w m)[j].place.toNat= ⟨(m:Int),false,(ZH w m)[j].age⟩ then nx ((j + 1:Nat):Int) else some 2:=fun next j hj nx=>by
             obtain⟨b,eb,ib⟩:=Zly s (m:Int) (ZH w m)[j];unfold Zgj;rw [ZI hj,Cq1,XO hj];simp only [Bq0];rw [hx1,eb];simp only [Bq0];by_cases hml:QY w m (ZH w m)[j]
             ·rw [ib.2 hml];simp only [Bool.not_true,Bool.not_false,YK];obtain⟨p,hp⟩:∃ p:Nat,(ZH w m)[j].place= (p:Int):= ⟨(ZH w m)[j].place.toNat,by have:=hml.1;omega⟩
              have hpl:p < w.Zv.length:=by have:=hml.2.1;omega
              rw [hp,Zta hpl];simp only [Bq0,Int.toNat_natCast,Bool.false_or];by_cases hs:sp w p= ⟨(m:Int),false,(ZH w m)[j].age⟩
              ·rw [if_pos ⟨hml,hs⟩,(Zj2 _ _).2 hs,Bool.not_true,Cq0,Yv (by omega)]
              ·have:Zfc (sp w p) ⟨(m:Int),false,(ZH w m)[j].age⟩=false:=by rw [← Bool.not_eq_true,Zj2];exact hs
               rw [if_neg (fun q=>hs q.2),this];rfl
             ·have:b=false:=by cases b;· rfl
                               ·exact absurd (ib.1 rfl) hml
              rw [this,if_neg (fun q=>hml q.1)];rfl
            by_cases hall:∀ x ∈ ZH w m,QY w m x∧sp w x.place.toNat= ⟨(m:Int),false,x.age⟩
            ·refine .inr ⟨fun next=>?_,fun q=>q hall⟩;rw [b0];refine Ye (fun p=>(p:Int)) rfl (n:= (ZH w m).length) (by omega) (fun j hj nx=>?_) (fun nx=>?_)
             ·rw [step next j hj nx,if_pos (hall _ (List.getElem_mem hj))]
             ·unfold Zgj;rw [ZR,Cq0,Yv (by omega)]
            ·refine .inl ⟨fun next=>?_,hall⟩
             have hz:∃ j,∃ hj:j < (ZH w m).length,¬ (QY w m (ZH w m)[j]∧sp w (ZH w m)[j].place.toNat= ⟨(m:Int),false,(ZH w m)[j].age⟩):=Classical.byContradiction fun q=>hall fun y hy=>by
              obtain⟨j,hj,rfl⟩:=List.getElem_of_mem hy;exact Classical.byContradiction fun q2=>q ⟨j,hj,q2⟩
             obtain⟨j0,hj0⟩:=hz;obtain⟨j1,_,⟨hj1,hb1⟩,hlt⟩:=Qb (c:=fun j=>∃ hj:j < (ZH w m).length,¬ (QY w m (ZH w m)[j]∧sp w (ZH w m)[j].place.toNat= ⟨(m:Int),false,(ZH w m)[j].age⟩)) hj0;rw [b0];refine Ye (fun p=>(p:Int)) rfl (n:=j1) (by omega) (fun j hj nx=>?_) (fun nx=>?_)
             ·rw [step next j (by omega) nx,if_pos (Classical.byContradiction fun q=>hlt j hj ⟨by omega,q⟩)]
             ·rw [step next j1 hj1 nx,if_neg hb1]
           ·unfold Zgk;rw [ZR];rfl
           ·exact two fun z=>hc (z.hel k (by omega))
           ·exact⟨.inl rfl,fun _=>⟨s,hi,hmv,ZRu,hent,ZRF,hlet,fun m hm=>Classical.byContradiction (hno m (by omega))⟩,fun _=>rfl⟩
def spR (w:Zb) (p:Nat):XI:=U7 (QF w p)
theorem ZoE {w:Zb} (h:∀ x ∈ w.qG,x.kind=2∨x.qV= []) (p:Nat):toS (spR w p)=sp w p:=ZCQ h p
theorem ZfN {w:Zb} (s:W9 w) (h2:∀ x ∈ w.qG,x.kind=2∨x.qV= []) {p:Nat} (hp:p < w.Zv.length) (m a:Int):Znd w (p:Int) (spR w p) m a=some (decide (RtX w p m a)):=by
 have e1:(spR w p).age= (sp w p).age:=by rw [← ZoE h2];rfl
 have e2:(spR w p).at_= (sp w p).machine:=by rw [← ZoE h2];rfl
 unfold Znd;rw [e1,e2];by_cases h1:0 <=a∧a <= (sp w p).age∧0 <=m∧m < (w.qQ.length:Int)
 ·obtain⟨a1,a2,a3,a4⟩:=h1;rw [decide_eq_false (show ¬ m < 0 by omega),decide_eq_false (show ¬ m >= (w.qQ.length:Int) by omega),decide_eq_false (show ¬ a < 0 by omega),decide_eq_false (show ¬ a > (sp w p).age by omega)];simp only [Bool.or_self,Cq0];by_cases h3:a= (sp w p).age
  ·rw [Yg,decide_eq_true h3,Cq1,Yg];congr 1;by_cases h4:m= (sp w p).machine
   ·rw [decide_eq_true h4.symm,decide_eq_true (show RtX w p m a from⟨a1,a2,a3,a4,fun _=>h4,fun q=>absurd h3 q⟩)]
   ·rw [decide_eq_false (fun q=>h4 q.symm),decide_eq_false (fun q:RtX w p m a=>h4 (q.2.2.2.2.1 h3))]
  ·obtain⟨k,rfl⟩:∃ k:Nat,m= (k:Int):= ⟨m.toNat,by omega⟩
   rw [Yg,decide_eq_false h3,Cq0,s.row (by omega)];simp only [Bq0];rw [s.ent (by omega) hp];simp only [Bq0];congr 1;by_cases h4:(E w k p).age > a
   ·rw [decide_eq_true h4,decide_eq_true (show RtX w p (k:Int) a from⟨a1,a2,a3,a4,fun q=>absurd q h3,fun _=>h4⟩)]
   ·rw [decide_eq_false h4,decide_eq_false (fun q:RtX w p (k:Int) a=>h4 (q.2.2.2.2.2 h3))]
 ·have:(decide (m < 0) || decide (m >= (w.qQ.length:Int)) || decide (a < 0) || decide (a > (sp w p).age))=true:=by
   rw [← Bool.not_eq_false];intro z;simp only [Bool.or_eq_false_iff,decide_eq_false_iff_not] at z;exact h1 ⟨by omega,by omega,by omega,by omega⟩
  rw [this,decide_eq_false (fun q:RtX w p m a=>h1 ⟨q.1,q.2.1,q.2.2.1,q.2.2.2.1⟩)];rfl
def Za4 (w:Zb):List XI:= (List.range w.Zv.length).map (spR w)
theorem ZbZ {w:Zb} {p:Nat} (hp:p < w.Zv.length):ZT (Za4 w) (p:Int)=some (spR w p):=by
 rw [YB default (by simp [Za4];exact hp)];simp [Za4,hp]
theorem Za3 {a:Int} (h1:0 <=a) (h2:a <=30):Xd (a + 1)=a + 1:=Za2 (by omega) (by omega)
def UZ (w:Zb) (m:Int) (y:Zr) (waits:Bool):Prop:=0 <=y.place∧y.place < (w.Zv.length:Int)∧0 <=y.from_∧y.from_ < (w.qQ.length:Int)∧0 <=y.age∧y.age <=30∧1 <=y.hops∧y.hops <=y.age + 1∧
 (waits=true ->sp w y.place.toNat= ⟨m,false,y.age⟩)∧(waits=false ->RtX w y.place.toNat m y.age)
theorem Zph {w:Zb} (s:W9 w) (h2:∀ x ∈ w.qG,x.kind=2∨x.qV= []) (m:Int) (y:Zr) (wt:Bool):∃ b,Zp1 w (Za4 w) y m wt=some b∧(b=true↔UZ w m y wt):=by
 unfold Zp1;refine QS (fun hc=>⟨false,rfl,?_⟩) (fun hc=>?_)
 ·simp only [Bool.false_eq_true,false_iff];rintro⟨a1,a2,a3,a4,a5,a6,a7,a8,_⟩;rw [Za3 a5 a6] at hc;simp only [Bool.or_eq_true,decide_eq_true_eq] at hc;omega
 ·simp only [Bool.or_eq_false_iff,decide_eq_false_iff_not] at hc;obtain⟨⟨⟨⟨⟨⟨⟨a1,a2⟩,a3⟩,a4⟩,a5⟩,a6⟩,a7⟩,a8⟩:=hc;rw [Za3 (by omega) (by omega)] at a8;obtain⟨p,hp⟩:∃ p:Nat,y.place= (p:Int):= ⟨y.place.toNat,by omega⟩
  have hpl:p < w.Zv.length:=by omega
  rw [hp,ZbZ hpl];simp only [Bq0];have es:=ZoE h2 p;refine QS (fun hw=>⟨_,rfl,?_⟩) (fun hw=>?_)
  ·simp only [Ba0,Bool.not_eq_true',beq_iff_eq];unfold UZ;rw [hp,Int.toNat_natCast,← es];unfold toS;rw [Yo.mk.injEq]
   constructor
   ·rintro⟨⟨b1,b2⟩,b3⟩;exact⟨by omega,by omega,by omega,by omega,by omega,by omega,by omega,by omega,fun _=>⟨b2,b1,b3⟩,fun q=>(by rw [hw] at q;cases q)⟩
   ·rintro⟨_,_,_,_,_,_,_,_,b,_⟩;obtain⟨b1,b2,b3⟩:=b hw;exact⟨⟨b2,b1⟩,b3⟩
  ·rw [ZfN s h2 hpl];refine⟨_,rfl,?_⟩;rw [decide_eq_true_eq];unfold UZ;rw [hp,Int.toNat_natCast]
   constructor
   ·intro h;exact⟨by omega,by omega,by omega,by omega,by omega,by omega,by omega,by omega,fun q=>(by rw [hw] at q;cases q),fun _=>h⟩
   ·rintro⟨_,_,_,_,_,_,_,_,_,b⟩;exact b hw
theorem Zlz {w:Zb} {p:Nat} (h:(QF w p).length=1):QF w p= [spR w p]:=by
 obtain⟨x,e⟩:=List.length_eq_one_iff.1 h;unfold spR U7;rw [e];rfl
theorem Zlk {w:Zb} {p k:Nat} {r:XI}:r ∈ KL w p k↔∃ j,j < k∧∃ s ∈ WB (ZF w j) p (ZF w j).qV.length,r=Zos j s:=by
 unfold KL;rw [List.mem_flatMap]
 constructor
 ·rintro⟨j,h1,h2⟩;obtain⟨s,h3,h4⟩:=List.mem_map.1 h2;exact⟨j,List.mem_range.1 h1,s,h3,h4.symm⟩
 ·rintro⟨j,h1,s,h2,h3⟩;exact⟨j,List.mem_range.2 h1,List.mem_map.2 ⟨s,h2,h3.symm⟩⟩
theorem ZfG {w:Zb} {p:Nat} (h:(QF w p).length=1):((spR w p).is=true∧(spR w p).letter=-1)∨((spR w p).is=false∧∃ k,k < w.qG.length∧(spR w p).letter= (k:Int)∧(p:Int) ∈ (ZF w k).qV):=by
 have hm:spR w p ∈ QF w p:=by rw [Zlz h];simp
 unfold QF at hm;rcases List.mem_append.1 hm with q | q
 ·obtain⟨s,h1,h2⟩:=List.mem_map.1 q;rw [← h2];exact .inl ⟨rfl,rfl⟩
 ·obtain⟨k,h1,s,h2,h3⟩:=Zlk.1 q;obtain⟨i,h4,h5,_⟩:=Zay.1 h2;rw [h3];exact .inr ⟨rfl,k,h1,rfl,by rw [← h5];exact Yn h4⟩
theorem Zew {w:Zb} {p:Nat} (h:(QF w p).length=1) {k:Nat} (hk:k < w.qG.length) (hp:(p:Int) ∈ (ZF w k).qV):(spR w p).letter= (k:Int):=by
 obtain⟨i,hi,e⟩:=List.getElem_of_mem hp;have e2:(ZF w k).qV.getD i 0= (p:Int):=by rw [List.getD_eq_getElem?_getD,List.getElem?_eq_getElem hi];exact e
 have hm:Zos k ⟨(ZF w k).Z9,false,(ZF w k).Yj.getD i 0⟩ ∈ QF w p:=by
  unfold QF;exact List.mem_append_right _ (Zlk.2 ⟨k,hk,_,Zay.2 ⟨i,hi,e2,rfl⟩,rfl⟩)
 rw [Zlz h] at hm;rw [← List.mem_singleton.1 hm];rfl
theorem ZoM {w:Zb} (h2:∀ x ∈ w.qG,x.kind=2∨x.qV= []) {p q:Nat} (hp:(QF w p).length=1) (hq:(QF w q).length=1) (e:(spR w p).is= (spR w q).is):
 (spR w p).letter= (spR w q).letter↔((spR w p).is=false ->Zku w p q):=by
 rcases ZfG hp with⟨a1,a2⟩ | ⟨a1,k,hk,a2,a3⟩
 ·rcases ZfG hq with⟨b1,b2⟩ | ⟨b1,j,hj,b2,b3⟩
  ·rw [a1,a2,b2];simp
  ·rw [a1,b1] at e;cases e
 ·rcases ZfG hq with⟨b1,b2⟩ | ⟨b1,j,hj,b2,b3⟩
  ·rw [a1,b1] at e;cases e
  ·have kd:∀ i,i < w.qG.length ->∀ x:Int,x ∈ (ZF w i).qV ->(ZF w i).kind=2:=fun i hi x hx=>by
    rcases h2 (ZF w i) (Yn hi) with z | z
    ·exact z
    ·rw [z] at hx;cases hx
   constructor
   ·intro h _;rw [a2,b2] at h;have:k=j:=by omega
    subst this;exact⟨ZF w k,Yn hk,kd k hk _ a3,a3,b3⟩
   ·intro h;obtain⟨x,hx,_,h3,h4⟩:=h a1;obtain⟨i,hi,rfl⟩:=List.getElem_of_mem hx;have ei:w.qG[i]=ZF w i:=by unfold ZF;rw [List.getD_eq_getElem?_getD,List.getElem?_eq_getElem hi];rfl
    rw [ei] at h3 h4;rw [Zew hp hi h3,Zew hq hi h4]
theorem Zmt {F:Nat} (hF:400000 <=F) {w:Zb} (sm:Kl 400 w):ZAy F w=some (msgs w):=by
 obtain⟨B1,B2,B3⟩:=BdM.of sm;have W1:=sm.qK;have W2:=sm.qJ;have W3:=sm.qG
 have h3:loop F (ZjI w) (w.qK.flatten ++ QG w.qJ,0)=some (msgs w):=by
  refine Ye (fun k=>(w.qK.flatten ++ QG w.qJ ++ Q7 (w.qG.take k),(k:Int))) (by simp [Q7]) (n:=w.qG.length) (by omega) (fun k hk next=>?_) (fun next=>?_)
  ·have hm:=ZbY w.qG k;have hll:(w.qK.flatten ++ QG w.qJ ++ Q7 (w.qG.take k)).length <=320400:=by rw [List.length_append,List.length_append];omega
   rw [Zhk hk];unfold ZjI;dsimp only;rw [ZI hk,Cq1,XO hk];simp only [Bq0];rw [Yg,ZaV];unfold ZjH;by_cases h1:w.qG[k].kind=1
   ·rw [if_pos h1,if_pos h1,ZsH (by rw [List.length_singleton];omega)];simp only [Bq0];rw [Yv (by omega),← List.append_assoc]
   ·rw [if_neg h1,if_neg h1,Yv (by omega),List.append_nil]
  ·unfold ZjI;dsimp only;rw [ZR,Cq0,List.take_of_length_le (Nat.le_refl _)];rfl
 have h1:loop F (ZjJ F w) (w.qK.flatten,0)=some (msgs w):=by
  refine Ye (fun k=>(w.qK.flatten ++ QG (w.qJ.take k),(k:Int))) (by simp [QG]) (n:=w.qJ.length) (by omega) (fun k hk next=>?_) (fun next=>?_)
  ·have hm:=Ws w.qJ k;have hm2:=Ws w.qJ (k + 1);have hrow:=sm.hel _ (List.getElem_mem hk);rw [Zbg hk] at hm2;rw [Zbg hk];rw [List.length_append,List.length_map] at hm2;unfold ZjJ;dsimp only;rw [ZI hk,Cq1,XO hk];simp only [Bq0];refine Ye (fun j=>(w.qK.flatten ++ QG (w.qJ.take k) ++ (w.qJ[k].take j).map (fun y=>y.msg),(j:Int))) (by simp) (n:=w.qJ[k].length) (by omega) (fun j hj nx=>?_) (fun nx=>?_)
   ·unfold Znb;dsimp only;rw [ZI hj,Cq1,XO hj];simp only [Bq0];rw [ZsH (by rw [List.length_append,List.length_append,List.length_map,List.length_take,List.length_singleton];omega)];simp only [Bq0];rw [Yv (by omega),List.take_add_one,List.getElem?_eq_getElem hj,List.map_append];simp
   ·unfold Znb;dsimp only;rw [ZR,Cq0,List.take_of_length_le (Nat.le_refl _),Yv (by omega),List.append_assoc]
  ·unfold ZjJ;dsimp only;rw [ZR,Cq0,List.take_of_length_le (Nat.le_refl _)];exact h3
 unfold ZAy;refine Ye (fun k=>((w.qK.take k).flatten,(k:Int))) (by simp) (n:=w.qK.length) (by omega) (fun k hk next=>?_) (fun next=>?_)
 ·have hm:=Km w.qK k;have hm2:=Km w.qK (k + 1);rw [Zc5 hk,List.length_append] at hm2;rw [Zc5 hk];unfold Znc;dsimp only;rw [ZI hk,Cq1,XO hk];simp only [Bq0];rw [ZsH (by omega)];simp only [Bq0];rw [Yv (by omega)]
 ·unfold Znc;dsimp only;rw [ZR,Cq0,List.take_of_length_le (Nat.le_refl _)];exact h1
def Zdo (n:Nat) (l:List Int):List Bool:= (List.range n).map fun i:Nat=>decide (((i:Nat):Int) ∈ l)
theorem ZuY {n:Nat} {l:List Int} {x:Int} (h0:0 <=x) (h1:x < (n:Int)):ZT (Zdo n l) x=some (decide (x ∈ l)):=by
 obtain⟨k,rfl⟩:∃ k:Nat,x= (k:Int):= ⟨x.toNat,by omega⟩
 rw [YB default (by simp [Zdo];omega)];simp [Zdo,show k < n by omega]
theorem ZuX {n:Nat} {l:List Int} {x:Int} (h0:0 <=x) (h1:x < (n:Int)):Yt (Zdo n l) x true=Zdo n (l ++ [x]):=by
 obtain⟨k,rfl⟩:∃ k:Nat,x= (k:Int):= ⟨x.toNat,by omega⟩
 unfold Yt Zdo;rw [Int.toNat_natCast];apply List.ext_getElem?;intro i;rw [List.getElem?_set];by_cases hi:i < n
 ·by_cases e:k=i
  ·subst e;rw [if_pos rfl];simp [hi]
  ·rw [if_neg e];have:((i:Int)= (k:Int))↔False:= ⟨fun q=>e (by omega),False.elim⟩
   simp [hi,this]
 ·by_cases e:k=i
  ·subst e;omega
  ·rw [if_neg e];simp [hi]
theorem ZdO {α:Type} {l:List α}:l.Nodup↔∀ k (h:k < l.length),l[k] ∉ l.take k:=by
 constructor
 ·intro hn k hk hm;obtain⟨j,hj,e⟩:=List.getElem_of_mem hm;rw [List.length_take] at hj;rw [List.getElem_take] at e;have:= (List.getElem_inj hn).1 e;omega
 ·intro h;rw [List.nodup_iff_pairwise_ne] <;> skip
  rw [List.pairwise_iff_getElem];intro i j hi hj hij e;exact h j hj (by rw [← e];exact List.mem_take_iff_getElem.2 ⟨i,by omega,rfl⟩)
theorem ZiA {l:List Int} {n:Nat}:l.Perm (Xe n)↔l.Nodup∧(∀ x ∈ l,0 <=x∧x < (n:Int))∧l.length=n:=by
 have hn:(Xe n).Nodup:=by
  unfold Xe;exact List.Pairwise.map _ (fun a b h q=>h (by have:((a:Nat):Int)= ((b:Nat):Int):=q;omega)) List.nodup_range
 constructor
 ·intro h;refine⟨h.nodup_iff.2 hn,fun x hx=>?_,by rw [h.length_eq,XL]⟩;have:=h.mem_iff.1 hx;unfold Xe at this;obtain⟨k,hk,rfl⟩:=List.mem_map.1 this;have:=List.mem_range.1 hk;exact⟨by show(0:Int) <= (k:Int);omega,by show(k:Int) < _;omega⟩
 ·rintro⟨h1,h2,h3⟩
  have hsub:l ⊆ Xe n:=fun x hx=>by
   obtain⟨a,b⟩:=h2 x hx;unfold Xe;exact List.mem_map.2 ⟨x.toNat,List.mem_range.2 (by omega),by show((x.toNat:Nat):Int)=x;omega⟩
  have hsub2:Xe n ⊆ l:=fun x hx=>by
   apply Classical.byContradiction;intro hx2
   have:= (List.nodup_cons.2 ⟨hx2,h1⟩).length_le_of_subset (l₂:=Xe n) (fun y hy=>by
    rcases List.mem_cons.1 hy with z | z
    ·rw [z];exact hx
    ·exact hsub z)
   rw [List.length_cons,XL] at this;omega
  exact(List.perm_ext_iff_of_nodup h1 hn).2 fun a=>⟨fun h=>hsub h,fun h=>hsub2 h⟩
theorem Zw5 {F:Nat} (hF:400000 <=F) {w:Zb} (h0:0 <=w.said) {l:List Int} (hl:l.length <=330000):∃ b,loop F (Zd4 w l) (0,List.replicate w.said.toNat false)=some b∧(b=true↔l.Perm (Xe w.said.toNat)):=by
 rw [ZiA]
 refine J7 false (some ((l.length:Int)==w.said)) (fun k=>((k:Int),Zdo w.said.toNat (l.take k))) (by
  simp only [List.take_zero];congr 1;unfold Zdo;apply List.ext_getElem?;intro i;by_cases hi:i < w.said.toNat <;> simp [hi]) (fun k=>∃ h:k < l.length,¬ (0 <=l[k]∧l[k] < w.said∧l[k] ∉ l.take k)) (n:=l.length) (by omega) (fun k hk=>?_) (fun next=>?_) (fun k hk hc=>?_) (fun hno=>⟨_,rfl,?_⟩)
 ·by_cases hr:0 <=l[k]∧l[k] < w.said
  ·have hr2:l[k] < (w.said.toNat:Int):=by omega
   have b0:∀ next,Zd4 w l ((k:Int),Zdo w.said.toNat (l.take k)) next=bif decide (l[k] ∈ l.take k) then some false else next (((k + 1:Nat):Int),Zdo w.said.toNat (l.take (k + 1))):=fun next=>by
    unfold Zd4;dsimp only;rw [ZI hk,Cq1,XO hk];simp only [Bq0];rw [decide_eq_false (show ¬ l[k] < 0 by omega),decide_eq_false (show ¬ l[k] >=w.said by omega)];simp only [Bool.or_self,Bool.not_false,YK];rw [ZuY hr.1 hr2];simp only [Bq0,Bool.false_or];rw [ZuX hr.1 hr2,Yv (by omega),List.take_add_one,List.getElem?_eq_getElem hk];rfl
   by_cases hs:l[k] ∈ l.take k
   ·refine .inl ⟨fun next=>?_,hk,fun q=>q.2.2 hs⟩;rw [b0,decide_eq_true hs];rfl
   ·refine .inr ⟨fun next=>?_,fun⟨_,q⟩=>q ⟨hr.1,hr.2,hs⟩⟩;rw [b0,decide_eq_false hs];rfl
  ·refine .inl ⟨fun next=>?_,hk,fun q=>hr ⟨q.1,q.2.1⟩⟩;unfold Zd4;dsimp only;rw [ZI hk,Cq1,XO hk];simp only [Bq0]
   have:(decide (l[k] < 0) || decide (l[k] >=w.said))=true:=by
    rw [← Bool.not_eq_false];intro z;simp only [Bool.or_eq_false_iff,decide_eq_false_iff_not] at z;exact hr ⟨by omega,by omega⟩
   rw [this];rfl
 ·unfold Zd4;dsimp only;rw [ZR];rfl
 ·obtain⟨h,q⟩:=hc;simp only [Bool.false_eq_true,false_iff];rintro⟨n1,n2,_⟩;have:=n2 _ (List.getElem_mem h);exact q ⟨this.1,by omega,ZdO.1 n1 k h⟩
 ·have hall:∀ k (h:k < l.length),0 <=l[k]∧l[k] < w.said∧l[k] ∉ l.take k:=fun k h=>Classical.byContradiction fun q=>hno k h ⟨h,q⟩
  rw [beq_iff_eq]
  constructor
  ·intro h;refine⟨ZdO.2 fun k hk=>(hall k hk).2.2,fun x hx=>?_,by omega⟩;obtain⟨k,hk,rfl⟩:=List.getElem_of_mem hx;have:=hall k hk;exact⟨this.1,by omega⟩
  ·rintro⟨_,_,h⟩;omega
noncomputable def ifc {α:Sort _} (c:Prop) (a b:α):α:=@ite α c (Classical.propDecidable c) a b
theorem Xq {α:Sort _} {c:Prop} (h:c) {a b:α}:ifc c a b=a:=by unfold ifc;exact if_pos h
theorem XC {α:Sort _} {c:Prop} (h:¬ c) {a b:α}:ifc c a b=b:=by unfold ifc;exact if_neg h
theorem J6 {β γ:Type} {body:γ ->(γ ->Option β) ->Option β} {r1 r2:Option β} {s0:γ} (S:Nat ->γ) (h0:S 0=s0) (c:Nat ->Prop) {n F:Nat} (hF:n < F)
 (hb:∀ k,k < n ->∀ next,body (S k) next=ifc (c k) (next (S (k + 1))) r1) (he:∀ next,body (S n) next=r2):loop F body s0=ifc (∀ k,k < n ->c k) r2 r1:=by
 by_cases hall:∀ k,k < n ->c k
 ·rw [Xq hall];exact Ye S h0 hF (fun k hk next=>by rw [hb k hk,Xq (hall k hk)]) he
 ·rw [XC hall];have hz:∃ k,k < n∧¬ c k:=Classical.byContradiction fun q=>hall fun p hp=>Classical.byContradiction fun q2=>q ⟨p,hp,q2⟩
  obtain⟨k0,hk0⟩:=hz;obtain⟨m,_,hm,hlt⟩:=Qb (c:=fun k=>k < n∧¬ c k) hk0;exact Ye S h0 (n:=m) (by omega) (fun k hk next=>by rw [hb k (by omega),Xq (Classical.byContradiction fun q=>hlt k hk ⟨by omega,q⟩)]) (fun next=>by rw [hb m hm.1,XC hm.2])
theorem Zx3 {α:Type} {z:α} {c:Nat} {a:Int} (h0:0 <=a) (h:c * a.toNat <=100000):mkL z c a a=some (List.replicate a.toNat z):=by
 unfold mkL;have e:Nat.ble (c * a.toNat) 100000=true:=by rw [Nat.ble_eq];exact h
 rw [decide_eq_true h0,decide_eq_true (show a <=a by omega),e];rfl
theorem ZdN {c:Prop} {b:Bool} (h:b=true↔c) {β:Type} (x y:β):(bif !b then x else y)=ifc c y x:=by
 cases b with
 | true=>rw [Xq (h.1 rfl)];rfl
 | false=>rw [XC (fun q=>by have:=h.2 q;cases this)];rfl
def ZqH (w:Zb) (p:Nat):Prop:=0 <=inn w p ->(spR w p).is= (spR w (inn w p).toNat).is∧(spR w p).at_= (spR w (inn w p).toNat).at_∧(spR w p).letter= (spR w (inn w p).toNat).letter
def Zwo (w:Zb) (m p:Nat):Prop:= (E w m p).here=false ->RtX w p (E w m p).Z9 (E w m p).age
def ZqE (w:Zb) (x:Zd):Prop:= (x.kind=1 ->UZ w x.Z9 x.Ya false)∧(x.kind=3 ->RtX w x.place.toNat x.at_ x.age)
section
variable {F:Nat} {w:Zb}
theorem Zxj (hF:400000 <=F) (sm:Kl 400 w) (h:ShR w):loop F (Zgo F w (Za4 w)) 0=ifc (∀ k,k < w.qG.length ->ZqE w (ZF w k)) (some (decide ((msgs w).Perm (Xe w.said.toNat)))) (some false):=by
 have W3:=sm.qG;have s:=h.KA;refine J6 (fun k=>(k:Int)) rfl (fun k=>ZqE w (ZF w k)) (n:=w.qG.length) (by omega) (fun k hk next=>?_) (fun next=>?_)
 ·have hl:=h.Xp (ZF w k) (Yn hk);unfold Zgo;rw [ZI hk,Cq1,YB default hk];simp only [Bq0]
  change (gd ((ZF w k).kind==1) (Zp1 w (Za4 w) (ZF w k).Ya (ZF w k).Z9 false) default).bind (fun Zon=>(gd ((!(((ZF w k).kind==1) && (!Zon))) && ((ZF w k).kind==3)) (ZT (Za4 w) (ZF w k).place) default).bind fun Zom=>(gd ((!(((ZF w k).kind==1) && (!Zon))) && ((ZF w k).kind==3)) (Znd w (ZF w k).place Zom (ZF w k).at_ (ZF w k).age) default).bind fun x159=>(bif((((ZF w k).kind==1) && (!Zon)) || (((ZF w k).kind==3) && (!x159))) then some false else next (Xd ((k:Int) + 1))))=_
  rw [Yv (by omega)];generalize ZF w k=x at hl ⊢;by_cases k1:x.kind=1
  ·obtain⟨b,e,i⟩:=Zph s h.two x.Z9 x.Ya false;have k3:(x.kind==3)=false:=by rw [beq_eq_false_iff_ne];omega
   rw [show(x.kind==1)=true from beq_iff_eq.2 k1,k3,YK,e];simp only [Bq0,Bool.true_and,Bool.and_false,Xy,Bool.false_and,Bool.or_false];have hi:b=true↔ZqE w x:=i.trans ⟨fun q=>⟨fun _=>q,fun q2=>by omega⟩,fun q=>q.1 k1⟩;exact ZdN hi _ _
  ·rw [show(x.kind==1)=false from beq_eq_false_iff_ne.2 k1,Xy];simp only [Bq0,Bool.false_and,Bool.not_false,Bool.true_and,Bool.false_or];by_cases k3:x.kind=3
   ·obtain⟨n1,n2,n3⟩:=hl.ntd k3;obtain⟨p,hp⟩:∃ p:Nat,x.place= (p:Int):= ⟨x.place.toNat,by omega⟩
    have hpl:p < w.Zv.length:=by omega
    rw [show(x.kind==3)=true from beq_iff_eq.2 k3,YK,hp,ZbZ hpl];simp only [Bq0,YK];rw [ZfN s h.two hpl];simp only [Bq0,Bool.true_and]
    have hi:decide (RtX w p x.at_ x.age)=true↔ZqE w x:=by
     rw [decide_eq_true_eq];unfold ZqE;rw [hp,Int.toNat_natCast];exact⟨fun q=>⟨fun q2=>absurd q2 k1,fun _=>q⟩,fun q=>q.2 k3⟩
    exact ZdN hi _ _
   ·rw [show(x.kind==3)=false from beq_eq_false_iff_ne.2 k3,Xy];simp only [Bq0,Xy,Bool.false_and,Cq0];rw [Xq (show ZqE w x from⟨fun q=>absurd q k1,fun q=>absurd q k3⟩)]
 ·unfold Zgo;rw [ZR,Cq0,Zmt hF sm];simp only [Bq0];have h1:=h.sd1;have h2:=h.sd2;rw [Zx3 h1 (by omega)];simp only [Bq0]
  have hm:(msgs w).length <=320400:=by
   obtain⟨B1,B2,B3⟩:=BdM.of sm;unfold msgs;rw [List.length_append,List.length_append];omega
  obtain⟨b,e,i⟩:=Zw5 hF h.sd1 (l:=msgs w) (by omega);rw [e];congr 1;by_cases hq:(msgs w).Perm (Xe w.said.toNat)
  ·rw [decide_eq_true hq];exact i.2 hq
  ·rw [decide_eq_false hq,← Bool.not_eq_true,i];exact hq
theorem Zxk (hF:400000 <=F) (sm:Kl 400 w) (h:ShR w):loop F (Zgp F w) (Za4 w,0)=ifc (∀ m,m < w.qJ.length ->∀ k,k < (ZH w m).length ->UZ w (m:Int) ((ZH w m).getD k default) true) (loop F (Zgo F w (Za4 w)) 0) (some false):=by
 have W2:=sm.qJ;have s:=h.KA;refine J6 (fun m=>(Za4 w,(m:Int))) rfl (fun m=>∀ k,k < (ZH w m).length ->UZ w (m:Int) ((ZH w m).getD k default) true) (n:=w.qJ.length) (by omega) (fun m hm next=>?_) (fun next=>?_)
 ·have hrow:=sm.hel (ZH w m) (Yn hm);unfold Zgp;dsimp only;rw [ZI hm,Cq1,YB [] hm];simp only [Bq0]
  change loop F (ZjV w (m:Int) next (ZH w m)) (Za4 w,0)=_
  refine J6 (fun j=>(Za4 w,(j:Int))) rfl (fun k=>UZ w (m:Int) ((ZH w m).getD k default) true) (n:= (ZH w m).length) (by omega) (fun j hj nx=>?_) (fun nx=>?_)
  ·unfold ZjV;dsimp only;rw [ZI hj,Cq1,YB default hj];simp only [Bq0];obtain⟨b,e,i⟩:=Zph s h.two (m:Int) ((ZH w m).getD j default) true;rw [e];simp only [Bq0];rw [Yv (by omega)];exact ZdN i _ _
  ·unfold ZjV;dsimp only;rw [ZR,Cq0,Yv (by omega)]
 ·unfold Zgp;dsimp only;rw [ZR,Cq0]
theorem ZCA (hF:400000 <=F) (h:ShR w):loop F (Zgq F w (Za4 w)) 0=ifc (∀ m,m < w.qQ.length ->∀ p,p < w.Zv.length ->Zwo w m p) (loop F (Zgp F w) (Za4 w,0)) (some false):=by
 have s:=h.KA;have h5:=s.m2;have h8:=s.p2;refine J6 (fun m=>(m:Int)) rfl (fun m=>∀ p,p < w.Zv.length ->Zwo w m p) (n:=w.qQ.length) (by omega) (fun m hm next=>?_) (fun next=>?_)
 ·unfold Zgq;rw [ZI hm,Cq1,s.row hm];simp only [Bq0];refine J6 (fun p=>(p:Int)) rfl (fun p=>Zwo w m p) (n:=w.Zv.length) (by omega) (fun p hp nx=>?_) (fun nx=>?_)
  ·unfold Znx;rw [s.len hm,ZI hp,Cq1,s.ent hm hp];simp only [Bq0];rw [Yv (by omega)];cases hh:(E w m p).here with
   | true=>
     simp only [Bool.not_true,Xy,Bq0,Bool.false_and,Cq0];rw [Xq (show Zwo w m p from fun q=>by rw [hh] at q;cases q)]
   | false=>
     simp only [Bool.not_false,YK,Bool.true_and];rw [ZbZ hp];simp only [Bq0];rw [ZfN s h.two hp];simp only [Bq0];exact ZdN (show decide (RtX w p (E w m p).Z9 (E w m p).age)=true↔Zwo w m p from by rw [decide_eq_true_eq];exact⟨fun q _=>q,fun q=>q hh⟩) _ _
  ·unfold Znx;rw [s.len hm,ZR,Cq0,Yv (by omega)]
 ·unfold Zgq;rw [ZR,Cq0]
theorem ZCz (hF:400000 <=F) (h:ShR w):loop F (Zgr F w (Za4 w)) 0=ifc (∀ p,p < w.Zv.length ->ZqH w p) (loop F (Zgq F w (Za4 w)) 0) (some false):=by
 have s:=h.KA;have h5:=s.m2;have h8:=s.p2;refine J6 (fun p=>(p:Int)) rfl (fun p=>ZqH w p) (n:=w.Zv.length) (by omega) (fun p hp next=>?_) (fun next=>?_)
 ·unfold Zgr;rw [ZI hp,Cq1,XU hp];simp only [Bq0];rw [Yv (by omega)];by_cases hi:0 <=inn w p
  ·obtain⟨q,hq⟩:∃ q:Nat,inn w p= (q:Int):= ⟨(inn w p).toNat,by omega⟩
   have hr:= (h.inn.rng p hp).2;have hql:q < w.Zv.length:=by omega
   rw [hq,decide_eq_true (show(q:Int) >=0 by omega),YK,ZbZ hp];simp only [Bq0,YK];rw [ZbZ hql];simp only [Bq0,Bool.true_and]
   have t0:ZqH w p↔((spR w p).is= (spR w q).is∧(spR w p).at_= (spR w q).at_∧(spR w p).letter= (spR w q).letter):=by
    unfold ZqH;rw [hq,Int.toNat_natCast];exact⟨fun z=>z (by omega),fun z _=>z⟩
   by_cases a1:(spR w p).is= (spR w q).is
   ·rw [a1,JJ];simp only [Bool.not_false,YK,Bq0,Bool.false_or];by_cases a2:(spR w p).at_= (spR w q).at_
    ·rw [a2,JJ];simp only [Bool.not_false,YK,Bq0,Bool.false_or];rw [J8,ZaV];by_cases a3:(spR w p).letter= (spR w q).letter
     ·rw [if_neg (fun z=>z a3),Xq (t0.2 ⟨a1,a2,a3⟩)]
     ·rw [if_pos a3,XC (fun z=>a3 (t0.1 z).2.2)]
    ·rw [J8,decide_eq_true a2];simp only [Bool.not_true,Xy,Bq0,Bool.true_or,Cq1];rw [XC (fun z=>a2 (t0.1 z).2.1)]
   ·have:((spR w p).is != (spR w q).is)=true:=bne_iff_ne.2 a1;rw [this];simp only [Bool.not_true,Xy,Bq0,Bool.true_or,Cq1];rw [XC (fun z=>a1 (t0.1 z).1)]
  ·rw [decide_eq_false (show ¬ inn w p >=0 by omega)];simp only [Xy,Bq0,Bool.false_and,Cq0];rw [Xq (show ZqH w p from fun q=>absurd q hi)]
 ·unfold Zgr;rw [ZR,Cq0]
def Zl7 (w:Zb) (k:Nat):List XI:= (List.range k).map (spR w) ++ List.replicate (w.Zv.length - k) ⟨0,0,0,false⟩
theorem ZwV {w:Zb} {k:Nat} (h:k < w.Zv.length):Yt (Zl7 w k) (k:Int) (spR w k)=Zl7 w (k + 1):=by
 unfold Yt Zl7;rw [Int.toNat_natCast,show w.Zv.length - k= (w.Zv.length - (k + 1)) + 1 by omega,List.replicate_succ,List.set_append_right _ _ (by simp),List.range_succ,List.map_append];simp
theorem ZwW {w:Zb} {k:Nat} (h:k <=w.Zv.length):(Zl7 w k).length=w.Zv.length:=by simp [Zl7];omega
theorem Zu6 (hF:400000 <=F) (sm:Kl 400 w) (h:ShR w):loop F (ZjW F w) (0,List.replicate w.Zv.length ⟨0,0,0,false⟩)=ifc (∀ p,p < w.Zv.length ->(QF w p).length=1) (loop F (Zgr F w (Za4 w)) 0) (some false):=by
 have s:=h.KA;have h5:=s.m2;have h8:=s.p2;have W:=sm.qG;refine J6 (fun p=>((p:Int),Zl7 w p)) (by simp [Zl7]) (fun p=>(QF w p).length=1) (n:=w.Zv.length) (by omega) (fun p hp next=>?_) (fun next=>?_)
 ·unfold ZjW;dsimp only;rw [ZI hp,Cq1,ZAi (by omega) s (fun x hx=>⟨(h.Xp x hx).Xc.len,by have:= (sm.Xp x hx).1;omega⟩) (by omega) hp];simp only [Bq0];rw [YB default (by rw [ZwW (by omega)];exact hp)];simp only [Bq0];rw [Yv (by omega),show U7 (QF w p)=spR w p from rfl,ZwV hp];exact ZdN decide_eq_true_iff _ _
 ·unfold ZjW;dsimp only;rw [ZR,Cq0,show Zl7 w w.Zv.length=Za4 w from by simp [Zl7,Za4]]
end
theorem UZ.ZLl {w:Zb} (hag:∀ p,p < w.Zv.length ->(sp w p).age <=30) {m:Int} {y:Zr}:UZ w m y false↔QY w m y:=by
 unfold UZ QY
 constructor
 ·rintro⟨a1,a2,a3,a4,a5,a6,a7,a8,_,b⟩;exact⟨a1,a2,a3,a4,b rfl,a7,by rw [Int.add_comm,Za3 a5 a6];exact a8⟩
 ·rintro⟨a1,a2,a3,a4,b,a7,a8⟩;have h1:=b.1;have h2:=b.2.1;have h3:=hag y.place.toNat (by omega);rw [Int.add_comm,Za3 (by omega) (by omega)] at a8;exact⟨a1,a2,a3,a4,by omega,by omega,a7,a8,fun q=>(by cases q),fun _=>b⟩
theorem UZ.ZLm {w:Zb} (hag:∀ p,p < w.Zv.length ->(sp w p).age <=30) {m:Nat} (hm:m < w.qQ.length) {y:Zr}:UZ w (m:Int) y true↔QY w (m:Int) y∧sp w y.place.toNat= ⟨(m:Int),false,y.age⟩:=by
 constructor
 ·rintro⟨a1,a2,a3,a4,a5,a6,a7,a8,b,_⟩;have e:=b rfl;refine⟨⟨a1,a2,a3,a4,⟨a5,by rw [e];exact Int.le_refl _,by omega,by omega,fun _=>by rw [e],fun q=>?_⟩,a7,by rw [Int.add_comm,Za3 a5 a6];exact a8⟩,e⟩;rw [e] at q;exact absurd rfl q
 ·rintro⟨⟨a1,a2,a3,a4,b,a7,a8⟩,e⟩;have h1:=b.1;have h2:=b.2.1;have h3:=hag y.place.toNat (by omega);rw [Int.add_comm,Za3 (by omega) (by omega)] at a8;exact⟨a1,a2,a3,a4,by omega,by omega,a7,a8,fun _=>e,fun q=>(by cases q)⟩
theorem ZdH {w:Zb} (h:ShR w) {p:Nat} (hp:p < w.Zv.length) (hl:(YM w p).length=1):(sp w p).age <=30:=by
 rcases ZaF hl with⟨m,h1,h2,h3⟩ | ⟨x,h1,h2,i,h3,h4,h5⟩
 ·rw [h3];exact(h.ent m h1 p hp).2.1
 ·rw [h5];exact((h.Xp x h1).KD i h3).2.2.2.2
theorem ZqG {w:Zb} (h:ShR w) (hl:∀ p,p < w.Zv.length ->(QF w p).length=1) {p:Nat} (hp:p < w.Zv.length):ZqH w p↔(0 <=inn w p ->(sp w (inn w p).toNat).machine= (sp w p).machine∧(sp w (inn w p).toNat).here= (sp w p).here∧((sp w p).here=false ->Zku w p (inn w p))):=by
 unfold ZqH;by_cases hi:0 <=inn w p
 ·obtain⟨q,hq⟩:∃ q:Nat,inn w p= (q:Int):= ⟨(inn w p).toNat,by omega⟩
  have hr:= (h.inn.rng p hp).2;have hql:q < w.Zv.length:=by omega
  rw [hq,Int.toNat_natCast,← ZoE h.two p,← ZoE h.two q];unfold toS;have same:=fun e=>ZoM h.two (hl p hp) (hl q hql) e
  constructor
  ·intro z _;obtain⟨a,b,c⟩:=z (by omega);exact⟨b.symm,a.symm,(same a).1 c⟩
  ·intro z _;obtain⟨a,b,c⟩:=z (by omega);exact⟨b.symm,a.symm,(same b.symm).2 c⟩
 ·exact⟨fun _ q=>absurd q hi,fun _ q=>absurd q hi⟩
theorem ZiM {w:Zb} {P:Zd ->Prop}:(∀ k,k < w.qG.length ->P (ZF w k))↔∀ x ∈ w.qG,P x:=by
 constructor
 ·intro h x hx;obtain⟨i,hi,rfl⟩:=List.getElem_of_mem hx;have:=h i hi;unfold ZF at this
  rwa [List.getD_eq_getElem?_getD,List.getElem?_eq_getElem hi] at this
 ·intro h k hk;exact h _ (Yn hk)
theorem WK {α:Type} {l:List α} {d:α} {P:α ->Prop}:(∀ k,k < l.length ->P (l.getD k d))↔∀ x ∈ l,P x:=by
 constructor
 ·intro h x hx;obtain⟨i,hi,rfl⟩:=List.getElem_of_mem hx;have:=h i hi
  rwa [List.getD_eq_getElem?_getD,List.getElem?_eq_getElem hi] at this
 ·intro h k hk;exact h _ (Yn hk)
theorem Zlh {F:Nat} (hF:400000 <=F) {w:Zb} (sm:Kl 400 w):∃ b,Zny F w=some b∧(b=true↔Wd w):=by
 have sm9:Kl 900 w:=sm.mono (by omega);obtain⟨b,e,i⟩:=ZuV (F:=F) (by omega) sm9;unfold Zny;rw [e];simp only [Bq0];rw [ZdN i];by_cases h:ShR w
 ·rw [Xq h];have hz:=h.KA.p2;rw [Zx3 (by omega) (by rw [Int.toNat_natCast];omega),Int.toNat_natCast];simp only [Bq0];rw [Zu6 hF sm h,ZCz hF h,ZCA hF h,Zxk hF sm h,Zxj hF sm h];by_cases h1:∀ p,p < w.Zv.length ->(QF w p).length=1
  ·have h1P:∀ p,p < w.Zv.length ->(YM w p).length=1:=fun p hp=>by rw [len_eq h.two];exact h1 p hp
   have hag:∀ p,p < w.Zv.length ->(sp w p).age <=30:=fun p hp=>ZdH h hp (h1P p hp)
   rw [Xq h1];by_cases h2:∀ p,p < w.Zv.length ->ZqH w p
   ·rw [Xq h2];by_cases h3:∀ m,m < w.qQ.length ->∀ p,p < w.Zv.length ->Zwo w m p
    ·rw [Xq h3];have hhd:=h.KA.hd;by_cases h4:∀ m,m < w.qJ.length ->∀ k,k < (ZH w m).length ->UZ w (m:Int) ((ZH w m).getD k default) true
     ·rw [Xq h4];by_cases h5:∀ k,k < w.qG.length ->ZqE w (ZF w k)
      ·rw [Xq h5];refine⟨_,rfl,?_⟩;rw [decide_eq_true_eq];have h5':= (ZiM (P:=ZqE w)).1 h5
       constructor
       ·intro h6;exact⟨h,h1P,fun p hp=>(ZqG h h1 hp).1 (h2 p hp),h3,fun m hm x hx=>(UZ.ZLm hag hm).1 ((WK (P:=fun x=>UZ w (m:Int) x true)).1 (h4 m (by omega)) x hx),fun x hx hk=>(UZ.ZLl hag).1 ((h5' x hx).1 hk),fun x hx hk=>(h5' x hx).2 hk,h6⟩
       ·intro h6;exact h6.msg
      ·rw [XC h5];refine⟨_,rfl,?_⟩;simp only [Bool.false_eq_true,false_iff];intro z;exact h5 (ZiM.2 fun x hx=>⟨fun q=>(UZ.ZLl hag).2 (z.mai x hx q),fun q=>z.ntd x hx q⟩)
     ·rw [XC h4];refine⟨_,rfl,?_⟩;simp only [Bool.false_eq_true,false_iff];intro z;exact h4 fun m hm=>(WK (P:=fun x=>UZ w (m:Int) x true)).2 fun x hx=>(UZ.ZLm hag (by omega)).2 (z.hel m (by omega) x hx)
    ·rw [XC h3];refine⟨_,rfl,?_⟩;simp only [Bool.false_eq_true,false_iff];intro z;exact h3 z.ent
   ·rw [XC h2];refine⟨_,rfl,?_⟩;simp only [Bool.false_eq_true,false_iff];intro z;exact h2 fun p hp=>(ZqG h h1 hp).2 (z.tog p hp)
  ·rw [XC h1];refine⟨_,rfl,?_⟩;simp only [Bool.false_eq_true,false_iff];intro z;exact h1 fun p hp=>by rw [← len_eq h.two];exact z.loc p hp
 ·rw [XC h];refine⟨_,rfl,?_⟩;simp only [Bool.false_eq_true,false_iff];intro z;exact h z.shr
end Go.Proofs.YtbmbbcaaimehkaaGreat
end
section
namespace Go.Proofs.YtbmbbcaaimehkaaGreat
open Go.Lf
theorem Zw3 {F:Nat} (hF:400000 <=F) (w:Zb):∃ b,ZAL F w=some b∧(b=true ->Kl 201 w):=by
 unfold ZAL;refine QS (fun _=>⟨false,rfl,fun q=>by cases q⟩) (fun hc=>?_);simp only [Bool.or_eq_false_iff,decide_eq_false_iff_not] at hc;obtain⟨⟨⟨⟨c1,c2⟩,c3⟩,c4⟩,c5⟩:=hc
 have e3:loop F (Zgs w) 0=ifc (∀ k,k < w.qG.length ->(ZF w k).qV.length <=20∧(ZF w k).Yj.length <=20) (some true) (some false):=by
  refine J6 (fun k=>(k:Int)) rfl (fun k=>(ZF w k).qV.length <=20∧(ZF w k).Yj.length <=20) (n:=w.qG.length) (by omega) (fun k hk next=>?_) (fun next=>?_)
  ·unfold Zgs;rw [ZI hk,Cq1,YB default hk];simp only [Bq0];rw [Yv (by omega),show w.qG.getD k default=ZF w k from rfl];by_cases h:(ZF w k).qV.length <=20∧(ZF w k).Yj.length <=20
   ·rw [Xq h,decide_eq_false (by omega),decide_eq_false (by omega)];rfl
   ·rw [XC h]
    have:(decide (((ZF w k).qV.length:Int) > 20) || decide (((ZF w k).Yj.length:Int) > 20))=true:=by
     rw [← Bool.not_eq_false];intro z;simp only [Bool.or_eq_false_iff,decide_eq_false_iff_not] at z;exact h ⟨by omega,by omega⟩
    rw [this];rfl
  ·unfold Zgs;rw [ZR];rfl
 have e2:loop F (Zgt F w) 0=ifc (∀ k,k < w.qJ.length ->(w.qJ.getD k []).length <=100) (loop F (Zgs w) 0) (some false):=by
  refine J6 (fun k=>(k:Int)) rfl (fun k=>(w.qJ.getD k []).length <=100) (n:=w.qJ.length) (by omega) (fun k hk next=>?_) (fun next=>?_)
  ·unfold Zgt;rw [ZI hk,Cq1,YB [] hk];simp only [Bq0];rw [Yv (by omega)];by_cases h:(w.qJ.getD k []).length <=100
   ·rw [Xq h,decide_eq_false (by omega)];rfl
   ·rw [XC h,decide_eq_true (by omega)];rfl
  ·unfold Zgt;rw [ZR];rfl
 have e1:loop F (Zgu F w) 0=ifc (∀ k,k < w.qQ.length ->(w.qQ.getD k []).length <=20) (loop F (Zgt F w) 0) (some false):=by
  refine J6 (fun k=>(k:Int)) rfl (fun k=>(w.qQ.getD k []).length <=20) (n:=w.qQ.length) (by omega) (fun k hk next=>?_) (fun next=>?_)
  ·unfold Zgu;rw [ZI hk,Cq1,YB [] hk];simp only [Bq0];rw [Yv (by omega)];by_cases h:(w.qQ.getD k []).length <=20
   ·rw [Xq h,decide_eq_false (by omega)];rfl
   ·rw [XC h,decide_eq_true (by omega)];rfl
  ·unfold Zgu;rw [ZR];rfl
 have e0:loop F (ZjX F w) 0=ifc (∀ k,k < w.qK.length ->(w.qK.getD k []).length <=100) (loop F (Zgu F w) 0) (some false):=by
  refine J6 (fun k=>(k:Int)) rfl (fun k=>(w.qK.getD k []).length <=100) (n:=w.qK.length) (by omega) (fun k hk next=>?_) (fun next=>?_)
  ·unfold ZjX;rw [ZI hk,Cq1,YB [] hk];simp only [Bq0];rw [Yv (by omega)];by_cases h:(w.qK.getD k []).length <=100
   ·rw [Xq h,decide_eq_false (by omega)];rfl
   ·rw [XC h,decide_eq_true (by omega)];rfl
  ·unfold ZjX;rw [ZR];rfl
 rw [e0];by_cases h0:∀ k,k < w.qK.length ->(w.qK.getD k []).length <=100
 ·rw [Xq h0,e1];by_cases h1:∀ k,k < w.qQ.length ->(w.qQ.getD k []).length <=20
  ·rw [Xq h1,e2];by_cases h2:∀ k,k < w.qJ.length ->(w.qJ.getD k []).length <=100
   ·rw [Xq h2,e3];by_cases h3:∀ k,k < w.qG.length ->(ZF w k).qV.length <=20∧(ZF w k).Yj.length <=20
    ·rw [Xq h3];refine⟨true,rfl,fun _=>⟨by omega,by omega,by omega,by omega,by omega,fun l hl=>?_,fun l hl=>?_,fun l hl=>?_,fun l hl=>?_⟩⟩
     ·have:= (WK (P:=fun l:List Int=>l.length <=100)).1 h0 l hl;omega
     ·have:= (WK (P:=fun l:List Zw=>l.length <=20)).1 h1 l hl;omega
     ·have:= (WK (P:=fun l:List Zr=>l.length <=100)).1 h2 l hl;omega
     ·have:= (ZiM (P:=fun x=>x.qV.length <=20∧x.Yj.length <=20)).1 h3 l hl;omega
    ·rw [XC h3];exact⟨false,rfl,fun q=>by cases q⟩
   ·rw [XC h2];exact⟨false,rfl,fun q=>by cases q⟩
  ·rw [XC h1];exact⟨false,rfl,fun q=>by cases q⟩
 ·rw [XC h0];exact⟨false,rfl,fun q=>by cases q⟩
def nx (w:Zb) (p m:Nat):Nat:= (E w m p).Z9.toNat
def tr (w:Zb) (p m:Nat):Nat ->Nat
 | 0=>m
 | i + 1=>nx w p (tr w p m i)
section
variable {F:Nat} {w:Zb}
theorem Wd.mvd (h:Wd w) (sm:Kl 900 w):Mvd 900 w.qG:=fun x hx hk=>by
 have h1:= (h.shr.Xp x hx).Xc.len;have h2:=sm.Xp x hx
 first
  | exact⟨h1,by omega⟩
  | exact⟨by omega,h1⟩
theorem Zax (hF:1000 <=F) (hM:F <=1000000) (h:Wd w) (sm:Kl 900 w) {p:Nat} (hp:p < w.Zv.length):Zd1 F w (p:Int)=some (sp w p,1):=by
 rw [Zie hF hM h.shr.KA (h.mvd sm) sm.qG hp,h.loc p hp];rfl
end
end Go.Proofs.YtbmbbcaaimehkaaGreat
end
section
namespace Go.Proofs.YtbmbbcaaimehkaaGreat
open Go.Lf
section
variable {F:Nat} {w:Zb}
theorem Zqk (hF:400000 <=F) (hM:F <=1000000) (sm:Kl 400 w) (h:Wd w):Zp2 F w=some 0:=by
 obtain⟨e,h1,h2,h3⟩:=Zsv hF hM sm;rw [h1,h3.2 h]
theorem Zoq (hF:400000 <=F) (sm:Kl 400 w) (h:Wd w):Zny F w=some true:=by
 obtain⟨b,h1,h2⟩:=Zlh hF sm;rw [h1,h2.2 h]
end
end Go.Proofs.YtbmbbcaaimehkaaGreat
end
section
namespace Go.Proofs.YtbmbbcaaimehkaaGreat
open Go.Lf
theorem app0 {α:Type} {b:Nat} {l:List α} (h:l.length <=900000) (hb:b <=1000):app b [] l=some l:=by
 rw [Zn1 (by simp;omega) hb];rfl
theorem ZgC {α β:Type} {F b:Nat} {l:List (List α)} {g:List α ->Option (List α)} {body:List (List α)×Int ->(List (List α)×Int ->Option β) ->Option β} {r:Option β} {s:List (List α)×Int} (hs:s= ([],0)) (hF:l.length < F) (hl:l.length <=900)
 (hb:∀ k (h:k < l.length) next,body (l.take k,(k:Int)) next=next (l.take (k + 1),((k + 1:Nat):Int))) (he:∀ next,body (l,(l.length:Int)) next=r):loop F body s=r:=by
 subst hs;exact Ye (fun k=>(l.take k,(k:Int))) (by simp) hF hb (fun next=>by rw [List.take_of_length_le (Nat.le_refl _)];exact he next)
theorem Zeu {α:Type} {l:List α} {k b:Nat} (h:k < l.length) (hl:l.length <=900) (hb:b <=1000):app b (l.take k) [l[k]]=some (l.take (k + 1)):=by
 rw [app1 (by rw [List.length_take];omega) hb,List.take_add_one,List.getElem?_eq_getElem h];rfl
theorem ZvV {F:Nat} (hF:1000 <=F) {l:List (List Int)} (hl:l.length < 900) (hr:∀ x ∈ l,x.length < 900):ZAs F l=some l:=by
 unfold ZAs;refine ZgC (b:=8) (g:=fun _=>none) (l:=l) rfl (by omega) (by omega) (fun k h next=>?_) (fun next=>?_)
 ·have:=hr _ (List.getElem_mem h);unfold Zm5;dsimp only;rw [ZI h,Cq1,XO h];simp only [Bq0];unfold Zm7;rw [app0 (by omega) (by omega)];simp only [Bq0];rw [Zeu h (by omega) (by omega)];simp only [Bq0];rw [Yv (by omega)]
 ·unfold Zm5;dsimp only;rw [ZR];rfl
theorem ZnN {F:Nat} (hF:1000 <=F) {l:List (List Zw)} (hl:l.length < 900) (hr:∀ x ∈ l,x.length < 900):ZAr F l=some l:=by
 unfold ZAr;refine ZgC (b:=8) (g:=fun _=>none) (l:=l) rfl (by omega) (by omega) (fun k h next=>?_) (fun next=>?_)
 ·have:=hr _ (List.getElem_mem h);unfold Zm4;dsimp only;rw [ZI h,Cq1,XO h];simp only [Bq0];unfold Zuf;rw [app0 (by omega) (by omega)];simp only [Bq0];rw [Zeu h (by omega) (by omega)];simp only [Bq0];rw [Yv (by omega)]
 ·unfold Zm4;dsimp only;rw [ZR];rfl
theorem Zst {F:Nat} (hF:1000 <=F) {l:List (List Zr)} (hl:l.length < 900) (hr:∀ x ∈ l,x.length < 900):ZAq F l=some l:=by
 unfold ZAq;refine ZgC (b:=8) (g:=fun _=>none) (l:=l) rfl (by omega) (by omega) (fun k h next=>?_) (fun next=>?_)
 ·have:=hr _ (List.getElem_mem h);unfold Zm3;dsimp only;rw [ZI h,Cq1,XO h];simp only [Bq0];unfold Zue;rw [app0 (by omega) (by omega)];simp only [Bq0];rw [Zeu h (by omega) (by omega)];simp only [Bq0];rw [Yv (by omega)]
 ·unfold Zm3;dsimp only;rw [ZR];rfl
theorem ZlM {F:Nat} (hF:1000 <=F) {w:Zb} (sm:Kl 900 w):ZvL F w=some w:=by
 have h1:=sm.Zv;have h2:=sm.qG;unfold ZvL Zm7;rw [app0 (by omega) (by omega)];simp only [Bq0];rw [ZvV hF sm.qK sm.box,ZnN hF sm.qQ sm.row,Zst hF sm.qJ sm.hel];simp only [Bq0];refine Ye (fun k=>((k:Int),w.qG.take k)) (by simp) (n:=w.qG.length) (by omega) (fun k h next=>?_) (fun next=>?_)
 ·have:=sm.Xp _ (List.getElem_mem h);unfold Zng;dsimp only;rw [ZI h,Cq1,XO h];simp only [Bq0];unfold Zm7;rw [app0 (by omega) (by omega),app0 (by omega) (by omega)];simp only [Bq0];rw [show Zd.mk w.qG[k].kind w.qG[k].Z9 w.qG[k].Ya w.qG[k].qV w.qG[k].Yj w.qG[k].place w.qG[k].at_ w.qG[k].age=w.qG[k] from rfl,Zeu h (by omega) (by omega)];simp only [Bq0];rw [Yv (by omega)]
 ·unfold Zng;dsimp only;rw [ZR,Cq0,List.take_of_length_le (Nat.le_refl _)]
def Ka (p:Int) (n:Nat):Prop:=0 <=p∧p < (n:Int)
instance (p:Int) (n:Nat):Decidable (Ka p n):=by unfold Ka;infer_instance
def Ask (w:Zb) (s:ZC):Prop:=
 (s.act=1∧Ka s.a w.qQ.length∧Ka s.b w.Zv.length)∨(s.act=2∧Ka s.a w.Zv.length∧Ka s.b w.qQ.length)∨(s.act=3∧Ka s.a w.Zv.length∧Ka s.b w.Zv.length)∨(s.act=4∧Ka s.a w.Zv.length)∨(s.act=5∧Ka s.a w.qG.length)
instance (w:Zb) (s:ZC):Decidable (Ask w s):=by unfold Ask;infer_instance
theorem ZCU (p:Int) (n:Nat):(decide (p >=0) && decide (p < (n:Int)))=decide (Ka p n):=by
 by_cases h:Ka p n
 ·rw [decide_eq_true h,decide_eq_true h.1,decide_eq_true h.2];rfl
 ·rw [decide_eq_false h,← Bool.not_eq_true];intro z;simp only [Ba0,decide_eq_true_eq] at z;exact h ⟨z.1,z.2⟩
theorem ZA9 (w:Zb) (s:ZC):Zsh w s=some (decide (Ask w s)):=by
 have e:∀ k:Int,(s.act==k)=decide (s.act=k):=fun k=>Yg _ _
 unfold Zsh Znl ZjQ;simp only [ZCU];by_cases h1:s.act=1
 ·rw [e,decide_eq_true h1,Cq1];by_cases a:Ka s.a w.qQ.length
  ·by_cases b:Ka s.b w.Zv.length
   ·simp [Ask,h1,a,b]
   ·simp [Ask,h1,a,b]
  ·simp [Ask,h1,a]
 rw [e 1,decide_eq_false h1,Cq0];by_cases h2:s.act=2
 ·rw [e,decide_eq_true h2,Cq1];by_cases a:Ka s.a w.Zv.length
  ·by_cases b:Ka s.b w.qQ.length
   ·simp [Ask,h2,a,b]
   ·simp [Ask,h2,a,b]
  ·simp [Ask,h2,a]
 rw [e 2,decide_eq_false h2,Cq0];by_cases h3:s.act=3
 ·rw [e,decide_eq_true h3,Cq1];by_cases a:Ka s.a w.Zv.length
  ·by_cases b:Ka s.b w.Zv.length
   ·simp [Ask,h3,a,b]
   ·simp [Ask,h3,a,b]
  ·by_cases b:Ka s.b w.Zv.length
   ·simp [Ask,h3,a,b]
   ·simp [Ask,h3,a,b]
 rw [e 3,decide_eq_false h3,Cq0];by_cases h4:s.act=4
 ·rw [e,decide_eq_true h4,Cq1];by_cases a:Ka s.a w.Zv.length
  ·simp [Ask,h4,a]
  ·simp [Ask,h4,a]
 rw [e 4,decide_eq_false h4,Cq0];by_cases h5:s.act=5
 ·rw [e,decide_eq_true h5,Cq1];by_cases a:Ka s.a w.qG.length
  ·simp [Ask,h5,a]
  ·simp [Ask,h5,a]
 rw [e 5,decide_eq_false h5,Cq0];simp [Ask,h1,h2,h3,h4,h5]
end Go.Proofs.YtbmbbcaaimehkaaGreat
end
