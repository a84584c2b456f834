/- Plays Part 15 of the proof. -/
import Derived.Test.YtcnahmgekicbdaaGreatPa14
set_option linter.all false
set_option maxHeartbeats 2000000
section
set_option maxRecDepth 20000
noncomputable section
namespace Go.Proofs.YtcnahmgekicbdaaGreat
open Go.Lf
section
open Go.Xy Go.Lf
theorem ZOu {F wm h} {p0:Zc} {p1:(List XC)} {Zq Zp YF YE} {r} (Yc:wm <=h.size) (ZB:Sl Zk wm h Zq Zp p0.Zi) (XU:Sl WY wm h YF YE p1) (hL:ZDX F p0 p1=some r):
 WR XX 19 #[.agg [.int .i64 p0.qG,.slice Zq p0.Zi.length Zp].toArray,.slice YF p1.length YE] wm h (CP (fun(v:Value) (Gb:List (Ast wm))=>∃ Q9 JA Q8 Zfl Zfa Zfg Zfn Zfk Ze9 Zff ZbR Zfj Ze8 Zfe ZbQ Zfi Ze7 Zfd ZbP Zfh Ze6 Zfc,∃ (ZbO:Nat ->(Option Addr×Nat×Nat)),∃ ZpQ ZpJ ZpN ZpP ZpI ZpM,v= .tuple [.agg [.slice Q9 JA Q8,.slice Zfl Zfa Zfg,.slice Zfk Ze9 Zff,.slice Zfj Ze8 Zfe,.slice Zfi Ze7 Zfd,.slice Zfh Ze6 Zfc,.int .i64 r.1.kK].toArray,.slice ZpQ ZpJ ZpN,.slice ZpP ZpI ZpM].toArray∧Gb= [ow wm (Zm .i64) Q9 JA Q8 r.1.qV,Ym wm (Zy (Zm .i64)) Zfl Zfa Zfg Zfn r.1.qX,Ym wm (Zy (Zm .i64)) Zfk Ze9 Zff ZbR r.1.qZ,Ym wm (Zy (Zm .i64)) Zfj Ze8 Zfe ZbQ r.1.Zh,Ym wm (Zy Zl) Zfi Ze7 Zfd ZbP r.1.Zt,Ym wm ZI Zfh Ze6 Zfc ZbO r.1.kQ,ow wm Zx ZpQ ZpJ ZpN r.2.1,ow wm (Zm .i64) ZpP ZpI ZpM r.2.2]) [] h):=by
 refine bg Tryz.ntmps19 Yc Yo.nil ?_;intro T hT hS;unfold ZDX at hL;refine r3 ?_;rintro _ h2 ⟨b1,eb1,rfl,hS⟩;refine r1 ?_;rintro _ h4 ⟨b3,eb3,rfl,hS⟩;refine r7 ?_;obtain⟨x5,hx5,hL⟩:=bS hL;refine WO.cl gN rfl (Xp.fn ZUR (Zb lk Zo)) hS .n (fun g' hz hf hO=>ZOl (by rw [hz];exact hS.hw) ((hS.sl ZB).mono hf) hx5) ?_;rintro _ h31 _ ⟨b6,a7,c9,a10,n11,c12,a13,n14,c15,ZpX,a16,n17,c18,ZpW,a19,n20,c21,ZpV,a22,n23,c24,ZpU,a25,n26,c27,Zz4,a28,n29,c30,rfl,rfl⟩ hS;obtain rfl:=hS.on k2;obtain rfl:=hS.Zj k3;obtain rfl:=hS.Zj k4;obtain rfl:=hS.Zj k5;obtain rfl:=hS.Zj k6;obtain rfl:=hS.Zj k7;obtain rfl:=hS.on k8;refine r16 ?_;refine r1 ?_;have hS:=hS.nil (e:= (Zm .i64));refine WC.loop (WL.lift hL (fun p s=>match p with | (v37,v44,v46,v47,v50,v54,v59,v64,v69,v74,v79,v80)=>∃ Zq1 h33 a38 c39 n40 a48 c49 a51 c52 n53 a55 c56 n57 Zte a60 c61 n62 Ztd a65 c66 n67 Ztc a70 c71 n72 Ztb a75 c76 n77,∃ (Zs9:Nat ->(Option Addr×Nat×Nat)),∃ a81 c82 n83,s= ⟨Zq1,[],h33,none⟩∧Sp wm T h [ow wm (Zm .i64) a38 n40 c39 v37,bx wm b3 (cV none 0 0 none 0 0 none 0 0 none 0 0 none 0 0 none 0 0 0),Qb wm (Xr Zk) (a48,c49) v47,ow wm (Zm .i64) a51 n53 c52 v50,Ym wm (Zy (Zm .i64)) a55 n57 c56 Zte v54,Ym wm (Zy (Zm .i64)) a60 n62 c61 Ztd v59,Ym wm (Zy (Zm .i64)) a65 n67 c66 Ztc v64,Ym wm (Zy Zl) a70 n72 c71 Ztb v69,Ym wm ZI a75 n77 c76 Zs9 v74,ow wm Zx a81 n83 c82 v80,bx wm b6 (cG v46 a48 v47.length c49 a51 n53 c52 a55 n57 c56 a60 n62 c61 a65 n67 c66 a70 n72 c71 a75 n77 c76 v79 a81 n83 c82)] h33∧Zq1.at 4= .pointer (some ⟨b3,0,none⟩)∧Zq1.at 7= .pointer (some ⟨b6,0,none⟩)∧Zq1.at 8= .slice a38 n40 c39∧Zq1.at 13= .slice YF p1.length YE∧Zq1.at 14= .int .i64 (p1.length:Int)∧Zq1.at 15= .int .i64 v44) ⟨_,_,none,0,0,a7,c9,a10,c12,x5.w.qV.length,a13,c15,x5.w.qX.length,ZpX,a16,c18,x5.w.qZ.length,ZpW,a19,c21,x5.w.Zh.length,ZpV,a22,c24,x5.w.Zt.length,ZpU,a25,c27,x5.w.kQ.length,Zz4,a28,c30,x5.kU.length,rfl,hS.only sl,Qo⟩ ?_);clear hL hS;rintro ZgC ⟨v37,v44,v46,v47,v50,v54,v59,v64,v69,v74,v79,v80⟩ s ZGs hL ⟨Zq1,h33,a38,c39,n40,a48,c49,a51,c52,n53,a55,c56,n57,Zte,a60,c61,n62,Ztd,a65,c66,n67,Ztc,a70,c71,n72,Ztb,a75,c76,n77,Zs9,a81,c82,n83,rfl,hS,e35,e36,e41,e42,e43,e45⟩;obtain rfl:=hS.on k0;obtain rfl:=hS.on k3;obtain rfl:=hS.Zj k4;obtain rfl:=hS.Zj k5;obtain rfl:=hS.Zj k6;obtain rfl:=hS.Zj k7;obtain rfl:=hS.Zj k8;obtain rfl:=hS.on k9;dsimp only [Zoq] at hL;refine r6 ?_;refine cn hL ?_ ?_
 ·intro hc hL;refine r2 ?_;refine WC.Zgx (r:=r) (fun(p:(List Int)×Int×(List ZX)×(List Int)×(List (List Int))×(List (List Int))×(List (List Int))×(List (List Zd))×(List Zg)×Int×(List Zw)) s=>match p with | (v89,v97,v98,ZcV,v105,Zzl,ZiM,Zzk,Zzi,v130,v131)=>∃ Zq0 h85 a90 c91 n92 a99 ZhY Zyu ZrT n104 Zh1 c107 n108 ZAD Zsh Zx6 n113 ZAC a116 c117 n118 ZAB Zcg ZrS n123 ZAA ZE4 c127 n128,∃ (ZAy:Nat ->(Option Addr×Nat×Nat)),∃ Zys ZHR n134,s= ⟨Zq0,[],h85,none⟩∧Sp wm T h [ow wm (Zm .i64) a90 n92 c91 v89,bx wm b3 (cV none 0 0 none 0 0 none 0 0 none 0 0 none 0 0 none 0 0 0),Qb wm (Xr Zk) (a99,ZhY) v98,ow wm (Zm .i64) Zyu n104 ZrT ZcV,Ym wm (Zy (Zm .i64)) Zh1 n108 c107 ZAD v105,Ym wm (Zy (Zm .i64)) Zsh n113 Zx6 ZAC Zzl,Ym wm (Zy (Zm .i64)) a116 n118 c117 ZAB ZiM,Ym wm (Zy Zl) Zcg n123 ZrS ZAA Zzk,Ym wm ZI ZE4 n128 c127 ZAy Zzi,ow wm Zx Zys n134 ZHR v131,bx wm b6 (cG v97 a99 v98.length ZhY Zyu n104 ZrT Zh1 n108 c107 Zsh n113 Zx6 a116 n118 c117 Zcg n123 ZrS ZE4 n128 c127 v130 Zys n134 ZHR)] h85∧Zq0.at 4= .pointer (some ⟨b3,0,none⟩)∧Zq0.at 7= .pointer (some ⟨b6,0,none⟩)∧Zq0.at 8= .slice a90 n92 c91∧Zq0.at 13= .slice YF p1.length YE∧Zq0.at 14= .int .i64 (p1.length:Int)∧Zq0.at 15= .int .i64 v44) (Zg1 v44 ZgC) ?_ ?_
  ·clear hL hS;rintro⟨v89,v97,v98,ZcV,v105,Zzl,ZiM,Zzk,Zzi,v130,v131⟩ s hL ⟨Zq0,h85,a90,c91,n92,a99,ZhY,Zyu,ZrT,n104,Zh1,c107,n108,ZAD,Zsh,Zx6,n113,ZAC,a116,c117,n118,ZAB,Zcg,ZrS,n123,ZAA,ZE4,c127,n128,ZAy,Zys,ZHR,n134,rfl,hS,e87,e88,e93,e94,e95,e96⟩;obtain rfl:=hS.on k0;obtain rfl:=hS.on k3;obtain rfl:=hS.Zj k4;obtain rfl:=hS.Zj k5;obtain rfl:=hS.Zj k6;obtain rfl:=hS.Zj k7;obtain rfl:=hS.Zj k8;obtain rfl:=hS.on k9;dsimp only [Zg1] at hL;refine r4 ?_;exact Xt.XD (ZGs _ _ hL ⟨_,_,a90,c91,v89.length,a99,ZhY,Zyu,ZrT,ZcV.length,Zh1,c107,v105.length,ZAD,Zsh,Zx6,Zzl.length,ZAC,a116,c117,ZiM.length,ZAB,Zcg,ZrS,Zzk.length,ZAA,ZE4,c127,Zzi.length,ZAy,Zys,ZHR,v131.length,rfl,hS.only sl,Qo⟩)
  ·skip;refine r4 ?_;obtain⟨ZKa,ZTM,hL⟩:=bS hL;obtain⟨Ye5,Z9I,_,Z0K,ZNW,ZNy,Z1e⟩:=Sl.at_ XU ZTM;refine r1 ?_;refine WO.w gN rfl (QK ZEG ZsF (Z8 fh rfl) (At.fz hS.fz ZNy ZNW) (j:=0) rfl rfl (ws:= (cS ZKa)) rfl) ?_;refine r1 ?_;rintro _ YcA ⟨Z4s,Z8d,rfl,hS⟩;refine r2 ?_;rintro ZVT hS;refine r6 ?_;obtain⟨J7,ZTK,hL⟩:=bS hL;refine WO.cl gN rfl (Xp.fn ZUQ (Zb lk (Zb lk Zo))) hS (.c k11 (.c k4 (.c k4 (.c k4 (.c k4 (.c k4 (.c k4 (.c k4 .n)))))))) (fun g' hz hf hO=>ZOk (p0:= (Z6.mk (Zc.mk v46 v47) (Zf.mk v50 v54 v59 v64 v69 v74 v79) v80)) (by rw [hz];exact hS.hw) ((hS.WK k3).mono hf) hO ZTK) ?_;rintro _ Z2y _ ⟨ZIf,ZoG,a145,n146,Zf7,a148,n149,Zf6,Znd,ZdM,n152,ZHP,Znc,a154,n155,c156,Znb,a157,n158,c159,Zna,a160,n161,c162,Zz5,ZE3,n164,ZWC,rfl,rfl⟩ hS;obtain rfl:=hS.on k2;obtain rfl:=hS.Zj k3;obtain rfl:=hS.Zj k4;obtain rfl:=hS.Zj k5;obtain rfl:=hS.Zj k6;obtain rfl:=hS.Zj k7;obtain rfl:=hS.on k8;refine r2 ?_;refine cn hL ?_ ?_
   ·intro hc hL;refine r3 ?_;refine WO.hn gN rfl (Kw (e:= (Zm .i64)) hS XL XO KM rfl rfl rfl (Z4 lk YK) rfl [((),v44)] rfl (xs:= [v44]) rfl (by intro q hq;simp only [List.mem_cons,List.not_mem_nil,or_false] at hq;subst hq;exact trivial) rfl) ?_;rintro _ Ycu ⟨ZWV,Z8b,rfl,hS⟩;obtain⟨ZJY,ZSJ,hL⟩:=bS hL;refine WO.hv gN rfl (Ud (e:= (Zm .i64)) hS k11 X9 lk lk (hS.QF k0) (hS.on k0) ZSJ) ?_;rintro _ Yct ⟨a171,Zf5,rfl,hS⟩;refine r3 ?_;exact Jz.XD _ hL ⟨_,_,a171,Zf5,ZJY.length,ZIf,ZoG,a145,Zf7,J7.1.w.qV.length,a148,Zf6,J7.1.w.qX.length,Znd,ZdM,ZHP,J7.1.w.qZ.length,Znc,a154,c156,J7.1.w.Zh.length,Znb,a157,c159,J7.1.w.Zt.length,Zna,a160,c162,J7.1.w.kQ.length,Zz5,ZE3,ZWC,J7.1.kU.length,rfl,hS.only sl,Qo⟩
   ·intro hc hL;refine r2 ?_;exact Jz.XD _ hL ⟨_,_,a38,c39,v37.length,ZIf,ZoG,a145,Zf7,J7.1.w.qV.length,a148,Zf6,J7.1.w.qX.length,Znd,ZdM,ZHP,J7.1.w.qZ.length,Znc,a154,c156,J7.1.w.Zh.length,Znb,a157,c159,J7.1.w.Zt.length,Zna,a160,c162,J7.1.w.kQ.length,Zz5,ZE3,ZWC,J7.1.kU.length,rfl,hS.only sl,Qo⟩
 ·intro hc hL;refine r6 ?_;refine WC.YL mixed Kq0 ?_;refine r7 ?_;refine WX.wr (fun x=>x=b6) hS gN rfl (fun _ _ hR=>Xf ZEI (Z8 fh rfl) (At.eqv (hR b6 rfl) (hS.QX k10)) (j:=9) rfl (v:= .slice a81 v80.length c82) rfl) ?_ rfl rfl;rintro Ycs Z2Q hS;refine r1 ?_;refine WX.hu gN (ZsH hS k1 Zgu lk lk (vs:= (cV a51 v50.length c52 a55 v54.length c56 a60 v59.length c61 a65 v64.length c66 a70 v69.length c71 a75 v74.length c76 v79)) rfl rfl rfl rfl (cs':= (cV a51 v50.length c52 a55 v54.length c56 a60 v59.length c61 a65 v64.length c66 a70 v69.length c71 a75 v74.length c76 v79)) rfl) ?_ rfl rfl [7] Kq0 (.c .z (hS.dj (.c k1 (.c k9 .n))) Xg.e);rintro Ycr hS;refine WX.w gN rfl (J2 lk) ?_ Kq0;refine WX.w gN rfl (J2 lk) ?_ Kq0;refine r3 ?_;have hr:=Oi0 hL;subst hr;exact Ya.gen (vs:= [.agg [.slice a51 v50.length c52,.slice a55 v54.length c56,.slice a60 v59.length c61,.slice a65 v64.length c66,.slice a70 v69.length c71,.slice a75 v74.length c76,.int .i64 v79].toArray,.slice a81 v80.length c82,.slice a38 v37.length c39]) rfl (Uq (ZV rfl (YQ rfl e35)) (Zhp ZwA Zgu (hS.QX k0) (j:=0) rfl rfl (ws:= (cV a51 v50.length c52 a55 v54.length c56 a60 v59.length c61 a65 v64.length c66 a70 v69.length c71 a75 v74.length c76 v79)) rfl) (YC lk (YC lk Zv))) rfl ⟨_,⟨a51,v50.length,c52,a55,v54.length,c56,Zte,a60,v59.length,c61,Ztd,a65,v64.length,c66,Ztc,a70,v69.length,c71,Ztb,a75,v74.length,c76,Zs9,a81,v80.length,c82,a38,v37.length,c39,rfl,rfl⟩,hT ▸ hS.only sl⟩
theorem ZOm {F wm h} {p0:Z7} {p1:(List XC)} {Zq Zp YP ZU ZT YB Yr ZR ZO YA ZH ZL ZK Yz ZG ZQ ZN Yy ZF ZP ZM Yx} {ZJ:Nat ->(Option Addr×Nat×Nat)} {ZE ZC Z0 ZY Yw Yn YF YE} {r} (Yc:wm <=h.size) (Yp:Sl Zk wm h ZE ZC p0.qK.Zi) (XU:Sl WY wm h YF YE p1) (hO:Yo (wm:=wm) (gH wm Yn p0 Zq YP Zp ZU YB ZT Yr ZR YA ZO ZH ZL Yz ZK ZG ZQ Yy ZN ZF ZP Yx ZM ZJ ZE ZC Z0 Yw ZY) h) (hL:ZDR F p0 p1=some r):
 WR XX 42 #[.pointer (some ⟨Yn,0,none⟩),.slice YF p1.length YE] wm h (CP (fun(v:Value) (Gb:List (Ast wm))=>∃ Xd X8 Y5 Xc YW Y4 Xw Xb YV Y3 Yj Xa YU Y2 Yi Y9 YT Y1 Yh Y8 YS Y0,∃ (Yg:Nat ->(Option Addr×Nat×Nat)),∃ Y7 YZ Y6 YR YX Q9 JA Q8,v= .slice Q9 JA Q8∧Gb= [bx wm Yn (cH Xd X8 Y5 Xc YW Y4 Xb YV Y3 Xa YU Y2 Y9 YT Y1 Y8 YS Y0 r.1.Za.kK r.1.qK.qG Y7 r.1.qK.Zi.length YZ Y6 YR YX),ow wm (Zm .i64) Xd X8 Y5 r.1.Za.qV,Ym wm (Zy (Zm .i64)) Xc YW Y4 Xw r.1.Za.qX,Ym wm (Zy (Zm .i64)) Xb YV Y3 Yj r.1.Za.qZ,Ym wm (Zy (Zm .i64)) Xa YU Y2 Yi r.1.Za.Zh,Ym wm (Zy Zl) Y9 YT Y1 Yh r.1.Za.Zt,Ym wm ZI Y8 YS Y0 Yg r.1.Za.kQ,Qb wm (Xr Zk) (Y7,YZ) r.1.qK.Zi,ow wm Zx Y6 YR YX r.1.kU,ow wm (Zm .i64) Q9 JA Q8 r.2]) (gH wm Yn p0 Zq YP Zp ZU YB ZT Yr ZR YA ZO ZH ZL Yz ZK ZG ZQ Yy ZN ZF ZP Yx ZM ZJ ZE ZC Z0 Yw ZY) h):=by
 refine bg Tryz.ntmps42 Yc hO ?_;intro T hT hS;unfold ZDR at hL;obtain rfl:=hS.on k1;obtain rfl:=hS.Zj k2;obtain rfl:=hS.Zj k3;obtain rfl:=hS.Zj k4;obtain rfl:=hS.Zj k5;obtain rfl:=hS.Zj k6;obtain rfl:=hS.on k7;refine r16 ?_;refine r3 ?_;have hS:=hS.nil (e:= (Zm .i64));have hS:=hS.add (A:=Qb wm (Xr Zk) (ZE,ZC) p0.qK.Zi) (hS.sl Yp) (fun _ z=>z);refine WC.loop (WL.lift hL (fun p s=>match p with | (v4,v11,v13,v17,v22,v27,v32,v37,v42,v43,v44,v47)=>∃ QO h1 a5 c6 n7 a14 c15 n16 a18 c19 n20 Zp6 a23 c24 n25 Zp4 a28 c29 n30 Zk7 a33 c34 n35 ZF2 a38 c39 n40,∃ (ZF0:Nat ->(Option Addr×Nat×Nat)),∃ a45 c46 a48 c49 n50,s= ⟨QO,[],h1,none⟩∧Sp wm T h [ow wm (Zm .i64) a5 n7 c6 v4,ow wm (Zm .i64) a14 n16 c15 v13,Ym wm (Zy (Zm .i64)) a18 n20 c19 Zp6 v17,Ym wm (Zy (Zm .i64)) a23 n25 c24 Zp4 v22,Ym wm (Zy (Zm .i64)) a28 n30 c29 Zk7 v27,Ym wm (Zy Zl) a33 n35 c34 ZF2 v32,Ym wm ZI a38 n40 c39 ZF0 v37,Qb wm (Xr Zk) (a45,c46) v44,ow wm Zx a48 n50 c49 v47,bx wm Yn (cH a14 n16 c15 a18 n20 c19 a23 n25 c24 a28 n30 c29 a33 n35 c34 a38 n40 c39 v42 v43 a45 v44.length c46 a48 n50 c49)] h1∧QO.at 0= .pointer (some ⟨Yn,0,none⟩)∧QO.at 5= .slice a5 n7 c6∧QO.at 8= .slice YF p1.length YE∧QO.at 9= .int .i64 (p1.length:Int)∧QO.at 10= .int .i64 v11) ⟨_,_,none,0,0,Zq,Zp,p0.Za.qV.length,ZU,ZT,p0.Za.qX.length,Yr,ZR,ZO,p0.Za.qZ.length,ZH,ZL,ZK,p0.Za.Zh.length,ZG,ZQ,ZN,p0.Za.Zt.length,ZF,ZP,ZM,p0.Za.kQ.length,ZJ,ZE,ZC,Z0,ZY,p0.kU.length,rfl,hS.only sl,Qo⟩ ?_);clear hL hS;rintro ZgD ⟨v4,v11,v13,v17,v22,v27,v32,v37,v42,v43,v44,v47⟩ s ZGw hL ⟨QO,h1,a5,c6,n7,a14,c15,n16,a18,c19,n20,Zp6,a23,c24,n25,Zp4,a28,c29,n30,Zk7,a33,c34,n35,ZF2,a38,c39,n40,ZF0,a45,c46,a48,c49,n50,rfl,hS,e3,e8,e9,e10,e12⟩;obtain rfl:=hS.on k0;obtain rfl:=hS.on k1;obtain rfl:=hS.Zj k2;obtain rfl:=hS.Zj k3;obtain rfl:=hS.Zj k4;obtain rfl:=hS.Zj k5;obtain rfl:=hS.Zj k6;obtain rfl:=hS.on k8;dsimp only [Zof] at hL;refine r6 ?_;refine cn hL ?_ ?_
 ·intro hc hL;refine r2 ?_;refine WC.Zgx (r:=r) (fun(p:(List Int)×(List Int)×(List (List Int))×(List (List Int))×(List (List Int))×(List (List Zd))×(List Zg)×Int×Int×(List ZX)×(List Zw)) s=>match p with | (v55,v63,v67,v72,v77,v82,v87,v92,v93,v94,v97)=>∃ Zt0 h52 a56 c57 n58 a64 c65 n66 a68 c69 n70 Zp2 a73 c74 n75 Zp1 a78 c79 n80 Zp0 a83 c84 n85 ZLT a88 c89 n90,∃ (ZLS:Nat ->(Option Addr×Nat×Nat)),∃ a95 c96 a98 c99 n100,s= ⟨Zt0,[],h52,none⟩∧Sp wm T h [ow wm (Zm .i64) a56 n58 c57 v55,ow wm (Zm .i64) a64 n66 c65 v63,Ym wm (Zy (Zm .i64)) a68 n70 c69 Zp2 v67,Ym wm (Zy (Zm .i64)) a73 n75 c74 Zp1 v72,Ym wm (Zy (Zm .i64)) a78 n80 c79 Zp0 v77,Ym wm (Zy Zl) a83 n85 c84 ZLT v82,Ym wm ZI a88 n90 c89 ZLS v87,Qb wm (Xr Zk) (a95,c96) v94,ow wm Zx a98 n100 c99 v97,bx wm Yn (cH a64 n66 c65 a68 n70 c69 a73 n75 c74 a78 n80 c79 a83 n85 c84 a88 n90 c89 v92 v93 a95 v94.length c96 a98 n100 c99)] h52∧Zt0.at 0= .pointer (some ⟨Yn,0,none⟩)∧Zt0.at 5= .slice a56 n58 c57∧Zt0.at 8= .slice YF p1.length YE∧Zt0.at 9= .int .i64 (p1.length:Int)∧Zt0.at 10= .int .i64 v11) (ZgY v11 ZgD) ?_ ?_
  ·clear hL hS;rintro⟨v55,v63,v67,v72,v77,v82,v87,v92,v93,v94,v97⟩ s hL ⟨Zt0,h52,a56,c57,n58,a64,c65,n66,a68,c69,n70,Zp2,a73,c74,n75,Zp1,a78,c79,n80,Zp0,a83,c84,n85,ZLT,a88,c89,n90,ZLS,a95,c96,a98,c99,n100,rfl,hS,e54,e59,e60,e61,e62⟩;obtain rfl:=hS.on k0;obtain rfl:=hS.on k1;obtain rfl:=hS.Zj k2;obtain rfl:=hS.Zj k3;obtain rfl:=hS.Zj k4;obtain rfl:=hS.Zj k5;obtain rfl:=hS.Zj k6;obtain rfl:=hS.on k8;dsimp only [ZgY] at hL;refine r4 ?_;exact Xt.XD (ZGw _ _ hL ⟨_,_,a56,c57,v55.length,a64,c65,v63.length,a68,c69,v67.length,Zp2,a73,c74,v72.length,Zp1,a78,c79,v77.length,Zp0,a83,c84,v82.length,ZLT,a88,c89,v87.length,ZLS,a95,c96,a98,c99,v97.length,rfl,hS.only sl,Qo⟩)
  ·skip;refine r4 ?_;obtain⟨x101,hx101,hL⟩:=bS hL;obtain⟨Ye9,Z9P,_,Z0P,ZNZ,ZNB,Z1g⟩:=Sl.at_ XU hx101;refine r1 ?_;refine WO.w gN rfl (QK ZEG ZsF (Z8 fh rfl) (At.fz hS.fz ZNB ZNZ) (j:=0) rfl rfl (ws:= (cS x101)) rfl) ?_;refine r1 ?_;rintro _ YcJ ⟨Z4u,Z8i,rfl,hS⟩;refine r2 ?_;rintro YcI hS;refine r6 ?_;obtain⟨x107,ZTT,hL⟩:=bS hL;refine WO.cp gN rfl (Xp.fn ZUN (Zb lk (Zb lk Zo))) (WR.Xq rfl (ZOf (Nat.le_refl _) (p0:= (Z7.mk (Zf.mk v13 v17 v22 v27 v32 v37 v42) (Zc.mk v43 v44) v47)) (hS.QX k10) (.inl (hS.lt k10)) (hS.ord k2) (hS.Yq k3 Zr) (hS.Yq k4 Zr) (hS.Yq k5 Zr) (hS.Yq k6 Zr) (hS.Yq k7 ZA) (hS.Jv k8) (hS.ord k9) ZTT)) ?_;refine r2 ?_;refine cn hL ?_ ?_
   ·intro hc hL;refine r4 ?_;obtain⟨J3,ZqC,hL⟩:=bS hL;refine WO.cl gN rfl (Xp.fn ZUP (Zb lk (Zb lk Zo))) hS (.c k10 (.c k2 (.c k2 (.c k2 (.c k2 (.c k2 (.c k2 (.c k3 .n)))))))) (fun g' hz hf hO=>ZOi (p0:= (Z7.mk (Zf.mk v13 v17 v22 v27 v32 v37 v42) (Zc.mk v43 v44) v47)) (by rw [hz];exact hS.hw) ((hS.WK k8).mono hf) hO ZqC) ?_;rintro _ Z2E _ ⟨a109,n110,ZoI,ZkP,n113,Zky,Zet,Zpb,n116,c117,ZbS,Zpa,n119,KY,Zje,Zcg,n122,Zkx,Zs5,a124,n125,ZO4,Zs4,a127,Zkw,a130,n131,ZrR,rfl,rfl⟩ hS;obtain rfl:=hS.on k1;obtain rfl:=hS.Zj k2;obtain rfl:=hS.Zj k3;obtain rfl:=hS.Zj k4;obtain rfl:=hS.Zj k5;obtain rfl:=hS.Zj k6;obtain rfl:=hS.on k8;refine r5 ?_;refine WO.hn gN rfl (Kw (e:= (Zm .i64)) hS XL XO KM rfl rfl rfl (Z4 lk YK) rfl [((),v11)] rfl (xs:= [v11]) rfl (by intro q hq;simp only [List.mem_cons,List.not_mem_nil,or_false] at hq;subst hq;exact trivial) rfl) ?_;rintro _ Z2B ⟨ZoN,ZV8,rfl,hS⟩;obtain⟨ZJZ,ZSK,hL⟩:=bS hL;refine WO.hv gN rfl (Ud (e:= (Zm .i64)) hS k11 X9 lk lk (hS.QF k0) (hS.on k0) ZSK) ?_;rintro _ ZVT ⟨a138,c139,rfl,hS⟩;refine r3 ?_;exact Jz.XD _ hL ⟨_,_,a138,c139,ZJZ.length,a109,ZoI,J3.Za.qV.length,ZkP,Zky,J3.Za.qX.length,Zet,Zpb,c117,J3.Za.qZ.length,ZbS,Zpa,KY,J3.Za.Zh.length,Zje,Zcg,Zkx,J3.Za.Zt.length,Zs5,a124,ZO4,J3.Za.kQ.length,Zs4,a127,Zkw,a130,ZrR,J3.kU.length,rfl,hS.only sl,Qo⟩
   ·intro hc hL;refine r2 ?_;exact Jz.XD _ hL ⟨_,_,a5,c6,v4.length,a14,c15,v13.length,a18,c19,v17.length,Zp6,a23,c24,v22.length,Zp4,a28,c29,v27.length,Zk7,a33,c34,v32.length,ZF2,a38,c39,v37.length,ZF0,a45,c46,a48,c49,v47.length,rfl,hS.only sl,Qo⟩
 ·intro hc hL;refine r12 ?_;have hr:=Oi0 hL;subst hr;exact Ya.UW rfl (YC lk Zv) ⟨_,⟨a14,v13.length,c15,a18,v17.length,c19,Zp6,a23,v22.length,c24,Zp4,a28,v27.length,c29,Zk7,a33,v32.length,c34,ZF2,a38,v37.length,c39,ZF0,a45,c46,a48,v47.length,c49,a5,v4.length,c6,rfl,rfl⟩,hT ▸ hS.only sl⟩
theorem ZOz {F wm h} {p0:Zc} {p1:(List XC)} {Zq Zp YF YE} {r} (Yc:wm <=h.size) (ZB:Sl Zk wm h Zq Zp p0.Zi) (XU:Sl WY wm h YF YE p1) (hL:ZHc F p0 p1=some r):
 WR XX 16 #[.agg [.int .i64 p0.qG,.slice Zq p0.Zi.length Zp].toArray,.slice YF p1.length YE] wm h (CP (fun(v:Value) (Gb:List (Ast wm))=>∃ Q9 JA Q8 Zfl Zfa Zfg Zfn Zfk Ze9 Zff ZbR Zfj Ze8 Zfe ZbQ Zfi Ze7 Zfd ZbP Zfh Ze6 Zfc,∃ (ZbO:Nat ->(Option Addr×Nat×Nat)),∃ ZpQ ZpJ ZpN ZpP ZpI ZpM,v= .tuple [.agg [.slice Q9 JA Q8,.slice Zfl Zfa Zfg,.slice Zfk Ze9 Zff,.slice Zfj Ze8 Zfe,.slice Zfi Ze7 Zfd,.slice Zfh Ze6 Zfc,.int .i64 r.1.kK].toArray,.slice ZpQ ZpJ ZpN,.slice ZpP ZpI ZpM,.int .i64 r.2.2.2].toArray∧Gb= [ow wm (Zm .i64) Q9 JA Q8 r.1.qV,Ym wm (Zy (Zm .i64)) Zfl Zfa Zfg Zfn r.1.qX,Ym wm (Zy (Zm .i64)) Zfk Ze9 Zff ZbR r.1.qZ,Ym wm (Zy (Zm .i64)) Zfj Ze8 Zfe ZbQ r.1.Zh,Ym wm (Zy Zl) Zfi Ze7 Zfd ZbP r.1.Zt,Ym wm ZI Zfh Ze6 Zfc ZbO r.1.kQ,ow wm Zx ZpQ ZpJ ZpN r.2.1,ow wm (Zm .i64) ZpP ZpI ZpM r.2.2.1]) [] h):=by
 refine bg Tryz.ntmps16 Yc Yo.nil ?_;intro T hT hS;unfold ZHc at hL;refine r3 ?_;rintro _ h2 ⟨b1,eb1,rfl,hS⟩;refine r1 ?_;rintro _ h4 ⟨b3,eb3,rfl,hS⟩;refine r9 ?_;obtain⟨x5,hx5,hL⟩:=bS hL;refine WO.cp gN rfl (Xp.fn ZUU (Zb lk Zo)) (WR.Xq rfl (ZOo (Nat.le_refl _) (hS.WT ZB) hx5)) ?_;refine r8 ?_;refine cn hL ?_ ?_
 ·intro hc hL;refine r2 ?_;refine WO.w gN rfl (Uz ZJF YK rfl (cs':= (cV none 0 0 none 0 0 none 0 0 none 0 0 none 0 0 none 0 0 0)) rfl) ?_;refine r1 ?_;rintro h6 hS;refine r7 ?_;have hS:=hS.nil (e:= (Zm .i64));have hS:=hS.Zjt (e:= (Zy (Zm .i64))) (ps:=fun _=>(Zy (Zm .i64)).dflt);have hS:=hS.Zjt (e:= (Zy (Zm .i64))) (ps:=fun _=>(Zy (Zm .i64)).dflt);have hS:=hS.Zjt (e:= (Zy (Zm .i64))) (ps:=fun _=>(Zy (Zm .i64)).dflt);have hS:=hS.Zjt (e:= (Zy Zl)) (ps:=fun _=>(Zy Zl).dflt);have hS:=hS.Zjt (e:=ZI) (ps:=fun _=>ZI.dflt);have hS:=hS.nil (e:=Zx);have hS:=hS.nil (e:= (Zm .i64));have hr:=Oi0 hL;subst hr;exact Ya.gen (vs:= [.agg [.slice none 0 0,.slice none 0 0,.slice none 0 0,.slice none 0 0,.slice none 0 0,.slice none 0 0,.int .i64 0].toArray,.slice none 0 0,.slice none 0 0,.int .i64 2]) rfl (Uq (ZV rfl (YQ rfl (Yt rfl (Zn rfl fh)))) (Zhp ZwA Zgu (hS.QX k8) (j:=0) rfl rfl (ws:= (cV none 0 0 none 0 0 none 0 0 none 0 0 none 0 0 none 0 0 0)) rfl) (YC lk (YC lk (YC lk Zv)))) rfl ⟨_,⟨none,0,0,none,0,0,(fun _=>(Zy (Zm .i64)).dflt),none,0,0,(fun _=>(Zy (Zm .i64)).dflt),none,0,0,(fun _=>(Zy (Zm .i64)).dflt),none,0,0,(fun _=>(Zy Zl).dflt),none,0,0,(fun _=>ZI.dflt),none,0,0,none,0,0,rfl,rfl⟩,hT ▸ hS.only sl⟩
 ·intro hc hL;refine r5 ?_;obtain⟨x7,hx7,hL⟩:=bS hL;refine WO.cl gN rfl (Xp.fn ZUT (Zb lk Zo)) hS .n (fun g' hz hf hO=>ZOn (by rw [hz];exact hS.hw) ((hS.sl ZB).mono hf) hx7) ?_;rintro _ h33 _ ⟨b8,a9,n10,c11,a12,n13,c14,ZAa,a15,n16,c17,Zjc,a18,n19,c20,Zja,a21,n22,c23,Zi8,a24,n25,c26,Zvf,a27,c29,a30,n31,c32,rfl,rfl⟩ hS;obtain rfl:=hS.on k1;obtain rfl:=hS.Zj k2;obtain rfl:=hS.Zj k3;obtain rfl:=hS.Zj k4;obtain rfl:=hS.Zj k5;obtain rfl:=hS.Zj k6;obtain rfl:=hS.on k8;refine r7 ?_;obtain⟨x35,ZBp,hL⟩:=bS hL;refine WO.cl gN rfl (Xp.fn ZUS (Zb lk (Zb lk Zo))) hS (.c k0 (.c k0 (.c k0 (.c k0 (.c k0 (.c k0 (.c k0 (.c k1 .n)))))))) (fun g' hz hf hO=>ZOm (by rw [hz];exact hS.hw) ((hS.WK k7).mono hf) ((hS.sl XU).mono hf) hO ZBp) ?_;rintro _ h63 _ ⟨a36,n37,c38,a39,n40,c41,ZRM,a42,n43,c44,ZIp,a45,n46,c47,Zve,a48,n49,c50,ZlW,a51,n52,c53,ZlV,a54,c56,a57,n58,c59,a60,n61,c62,rfl,rfl⟩ hS;obtain rfl:=hS.on k1;obtain rfl:=hS.Zj k2;obtain rfl:=hS.Zj k3;obtain rfl:=hS.Zj k4;obtain rfl:=hS.Zj k5;obtain rfl:=hS.Zj k6;obtain rfl:=hS.on k8;obtain rfl:=hS.on k9;refine r4 ?_;refine WC.YL mixed Kq0 ?_;refine r7 ?_;refine WX.wr (fun x=>x=b8) hS gN rfl (fun _ _ hR=>Xf ZEI (Z8 fh rfl) (At.eqv (hR b8 rfl) (hS.QX k0)) (j:=9) rfl (v:= .slice a57 x35.1.kU.length c59) rfl) ?_ rfl rfl;rintro h65 e66 hS;refine r1 ?_;refine WX.hu gN (ZsH hS k11 Zgu lk lk (vs:= (cW x35.1.Za a36 c38 a39 c41 a42 c44 a45 c47 a48 c50 a51 c53)) rfl rfl rfl rfl (cs':= (cW x35.1.Za a36 c38 a39 c41 a42 c44 a45 c47 a48 c50 a51 c53)) rfl) ?_ rfl rfl [7] Kq0 (.c .z (hS.dj (.c k11 (.c k0 .n))) Xg.e);rintro h67 hS;refine WX.w gN rfl (J2 lk) ?_ Kq0;refine WX.w gN rfl (J2 lk) ?_ Kq0;refine WX.w gN rfl (J2 lk) ?_ Kq0;refine r3 ?_;have hr:=Oi0 hL;subst hr;exact Ya.gen (vs:= [.agg [.slice a36 x35.1.Za.qV.length c38,.slice a39 x35.1.Za.qX.length c41,.slice a42 x35.1.Za.qZ.length c44,.slice a45 x35.1.Za.Zh.length c47,.slice a48 x35.1.Za.Zt.length c50,.slice a51 x35.1.Za.kQ.length c53,.int .i64 x35.1.Za.kK].toArray,.slice a57 x35.1.kU.length c59,.slice a60 x35.2.length c62,.int .i64 0]) rfl (Uq (ZV rfl (ZV rfl (ZV rfl (YQ rfl (Yt rfl fh))))) (Zhp ZwA Zgu (hS.QX k0) (j:=0) rfl rfl (ws:= (cW x35.1.Za a36 c38 a39 c41 a42 c44 a45 c47 a48 c50 a51 c53)) rfl) (YC lk (YC lk (YC lk Zv)))) rfl ⟨_,⟨a36,x35.1.Za.qV.length,c38,a39,x35.1.Za.qX.length,c41,ZRM,a42,x35.1.Za.qZ.length,c44,ZIp,a45,x35.1.Za.Zh.length,c47,Zve,a48,x35.1.Za.Zt.length,c50,ZlW,a51,x35.1.Za.kQ.length,c53,ZlV,a57,x35.1.kU.length,c59,a60,x35.2.length,c62,rfl,rfl⟩,hT ▸ hS.only sl⟩
end
section
def f3L (F:Nat) (p0:Zc) (p1:(List XC)):Option Bool:=
 (ZHd p0).bind fun x3=>(bif((!x3) || (decide ((p1.length:Int) > 120))) then(ZDZ).bind fun x4=>some x4 else(ZHc F p0 p1).bind fun x5=>(ZxQ F p0).bind fun x35=>(bif((!x35) || (decide ((p1.length:Int) > 100))) then(gd (x5.2.2.2==2) (ZDY F x5.1) default).bind fun x36=>(gd ((((x5.2.2.2==2) && x36) && ((x5.2.1.length:Int)==0)) && ((x5.2.2.1.length:Int)==0)) (ZDZ) default).bind fun x37=>some (((((x5.2.2.2==2) && x36) && ((x5.2.1.length:Int)==0)) && ((x5.2.2.1.length:Int)==0)) && x37) else(ZDX F p0 p1).bind fun x38=>(gd (x5.2.2.2==0) (Zue F x5.1 x38.1) default).bind fun x68=>(gd ((x5.2.2.2==0) && x68) (ZxP F x5.2.1 x38.2.1) default).bind fun x69=>(gd (((x5.2.2.2==0) && x68) && x69) (Zlm F x5.2.2.1 x38.2.2) default).bind fun x70=>(gd ((((x5.2.2.2==0) && x68) && x69) && x70) (ZDZ) default).bind fun x71=>some (((((x5.2.2.2==0) && x68) && x69) && x70) && x71)))
end
section
open Go.Xy Go.Lf
theorem ZVY {F wm h} {p0:Zc} {p1:(List XC)} {Zq Zp YF YE} {r} (Yc:wm <=h.size) (ZB:Sl Zk wm h Zq Zp p0.Zi) (XU:Sl WY wm h YF YE p1) (hL:f3L F p0 p1=some r):
 WR XX 3 #[.agg [.int .i64 p0.qG,.slice Zq p0.Zi.length Zp].toArray,.slice YF p1.length YE] wm h (CP (fun(v:Value) (Gb:List (Ast wm))=>v= .bool r∧Gb= []) [] h):=by
 refine bg Tryz.ntmps3 Yc Yo.nil ?_;intro T hT hS;unfold f3L at hL;refine r3 ?_;rintro _ h2 ⟨b1,eb1,rfl,hS⟩;refine r7 ?_;obtain⟨x3,hx3,hL⟩:=bS hL;refine WO.cp gN rfl (Xp.fn ZU0 (Zb lk Zo)) (WR.Xq rfl (ZOA (Nat.le_refl _) (hS.WT ZB) hx3)) ?_;refine r8 ?_;refine cn hL ?_ ?_
 ·intro hc hL;refine r2 ?_;obtain⟨x4,hx4,hL⟩:=bS hL;refine WO.cp gN rfl (Xp.fn ZCz Zo) (Zuf hx4) ?_;refine r5 ?_;exact rt hL hT hS
 ·intro hc hL;refine r6 ?_;obtain⟨x5,hx5,hL⟩:=bS hL;refine WO.cl gN rfl (Xp.fn ZUZ (Zb lk (Zb lk Zo))) hS .n (fun g' hz hf hO=>ZOz (by rw [hz];exact hS.hw) ((hS.sl ZB).mono hf) ((hS.sl XU).mono hf) hx5) ?_;rintro _ h30 _ ⟨a6,n7,c8,a9,n10,c11,ZRu,a12,n13,c14,ZAa,a15,n16,c17,Zjc,a18,n19,c20,Zja,a21,n22,c23,Zi8,a24,n25,c26,a27,n28,c29,rfl,rfl⟩ hS;obtain rfl:=hS.on k0;obtain rfl:=hS.Zj k1;obtain rfl:=hS.Zj k2;obtain rfl:=hS.Zj k3;obtain rfl:=hS.Zj k4;obtain rfl:=hS.Zj k5;obtain rfl:=hS.on k6;obtain rfl:=hS.on k7;refine r6 ?_;rintro _ h33 ⟨b32,Z2N,rfl,hS⟩;refine r1 ?_;rintro h34 hS;refine r9 ?_;obtain⟨x35,ZBp,hL⟩:=bS hL;refine WO.cp gN rfl (Xp.fn ZUY (Zb lk Zo)) (ZOy (hS.WT ZB) ZBp) ?_;refine r8 ?_;refine cn hL ?_ ?_
  ·intro hc hL;refine r6 ?_;obtain⟨x36,ZZJ,hL⟩:=XM hL;refine WO.gcp (Ze.yes rfl rfl rfl (Zn rfl fh)) rfl (fun hg=>(Xp.fn ZUX (Zb (Q0 fh rfl hg) Zo))) (fun hg=>ZOw (hS.ord k1) (hS.Yq k2 Zr) (hS.Yq k3 Zr) (hS.Yq k4 Zr) (hS.Yq k5 Zr) (hS.Yq k6 ZA) (ZZJ hg)) ?_;refine r12 ?_;obtain⟨x37,Zld,hL⟩:=XM hL;refine WO.gcp (Ze.yes rfl rfl rfl fh) rfl (fun hg=>(Xp.fn ZCz Zo)) (fun hg=>Zuf (Zld hg)) ?_;refine r6 ?_;exact rt hL hT hS
  ·intro hc hL;refine r6 ?_;obtain⟨x38,hx38,hL⟩:=bS hL;refine WO.cl gN rfl (Xp.fn ZUW (Zb lk (Zb lk Zo))) hS .n (fun g' hz hf hO=>ZOu (by rw [hz];exact hS.hw) ((hS.sl ZB).mono hf) ((hS.sl XU).mono hf) hx38) ?_;rintro _ h63 _ ⟨a39,n40,c41,a42,n43,c44,ZIp,a45,n46,c47,Zve,a48,n49,c50,ZlW,a51,n52,c53,ZlV,a54,n55,c56,ZlU,a57,n58,c59,a60,n61,c62,rfl,rfl⟩ hS;simp only [List.cons_append,List.nil_append] at hS;obtain rfl:=hS.on k0;obtain rfl:=hS.Zj k1;obtain rfl:=hS.Zj k2;obtain rfl:=hS.Zj k3;obtain rfl:=hS.Zj k4;obtain rfl:=hS.Zj k5;obtain rfl:=hS.on k6;obtain rfl:=hS.on k7;refine r5 ?_;rintro _ h66 ⟨b65,YcX,rfl,hS⟩;refine r1 ?_;rintro h67 hS;refine Ky ?_;obtain⟨x68,ZZz,hL⟩:=XM hL;refine WO.gcp (Ze.yes rfl rfl rfl (Yt rfl fh)) rfl (fun hg=>(Xp.fn ZJf (Zb (Q0 (Zn rfl fh) rfl hg) (Zb (Q0 fh rfl hg) Zo)))) (fun hg=>ZDW (hS.ord k10) (hS.Yq k11 Zr) (hS.Yq k12 Zr) (hS.Yq k13 Zr) (hS.Yq k14 Zr) (hS.Yq k15 ZA) (hS.ord k1) (hS.Yq k2 Zr) (hS.Yq k3 Zr) (hS.Yq k4 Zr) (hS.Yq k5 Zr) (hS.Yq k6 ZA) (ZZz hg)) ?_;refine r4 ?_;obtain⟨x69,ZMp,hL⟩:=XM hL;refine WO.gcp (Ze.yes rfl rfl rfl (Yt rfl fh)) rfl (fun hg=>(Xp.fn ZUV (Zb (Q0 (Zn rfl fh) rfl hg) (Zb (Q0 fh rfl hg) Zo)))) (fun hg=>ZOs (hS.ord (.s k15)) (hS.ord k7) (ZMp hg)) ?_;refine r4 ?_;obtain⟨x70,ZMo,hL⟩:=XM hL;refine WO.gcp (Ze.yes rfl rfl rfl (Yt rfl fh)) rfl (fun hg=>(Xp.fn ZqQ (Zb (Q0 (Zn rfl fh) rfl hg) (Zb (Q0 fh rfl hg) Zo)))) (fun hg=>Zkc (hS.ord (.s (.s k15))) (hS.ord k8) (ZMo hg)) ?_;refine r2 ?_;obtain⟨x71,ZZy,hL⟩:=XM hL;refine WO.gcp (Ze.yes rfl rfl rfl fh) rfl (fun hg=>(Xp.fn ZCz Zo)) (fun hg=>Zuf (ZZy hg)) ?_;refine r5 ?_;exact rt hL hT hS
theorem ZVZ {F h} {p0:Zc} {p1:(List XC)} {Zq Zp YF YE} {r} (ZB:Sl Zk h.size h Zq Zp p0.Zi) (XU:Sl WY h.size h YF YE p1) (hL:f3L F p0 p1=some r):Pure XX 3 #[.agg [.int .i64 p0.qG,.slice Zq p0.Zi.length Zp].toArray,.slice YF p1.length YE] h (.bool r):=
 WR.Xq rfl (ZVY (Nat.le_refl _) ZB XU hL)
end
section
end Go.Proofs.YtcnahmgekicbdaaGreat
end
section
end
section
namespace Go.Lf
theorem ZyT {k:Nat} (h:k < 4611686018427387904):Ye ((k:Int) + 1)= ((k + 1:Nat):Int):=by
 rw [ZbH (by omega) (by omega)];rfl
theorem ZuH {α:Type} {JN:Nat} {xs ys:List α} (h:xs.length + ys.length <=1000000) (hb:JN <=1000):app JN xs ys=some (xs ++ ys):=
 ZuI (Nat.le_trans (Nat.mul_le_mul (show 2 * (xs.length + ys.length) + 1000 <=2001000 by omega) hb) (by decide))
def iter {α β σ:Type} (g:Nat ->α ->σ ->(σ ->Option β) ->Option β) (d:σ ->Option β):Nat ->List α ->σ ->Option β
 | _,[],s=>d s
 | i,x::l,s=>g i x s (fun s'=>iter g d (i + 1) l s')
end Go.Lf
end
section
namespace Go.Proofs.YtcnahmgekicbdaaGreat
open Go.Lf
section
variable {β γ:Type}
theorem Zw9 {body:γ ->(γ ->Option β) ->Option β} {r:Option β} (S:Nat ->γ) {n F:Nat} (hF:n < F) (hb:∀ k,k < n ->∀ next,body (S k) next=next (S (k + 1))) (he:∀ next,body (S n) next=r):loop F body (S 0)=r:=by
 have:∀ j F,j <=n ->n - j < F ->loop F body (S j)=r:=by
  intro j F hj hF;obtain⟨d,hd⟩:∃ d,d=n - j:= ⟨_,rfl⟩
  induction d generalizing j F with
  | zero=>
    have:j=n:=by omega
    subst this;cases F with
    | zero=>omega
    | succ F=>rw [Jg];exact he _
  | succ d ih=>
    cases F with
    | zero=>omega
    | succ F=>rw [Jg,hb j (by omega)];exact ih (j + 1) F (by omega) (by omega) (by omega)
 exact this 0 F (Nat.zero_le _) (by omega)
end
theorem Qg {k:Nat} (h:k < 4611686018427387904):Ye ((k:Int) + 1)= ((k + 1:Nat):Int):=ZyT h
theorem ZL5 (k n:Nat):decide ((k:Int) < (n:Int))=decide (k < n):=by
 by_cases h:k < n
 ·rw [decide_eq_true h,decide_eq_true (by omega)]
 ·rw [decide_eq_false h,decide_eq_false (by omega)]
theorem YH {k n:Nat} (h:k < n):decide ((k:Int) < (n:Int))=true:=decide_eq_true (by omega)
theorem Xn (n:Nat):decide ((n:Int) < (n:Int))=false:=decide_eq_false (by omega)
theorem ZN6 {α:Type} {l:List α} {k:Nat} (h:k < l.length):ZW l (k:Int)=some l[k]:=by rw [Zdq,List.getElem?_eq_getElem h]
theorem app1 {α:Type} {b:Nat} {l:List α} {x:α} (h:l.length <=900000) (hb:b <=1000):app b l [x]=some (l ++ [x]):=ZuH (by simp;omega) hb
theorem Kc {α:Type} [BEq α] [LawfulBEq α] (a:α):(a !=a)=false:=by simp
end
section
theorem XB {β γ:Type} {body:γ ->(γ ->Option β) ->Option β} {r:Option β} {s0:γ} (S:Nat ->γ) (h0:S 0=s0) {n F:Nat} (hF:n < F) (hb:∀ k,k < n ->∀ next,body (S k) next=next (S (k + 1))) (he:∀ next,body (S n) next=r):loop F body s0=r:=h0 ▸ Zw9 S hF hb he
theorem QU {α:Type} {l:List α} {k:Nat} {d:α} (h:k < l.length):l.getD k d ∈ l:=by
 rw [List.getD_eq_getElem?_getD,List.getElem?_eq_getElem h];exact List.getElem_mem h
theorem Ql {α:Type} {l:List α} {k:Nat} (d:α) (h:k < l.length):ZW l (k:Int)=some (l.getD k d):=by
 rw [ZN6 h,List.getD_eq_getElem?_getD,List.getElem?_eq_getElem h];rfl
theorem KZ (a b:Int):(a !=b)=decide (a ≠ b):=by
 by_cases h:a=b <;> simp [h]
theorem Xo (a b:Int):(a==b)=decide (a=b):=by
 by_cases h:a=b <;> simp [h]
theorem Zds {c:Nat ->Prop} {n:Nat} (h:c n):∃ m,m <=n∧c m∧∀ k,k < m ->¬ c k:=by
 induction n using Nat.strongRecOn with
 | _ n ih=>
   by_cases hz:∃ j,j < n∧c j
   ·obtain⟨j,h1,h2⟩:=hz;obtain⟨m,q1,q2,q3⟩:=ih j h1 h2;exact⟨m,by omega,q2,q3⟩
   ·exact⟨n,Nat.le_refl _,h,fun k hk q=>hz ⟨k,hk,q⟩⟩
theorem ZL2:∀ (n:Nat) (f:Nat ->Nat),(∀ i,i <=n ->f i < n) ->∃ i j,i < j∧j <=n∧f i=f j:=by
 intro n
 induction n with
 | zero=>intro f h;exact absurd (h 0 (Nat.le_refl _)) (Nat.not_lt_zero _)
 | succ n ih=>
   intro f h;by_cases hz:∃ i,i <=n∧f i=f (n + 1)
   ·obtain⟨i,h1,h2⟩:=hz;exact⟨i,n + 1,by omega,Nat.le_refl _,h2⟩
   ·have hne:∀ i,i <=n ->f i ≠ f (n + 1):=fun i hi q=>hz ⟨i,hi,q⟩
    have hl:=h (n + 1) (Nat.le_refl _)
    obtain⟨i,j,h1,h2,h3⟩:=ih (fun i=>if f i < f (n + 1) then f i else f i - 1) (fun i hi=>by
     have:=h i (by omega);have:=hne i hi;by_cases q:f i < f (n + 1)
     ·rw [if_pos q];omega
     ·rw [if_neg q];omega)
    refine⟨i,j,h1,by omega,?_⟩;have a1:=hne i (by omega);have a2:=hne j h2;by_cases q1:f i < f (n + 1) <;> by_cases q2:f j < f (n + 1)
    ·rwa [if_pos q1,if_pos q2] at h3
    ·rw [if_pos q1,if_neg q2] at h3;omega
    ·rw [if_neg q1,if_pos q2] at h3;omega
    ·rw [if_neg q1,if_neg q2] at h3;omega
section
variable {β γ:Type} {R:β ->Prop}
end
theorem Zd0 (k:Nat):decide ((k:Int) >=0)=true:=decide_eq_true (by omega)
noncomputable def ifc {α:Sort _} (c:Prop) (a b:α):α:=@ite α c (Classical.propDecidable c) a b
theorem Yk {α:Sort _} {c:Prop} (h:c) {a b:α}:ifc c a b=a:=by unfold ifc;exact if_pos h
theorem Z9 {α:Sort _} {c:Prop} (h:¬ c) {a b:α}:ifc c a b=b:=by unfold ifc;exact if_neg h
theorem KU {β γ:Type} {body:γ ->(γ ->Option β) ->Option β} {r1 r2:Option β} {s0:γ} (S:Nat ->γ) (h0:S 0=s0) (c:Nat ->Prop) {n F:Nat} (hF:n < F)
 (hb:∀ k,k < n ->∀ next,body (S k) next=ifc (c k) (next (S (k + 1))) r1) (he:∀ next,body (S n) next=r2):loop F body s0=ifc (∀ k,k < n ->c k) r2 r1:=by
 by_cases hall:∀ k,k < n ->c k
 ·rw [Yk hall];exact XB S h0 hF (fun k hk next=>by rw [hb k hk,Yk (hall k hk)]) he
 ·rw [Z9 hall];have hz:∃ k,k < n∧¬ c k:=Classical.byContradiction fun q=>hall fun p hp=>Classical.byContradiction fun q2=>q ⟨p,hp,q2⟩
  obtain⟨k0,hk0⟩:=hz;obtain⟨m,_,hm,hlt⟩:=Zds (c:=fun k=>k < n∧¬ c k) hk0;exact XB S h0 (n:=m) (by omega) (fun k hk next=>by rw [hb k (by omega),Yk (Classical.byContradiction fun q=>hlt k hk ⟨by omega,q⟩)]) (fun next=>by rw [hb m hm.1,Z9 hm.2])
theorem Kt {α:Type} {l:List α} {k:Nat} {d:α} (h:k < l.length):l.getD k d=l[k]:=by
 rw [List.getD_eq_getElem?_getD,List.getElem?_eq_getElem h];rfl
theorem ZoY {xs ys:List Int} (h:xs.length + ys.length <=1000000):app 8 xs ys=some (xs ++ ys):=ZuH h (by decide)
end
section
def inn (w:Zc) (q:Int):Int:= (w.Zi.getD q.toNat default).Xu
def up (w:Zc):Nat ->Int ->Int
 | 0,q=>q
 | k + 1,q=>if q < 0 then q else up w k (inn w q)
theorem ZsA {w:Zc} {q:Int} (h:q < 0) (k:Nat):up w k q=q:=by
 cases k with
 | zero=>rfl
 | succ k=>show(if q < 0 then q else _)=q;rw [if_pos h]
theorem Wi (w:Zc) (k:Nat) (q:Int):up w (k + 1) q=if up w k q < 0 then up w k q else inn w (up w k q):=by
 induction k generalizing q with
 | zero=>rfl
 | succ k ih=>
   show(if q < 0 then q else up w (k + 1) (inn w q))=_;by_cases h:q < 0
   ·rw [if_pos h,ZsA h,if_pos h]
   ·rw [if_neg h,ih];show _=if(if q < 0 then q else up w k (inn w q)) < 0 then _ else _
    rw [if_neg h];show _=if _ then(if q < 0 then q else up w k (inn w q)) else inn w (if q < 0 then q else up w k (inn w q))
    rw [if_neg h]
theorem up_add (w:Zc) (a b:Nat) (q:Int):up w (a + b) q=up w b (up w a q):=by
 induction a generalizing q with
 | zero=>rw [Nat.zero_add];rfl
 | succ a ih=>
   rw [show a + 1 + b= (a + b) + 1 by omega];show(if q < 0 then q else up w (a + b) (inn w q))=up w b (if q < 0 then q else up w a (inn w q));by_cases h:q < 0
   ·rw [if_pos h,if_pos h,ZsA h]
   ·rw [if_neg h,if_neg h,ih]
theorem Wj {w:Zc} {q:Int} {a:Nat} (h:up w a q < 0) {b:Nat} (hb:a <=b):up w b q < 0:=by
 obtain⟨d,rfl⟩:∃ d,b=a + d:= ⟨b - a,by omega⟩
 rw [up_add,ZsA h];exact h
def okN (w:Zc) (q:Int):Prop:=-1 <=q∧q < (w.Zi.length:Int)
instance (w:Zc) (q:Int):Decidable (okN w q):=by unfold okN;infer_instance
structure Inn (w:Zc):Prop where
 rng:∀ p:Nat,p < w.Zi.length ->okN w (inn w p)
 acy:∀ p:Nat,p < w.Zi.length ->up w w.Zi.length p < 0
theorem Inn.up {w:Zc} (h:Inn w) {q:Int} (hq:okN w q) (k:Nat):okN w (up w k q):=by
 induction k with
 | zero=>exact hq
 | succ k ih=>
   rw [Wi];by_cases h2:Proofs.YtcnahmgekicbdaaGreat.up w k q < 0
   ·rw [if_pos h2];exact ih
   ·rw [if_neg h2];have:=h.rng (Proofs.YtcnahmgekicbdaaGreat.up w k q).toNat (by have:=ih.2;omega)
    rwa [Int.toNat_of_nonneg (by omega)] at this
theorem Zo3 {w:Zc} (hr:∀ p:Nat,p < w.Zi.length ->okN w (inn w p)):(∀ p:Nat,p < w.Zi.length ->up w w.Zi.length p < 0)↔∀ p:Nat,p < w.Zi.length ->∀ j,j <=w.Zi.length ->up w (j + 1) p ≠ (p:Int):=by
 constructor
 ·intro h p hp j hj e
  have:∀ m:Nat,up w (m * (j + 1)) p= (p:Int):=fun m=>by
   induction m with
   | zero=>rw [Nat.zero_mul];rfl
   | succ m ih=>rw [Nat.succ_mul,up_add,ih,e]
  have h2:=Wj (h p hp) (b:=w.Zi.length * (j + 1)) (Nat.le_mul_of_pos_right _ (by omega));rw [this] at h2;omega
 ·intro h p hp;rcases Int.lt_or_le (up w w.Zi.length p) 0 with q | q
  ·exact q
  ·exfalso
   have hk:∀ k,k <=w.Zi.length ->0 <=up w k p:=fun k hk=>by
    rcases Int.lt_or_le (up w k p) 0 with z | z
    ·have:=Wj z hk;omega
    ·exact z
   have hok:∀ k,okN w (up w k p):=fun k=>by
    induction k with
    | zero=>exact⟨by show(-1:Int) <= (p:Int);omega,by show(p:Int) < _;omega⟩
    | succ k ih=>
      rw [Wi];by_cases h2:up w k p < 0
      ·rw [if_pos h2];exact ih
      ·rw [if_neg h2];have:=hr (up w k p).toNat (by have:=ih.2;omega)
       rwa [Int.toNat_of_nonneg (by omega)] at this
   obtain⟨i,j,h1,h2,h3⟩:=ZL2 w.Zi.length (fun k=>(up w k p).toNat) fun k hk'=>by
    have:= (hok k).2;have:=hk k hk';omega
   have e:up w i p=up w j p:=by have:=hk i (by omega);have:=hk j h2;omega
   have hi:=hk i (by omega);have:=h (up w i p).toNat (by have:= (hok i).2;omega) (j - i - 1) (by omega);apply this;rw [Int.toNat_of_nonneg hi,show j - i - 1 + 1=j - i by omega,← up_add,show i + (j - i)=j by omega,e]
theorem ZbW {w:Zc} {q:Int} (h:okN w q) (h2:¬ q < 0):∃ k:Nat,q= (k:Int)∧k < w.Zi.length:= ⟨q.toNat,by omega,by have:=h.2;omega⟩
def spt (w:Zc) (p:Nat):ZX:=w.Zi.getD p default
theorem X7 {w:Zc} {p:Nat} (hp:p < w.Zi.length):ZW w.Zi (p:Int)=some (spt w p):=Ql default hp
theorem QH (w:Zc) (p:Nat):(spt w p).Xu=inn w (p:Int):=by unfold spt inn;rw [Int.toNat_natCast]
def KL (w:Zc) (d v:Nat):Prop:=∀ k,k < w.Zi.length ->∀ j,d <=j ->up w j (k:Int) ≠ (v:Int)
theorem KL.all {w:Zc} (hi:Inn w) {v:Nat}:KL w w.Zi.length v:=fun k hk j hj q=>by
 have:=Wj (hi.acy k hk) hj;omega
theorem ZFO {w:Zc} {x k v j:Nat} (h1:up w j (x:Int)= (k:Int)) (h2:inn w (k:Int)= (v:Int)):up w (j + 1) (x:Int)= (v:Int):=by
 rw [Wi,h1,if_neg (by omega),h2]
theorem KL.kid {w:Zc} {d v k:Nat} (h:KL w (d + 1) v) (h2:inn w (k:Int)= (v:Int)):KL w d k:=fun x hx j hj q=>h x hx (j + 1) (by omega) (ZFO q h2)
theorem ZAP {w:Zc} (hi:Inn w) {v j:Nat} (hv:v < w.Zi.length) (hj:0 < j):up w j (v:Int) ≠ (v:Int):=by
 intro e
 have h:∀ m,up w (m * j) (v:Int)= (v:Int):=by
  intro m
  induction m with
  | zero=>rw [Nat.zero_mul];rfl
  | succ m ih=>rw [Nat.succ_mul,up_add,ih,e]
 have:=h w.Zi.length;have h2:=Wj (hi.acy v hv) (show w.Zi.length <=w.Zi.length * j from Nat.le_mul_of_pos_right _ hj);omega
structure QN (s:Zc):Prop where
 m1:1 <=s.qG
 m2:s.qG <=4
 p1:1 <=s.Zi.length
 p2:s.Zi.length <=8
 at_:∀ p,p < s.Zi.length ->0 <= (spt s p).at_∧(spt s p).at_ < s.qG
 inn:Inn s
def Ends (s:Zc) (p:Nat):Prop:=∃ m,m <=s.Zi.length∧up s (m + 1) (p:Int) < 0
section
variable {F:Nat} {s:Zc}
theorem Ztf (hr:∀ p:Nat,p < s.Zi.length ->okN s (inn s p)) {p:Nat} (hp:p < s.Zi.length):∀ k,okN s (up s k (p:Int)):=by
 intro k
 induction k with
 | zero=>exact⟨by show(-1:Int) <= (p:Int);omega,by show(p:Int) < _;omega⟩
 | succ k ih=>
   rw [Wi];by_cases h2:up s k p < 0
   ·rw [if_pos h2];exact ih
   ·rw [if_neg h2];obtain⟨j,e,hj⟩:=ZbW ih h2;rw [e];exact hr j hj
theorem Zrr (hr:∀ p:Nat,p < s.Zi.length ->okN s (inn s p)):(∀ p,p < s.Zi.length ->Ends s p)↔∀ p:Nat,p < s.Zi.length ->up s s.Zi.length (p:Int) < 0:=by
 constructor
 ·intro h;refine(Zo3 hr).2 fun p hp j hj e=>?_
  obtain⟨m,hm,he⟩:=h p hp
  have:∀ k:Nat,up s (k * (j + 1)) p= (p:Int):=fun k=>by
   induction k with
   | zero=>rw [Nat.zero_mul];rfl
   | succ k ih=>rw [Nat.succ_mul,up_add,ih,e]
  have h2:=Wj he (b:= (m + 1) * (j + 1)) (Nat.le_mul_of_pos_right _ (by omega));rw [this] at h2;omega
 ·intro h p hp;exact⟨s.Zi.length,Nat.le_refl _,Wj (h p hp) (by omega)⟩
theorem Zur (hF:1000 <=F) (h8:s.Zi.length <=8) (hr:∀ p:Nat,p < s.Zi.length ->okN s (inn s p)) {p:Nat} (hp:p < s.Zi.length) (v30:Int) (next:Int×Int ->Option Int):
 loop F (Zka s (p:Int) next) (inn s (p:Int),v30,0,false)=ifc (Ends s p) (next (((p + 1:Nat):Int),v30)) (some 2):=by
 have e0:(inn s (p:Int),v30,(0:Int),false)= (up s (0 + 1) p,v30,((0:Nat):Int),false):=by
  rw [Wi];show _= (if((p:Int)) < 0 then _ else _,_);rw [if_neg (by omega)];rfl
 obtain⟨m,hm,hs,hlt⟩:=Zds (c:=fun k=>s.Zi.length <=k∨up s (k + 1) p < 0) (n:=s.Zi.length) (.inl (by omega))
 have hj:∀ j,j < m ->j < s.Zi.length∧¬ up s (j + 1) p < 0:=fun j hj=>by
  have:=hlt j hj;exact⟨Classical.byContradiction fun z=>this (.inl (by omega)),fun q=>this (.inr q)⟩
 refine XB (fun j=>(up s (j + 1) p,v30,(j:Int),false)) e0.symm (n:=m) (by omega) (fun j hjm nx=>?_) (fun nx=>?_)
 ·obtain⟨a1,a2⟩:=hj j hjm;obtain⟨k,e,hk⟩:=ZbW (Ztf hr hp (j + 1)) a2;unfold Zka;dsimp only;rw [Wi s (j + 1),if_neg a2,e,Zd0,Cq1,Qg (by omega),decide_eq_false (by omega),X7 hk];simp only [Cq0,Bool.not_true,Bq0];rw [QH]
 ·unfold Zka;dsimp only;by_cases h2:up s (m + 1) p < 0
  ·rw [decide_eq_false (show ¬ up s (m + 1) p >=0 by omega),Cq0,Yk ⟨m,hm,h2⟩];unfold ZgZ;dsimp only;rw [Cq0,Qg (by omega)]
  ·have hml:m=s.Zi.length:=by rcases hs with z | z;· omega
                              ·exact absurd z h2
   obtain⟨k,e,hk⟩:=ZbW (Ztf hr hp (m + 1)) h2
   have hne:¬ Ends s p:=by
    rintro⟨j,h1,h3⟩;have:=Wj h3 (show j + 1 <=m + 1 by omega);exact h2 this
   rw [e,Zd0,Cq1,Qg (by omega),decide_eq_true (show((m + 1:Nat):Int) > (s.Zi.length:Int) by omega),Z9 hne]
   rfl
theorem ZA6 (hF:1000 <=F) (h8:s.Zi.length <=8) (hr:∀ p:Nat,p < s.Zi.length ->okN s (inn s p)) {p:Nat} (hp:p < s.Zi.length) (next:Int ->Option Bool):
 loop F (Zkd s (p:Int) next) (inn s (p:Int),0)=ifc (∀ j,j <=s.Zi.length ->up s (j + 1) p ≠ (p:Int)) (next ((p + 1:Nat):Int)) (some false):=by
 have hok:=Ztf hr hp
 have e0:(inn s (p:Int),(0:Int))= (up s (0 + 1) p,((0:Nat):Int)):=by
  rw [Wi];show _= (if((p:Int)) < 0 then _ else _,_);rw [if_neg (by omega)];rfl
 obtain⟨m,hm,hs,hlt⟩:=Zds (c:=fun k=>s.Zi.length < k∨up s (k + 1) p < 0∨up s (k + 1) p= (p:Int)) (n:=s.Zi.length + 1) (.inl (by omega))
 have hj:∀ j,j < m ->j <=s.Zi.length∧¬ up s (j + 1) p < 0∧up s (j + 1) p ≠ (p:Int):=fun j hj=>by
  have:=hlt j hj;exact⟨Classical.byContradiction fun z=>this (.inl (by omega)),fun q=>this (.inr (.inl q)),fun q=>this (.inr (.inr q))⟩
 refine XB (fun j=>(up s (j + 1) p,(j:Int))) e0.symm (n:=m) (by omega) (fun j hjm nx=>?_) (fun nx=>?_)
 ·obtain⟨a1,a2,a3⟩:=hj j hjm;obtain⟨k,e,hk⟩:=ZbW (hok (j + 1)) a2;unfold Zkd;dsimp only;rw [Wi s (j + 1),if_neg a2];rw [e] at a3 ⊢;rw [decide_eq_true (show(j:Int) <= (s.Zi.length:Int) by omega),Zd0,Bool.and_self,Cq1,Xo,decide_eq_false a3,Cq0,X7 hk];simp only [Bq0];rw [Qg (by omega),QH]
 ·unfold Zkd;dsimp only;by_cases h1:s.Zi.length < m
  ·rw [decide_eq_false (show ¬ (m:Int) <= (s.Zi.length:Int) by omega),Bool.false_and,Cq0,Qg (by omega),Yk fun j q1=>(hj j (by omega)).2.2]
  ·by_cases h2:up s (m + 1) p < 0
   ·rw [decide_eq_false (show ¬ up s (m + 1) p >=0 by omega),Bool.and_false,Cq0,Qg (by omega),Yk];intro j q1 q2;rcases Nat.lt_or_ge j m with z | z
    ·exact(hj j z).2.2 q2
    ·have:=Wj h2 (show m + 1 <=j + 1 by omega);omega
   ·have h3:up s (m + 1) p= (p:Int):=by
     rcases hs with z | z | z
     ·exact absurd z h1
     ·exact absurd z h2
     ·exact z
    rw [decide_eq_true (show(m:Int) <= (s.Zi.length:Int) by omega),h3,Zd0,Bool.and_self,Cq1,Xo,decide_eq_true rfl,Cq1,Z9 fun z=>z m (by omega) h3]
def Rng (s:Zc) (p:Nat):Prop:= (0 <= (spt s p).at_∧(spt s p).at_ < s.qG)∧okN s (inn s (p:Int))
def Bnd (s:Zc):Prop:=1 <=s.qG∧s.qG <=4∧1 <=s.Zi.length∧s.Zi.length <=8
theorem Ziy (s:Zc):((((decide (s.qG < 1)) || (decide (s.qG > 4))) || (decide ((s.Zi.length:Int) < 1))) || (decide ((s.Zi.length:Int) > 8)))=true↔¬ Bnd s:=by
 unfold Bnd;simp only [Bool.or_eq_true,decide_eq_true_eq];omega
theorem ZaC:QN s↔Bnd s∧(∀ p,p < s.Zi.length ->Rng s p)∧∀ p:Nat,p < s.Zi.length ->up s s.Zi.length (p:Int) < 0:=
 ⟨fun h=>⟨⟨h.m1,h.m2,h.p1,h.p2⟩,fun p hp=>⟨h.at_ p hp,h.inn.rng p hp⟩,h.inn.acy⟩,fun h=>⟨h.1.1,h.1.2.1,h.1.2.2.1,h.1.2.2.2,fun p hp=>(h.2.1 p hp).1,⟨fun p hp=>(h.2.1 p hp).2,h.2.2⟩⟩⟩
theorem ZwT (hF:1000 <=F) (s:Zc):ZxQ F s=ifc (QN s) (some true) (some false):=by
 unfold ZxQ;rcases Classical.em (¬ Bnd s) with hb | hb
 ·rw [(Ziy s).2 hb,Cq1,Z9 fun z=>hb (ZaC.1 z).1]
 have hb:=Classical.not_not.1 hb;rw [Bool.eq_false_iff.2 fun z=>(Ziy s).1 z hb,Cq0];have h8:=hb.2.2.2
 have e1:=KU (body:=Zke F s) (r1:=some false) (r2:=loop F (Zg2 F s) 0) (s0:= (0:Int)) (fun k=>(k:Int)) rfl (Rng s) (n:=s.Zi.length) (F:=F) (by omega) (fun k hk next=>by
  unfold Zke;rw [YH hk,Cq1,X7 hk];simp only [Bq0];rw [QH];by_cases r:Rng s k
  ·have r1:=r.1.1;have r2:=r.1.2;have r3:=r.2.1;have r4:=r.2.2;rw [Yk r,decide_eq_false (by omega),decide_eq_false (by omega),decide_eq_false (by omega),decide_eq_false (by omega)];simp only [Bool.or_self,Cq0];rw [Qg (by omega)]
  ·rw [Z9 r]
   have:((((decide ((spt s k).at_ < 0)) || (decide ((spt s k).at_ >=s.qG))) || (decide (inn s (k:Int) < (-1)))) || (decide (inn s (k:Int) >= (s.Zi.length:Int))))=true:=by
    rw [← Bool.not_eq_false];intro z;simp only [Bool.or_eq_false_iff,decide_eq_false_iff_not] at z;exact r ⟨⟨by omega,by omega⟩,by omega,by omega⟩
   rw [this,Cq1]) (fun next=>by
  unfold Zke;rw [Xn,Cq0])
 rw [e1];by_cases hr:∀ p,p < s.Zi.length ->Rng s p
 ·have hr':∀ p:Nat,p < s.Zi.length ->okN s (inn s p):=fun p hp=>(hr p hp).2
  have e2:=KU (body:=Zg2 F s) (r1:=some false) (r2:=some true) (s0:= (0:Int)) (fun k=>(k:Int)) rfl (fun p:Nat=>∀ j,j <=s.Zi.length ->up s (j + 1) p ≠ (p:Int)) (n:=s.Zi.length) (F:=F) (by omega) (fun k hk next=>by
   unfold Zg2;rw [YH hk,Cq1,X7 hk];simp only [Bq0];rw [QH];exact ZA6 hF h8 hr' hk next) (fun next=>by
   unfold Zg2;rw [Xn,Cq0])
  rw [Yk hr,e2];by_cases ha:∀ p:Nat,p < s.Zi.length ->up s s.Zi.length (p:Int) < 0
  ·rw [Yk (ZaC.2 ⟨hb,hr,ha⟩),Yk ((Zo3 hr').1 ha)]
  ·rw [Z9 fun z=>ha (ZaC.1 z).2.2,Z9 fun z=>ha ((Zo3 hr').2 z)]
 ·rw [Z9 hr,Z9 fun z=>hr (ZaC.1 z).2.1]
theorem Zuq (hF:1000 <=F) (s:Zc):ZDU F s=ifc (QN s) (some 0) (some 2):=by
 unfold ZDU;rcases Classical.em (¬ Bnd s) with hb | hb
 ·rw [(Ziy s).2 hb,Cq1,Z9 fun z=>hb (ZaC.1 z).1]
 have hb:=Classical.not_not.1 hb;rw [Bool.eq_false_iff.2 fun z=>(Ziy s).1 z hb,Cq0];have h8:=hb.2.2.2
 have e1:=KU (body:=Zkb F s) (r1:=some 2) (r2:=loop F (Zg0 F s) (0,0)) (s0:= (0:Int)) (fun k=>(k:Int)) rfl (Rng s) (n:=s.Zi.length) (F:=F) (by omega) (fun k hk next=>by
  unfold Zkb Zn8;rw [YH hk,Cq1,X7 hk];simp only [Bq0];rw [QH];by_cases r1:0 <= (spt s k).at_∧(spt s k).at_ < s.qG
  ·rw [decide_eq_false (show ¬ (spt s k).at_ < 0 by omega),decide_eq_false (show ¬ (spt s k).at_ >=s.qG by omega)];simp only [Bool.or_self,Bool.not_false,Bool.true_and,Bool.false_or];by_cases r2:inn s (k:Int)=-1
   ·rw [r2,Kc,Jo];simp only [Bq0,Bool.false_and,Cq0];rw [Qg (by omega),Yk ⟨r1,by rw [r2];unfold okN;omega⟩]
   ·rw [KZ,decide_eq_true r2,Qp];simp only [Bq0,Bool.true_and];by_cases r3:0 <=inn s (k:Int)∧inn s (k:Int) < (s.Zi.length:Int)
    ·rw [decide_eq_true (show inn s (k:Int) >=0 from r3.1),decide_eq_true r3.2,Bool.and_self,Bool.not_true,Cq0,Qg (by omega),Yk ⟨r1,by unfold okN;omega⟩]
    ·have:(decide (inn s (k:Int) >=0) && decide (inn s (k:Int) < (s.Zi.length:Int)))=false:=by
      rw [← Bool.not_eq_true];intro z;simp only [Ba0,decide_eq_true_eq] at z;exact r3 ⟨z.1,z.2⟩
     rw [this,Bool.not_false,Cq1,Z9];rintro⟨_,a,b⟩;exact r3 ⟨by omega,b⟩
  ·have:(decide ((spt s k).at_ < 0) || decide ((spt s k).at_ >=s.qG))=true:=by
    rw [← Bool.not_eq_false];intro z;simp only [Bool.or_eq_false_iff,decide_eq_false_iff_not] at z;exact r1 ⟨by omega,by omega⟩
   rw [this];simp only [Bool.not_true,Bool.false_and,Jo,Bq0,Bool.true_or,Cq1];rw [Z9 fun z=>r1 z.1]) (fun next=>by
  unfold Zkb;rw [Xn,Cq0])
 rw [e1];by_cases hr:∀ p,p < s.Zi.length ->Rng s p
 ·have hr':∀ p:Nat,p < s.Zi.length ->okN s (inn s p):=fun p hp=>(hr p hp).2
  have e2:=KU (body:=Zg0 F s) (r1:=some 2) (r2:=some 0) (s0:= ((0:Int),(0:Int))) (fun k=>((k:Int),(0:Int))) rfl (Ends s) (n:=s.Zi.length) (F:=F) (by omega) (fun k hk next=>by
   unfold Zg0;dsimp only;rw [YH hk,Cq1,X7 hk];simp only [Bq0];rw [QH];exact Zur hF h8 hr' hk 0 next) (fun next=>by
   unfold Zg0;dsimp only;rw [Xn,Cq0])
  rw [Yk hr,e2];by_cases ha:∀ p:Nat,p < s.Zi.length ->up s s.Zi.length (p:Int) < 0
  ·rw [Yk (ZaC.2 ⟨hb,hr,ha⟩),Yk ((Zrr hr').2 ha)]
  ·rw [Z9 fun z=>ha (ZaC.1 z).2.2,Z9 fun z=>ha ((Zrr hr').1 z)]
 ·rw [Z9 hr,Z9 fun z=>hr (ZaC.1 z).2.1]
end
end
section
def arK (s:Zc) (p:Nat) (k:Nat):List Int:= (List.range k).map fun j=>up s (j + 1) (p:Int)
theorem ZEw (s:Zc) (p k:Nat):arK s p (k + 1)=arK s p k ++ [up s (k + 1) (p:Int)]:=by
 unfold arK;rw [List.range_succ,List.map_append];rfl
theorem Zwz (s:Zc) (p k:Nat):(arK s p k).length=k:=by unfold arK;rw [List.length_map,List.length_range]
section
variable {F:Nat} {s:Zc}
theorem Zl1 (s:Zc) (p:Int):(decide (p >=0) && decide (p < (s.Zi.length:Int)))=true↔∃ k:Nat,p= (k:Int)∧k < s.Zi.length:=by
 rw [Ba0,decide_eq_true_eq,decide_eq_true_eq]
 constructor
 ·rintro⟨a,b⟩;exact⟨p.toNat,by omega,by omega⟩
 ·rintro⟨k,rfl,h⟩;omega
theorem Zfr {k:Nat} (h:k < s.Zi.length):(decide ((k:Int) >=0) && decide ((k:Int) < (s.Zi.length:Int)))=true:= (Zl1 s k).2 ⟨k,rfl,h⟩
theorem up1 {p:Nat}:up s (0 + 1) (p:Int)=inn s (p:Int):=by
 rw [Wi];show(if((p:Int)) < 0 then _ else _)=_;rw [if_neg (by omega)];rfl
theorem Zbu {l:List Int} (h:l.length < F) (h2:l.length <=1000000):Zlm F l l=some true:=by
 unfold Zlm;rw [Kc,Cq0];refine XB (fun k=>(k:Int)) rfl (n:=l.length) h (fun k hk next=>?_) (fun next=>?_)
 ·unfold Zoi;rw [YH hk,Cq1,Ql 0 hk];simp only [Bq0];rw [Kc,Cq0,Qg (by omega)]
 ·unfold Zoi;rw [Xn,Cq0]
end
end
section
section
variable {F:Nat} {w:Zc} {d p o n:Int}
def c3 (l:List Zw) (d p o:Int):Nat:=l.countP fun x=>((x.kZ==d) && (x.kV==p)) && (x.kX==o)
end
end
section
def k1 (l:List Zw) (e:Zw):Nat:=l.countP fun x=>((x.kZ==1) && (x.n==e.n)) && ((e.kZ==1) || ((x.kV==e.kX) && (x.kX==e.kV)))
def k2 (l:List Zw) (e:Zw):Nat:=l.countP fun x=>(x.kZ==2) && (x.n==e.n)
section
variable {F:Nat} {w:Zc}
theorem ZBd (hF:100000 <=F) (h8:w.Zi.length <=8) (p:Int):Zt8 F w p=some (((List.range w.Zi.length).filter fun q:Nat=>inn w (q:Int)==p).map Int.ofNat):=by
 unfold Zt8;refine XB (fun k=>(((List.range k).filter fun q:Nat=>inn w (q:Int)==p).map Int.ofNat,(k:Int))) rfl (n:=w.Zi.length) (by omega) (fun k hk next=>?_) (fun next=>?_)
 ·have hl:=List.length_filter_le (fun q:Nat=>inn w (q:Int)==p) (List.range k);rw [List.length_range] at hl;unfold ZnY Zj3;dsimp only;rw [YH hk,Cq1,X7 hk];simp only [Bq0];rw [QH,List.range_succ,List.filter_append,List.map_append,Qg (by omega),List.filter_cons,List.filter_nil];cases h:(inn w (k:Int)==p) with
  | true=>
    rw [Cq1,if_pos rfl,ZoY (by rw [List.length_map,List.length_singleton];omega)];rfl
  | false=>rw [Cq0,if_neg (by decide),List.map_nil,List.append_nil]
 ·unfold ZnY;dsimp only;rw [Xn,Cq0]
end
end
section
section
variable {F:Nat} {w:Zc}
end
end
section
def tab {α:Type} (n:Nat) (f:Nat ->α):List α:= (List.range n).map f
def YG {α:Type} (f:Nat ->α) (k:Nat) (v:α):Nat ->α:=fun j=>if j=k then v else f j
theorem Yf {α:Type} (f:Nat ->α) (k:Nat) (v:α):YG f k v k=v:=if_pos rfl
theorem Xi {α:Type} {f:Nat ->α} {k j:Nat} {v:α} (h:j ≠ k):YG f k v j=f j:=if_neg h
theorem ZgK {α:Type} (f:Nat ->α) (k:Nat):YG f k (f k)=f:=by funext j;unfold YG;by_cases h:j=k <;> simp [h]
theorem Zxt {α:Type} (f:Nat ->α) (k:Nat) (v w:α):YG (YG f k v) k w=YG f k w:=by funext j;unfold YG;by_cases h:j=k <;> simp [h]
section
variable {α:Type} {n k:Nat} {f g:Nat ->α} {v:α}
theorem XA:(tab n f).length=n:=by simp [tab]
theorem Zh6 (h:k < n):(tab n f)[k]? =some (f k):=by simp [tab,h]
theorem Z5 (h:k < n):ZW (tab n f) (k:Int)=some (f k):=by rw [Zdq,Zh6 h]
theorem XE:Zz (tab n f) (k:Int) v=tab n (YG f k v):=by
 unfold Zz;apply List.ext_getElem?;intro j;rw [Int.toNat_natCast,List.getElem?_set,XA];by_cases hj:j < n
 ·rw [Zh6 hj,Zh6 hj];unfold YG;by_cases e:k=j
  ·subst e;simp [hj]
  ·rw [if_neg e,if_neg (fun q=>e q.symm)]
 ·rw [List.getElem?_eq_none (by rw [XA];omega),List.getElem?_eq_none (by rw [XA];omega)];by_cases e:k=j
  ·subst e;simp [hj]
  ·rw [if_neg e]
theorem WQ (h:∀ k,k < n ->f k=g k):tab n f=tab n g:=by
 unfold tab;exact List.map_congr_left fun k hk=>h k (List.mem_range.1 hk)
theorem Zbj:tab (n + 1) f=tab n f ++ [f n]:=by simp [tab,List.range_succ]
end
theorem ZFP {α:Type} (n:Nat) (x:α):List.replicate n x=tab n fun _=>x:=by
 apply List.ext_getElem?;intro j;by_cases hj:j < n
 ·rw [Zh6 hj,List.getElem?_replicate,if_pos hj]
 ·rw [List.getElem?_eq_none (by simp;omega),List.getElem?_eq_none (by rw [XA];omega)]
structure TS where
 st:Nat ->Int
 ma:Nat ->Nat ->Int
 kn:Nat ->List Int
 wa:Nat ->List Int
 be:Nat ->List Zd
 sn:Nat ->List Zd
 ld:Nat ->Nat
 sd:Int
 ev:List Zw
section
variable (s:Zc)
def nn:Nat:=s.Zi.length
def mm:Nat:=s.qG.toNat
def pl (p:Nat):Nat:= (spt s p).at_.toNat
def li (a b:Nat):Nat:=a * mm s + b
def Ju (σ:TS) (i:Nat):Zg:= ⟨(σ.ld i:Int),(σ.sn i).drop (σ.ld i)⟩
def vw (σ:TS):Zf:= ⟨tab (nn s) σ.st,tab (nn s) fun p=>tab (mm s * mm s) (σ.ma p),tab (nn s) σ.kn,tab (nn s) σ.wa,tab (mm s) σ.be,tab (mm s * mm s) (Ju σ),σ.sd⟩
def hal (σ:TS):Z7:= ⟨vw s σ,s,σ.ev⟩
def XZ (σ:TS):Z6:= ⟨s,vw s σ,σ.ev⟩
def tell (d p q n:Int) (σ:TS):TS:= {σ with ev:=σ.ev ++ [⟨d,p,q,n⟩]}
def send (a b:Nat) (x:Zd) (σ:TS):TS:= {σ with sn:=YG σ.sn (li s a b) (σ.sn (li s a b) ++ [x])}
def wait (m:Nat) (x:Zd) (σ:TS):TS:= {σ with be:=YG σ.be m (σ.be m ++ [x])}
def Kq (σ:TS) (p:Nat):List Int:=tab (mm s * mm s) (σ.ma p)
def JK (p q:Nat) (σ:TS):TS:=if pl s p=pl s q then wait (pl s p) ⟨5,p,q,0,Kq s σ q⟩ σ else send s (pl s q) (pl s p) ⟨5,p,q,0,Kq s σ q⟩ σ
def see (p q:Nat) (n:Int) (σ:TS):TS:=if σ.st p=1 then tell 2 p q n σ else σ
def note (p q:Nat) (σ:TS):TS:=if σ.st q=3 then JK s p q σ else{σ with wa:=YG σ.wa q (σ.wa q ++ [(p:Int)])}
structure Few (B:Nat) (σ:TS):Prop where
 ev:σ.ev.length <=B
 sn:∀ i,i < mm s * mm s ->(σ.sn i).length <=B
 be:∀ m,m < mm s ->(σ.be m).length <=B
 wa:∀ q,q < nn s ->(σ.wa q).length <=B
 ld:∀ i,i < mm s * mm s ->σ.ld i <= (σ.sn i).length
 ws:∀ q,q < nn s ->∀ x ∈ σ.wa q,∃ k:Nat,x= (k:Int)∧k < nn s
end
section
variable {s:Zc} {σ:TS} {a b p q k B:Nat}
theorem QN.mm (h:QN s):s.qG= (Proofs.YtcnahmgekicbdaaGreat.mm s:Int)∧1 <=Proofs.YtcnahmgekicbdaaGreat.mm s∧Proofs.YtcnahmgekicbdaaGreat.mm s <=4:=by
 have:=h.m1;have:=h.m2;unfold Proofs.YtcnahmgekicbdaaGreat.mm;omega
theorem QN.pl (h:QN s) (hp:p < nn s):(spt s p).at_= (Proofs.YtcnahmgekicbdaaGreat.pl s p:Int)∧Proofs.YtcnahmgekicbdaaGreat.pl s p < Proofs.YtcnahmgekicbdaaGreat.mm s:=by
 have:=h.at_ p hp;have:=h.mm.1;unfold Proofs.YtcnahmgekicbdaaGreat.pl;omega
theorem KN (ha:a < mm s) (hb:b < mm s):li s a b < mm s * mm s:=by
 unfold li;have:(a + 1) * mm s <=mm s * mm s:=Nat.mul_le_mul_right _ ha;rw [Nat.add_mul,Nat.one_mul] at this;omega
theorem Uw (hS:QN s) (ha:a < mm s) (hb:b < mm s):Ye (Ye ((a:Int) * s.qG) + (b:Int))= ((li s a b:Nat):Int):=by
 obtain⟨e,h1,h4⟩:=hS.mm;have hl:=KN ha hb;have h16:mm s * mm s <=16:=Nat.mul_le_mul h4 h4;have hm:a * mm s <=li s a b:=by unfold li;omega
 rw [e];have e1:(a:Int) * ((mm s:Nat):Int)= ((a * mm s:Nat):Int):=by rw [Int.natCast_mul]
 have e3:Ye ((a * mm s:Nat):Int)= ((a * mm s:Nat):Int):=ZbH (by omega) (by omega);have e2:((a * mm s:Nat):Int) + (b:Int)= ((li s a b:Nat):Int):=by unfold li;omega
 rw [e1,e3,e2];exact ZbH (by omega) (by omega)
theorem Wz (hS:QN s) (hp:p < nn s):KE (hal s σ) (p:Int)=some (pl s p:Int):=by
 unfold KE;show(ZW s.Zi (p:Int)).bind _=_;rw [X7 hp];simp only [Bq0];rw [(hS.pl hp).1]
theorem Za9 (hS:QN s) (hp:p < nn s):KF (XZ s σ) (p:Int)=some (pl s p:Int):=by
 unfold KF;show(ZW s.Zi (p:Int)).bind _=_;rw [X7 hp];simp only [Bq0];rw [(hS.pl hp).1]
theorem K6 (h:Few s 800000 σ) (d p q n:Int):Zlk (hal s σ) d p q n=some (hal s (tell d p q n σ)):=by
 unfold Zlk;show(app 32 σ.ev _).bind _=_;rw [app1 (by have:=h.ev;omega) (by decide)];rfl
theorem Zbi (h:Few s 800000 σ) (d p q n:Int):Zll (XZ s σ) d p q n=some (XZ s (tell d p q n σ)):=by
 unfold Zll;show(app 32 σ.ev _).bind _=_;rw [app1 (by have:=h.ev;omega) (by decide)];rfl
theorem Zqi (h:Few s B σ) (ha:a < mm s) (hb:b < mm s) (x:Zd):tab (mm s * mm s) (YG (Ju σ) (li s a b) ⟨(σ.ld (li s a b):Int),(σ.sn (li s a b)).drop (σ.ld (li s a b)) ++ [x]⟩)=tab (mm s * mm s) (Ju (send s a b x σ)):=by
 refine WQ fun k hk=>?_
 by_cases e:k=li s a b
 ·subst e;rw [Yf];show _= (⟨_,(YG σ.sn (li s a b) _ (li s a b)).drop _⟩:Zg);rw [Yf];show _= (⟨_,(σ.sn (li s a b) ++ [x]).drop (σ.ld (li s a b))⟩:Zg);rw [List.drop_append_of_le_length (h.ld _ hk)];rfl
 ·rw [Xi e];show _= (⟨_,(YG σ.sn (li s a b) _ k).drop _⟩:Zg);rw [Xi e];rfl
theorem Zbk (hS:QN s) (h:Few s 800000 σ) (ha:a < mm s) (hb:b < mm s) (x:Zd):ZnW (hal s σ) (a:Int) (b:Int) x=some (hal s (send s a b x σ)):=by
 unfold ZnW;show(ZW (tab (mm s * mm s) (Ju σ)) (Ye (Ye ((a:Int) * s.qG) + (b:Int)))).bind _=_;have hl:=KN ha hb;rw [Uw hS ha hb,Z5 hl];simp only [Bq0];have:((Ju σ (li s a b)).kG).length <=900000:=by have:=h.sn _ hl;unfold Ju;simp;omega
 rw [app1 this (by decide)];simp only [Bq0];show some (Z7.mk (Zf.mk _ _ _ _ _ (Zz (tab (mm s * mm s) (Ju σ)) (Ye (Ye ((a:Int) * s.qG) + (b:Int))) _) _) _ _)=_;rw [Uw hS ha hb,XE,show(Ju σ (li s a b)).Zu= (σ.ld (li s a b):Int) from rfl,show(Ju σ (li s a b)).kG= (σ.sn (li s a b)).drop (σ.ld (li s a b)) from rfl,Zqi h ha hb x];rfl
theorem ZcY (hS:QN s) (h:Few s 800000 σ) (ha:a < mm s) (hb:b < mm s) (x:Zd):Zn6 (XZ s σ) (a:Int) (b:Int) x=some (XZ s (send s a b x σ)):=by
 unfold Zn6;show(ZW (tab (mm s * mm s) (Ju σ)) (Ye (Ye ((a:Int) * s.qG) + (b:Int)))).bind _=_;have hl:=KN ha hb;rw [Uw hS ha hb,Z5 hl];simp only [Bq0];have:((Ju σ (li s a b)).kG).length <=900000:=by have:=h.sn _ hl;unfold Ju;simp;omega
 rw [app1 this (by decide)];simp only [Bq0];show some (Z6.mk _ (Zf.mk _ _ _ _ _ (Zz (tab (mm s * mm s) (Ju σ)) (Ye (Ye ((a:Int) * s.qG) + (b:Int))) _) _) _)=_;rw [Uw hS ha hb,XE,show(Ju σ (li s a b)).Zu= (σ.ld (li s a b):Int) from rfl,show(Ju σ (li s a b)).kG= (σ.sn (li s a b)).drop (σ.ld (li s a b)) from rfl,Zqi h ha hb x];rfl
theorem ZlL (h:Few s 800000 σ) (ha:a < mm s) (x:Zd):Zmx (hal s σ) (a:Int) x=some (hal s (wait a x σ)):=by
 unfold Zmx;show(ZW (tab (mm s) σ.be) (a:Int)).bind _=_;rw [Z5 ha];simp only [Bq0];rw [app1 (by have:=h.be a ha;omega) (by decide)];simp only [Bq0];show(ZW (tab (mm s) σ.be) (a:Int)).bind (fun _=>some (Z7.mk (Zf.mk _ _ _ _ (Zz (tab (mm s) σ.be) (a:Int) _) _ _) _ _))=_;rw [Z5 ha,XE];rfl
theorem Zfz (hS:QN s) (hq:q < nn s):app 8 ([]:List Int) (Kq s σ q)=some (Kq s σ q):=by
 have:(Kq s σ q).length <=16:=by unfold Kq;rw [XA];exact Nat.mul_le_mul hS.mm.2.2 hS.mm.2.2
 rw [ZoY (by simp;omega)];rfl
theorem Wx (a b:Nat):(((a:Int))== ((b:Int)))=decide (a=b):=by
 rw [Xo];by_cases h:a=b
 ·subst h;simp
 ·rw [decide_eq_false h,decide_eq_false (by omega)]
theorem ZmF (hS:QN s) (h:Few s 800000 σ) (hp:p < nn s) (hq:q < nn s):ZxF (hal s σ) (p:Int) (q:Int)=some (hal s (JK s p q σ)):=by
 unfold ZxF ZhH;show(ZW (tab (nn s) fun p=>tab (mm s * mm s) (σ.ma p)) (q:Int)).bind _=_;rw [Z5 hq];simp only [Bq0];rw [show app 8 ([]:List Int) (tab (mm s * mm s) (σ.ma q))=some (Kq s σ q) from Zfz hS hq];simp only [Bq0];rw [Wz hS hp,Wz hS hq];simp only [Bq0];rw [Wx];unfold JK;by_cases e:pl s p=pl s q
 ·rw [decide_eq_true e,Cq1,if_pos e,ZlL h (hS.pl hp).2];rfl
 ·rw [decide_eq_false e,Cq0,if_neg e,Zbk hS h (hS.pl hq).2 (hS.pl hp).2];rfl
theorem ZrW (hS:QN s) (h:Few s 800000 σ) (hp:p < nn s) (hq:q < nn s):ZxH (XZ s σ) (p:Int) (q:Int)=some (XZ s (JK s p q σ)):=by
 unfold ZxH;show(ZW (tab (nn s) fun p=>tab (mm s * mm s) (σ.ma p)) (q:Int)).bind _=_;rw [Z5 hq];simp only [Bq0];rw [show app 8 ([]:List Int) (tab (mm s * mm s) (σ.ma q))=some (Kq s σ q) from Zfz hS hq];simp only [Bq0];rw [Za9 hS hp,Za9 hS hq];simp only [Bq0];rw [Wx];unfold JK;by_cases e:pl s p=pl s q
 ·rw [decide_eq_true e,Cq1,if_pos e];show(ZW (tab (mm s) σ.be) (pl s p:Int)).bind _=_;have ha:= (hS.pl hp).2;rw [Z5 ha];simp only [Bq0];rw [app1 (by have:=h.be _ ha;omega) (by decide)];simp only [Bq0];show(ZW (tab (mm s) σ.be) (pl s p:Int)).bind (fun _=>some (Z6.mk _ (Zf.mk _ _ _ _ (Zz (tab (mm s) σ.be) (pl s p:Int) _) _ _) _))=_;rw [Z5 ha,XE];rfl
 ·rw [decide_eq_false e,Cq0,if_neg e,ZcY hS h (hS.pl hq).2 (hS.pl hp).2];rfl
theorem Zva (h:Few s 800000 σ) (hp:p < nn s) (hq:q < nn s) (n:Int):ZxL (XZ s σ) (p:Int) (q:Int) n=some (XZ s (see p q n σ)):=by
 unfold ZxL Zj8;show((ZW (tab (nn s) σ.st) (p:Int)).bind _).bind _=_;rw [Z5 hp];simp only [Bq0];unfold see;rw [Xo];by_cases e:σ.st p=1
 ·rw [decide_eq_true e,Cq1,if_pos e,Zbi h];rfl
 ·rw [decide_eq_false e,Cq0,if_neg e]
theorem ZpE (h:Few s 800000 σ) {x:Zd} (hx:x.kX= (p:Int)) (hp:p < nn s):ZxJ (hal s σ) x=some (hal s (if σ.st p=1 then tell 2 p x.kV x.n σ else σ)):=by
 unfold ZxJ;rw [hx];show(ZW (tab (nn s) σ.st) (p:Int)).bind _=_;rw [Z5 hp];simp only [Bq0];rw [Xo];by_cases e:σ.st p=1
 ·rw [decide_eq_true e,Cq1,if_pos e,K6 h];rfl
 ·rw [decide_eq_false e,Cq0,if_neg e]
theorem Zqb (hS:QN s) (h:Few s 800000 σ) (hp:p < nn s) (hq:q < nn s):ZxK (XZ s σ) (p:Int) (q:Int)=some (XZ s (note s p q σ)):=by
 unfold ZxK;show(ZW (tab (nn s) σ.st) (q:Int)).bind _=_;rw [Z5 hq];simp only [Bq0];unfold note;rw [Xo];by_cases e:σ.st q=3
 ·rw [decide_eq_true e,Cq1,if_pos e,ZrW hS h hp hq];rfl
 ·rw [decide_eq_false e,Cq0,if_neg e];show(ZW (tab (nn s) σ.wa) (q:Int)).bind _=_;rw [Z5 hq];simp only [Bq0];rw [app1 (by have:=h.wa _ hq;omega) (by decide)];simp only [Bq0];show(ZW (tab (nn s) σ.wa) (q:Int)).bind (fun _=>some (Z6.mk _ (Zf.mk _ _ _ (Zz (tab (nn s) σ.wa) (q:Int) _) _ _ _) _))=_;rw [Z5 hq,XE];rfl
theorem Zl4 (hS:QN s) (h:Few s 800000 σ) {x:Zd} (hx:x.kV= (p:Int)) (hy:x.kX= (q:Int)) (hp:p < nn s) (hq:q < nn s):ZxI (hal s σ) x=some (hal s (note s p q σ)):=by
 unfold ZxI;rw [hx,hy];show(ZW (tab (nn s) σ.st) (q:Int)).bind _=_;rw [Z5 hq];simp only [Bq0];unfold note;rw [Xo];by_cases e:σ.st q=3
 ·rw [decide_eq_true e,Cq1,if_pos e,ZmF hS h hp hq];rfl
 ·rw [decide_eq_false e,Cq0,if_neg e];show(ZW (tab (nn s) σ.wa) (q:Int)).bind _=_;rw [Z5 hq];simp only [Bq0];rw [app1 (by have:=h.wa _ hq;omega) (by decide)];simp only [Bq0];show(ZW (tab (nn s) σ.wa) (q:Int)).bind (fun _=>some (Z7.mk (Zf.mk _ _ _ (Zz (tab (nn s) σ.wa) (q:Int) _) _ _ _) _ _))=_;rw [Z5 hq,XE];rfl
end
end
section
def Alo (s:Zc) (σ:TS) (p:Nat):Prop:=∀ k:Nat,k < nn s ->inn s (k:Int)= (p:Int) ->(k:Int) ∈ σ.kn p
def ins (k:Int) (l:List Int):List Int:=l.takeWhile (fun x=>decide (x < k)) ++ k::l.dropWhile (fun x=>decide (x < k))
def mx (f:Nat ->Int) (l:List Int) (i:Nat):Int:=if l.getD i 0 > f i then l.getD i 0 else f i
theorem ZHZ:∀ (l:List Int) (a b:Int),l.Pairwise (· < ·) ->(∀ x ∈ l,a <=x∧x < b) ->(l.length:Int) <=max 0 (b - a):=by
 intro l
 induction l with
 | nil=>intro a b _ _;simp;omega
 | cons x xs ih=>
   intro a b h1 h2;obtain⟨p1,p2⟩:=List.pairwise_cons.1 h1;have:=ih (x + 1) b p2 fun y hy=>⟨by have:=p1 y hy;omega,(h2 y (by simp [hy])).2⟩
   have:=h2 x (by simp);rw [List.length_cons];omega
section
variable {s:Zc} {σ:TS} {F p k q:Nat}
theorem ZBh {l:List Int} (hF:1000 <=F) (hl:l.length <=500) (x:Int):∃ r,Zre F l x=some r∧(r >=0↔x ∈ l):=by
 unfold Zre;by_cases hz:∃ j,j < l.length∧l.getD j 0=x
 ·obtain⟨j,hj⟩:=hz;obtain⟨m,_,⟨hm,hx⟩,hlt⟩:=Zds (c:=fun j=>j < l.length∧l.getD j 0=x) hj;refine⟨(m:Int),XB (fun k=>(k:Int)) rfl (n:=m) (by omega) (fun k hk next=>?_) (fun next=>?_),?_⟩
  ·unfold Zd1;rw [YH (show k < l.length by omega),Cq1,Ql 0 (show k < l.length by omega)];simp only [Bq0];rw [Xo,decide_eq_false (fun e=>hlt k hk ⟨by omega,e.symm⟩),Cq0,Qg (by omega)]
  ·unfold Zd1;rw [YH hm,Cq1,Ql 0 hm];simp only [Bq0];rw [Xo,decide_eq_true hx.symm,Cq1]
  ·exact⟨fun _=>by rw [← hx];exact QU hm,fun _=>by omega⟩
 ·refine⟨-1,XB (fun k=>(k:Int)) rfl (n:=l.length) (by omega) (fun k hk next=>?_) (fun next=>?_),?_⟩
  ·unfold Zd1;rw [YH hk,Cq1,Ql 0 hk];simp only [Bq0];rw [Xo,decide_eq_false (fun e=>hz ⟨k,hk,e.symm⟩),Cq0,Qg (by omega)]
  ·unfold Zd1;rw [Xn,Cq0]
  ·refine⟨fun h=>by omega,fun h=>?_⟩;obtain⟨j,hj,e⟩:=List.getElem_of_mem h;exact absurd ⟨j,hj,by rw [Kt hj];exact e⟩ hz
theorem contains_eq {l:List Int} (hF:1000 <=F) (hl:l.length <=500) (x:Int):ZxE F l x=some (decide (x ∈ l)):=by
 obtain⟨r,h1,h2⟩:=ZBh (F:=F) hF hl x;unfold ZxE;rw [h1];simp only [Bq0];congr 1;by_cases h:x ∈ l
 ·rw [decide_eq_true h,decide_eq_true (h2.2 h)]
 ·rw [decide_eq_false h,decide_eq_false fun q=>h (h2.1 q)]
theorem Zl8 (hF:1000 <=F) (hp:p < nn s) (hl:(σ.kn p).length <=500) (x:Int):ZxG F (XZ s σ) (p:Int) x=some (decide (x ∈ σ.kn p)):=by
 unfold ZxG;show(ZW (tab (nn s) σ.kn) (p:Int)).bind _=_;rw [Z5 hp];simp only [Bq0]
 have e:=KU (body:=Zj2 x (σ.kn p)) (r1:=some true) (r2:=some false) (s0:= (0:Int)) (fun k=>(k:Int)) rfl (fun k=>(σ.kn p).getD k 0 ≠ x) (n:= (σ.kn p).length) (F:=F) (by omega) (fun k hk next=>by
  unfold Zj2;rw [YH hk,Cq1,Ql 0 hk];simp only [Bq0];rw [Xo];by_cases e:(σ.kn p).getD k 0=x
  ·rw [decide_eq_true e,Cq1,Z9 (fun z=>z e)]
  ·rw [decide_eq_false e,Cq0,Yk e,Qg (by omega)]) (fun next=>by
  unfold Zj2;rw [Xn,Cq0])
 rw [e];by_cases h:x ∈ σ.kn p
 ·obtain⟨j,hj,e⟩:=List.getElem_of_mem h;rw [Z9 (fun z=>z j hj (by rw [Kt hj];exact e)),decide_eq_true h]
 ·rw [Yk (fun k hk e=>h (by rw [← e];exact QU hk)),decide_eq_false h]
theorem ZeO (hF:1000 <=F) (hS:QN s) (hp:p < nn s) (hl:(σ.kn p).length <=500):Zrb F (hal s σ) (p:Int)=ifc (Alo s σ p) (some true) (some false):=by
 unfold Zrb ZnV;simp only [Bq0];have h8:=hS.p2
 have e:=KU (body:=ZjV F (hal s σ) (p:Int)) (r1:=some false) (r2:=some true) (s0:= ((0:Int),false)) (fun k=>((k:Int),false)) rfl (fun k:Nat=>inn s (k:Int)= (p:Int) ->(k:Int) ∈ σ.kn p) (n:=nn s) (F:=F) (by unfold nn;omega) (fun k hk next=>by
  unfold ZjV;dsimp only;rw [show(hal s σ).qK.Zi=s.Zi from rfl,show((s.Zi.length:Nat):Int)= ((nn s:Nat):Int) from rfl,YH hk,Cq1,X7 hk];simp only [Bq0];rw [QH,Xo];by_cases e:inn s (k:Int)= (p:Int)
  ·rw [decide_eq_true e,Cq1,Cq0];show(ZW (tab (nn s) σ.kn) (p:Int)).bind _=_;rw [Z5 hp];simp only [Bq0];rw [contains_eq hF hl];simp only [Bq0,Bool.not_false,Bool.not_true,Cq1,Cq0];by_cases m:(k:Int) ∈ σ.kn p
   ·rw [decide_eq_true m,Bool.not_true,Cq0,Yk (fun _=>m),Qg (by unfold nn at hk;omega)]
   ·rw [decide_eq_false m,Bool.not_false,Cq1,Z9 (fun z=>m (z e))];rfl
  ·rw [decide_eq_false e,Cq0,Yk (fun z=>absurd z e),Qg (by unfold nn at hk;omega)]) (fun next=>by
  unfold ZjV;dsimp only;rw [show(hal s σ).qK.Zi=s.Zi from rfl,show((s.Zi.length:Nat):Int)= ((nn s:Nat):Int) from rfl,Xn,Cq0]
  rfl)
 rw [e];rfl
def KV (s:Zc) (p:Nat):List Nat:= (List.range (nn s)).filter fun q:Nat=>inn s (q:Int)== (p:Int)
theorem Zdm:k ∈ KV s p↔k < nn s∧inn s (k:Int)= (p:Int):=by unfold KV;simp
theorem Zql (hS:QN s):(KV s p).length <=8:=by
 have:=List.length_filter_le (fun q:Nat=>inn s (q:Int)== (p:Int)) (List.range (nn s));have h8:=hS.p2;unfold KV;rw [List.length_range] at this;unfold nn at *;omega
theorem ZvD (hF:100000 <=F) (hS:QN s):Zt8 F s (p:Int)=some ((KV s p).map Int.ofNat):=ZBd hF hS.p2 (p:Int)
theorem Zho (hF:100000 <=F) (hS:QN s) (hp:p < nn s) (hl:(σ.kn p).length <=500):ZgP F (XZ s σ) (p:Int)=ifc (Alo s σ p) (some true) (some false):=by
 unfold ZgP;rw [show(XZ s σ).s=s from rfl,ZvD hF hS];simp only [Bq0];have h8:=Zql (p:=p) hS
 have e:=KU (body:=Zj1 F (XZ s σ) (p:Int) ((KV s p).map Int.ofNat)) (r1:=some false) (r2:=some true) (s0:= (0:Int)) (fun k=>(k:Int)) rfl (fun j:Nat=>(((KV s p).getD j 0:Nat):Int) ∈ σ.kn p) (n:= (KV s p).length) (F:=F) (by omega) (fun j hj next=>by
  unfold Zj1;rw [List.length_map,YH hj,Cq1,Ql 0 (by rw [List.length_map];exact hj)];simp only [Bq0]
  have e1:((KV s p).map Int.ofNat).getD j 0= (((KV s p).getD j 0:Nat):Int):=by
   rw [Kt (by rw [List.length_map];exact hj),Kt hj,List.getElem_map];rfl
  rw [e1,Zl8 (by omega) hp hl];simp only [Bq0];by_cases m:(((KV s p).getD j 0:Nat):Int) ∈ σ.kn p
  ·rw [decide_eq_true m,Bool.not_true,Cq0,Yk m,Qg (by omega)]
  ·rw [decide_eq_false m,Bool.not_false,Cq1,Z9 m]) (fun next=>by
  unfold Zj1;rw [List.length_map,Xn,Cq0])
 rw [e];by_cases h:Alo s σ p
 ·rw [Yk h,Yk fun j hj=>by
   have:=Zdm.1 (QU (d:=0) hj);exact h _ this.1 this.2]
 ·rw [Z9 h,Z9 fun z=>h fun k hk e=>by
   have hm:=Zdm.2 ⟨hk,e⟩;obtain⟨j,hj,e2⟩:=List.getElem_of_mem hm;have:=z j hj;rw [Kt hj,e2] at this;exact this]
end
theorem Zbh {l:List Int} {k:Int}:(l.takeWhile fun x=>decide (x < k)).length <=l.length:=by
 induction l with
 | nil=>simp
 | cons x xs ih=>
   rw [List.takeWhile_cons];by_cases h:x < k <;> simp [h];omega
theorem Zzr {l:List Int} {k:Int}:∀ j,j < (l.takeWhile fun x=>decide (x < k)).length ->l.getD j 0 < k:=by
 induction l with
 | nil=>intro j hj;simp at hj
 | cons x xs ih=>
   intro j hj;rw [List.takeWhile_cons] at hj;by_cases h:x < k
   ·rw [decide_eq_true h,if_pos rfl,List.length_cons] at hj;cases j with
    | zero=>simpa using h
    | succ j=>have:=ih j (by omega);simpa using this
   ·rw [decide_eq_false h] at hj;simp at hj
theorem Zzs {l:List Int} {k:Int} (hs:l.Pairwise (· < ·)):∀ j,(l.takeWhile fun x=>decide (x < k)).length <=j ->j < l.length ->k <=l.getD j 0:=by
 induction l with
 | nil=>intro j _ hj;simp at hj
 | cons x xs ih=>
   intro j h1 h2;obtain⟨p1,p2⟩:=List.pairwise_cons.1 hs;rw [List.takeWhile_cons] at h1;by_cases h:x < k
   ·rw [decide_eq_true h,if_pos rfl,List.length_cons] at h1;cases j with
    | zero=>omega
    | succ j=>have:=ih p2 j (by omega) (by simpa using h2);simpa using this
   ·cases j with
    | zero=>simpa using h
    | succ j=>
      have hj:j < xs.length:=by simpa using h2
      have:=p1 _ (QU (d:=0) hj);simp only [List.getD_cons_succ];omega
theorem Zpw {l:List Int} {k:Int}:l.take (l.takeWhile fun x=>decide (x < k)).length=l.takeWhile (fun x=>decide (x < k))∧l.drop (l.takeWhile fun x=>decide (x < k)).length=l.dropWhile (fun x=>decide (x < k)):=by
 have h:=List.takeWhile_append_dropWhile (p:=fun x:Int=>decide (x < k)) (l:=l)
 constructor
 ·conv=>lhs;rw [← h]
  rw [List.takeWhile_append_dropWhile];have:∀ (a b:List Int),(a ++ b).take a.length=a:=fun a b=>by simp
  conv=>lhs;arg 2;rw [← h]
  exact this _ _
 ·have:∀ (a b:List Int),(a ++ b).drop a.length=b:=fun a b=>by simp
  conv=>lhs;arg 2;rw [← h]
  exact this _ _
theorem ZBg (k:Int) (l:List Int):ins k l=l.take (l.takeWhile fun x=>decide (x < k)).length ++ k::l.drop (l.takeWhile fun x=>decide (x < k)).length:=by
 unfold ins;rw [Zpw.1,Zpw.2]
theorem ZaI {k x:Int} {l:List Int}:x ∈ ins k l↔x=k∨x ∈ l:=by
 unfold ins
 conv=>rhs;rhs;rw [← List.takeWhile_append_dropWhile (p:=fun x:Int=>decide (x < k)) (l:=l)]
 simp only [List.mem_append,List.mem_cons]
 constructor
 ·rintro(h | h | h)
  ·exact .inr (.inl h)
  ·exact .inl h
  ·exact .inr (.inr h)
 ·rintro(h | h | h)
  ·exact .inr (.inl h)
  ·exact .inl h
  ·exact .inr (.inr h)
theorem Ztv {k:Int}:∀ {l:List Int},l.Pairwise (· < ·) ->k ∉ l ->(ins k l).Pairwise (· < ·):=by
 intro l
 induction l with
 | nil=>intro _ _;simp [ins]
 | cons x xs ih=>
   intro hs hk;obtain⟨p1,p2⟩:=List.pairwise_cons.1 hs;simp at hk;by_cases h:x < k
   ·have e:ins k (x::xs)=x::ins k xs:=by unfold ins;simp [List.takeWhile_cons,List.dropWhile_cons,h]
    rw [e]
    exact List.pairwise_cons.2 ⟨fun y hy=>by rcases ZaI.1 hy with z | z;· rw [z];exact h
                                             ·exact p1 y z,ih p2 hk.2⟩
   ·have e:ins k (x::xs)=k::x::xs:=by unfold ins;simp [List.takeWhile_cons,List.dropWhile_cons,h]
    rw [e]
    exact List.pairwise_cons.2 ⟨fun y hy=>by rcases List.mem_cons.1 hy with z | z;· rw [z];omega
                                             ·have:=p1 y z;omega,hs⟩
theorem ZF8 (a b:Int):Zrf a b=some (decide (a < b)):=by
 unfold Zrf Zmw;simp [gd]
theorem ZlP {F:Nat} {l:List Int} {k:Int} (hF:1000 <=F) (hl:l.length <=500) (hs:l.Pairwise (· < ·)) (hk:k ∉ l):Zmv F l k=some (((l.takeWhile fun x=>decide (x < k)).length:Int),false):=by
 unfold Zmv;obtain⟨c,hc⟩:∃ c,c= (l.takeWhile fun x=>decide (x < k)).length:= ⟨_,rfl⟩
 have h1:∀ j,j < c ->l.getD j 0 < k:=fun j hj=>Zzr j (by omega)
 have h2:∀ j,c <=j ->j < l.length ->k <=l.getD j 0:=fun j a b=>Zzs hs j (by omega) b
 have hcl:c <=l.length:=by rw [hc];exact Zbh
 rw [← hc]
 have key:∀ d F i j:Nat,d < F ->j - i <=d ->i <=c ->c <=j ->j <=l.length ->loop F (ZfQ l k) ((i:Int),(j:Int))=some ((c:Int),false):=by
  intro d
  induction d with
  | zero=>
    intro F i j hF hd hi hj hjl;have:i=c:=by omega
    subst this;have:j=i:=by omega
    subst this;cases F with
    | zero=>omega
    | succ F=>
      rw [Jg];unfold ZfQ;dsimp only;rw [Xn,Cq0,ZL5];by_cases hlt:j < l.length
      ·rw [decide_eq_true hlt,Ql 0 hlt];have:l.getD j 0 ≠ k:=fun e=>hk (by rw [← e];exact QU hlt)
       rw [Qp];simp only [Bq0];rw [Xo,decide_eq_false this];simp [gd,Zmt,Ql 0 hlt]
      ·rw [decide_eq_false hlt];simp [gd]
  | succ d ih=>
    intro F i j hF hd hi hj hjl;by_cases hij:i < j
    ·cases F with
     | zero=>omega
     | succ F=>
       rw [Jg];unfold ZfQ;dsimp only;have e1:Ye ((i:Int) + (j:Int))= ((i + j:Nat):Int):=by rw [ZbH (by omega) (by omega)];omega
       have e2:IntKind.wrap .u64 (((i + j:Nat):Int))= ((i + j:Nat):Int):=by
        show(((i + j:Nat):Int)) % 18446744073709551616=_;omega
       have e3:Ye ((((i + j:Nat):Int)) / 2)= (((i + j) / 2:Nat):Int):=by rw [ZbH (by omega) (by omega)];omega
       obtain⟨m,hm⟩:∃ m,m= (i + j) / 2:= ⟨_,rfl⟩
       rw [YH hij,Cq1,e1,e2,e3,← hm,Ql 0 (by omega)];simp only [Bq0];rw [ZF8];simp only [Bq0];by_cases hx:l.getD m 0 < k
       ·rw [decide_eq_true hx,Cq1,Qg (by omega)];have:m < c:=Classical.byContradiction fun z=>by have:=h2 m (by omega) (by omega);omega
        exact ih F (m + 1) j (by omega) (by omega) (by omega) hj hjl
       ·rw [decide_eq_false hx,Cq0];have:c <=m:=Classical.byContradiction fun z=>by have:=h1 m (by omega);omega
        exact ih F i m (by omega) (by omega) hi this (by omega)
    ·exact ih F i j (by omega) (by omega) hi hj hjl
 have:=key l.length F 0 l.length (by omega) (by omega) (Nat.zero_le _) hcl (Nat.le_refl _);exact this
theorem insert_eq {l:List Int} {k:Int} (hl:l.length <=500):Zrd l ((l.takeWhile fun x=>decide (x < k)).length:Int) [k]=some (ins k l):=by
 unfold Zrd;have:=Zbh (l:=l) (k:=k);rw [Nm0 (by omega),decide_eq_true (show(0:Int) <= ((l.takeWhile fun x=>decide (x < k)).length:Int) by omega),decide_eq_true (show((l.takeWhile fun x=>decide (x < k)).length:Int) <= (l.length:Int) by omega)];show some _=_;rw [Int.toNat_natCast,ZBg,List.append_assoc];rfl
theorem Zew {β:Type} {F n:Nat} {f:Nat ->Int} {l:List Int} {r:Option β} (hF:n < F) (hn:n <=1000) (hl:l.length=n) {body:Int×List Int ->(Int×List Int ->Option β) ->Option β}
 (hb:∀ v8 (k:Nat),k < n ->∀ next,body ((k:Int),v8) next= (ZW l (k:Int)).bind fun x=>(ZW v8 (k:Int)).bind fun y=>(ZW v8 (k:Int)).bind fun z=>next (Ye ((k:Int) + 1),Zz v8 (k:Int) (if x > y then x else y)))
 (he:∀ next,body ((n:Int),tab n (mx f l)) next=r):loop F body (0,tab n f)=r:=by
 refine XB (fun k=>((k:Int),tab n fun i=>if i < k then mx f l i else f i)) (by simp) hF (fun k hk next=>?_) (fun next=>?_)
 ·rw [hb _ _ hk,Ql 0 (by rw [hl];exact hk)];simp only [Bq0];rw [Z5 hk];simp only [Bq0];rw [if_neg (Nat.lt_irrefl _),XE,Qg (by omega)];congr 2;refine WQ fun i hi=>?_
  unfold YG;by_cases e:i=k
  ·subst e;rw [if_pos rfl,if_pos (Nat.lt_succ_self _)];rfl
  ·rw [if_neg e];show(if i < k then mx f l i else f i)=_;by_cases h:i < k
   ·rw [if_pos h,if_pos (by omega)]
   ·rw [if_neg h,if_neg (by omega)]
 ·have:(tab n fun i=>if i < n then mx f l i else f i)=tab n (mx f l):=WQ fun i hi=>by rw [if_pos hi]
  show body ((n:Int),tab n fun i=>if i < n then mx f l i else f i) next=r;rw [this];exact he next
section
variable {F n:Nat} {f:Nat ->Int} {l:List Int}
theorem Zw7 (hF:1000 <=F) (hn:n <=500) (hl:l.length=n):Zkf F (tab n f) l=some (tab n (mx f l),l):=by
 unfold Zkf;refine Zew (by omega) (by omega) hl (fun v8 k hk next=>?_) (fun next=>?_)
 ·unfold Zin;dsimp only;rw [hl,YH hk,Cq1]
 ·unfold Zin;dsimp only;rw [hl,Xn,Cq0]
theorem Ztp (hF:1000 <=F) (hn:n <=500) (hl:l.length=n):ZeJ F (tab n f) l=some (tab n (mx f l)):=by
 unfold ZeJ;refine Zew (by omega) (by omega) hl (fun v8 k hk next=>?_) (fun next=>?_)
 ·unfold ZfR;dsimp only;rw [hl,YH hk,Cq1]
 ·unfold ZfR;dsimp only;rw [hl,Xn,Cq0]
theorem ZfK (hF:1000 <=F) (hn:n <=500) (hl:l.length=n):Zmu F [tab n f,l]=some (tab n (mx f l)):=by
 unfold Zmu ZhH;have e0:ZW [tab n f,l] 0=some (tab n f):=rfl;rw [e0];simp only [Bq0];rw [ZoY (by rw [XA];simp;omega)];simp only [Bq0,List.nil_append];have e1:slL [tab n f,l] 1 (([tab n f,l].length:Nat):Int)=some [l]:=rfl;rw [e1];simp only [Bq0];refine XB (fun k=>((k:Int),if k=0 then tab n f else tab n (mx f l))) rfl (n:=1) (by omega) (fun k hk next=>?_) (fun next=>?_)
 ·have:k=0:=by omega
  subst this;unfold Zim;dsimp only;rw [show decide (((0:Nat):Int) < (([l].length:Nat):Int))=true from rfl,Cq1,show ZW [l] ((0:Nat):Int)=some l from rfl];simp only [Bq0];refine Zew (by omega) (by omega) hl (fun v8 k hk next=>?_) (fun next'=>?_)
  ·unfold Zil;dsimp only;rw [hl,YH hk,Cq1]
  ·unfold Zil;dsimp only;rw [hl,Xn,Cq0];rfl
 ·unfold Zim;dsimp only;rw [show decide (((1:Nat):Int) < (([l].length:Nat):Int))=false from rfl,Cq0];rfl
end
end
section
def Q5 (n:Nat) (f:Nat ->Nat):Nat:= ((List.range n).map f).sum
section
variable {n k:Nat} {f g:Nat ->Nat}
theorem ZdQ:Q5 (n + 1) f=Q5 n f + f n:=by simp [Q5,List.range_succ]
theorem ZbJ (h:∀ k,k < n ->f k=g k):Q5 n f=Q5 n g:=by
 unfold Q5;rw [List.map_congr_left fun k hk=>h k (List.mem_range.1 hk)]
theorem Ub (h:k < n):f k <=Q5 n f:=by
 induction n with
 | zero=>omega
 | succ n ih=>
   rw [ZdQ];by_cases e:k=n
   ·subst e;omega
   ·have:=ih (by omega);omega
theorem Zzv {v:Nat} (h:k < n):Q5 n (YG f k v) + f k=Q5 n f + v:=by
 induction n with
 | zero=>omega
 | succ n ih=>
   rw [ZdQ,ZdQ];by_cases e:k=n
   ·subst e;rw [Yf,ZbJ (f:=YG f k v) (g:=f) fun j hj=>Xi (by omega)];omega
   ·have:=ih (by omega);rw [Xi (by omega)];omega
theorem ZcW (h:k < n) (hg:∀ j,j < n ->j ≠ k ->g j=f j):Q5 n g + f k=Q5 n f + g k:=by
 rw [ZbJ (f:=g) (g:=YG f k (g k)) fun j hj=>by
  by_cases e:j=k
  ·subst e;rw [Yf]
  ·rw [Xi e,hg j hj e]]
 exact Zzv h
theorem ZiP (n c:Nat):Q5 n (fun _=>c)=n * c:=by
 induction n with
 | zero=>simp [Q5]
 | succ n ih=>rw [ZdQ,ih,Nat.succ_mul]
end
def ew (x:Zd):Nat:=if x.kW=1 then 1 else if x.kW=2 then 2 else if x.kW=5 then 1 else 0
def sw (x:Int):Nat:=if x=1 then 11 else if x=3 then 0 else 2
def fl (σ:TS) (i:Nat):List Zd:= (σ.sn i).drop (σ.ld i)
def lw (σ:TS) (i:Nat):Nat:= (σ.sn i).length + ((fl σ i).map ew).sum
def Pot (s:Zc) (σ:TS):Nat:=σ.ev.length + Q5 (mm s * mm s) (lw σ) + Q5 (mm s) (fun m=>(σ.be m).length) + Q5 (nn s) (fun q=>2 * (σ.wa q).length) + Q5 (nn s) (fun p=>sw (σ.st p))
structure Wf (s:Zc) (B:Nat) (σ:TS):Prop where
 pot:Pot s σ <=B
 ld:∀ i,i < mm s * mm s ->σ.ld i <= (σ.sn i).length
 ws:∀ q,q < nn s ->∀ x ∈ σ.wa q,∃ k:Nat,x= (k:Int)∧k < nn s
section
variable {s:Zc} {σ:TS} {B a b p q m:Nat}
theorem Wf.few (h:Wf s B σ) (hB:B <=800000):Few s 800000 σ:=by
 have hp:=h.pot;unfold Pot at hp;refine⟨by omega,fun i hi=>?_,fun m hm=>?_,fun q hq=>?_,h.ld,h.ws⟩
 ·have:=Ub (f:=lw σ) hi;unfold lw at this;unfold lw at hp;omega
 ·have:=Ub (f:=fun m=>(σ.be m).length) hm;omega
 ·have:=Ub (f:=fun q=>2 * (σ.wa q).length) hq;omega
theorem ZAF (d p q n:Int):Pot s (tell d p q n σ)=Pot s σ + 1:=by
 show(σ.ev ++ [_]).length + Q5 (mm s * mm s) (lw σ) + Q5 (mm s) (fun m=>(σ.be m).length) + Q5 (nn s) (fun q=>2 * (σ.wa q).length) + Q5 (nn s) (fun p=>sw (σ.st p))=_;rw [List.length_append,List.length_singleton];unfold Pot;omega
theorem ZG5 (hl:σ.ld (li s a b) <= (σ.sn (li s a b)).length) (x:Zd):fl (send s a b x σ) (li s a b)=fl σ (li s a b) ++ [x]:=by
 show(YG σ.sn (li s a b) _ (li s a b)).drop (σ.ld (li s a b))=_;rw [Yf,List.drop_append_of_le_length hl];rfl
theorem Zt4 {i:Nat} (hi:i ≠ li s a b) (x:Zd):fl (send s a b x σ) i=fl σ i:=by
 show(YG σ.sn (li s a b) _ i).drop (σ.ld i)=_;rw [Xi hi];rfl
theorem Ze1 (x:Zd):(send s a b x σ).sn (li s a b)=σ.sn (li s a b) ++ [x]:=Yf _ _ _
theorem WS {i:Nat} (hi:i ≠ li s a b) (x:Zd):(send s a b x σ).sn i=σ.sn i:=Xi hi
theorem ZAH (ha:a < mm s) (hb:b < mm s) (hl:∀ i,i < mm s * mm s ->σ.ld i <= (σ.sn i).length) (x:Zd):Pot s (send s a b x σ)=Pot s σ + 1 + ew x:=by
 have hi:=KN ha hb;have h:=ZcW (f:=lw σ) (g:=lw (send s a b x σ)) hi fun j _ hj=>by unfold lw;rw [WS hj,Zt4 hj]
 have e:lw (send s a b x σ) (li s a b)=lw σ (li s a b) + 1 + ew x:=by
  unfold lw;rw [Ze1,ZG5 (hl _ hi),List.length_append,List.map_append,List.sum_append];simp;omega
 show σ.ev.length + Q5 (mm s * mm s) (lw (send s a b x σ)) + Q5 (mm s) (fun m=>(σ.be m).length) + Q5 (nn s) (fun q=>2 * (σ.wa q).length) + Q5 (nn s) (fun p=>sw (σ.st p))=_;unfold Pot;omega
theorem Zne (hm:m < mm s) (l:List Zd):Pot s {σ with be:=YG σ.be m l} + (σ.be m).length=Pot s σ + l.length:=by
 have h:=ZcW (f:=fun m=>(σ.be m).length) (g:=fun j=>(YG σ.be m l j).length) hm fun j _ hj=>by rw [Xi hj]
 rw [Yf] at h;show σ.ev.length + Q5 (mm s * mm s) (lw σ) + Q5 (mm s) (fun j=>(YG σ.be m l j).length) + Q5 (nn s) (fun q=>2 * (σ.wa q).length) + Q5 (nn s) (fun p=>sw (σ.st p)) + _=_;unfold Pot;omega
theorem ZAE (hm:m < mm s) (x:Zd):Pot s (wait m x σ)=Pot s σ + 1:=by
 have:=Zne (σ:=σ) hm (σ.be m ++ [x]);rw [List.length_append,List.length_singleton] at this;unfold wait;omega
theorem ZLZ (hq:q < nn s) (l:List Int):Pot s {σ with wa:=YG σ.wa q l} + 2 * (σ.wa q).length=Pot s σ + 2 * l.length:=by
 have h:=ZcW (f:=fun q=>2 * (σ.wa q).length) (g:=fun j=>2 * (YG σ.wa q l j).length) hq fun j _ hj=>by rw [Xi hj]
 rw [Yf] at h;show σ.ev.length + Q5 (mm s * mm s) (lw σ) + Q5 (mm s) (fun m=>(σ.be m).length) + Q5 (nn s) (fun j=>2 * (YG σ.wa q l j).length) + Q5 (nn s) (fun p=>sw (σ.st p)) + _=_;unfold Pot;omega
theorem ZL0 (hp:p < nn s) (v:Int):Pot s {σ with st:=YG σ.st p v} + sw (σ.st p)=Pot s σ + sw v:=by
 have h:=ZcW (f:=fun p=>sw (σ.st p)) (g:=fun j=>sw (YG σ.st p v j)) hp fun j _ hj=>by rw [Xi hj]
 rw [Yf] at h;show σ.ev.length + Q5 (mm s * mm s) (lw σ) + Q5 (mm s) (fun m=>(σ.be m).length) + Q5 (nn s) (fun q=>2 * (σ.wa q).length) + Q5 (nn s) (fun j=>sw (YG σ.st p v j)) + _=_;unfold Pot;omega
theorem ZHo (p q n:Int) (l:List Int):ew ⟨5,p,q,n,l⟩=1:=rfl
theorem Wf.tell (h:Wf s B σ) (d p q n:Int):Wf s (B + 1) (tell d p q n σ):= ⟨by rw [ZAF];have:=h.pot;omega,h.ld,h.ws⟩
theorem Wf.send (h:Wf s B σ) (ha:a < mm s) (hb:b < mm s) (x:Zd):Wf s (B + 1 + ew x) (send s a b x σ):=by
 refine⟨by rw [ZAH ha hb h.ld];have:=h.pot;omega,fun i hi=>?_,h.ws⟩;show σ.ld i <=_;by_cases e:i=li s a b
 ·subst e;rw [Ze1,List.length_append];have:=h.ld _ hi;omega
 ·rw [WS e];exact h.ld i hi
theorem Wf.wait (h:Wf s B σ) (hm:m < mm s) (x:Zd):Wf s (B + 1) (wait m x σ):= ⟨by rw [ZAE hm];have:=h.pot;omega,h.ld,h.ws⟩
theorem Wf.up (h:Wf s B σ) {B':Nat} (hb:B <=B'):Wf s B' σ:= ⟨Nat.le_trans h.pot hb,h.ld,h.ws⟩
theorem Wf.JK (hS:QN s) (h:Wf s B σ) (hp:p < nn s) (hq:q < nn s):Wf s (B + 2) (JK s p q σ):=by
 unfold Proofs.YtcnahmgekicbdaaGreat.JK;by_cases e:pl s p=pl s q
 ·rw [if_pos e];exact(h.wait (hS.pl hp).2 _).up (by omega)
 ·rw [if_neg e];exact(h.send (hS.pl hq).2 (hS.pl hp).2 _).up (by rw [ZHo];omega)
theorem Wf.wa (h:Wf s B σ) (hq:q < nn s) {l:List Int} (hl:∀ x ∈ l,∃ k:Nat,x= (k:Int)∧k < nn s) {B':Nat} (hB:B + 2 * l.length <=B' + 2 * (σ.wa q).length):Wf s B' {σ with wa:=YG σ.wa q l}:=by
 refine⟨?_,h.ld,fun j hj x hx=>?_⟩
 ·have:=ZLZ (σ:=σ) hq l;have:=h.pot;omega
 ·have hx:x ∈ YG σ.wa q l j:=hx;by_cases e:j=q
  ·subst e;rw [Yf] at hx;exact hl x hx
  ·rw [Xi e] at hx;exact h.ws j hj x hx
theorem Wf.st (h:Wf s B σ) (hp:p < nn s) (v:Int) {B':Nat} (hB:B + sw v <=B' + sw (σ.st p)):Wf s B' {σ with st:=YG σ.st p v}:=
 ⟨by have:=ZL0 (σ:=σ) hp v;have:=h.pot;omega,h.ld,h.ws⟩
theorem Wf.note (hS:QN s) (h:Wf s B σ) (hp:p < nn s) (hq:q < nn s):Wf s (B + 2) (note s p q σ):=by
 unfold Proofs.YtcnahmgekicbdaaGreat.note;by_cases e:σ.st q=3
 ·rw [if_pos e];exact h.JK hS hp hq
 ·rw [if_neg e]
  exact h.wa hq (fun x hx=>by
   rcases List.mem_append.1 hx with hx | hx
   ·exact h.ws q hq x hx
   ·rw [List.mem_singleton.1 hx];exact⟨p,rfl,hp⟩) (by rw [List.length_append,List.length_singleton];omega)
theorem Wf.see (h:Wf s B σ) (p q:Nat) (n:Int):Wf s (B + 1) (see p q n σ):=by
 unfold Proofs.YtcnahmgekicbdaaGreat.see;by_cases e:σ.st p=1
 ·rw [if_pos e];exact h.tell _ _ _ _
 ·rw [if_neg e];exact h.up (by omega)
end
end
section
structure Kn (s:Zc) (σ:TS):Prop where
 srt:∀ q,q < nn s ->(σ.kn q).Pairwise (· < ·)
 rng:∀ q,q < nn s ->∀ x ∈ σ.kn q,∃ k:Nat,x= (k:Int)∧k < nn s∧inn s (k:Int)= (q:Int)∧σ.st k=3
noncomputable section
variable (s:Zc)
def ZhU (σ:TS) (p K:Nat) (i:Nat):Int:=if i / mm s=pl s p∧i % mm s < K∧i % mm s ≠ pl s p then((σ.sn i).length:Int) else σ.ma p i
def KJ (p:Nat) (σ:TS):TS:= {σ with st:=YG σ.st p 3,ev:=σ.ev ++ [⟨6,(p:Int),0,0⟩],wa:=YG σ.wa p []}
def Zt (p:Nat) (l:List Int) (σ:TS):TS:=l.foldl (fun σ x=>JK s x.toNat p σ) σ
def ZWi (p:Nat) (σ:TS):TS:= {σ with ma:=YG σ.ma p (ZhU s σ p (mm s))}
def Qd (p:Nat) (σ:TS):TS:=ZWi s p (Zt s p (σ.wa p) (KJ p σ))
def YM (k:Nat) (l:List Int) (σ:TS):TS:= {σ with kn:=YG σ.kn (inn s (k:Int)).toNat (ins (k:Int) (σ.kn (inn s (k:Int)).toNat)),ma:=YG σ.ma (inn s (k:Int)).toNat (mx (σ.ma (inn s (k:Int)).toNat) l)}
def KC (die:Nat ->TS ->TS) (k:Nat) (l:List Int) (σ:TS):TS:=
 ifc ((YM s k l σ).st (inn s (k:Int)).toNat=2∧Alo s (YM s k l σ) (inn s (k:Int)).toNat) (die (inn s (k:Int)).toNat (YM s k l σ)) (YM s k l σ)
def ZoA (die:Nat ->TS ->TS) (p:Nat) (σ:TS):TS:=
 if inn s (p:Int) < 0 then σ
 else if pl s (inn s (p:Int)).toNat=pl s p then KC s die p (Kq s σ p) σ
 else send s (pl s p) (pl s (inn s (p:Int)).toNat) ⟨4,(p:Int),0,0,Kq s σ p⟩ σ
def Zkl:Nat ->Nat ->TS ->TS
 | 0,_,σ=>σ
 | d + 1,p,σ=>ZoA s (Zkl d) p (Qd s p σ)
end
section
variable {s:Zc} {σ:TS} {F B p q:Nat}
theorem ZqR:Z7.mk (Zf.mk (tab (nn s) σ.st) (tab (nn s) fun p=>tab (mm s * mm s) (σ.ma p)) (tab (nn s) σ.kn) (tab (nn s) σ.wa) (tab (mm s) σ.be) (tab (mm s * mm s) (Ju σ)) σ.sd) (Zc.mk s.qG s.Zi) σ.ev=hal s σ:=rfl
theorem ZqY:Z6.mk (Zc.mk s.qG s.Zi) (Zf.mk (tab (nn s) σ.st) (tab (nn s) fun p=>tab (mm s * mm s) (σ.ma p)) (tab (nn s) σ.kn) (tab (nn s) σ.wa) (tab (mm s) σ.be) (tab (mm s * mm s) (Ju σ)) σ.sd) σ.ev=XZ s σ:=rfl
theorem ZoL (p q:Nat) (σ:TS):(JK s p q σ).st=σ.st∧(JK s p q σ).kn=σ.kn∧(JK s p q σ).ma=σ.ma∧(JK s p q σ).ld=σ.ld∧(JK s p q σ).sd=σ.sd∧(JK s p q σ).ev=σ.ev∧(JK s p q σ).wa=σ.wa:=by
 unfold JK;split <;> exact⟨rfl,rfl,rfl,rfl,rfl,rfl,rfl⟩
theorem ZrV (p:Nat):∀ (l:List Int) (σ:TS),(Zt s p l σ).st=σ.st∧(Zt s p l σ).kn=σ.kn∧(Zt s p l σ).ma=σ.ma∧(Zt s p l σ).ld=σ.ld∧(Zt s p l σ).sd=σ.sd∧(Zt s p l σ).ev=σ.ev∧(Zt s p l σ).wa=σ.wa:=by
 intro l
 induction l with
 | nil=>intro σ;exact⟨rfl,rfl,rfl,rfl,rfl,rfl,rfl⟩
 | cons x l ih=>
   intro σ;have h1:=ih (JK s x.toNat p σ);have h2:=ZoL (s:=s) x.toNat p σ;have e:Zt s p (x::l) σ=Zt s p l (JK s x.toNat p σ):=rfl;rw [e];exact⟨h1.1.trans h2.1,h1.2.1.trans h2.2.1,h1.2.2.1.trans h2.2.2.1,h1.2.2.2.1.trans h2.2.2.2.1,h1.2.2.2.2.1.trans h2.2.2.2.2.1,h1.2.2.2.2.2.1.trans h2.2.2.2.2.2.1,h1.2.2.2.2.2.2.trans h2.2.2.2.2.2.2⟩
theorem ZkD (p k:Nat) (l:List Int) (hk:k < l.length) (σ:TS):Zt s p (l.take (k + 1)) σ=JK s (l.getD k 0).toNat p (Zt s p (l.take k) σ):=by
 unfold Zt;rw [List.take_succ_eq_append_getElem hk,List.foldl_append,Kt hk];rfl
theorem ZcS (hS:QN s) (hp:p < nn s):∀ (l:List Int) (B:Nat) (σ:TS),Wf s B σ ->(∀ x ∈ l,∃ k:Nat,x= (k:Int)∧k < nn s) ->Wf s (B + 2 * l.length) (Zt s p l σ):=by
 intro l
 induction l with
 | nil=>intro B σ h _;exact h
 | cons x l ih=>
   intro B σ h hx;obtain⟨k,e,hk⟩:=hx x (by simp);have h1:=ih (B + 2) (JK s x.toNat p σ) (by rw [e,Int.toNat_natCast];exact h.JK hS hk hp) (fun y hy=>hx y (by simp [hy]));exact h1.up (by rw [List.length_cons];omega)
theorem Zzu {x:Int} (h:x ≠ 3):2 <=sw x:=by
 unfold sw;by_cases e:x=1
 ·rw [if_pos e];omega
 ·rw [if_neg e,if_neg h];omega
theorem Zh4 (h:Wf s B σ) (hp:p < nn s) (h3:σ.st p ≠ 3):2 <=B∧Wf s (B - 1 - 2 * (σ.wa p).length) (KJ p σ)∧2 * (σ.wa p).length + 2 <=B:=by
 have h2:=Zzu h3
 have YaJ:2 + 2 * (σ.wa p).length <=Pot s σ:=by
  have a1:=Ub (f:=fun p=>sw (σ.st p)) hp;have a2:=Ub (f:=fun q=>2 * (σ.wa q).length) hp;unfold Pot;omega
 have hb:=h.pot;have w1:=h.st hp (3:Int) (B':=B - 2) (by rw [show sw (3:Int)=0 from rfl];omega);have w2:=w1.tell 6 (p:Int) 0 0
 have w3:=w2.wa (l:= []) hp (by simp) (B':=B - 1 - 2 * (σ.wa p).length) (by
  show _ <=_ + 2 * (σ.wa p).length;simp;omega)
 exact⟨by omega,w3,by omega⟩
theorem Wf.ma (h:Wf s B σ) (f:Nat ->Nat ->Int):Wf s B {σ with ma:=f}:= ⟨h.pot,h.ld,h.ws⟩
theorem Km {k:Nat} {l:List Int} (h:Wf s B σ):Wf s B (YM s k l σ):= ⟨h.pot,h.ld,h.ws⟩
theorem ZmY (hS:QN s) (h:Wf s B σ) (hp:p < nn s) (h3:σ.st p ≠ 3):Wf s (B - 1) (Qd s p σ):=by
 obtain⟨h1,h2,h4⟩:=Zh4 h hp h3;have:=ZcS hS hp (σ.wa p) _ _ h2 (h.ws p hp);exact(this.up (by omega)).ma _
theorem KX (p:Nat) (σ:TS):(Qd s p σ).st=YG σ.st p 3∧(Qd s p σ).kn=σ.kn∧(Qd s p σ).ld=σ.ld∧(Qd s p σ).sd=σ.sd∧(Qd s p σ).ev=σ.ev ++ [⟨6,(p:Int),0,0⟩]∧(Qd s p σ).wa=YG σ.wa p []:=by
 have h:=ZrV (s:=s) p (σ.wa p) (KJ p σ);exact⟨h.1,h.2.1,h.2.2.2.1,h.2.2.2.2.1,h.2.2.2.2.2.1,h.2.2.2.2.2.2⟩
theorem Znm (h:Kn s σ) (p:Nat):Kn s (Qd s p σ):=by
 have e:=KX (s:=s) p σ;refine⟨fun q hq=>by rw [e.2.1];exact h.srt q hq,fun q hq x hx=>?_⟩;rw [e.2.1] at hx;obtain⟨k,h1,h2,h3,h4⟩:=h.rng q hq x hx;refine⟨k,h1,h2,h3,?_⟩;rw [e.1];by_cases z:k=p
 ·subst z;exact Yf _ _ _
 ·rw [Xi z];exact h4
theorem Kn.len (hS:QN s) (h:Kn s σ) (hq:q < nn s):(σ.kn q).length <=8:=by
 have:=ZHZ (σ.kn q) 0 (nn s) (h.srt q hq) fun x hx=>by
  obtain⟨k,e,hk,_⟩:=h.rng q hq x hx;omega
 have h8:=hS.p2;unfold nn at this;omega
theorem Jl (hS:QN s) (hp:p < nn s) (h0:¬ inn s (p:Int) < 0):inn s (p:Int)= ((inn s (p:Int)).toNat:Int)∧(inn s (p:Int)).toNat < nn s:=by
 obtain⟨k,e,hk⟩:=ZbW (hS.inn.rng p hp) h0;rw [e,Int.toNat_natCast];exact⟨rfl,hk⟩
theorem JZ (hS:QN s) (h:Kn s σ) (hp:p < nn s) (h0:¬ inn s (p:Int) < 0) (h3:σ.st p=3) (hn:(p:Int) ∉ σ.kn (inn s (p:Int)).toNat) (l:List Int):Kn s (YM s p l σ):=by
 obtain⟨e,hq⟩:=Jl hS hp h0;refine⟨fun q hq'=>?_,fun q hq' x hx=>?_⟩
 ·show(YG σ.kn _ _ q).Pairwise _;by_cases z:q= (inn s (p:Int)).toNat
  ·subst z;rw [Yf];exact Ztv (h.srt _ hq) hn
  ·rw [Xi z];exact h.srt q hq'
 ·have hx:x ∈ YG σ.kn _ _ q:=hx;by_cases z:q= (inn s (p:Int)).toNat
  ·subst z;rw [Yf] at hx;rcases ZaI.1 hx with w | w
   ·exact⟨p,w,hp,e,h3⟩
   ·exact h.rng _ hq x w
  ·rw [Xi z] at hx;exact h.rng q hq' x hx
theorem ZaH {M a b i:Nat} (hb:b < M):i=a * M + b↔i / M=a∧i % M=b:=by
 have hM:0 < M:=by omega
 constructor
 ·intro e;subst e;have e1:(a * M + b) / M=a:=by rw [Nat.mul_comm,Nat.mul_add_div hM,Nat.div_eq_of_lt hb,Nat.add_zero]
  exact⟨e1,by rw [Nat.mul_comm,Nat.mul_add_mod,Nat.mod_eq_of_lt hb]⟩
 ·rintro⟨h1,h2⟩;have:=Nat.div_add_mod i M;rw [h1,h2,Nat.mul_comm] at this;exact this.symm
theorem Zw4 (σ:TS) (p i:Nat):ZhU s σ p 0 i=σ.ma p i:=by unfold ZhU;rw [if_neg];rintro⟨_,h,_⟩;omega
theorem Zw5 {k:Nat} (hk:k < mm s) (hne:k ≠ pl s p) (i:Nat):ZhU s σ p (k + 1) i=YG (ZhU s σ p k) (li s (pl s p) k) ((σ.sn (li s (pl s p) k)).length:Int) i:=by
 unfold YG;by_cases e:i=li s (pl s p) k
 ·rw [if_pos e];obtain⟨e1,e2⟩:= (ZaH hk).1 e;unfold ZhU;rw [if_pos ⟨e1,by omega,by omega⟩,e]
 ·rw [if_neg e];unfold ZhU;by_cases c:i / mm s=pl s p∧i % mm s < k∧i % mm s ≠ pl s p
  ·rw [if_pos c,if_pos ⟨c.1,by omega,c.2.2⟩]
  ·rw [if_neg c,if_neg];rintro⟨c1,c2,c3⟩;refine c ⟨c1,?_,c3⟩;have:i % mm s ≠ k:=fun z=>e ((ZaH hk).2 ⟨c1,z⟩)
   omega
theorem Zw6 {k:Nat} (hne:k=pl s p) (i:Nat):ZhU s σ p (k + 1) i=ZhU s σ p k i:=by
 unfold ZhU;by_cases c:i / mm s=pl s p∧i % mm s < k∧i % mm s ≠ pl s p
 ·rw [if_pos c,if_pos ⟨c.1,by omega,c.2.2⟩]
 ·rw [if_neg c,if_neg];rintro⟨c1,c2,c3⟩;exact c ⟨c1,by omega,c3⟩
def Um (s:Zc) (f:Nat ->Nat ->Int):List (List Int):=tab (nn s) fun j=>tab (mm s * mm s) (f j)
theorem Zbp {f:Nat ->Nat ->Int} (hp:p < nn s):ZW (Um s f) (p:Int)=some (tab (mm s * mm s) (f p)):=Z5 hp
theorem K8 {f:Nat ->Nat ->Int} {g:Nat ->Int}:Zz (Um s f) (p:Int) (tab (mm s * mm s) g)=Um s (YG f p g):=by
 unfold Um;rw [XE];refine WQ fun j _=>?_
 by_cases e:j=p
 ·subst e;rw [Yf,Yf]
 ·rw [Xi e,Xi e]
theorem Zb1 {f g:Nat ->Nat ->Int} (h:∀ j,j < nn s ->∀ i,i < mm s * mm s ->f j i=g j i):Um s f=Um s g:=WQ fun j hj=>WQ fun i hi=>h j hj i hi
theorem ZpD (h:Wf s B σ) (hB:B <=800000) {i:Nat} (hi:i < mm s * mm s):Ye ((Ju σ i).Zu + ((Ju σ i).kG.length:Int))= ((σ.sn i).length:Int):=by
 have h1:=h.ld i hi;have h2:= (h.few hB).sn i hi;show Ye ((σ.ld i:Int) + (((σ.sn i).drop (σ.ld i)).length:Int))=_;rw [List.length_drop,ZbH (by omega) (by omega)];omega
theorem Zjw {β:Type} (hF:1000 <=F) (hS:QN s) (h:Wf s B σ) (hB:B <=800000) (hp:p < nn s) {r:Option β} {body:Int×List (List Int) ->(Int×List (List Int) ->Option β) ->Option β}
 (hb:∀ (v:List (List Int)) (k:Nat),k < mm s ->∀ next,body ((k:Int),v) next=bif((k:Int) != (pl s p:Int)) then((ZW v (p:Int)).bind fun x=>(ZW x (Ye (Ye ((pl s p:Int) * s.qG) + (k:Int)))).bind fun _=>next (Ye ((k:Int) + 1),Zz v (p:Int) (Zz x (Ye (Ye ((pl s p:Int) * s.qG) + (k:Int))) ((σ.sn (li s (pl s p) k)).length:Int)))) else next (Ye ((k:Int) + 1),v))
 (he:∀ next,body ((mm s:Int),Um s (ZWi s p σ).ma) next=r):loop F body (0,Um s σ.ma)=r:=by
 obtain⟨_,_,h4⟩:=hS.mm;have hpl:= (hS.pl hp).2
 refine XB (fun k=>((k:Int),Um s (YG σ.ma p (ZhU s σ p k)))) (by
  have:Um s (YG σ.ma p (ZhU s σ p 0))=Um s σ.ma:=Zb1 fun j _ i _=>by
   by_cases e:j=p
   ·subst e;rw [Yf,Zw4]
   ·rw [Xi e]
  rw [this];rfl) (n:=mm s) (by omega) (fun k hk next=>?_) (fun next=>?_)
 ·rw [hb _ _ hk]
  have e1:(((k:Int)) != ((pl s p:Int)))=decide (k ≠ pl s p):=by
   rw [KZ];by_cases z:k=pl s p
   ·subst z;simp
   ·rw [decide_eq_true z,decide_eq_true (by omega)]
  rw [e1];by_cases z:k ≠ pl s p
  ·rw [decide_eq_true z,Cq1,Zbp hp,Yf];simp only [Bq0];rw [Uw hS hpl hk,Z5 (KN hpl hk)];simp only [Bq0];rw [XE,K8,Qg (by omega)];congr 2;refine Zb1 fun j _ i hi=>?_
   by_cases e:j=p
   ·subst e;rw [Yf,Yf,Zw5 hk z]
   ·rw [Xi e,Xi e,Xi e]
  ·have z:=Classical.not_not.1 z;rw [decide_eq_false (by simpa using z),Cq0,Qg (by omega)];congr 2;refine Zb1 fun j _ i hi=>?_
   by_cases e:j=p
   ·subst e;rw [Yf,Yf,Zw6 z]
   ·rw [Xi e,Xi e]
 ·exact he next
end
end Go.Proofs.YtcnahmgekicbdaaGreat
end
end
section
namespace Go.Proofs.YtcnahmgekicbdaaGreat
open Go.Lf
section
variable {s:Zc} {σ:TS} {F B p q:Nat} {die:Nat ->TS ->TS}
theorem ZF6 (p:Nat):(Kq s σ p).length=mm s * mm s:=XA
theorem Zek (hS:QN s):mm s * mm s <=16:=Nat.mul_le_mul hS.mm.2.2 hS.mm.2.2
theorem ZfB (hS:QN s):decide (((mm s:Nat):Int) < s.qG)=false:=by rw [hS.mm.1];exact Xn _
theorem Zbq (hS:QN s) {k:Nat} (hk:k < mm s):decide ((k:Int) < s.qG)=true:=by rw [hS.mm.1];exact YH hk
theorem ZwM (hF:100000 <=F) (hS:QN s) (hp:p < nn s) (hw:Wf s B σ) (hB:B <=700000) (hk:Kn s σ) (h3:σ.st p=3) (hn:¬ inn s (p:Int) < 0 ->(p:Int) ∉ σ.kn (inn s (p:Int)).toNat) (Qc:Z7×Int ->Option Z7) (nx:Int×List (List Int) ->Option Z7)
 (hx:¬ inn s (p:Int) < 0 ->(YM s p (Kq s σ p) σ).st (inn s (p:Int)).toNat=2 ->Qc (hal s (YM s p (Kq s σ p) σ),((inn s (p:Int)).toNat:Int))=some (hal s (die (inn s (p:Int)).toNat (YM s p (Kq s σ p) σ)))):
 ZjT F (p:Int) Qc (tab (nn s) σ.st) (tab (nn s) σ.kn) (tab (nn s) σ.wa) (tab (mm s) σ.be) (tab (mm s * mm s) (Ju σ)) σ.sd s.qG s.Zi σ.ev (pl s p:Int) ((mm s:Int),Um s σ.ma) nx=some (hal s (ZoA s die p σ)):=by
 have h16:=Zek hS;unfold ZjT;dsimp only;rw [ZfB hS,Cq0,X7 hp];simp only [Bq0];rw [QH];unfold ZoA;by_cases h0:inn s (p:Int) < 0
 ·rw [decide_eq_true h0,Cq1,if_pos h0];rfl
 ·rw [decide_eq_false h0,Cq0,if_neg h0];obtain⟨eq,hq⟩:=Jl hS hp h0;have hn:=hn h0;have hx:=hx h0;obtain⟨q,hqe⟩:∃ q,q= (inn s (p:Int)).toNat:= ⟨_,rfl⟩
  rw [← hqe] at eq hq hn hx ⊢;rw [eq,show Um s σ.ma=tab (nn s) fun p=>tab (mm s * mm s) (σ.ma p) from rfl,ZqR,Wz hS hq];simp only [Bq0];rw [Wx,Z5 hp];simp only [Bq0];by_cases e:pl s q=pl s p
  ·rw [decide_eq_true e,Cq1,if_pos e,Z5 hq];simp only [Bq0];have hl:=hk.len hS hq;rw [ZlP (by omega) (by omega) (hk.srt q hq) hn];simp only [Bq0,Bool.not_false,Cq1];rw [insert_eq (by omega)];simp only [Bq0];rw [XE];unfold ZjR;rw [QH,eq,Z5 hq];simp only [Bq0];rw [ZfK (by omega) (by omega) XA];simp only [Bq0];rw [Z5 hq];simp only [Bq0]
   have e3:Zz (tab (nn s) fun p=>tab (mm s * mm s) (σ.ma p)) (q:Int) (tab (mm s * mm s) (mx (σ.ma q) (tab (mm s * mm s) (σ.ma p))))=tab (nn s) fun j=>tab (mm s * mm s) ((YM s p (Kq s σ p) σ).ma j):=by
    have:=K8 (s:=s) (p:=q) (f:=σ.ma) (g:=mx (σ.ma q) (tab (mm s * mm s) (σ.ma p)));unfold Um at this;rw [this];show _=tab (nn s) fun j=>tab (mm s * mm s) (YG σ.ma (inn s (p:Int)).toNat _ j)
    rw [← hqe];rfl
   have e4:tab (nn s) (YG σ.kn q (ins (p:Int) (σ.kn q)))=tab (nn s) (YM s p (Kq s σ p) σ).kn:=by
    show _=tab (nn s) (YG σ.kn (inn s (p:Int)).toNat _);rw [← hqe]
   rw [e3,e4];have e5:Z7.mk (Zf.mk (tab (nn s) σ.st) (tab (nn s) fun j=>tab (mm s * mm s) ((YM s p (Kq s σ p) σ).ma j)) (tab (nn s) (YM s p (Kq s σ p) σ).kn) (tab (nn s) σ.wa) (tab (mm s) σ.be) (tab (mm s * mm s) (Ju σ)) σ.sd) (Zc.mk s.qG s.Zi) σ.ev=hal s (YM s p (Kq s σ p) σ):=rfl;rw [e5];have hk3:=JZ hS hk hp h0 h3 (by rw [← hqe];exact hn) (Kq s σ p);rw [Xo];unfold KC;rw [← hqe];have e6:(YM s p (Kq s σ p) σ).st q=σ.st q:=rfl;by_cases h2:σ.st q=2
   ·rw [decide_eq_true h2,Qp,ZeO (by omega) hS hq (by have:=hk3.len hS hq;omega)];by_cases hA:Alo s (YM s p (Kq s σ p) σ) q
    ·rw [Yk hA];simp only [Bq0,Bool.and_self,Cq1];rw [hx (by rw [e6];exact h2),Yk ⟨by rw [e6];exact h2,hA⟩];rfl
    ·rw [Z9 hA];simp only [Bq0,Bool.and_false,Cq0];rw [Z9 fun z=>hA z.2]
     rfl
   ·rw [decide_eq_false h2,Jo];simp only [Bq0,Bool.false_and,Cq0];rw [Z9 fun z=>h2 (by rw [← e6];exact z.1)]
    rfl
  ·rw [decide_eq_false e,Cq0,if_neg e];unfold ZhH;rw [show app 8 ([]:List Int) (tab (mm s * mm s) (σ.ma p))=some (Kq s σ p) from Zfz hS hp];simp only [Bq0];rw [Zbk hS (hw.few (by omega)) (hS.pl hp).2 (hS.pl hq).2];rfl
theorem Zrz (hF:1000000 <=F) (hS:QN s):∀ (d p:Nat) (σ:TS) (F':Nat),d < F' ->p < nn s ->up s d (p:Int) < 0 ->Wf s B σ ->B <=700000 ->Kn s σ ->σ.st p ≠ 3 ->loop F' (Zmp F) (hal s σ,(p:Int))=some (hal s (Zkl s d p σ)):=by
 intro d
 induction d generalizing B with
 | zero=>intro p σ F' _ _ hu _ _ _ _;exact absurd hu (by show ¬ ((p:Int)) < 0;omega)
 | succ d ih=>
   intro p σ F' hd hp hu hw hB hk h3;cases F' with
   | zero=>omega
   | succ F'=>
     obtain⟨b1,w0,b2⟩:=Zh4 hw hp h3;have wA:=ZmY hS hw hp h3;have kA:=Znm hk p;have sA:=KX (s:=s) p σ;have w1:=hw.st hp (3:Int) (B':=B) (by rw [show sw (3:Int)=0 from rfl];omega);have sB:=ZrV (s:=s) p (σ.wa p) (KJ p σ);rw [Jg];unfold Zmp;dsimp only;rw [show(hal s σ).Za.qV=tab (nn s) σ.st from rfl,Z5 hp];simp only [Bq0];rw [XE,show Z7.mk (Zf.mk (tab (nn s) (YG σ.st p 3)) (hal s σ).Za.qX (hal s σ).Za.qZ (hal s σ).Za.Zh (hal s σ).Za.Zt (hal s σ).Za.kQ (hal s σ).Za.kK) (hal s σ).qK (hal s σ).kU=hal s {σ with st:=YG σ.st p 3} from rfl,K6 (w1.few (by omega))];simp only [Bq0];rw [show(hal s (tell 6 (p:Int) 0 0 {σ with st:=YG σ.st p 3})).Za.Zh=tab (nn s) σ.wa from rfl,Z5 hp];simp only [Bq0];rw [XE];refine XB (fun k=>((k:Int),tab (nn s) (Zt s p ((σ.wa p).take k) (KJ p σ)).st,(tab (nn s) fun j=>tab (mm s * mm s) ((Zt s p ((σ.wa p).take k) (KJ p σ)).ma j)),tab (nn s) (Zt s p ((σ.wa p).take k) (KJ p σ)).kn,tab (nn s) (Zt s p ((σ.wa p).take k) (KJ p σ)).wa,tab (mm s) (Zt s p ((σ.wa p).take k) (KJ p σ)).be,tab (mm s * mm s) (Ju (Zt s p ((σ.wa p).take k) (KJ p σ))),(Zt s p ((σ.wa p).take k) (KJ p σ)).sd,s.qG,s.Zi,(Zt s p ((σ.wa p).take k) (KJ p σ)).ev)) rfl (n:= (σ.wa p).length) (by omega) (fun k hk' next=>?_) (fun next=>?_)
     ·unfold ZnU;dsimp only;rw [YH hk',Cq1,Ql 0 hk'];simp only [Bq0];obtain⟨j,ej,hj⟩:=hw.ws p hp _ (QU (d:=0) hk');have wk:=ZcS hS hp ((σ.wa p).take k) _ _ w0 (fun x hx=>hw.ws p hp x (List.mem_of_mem_take hx));have hlen:((σ.wa p).take k).length <= (σ.wa p).length:=by rw [List.length_take];omega
      rw [ZqR,ej,ZmF hS (wk.few (by omega)) hj hp];simp only [Bq0];rw [ZkD p k _ hk',ej,Int.toNat_natCast,Qg (by omega)];rfl
     ·unfold ZnU;dsimp only;rw [Xn,Cq0,List.take_length,ZqR,Wz hS hp];simp only [Bq0];have wB:=ZcS hS hp (σ.wa p) _ _ w0 (hw.ws p hp);refine Zjw (by omega) hS wB (by omega) hp (fun v k hk' next=>?_) (fun next=>?_)
      ·unfold ZjT ZjS;dsimp only;rw [Zbq hS hk',Cq1];by_cases z:k=pl s p
       ·subst z;rw [show(((pl s p:Nat):Int) != ((pl s p:Nat):Int))=false by simp,Cq0,Cq0]
       ·have:(((k:Int)) != ((pl s p:Int)))=true:=by rw [KZ];exact decide_eq_true (by omega)
        rw [this,Cq1,Cq1,Uw hS (hS.pl hp).2 hk',Z5 (KN (hS.pl hp).2 hk')];simp only [Bq0];rw [ZpD wB (by omega) (KN (hS.pl hp).2 hk')]
      ·have hpA:(Qd s p σ).st p=3:=by rw [sA.1,Yf]
       have hnot:¬ inn s (p:Int) < 0 ->(p:Int) ∉ (Qd s p σ).kn (inn s (p:Int)).toNat:=fun h0 hm=>by
        obtain⟨eq,hq⟩:=Jl hS hp h0;rw [sA.2.1] at hm;obtain⟨k,e1,e2,e3,e4⟩:=hk.rng _ hq _ hm;have:k=p:=by omega
        subst this;exact h3 e4
       have ht:=ZwM (F:=F) (die:=Zkl s d) (by omega) hS hp wA (by omega) kA hpA hnot (fun x=>loop F' (Zmp F) x) next fun h0 h2=>by
        obtain⟨eq,hq⟩:=Jl hS hp h0;refine ih (B:=B - 1) _ _ F' (by omega) hq ?_ ((Km wA).up (Nat.le_refl _)) (by omega) (JZ hS kA hp h0 hpA (hnot h0) _) (by rw [h2];decide);rw [← eq];have hu:(if((p:Int)) < 0 then(p:Int) else up s d (inn s (p:Int))) < 0:=hu
        rwa [if_neg (by omega)] at hu
       exact ht
end
end
section
theorem Zm4 {α:Type} {l:List α} {c:Nat} (h:c <=l.length):slL l 0 (c:Int)=some (l.take c):=by
 unfold slL;rw [decide_eq_true (show(0:Int) <=0 by omega),decide_eq_true (show(0:Int) <= (c:Int) by omega),decide_eq_true (show(c:Int) <= (l.length:Int) by omega)];simp
theorem Zh8 {α:Type} {l:List α} {c:Nat} (h:c <=l.length):slL l (c:Int) (l.length:Int)=some (l.drop c):=by
 unfold slL;rw [decide_eq_true (show(0:Int) <= (c:Int) by omega),decide_eq_true (show(c:Int) <= (l.length:Int) by omega),decide_eq_true (show(l.length:Int) <= (l.length:Int) by omega)];simp
section
variable {s:Zc} {σ:TS} {F B p q:Nat} {die:Nat ->TS ->TS}
theorem ZFT {l:List Int} {k:Int} (hl:l.length <=500) {c:Nat} (hc:c= (l.takeWhile fun x=>decide (x < k)).length) {β:Type} (f:List Int ->Option β):((slL l 0 (c:Int)).bind fun z1=>(app 8 ([]:List Int) z1).bind fun z2=>(app 8 z2 [k]).bind fun z3=>(slL l (c:Int) (l.length:Int)).bind fun z4=>(app 8 z3 z4).bind f)=f (ins k l):=by
 have hcl:c <=l.length:=by rw [hc];exact Zbh
 rw [Zm4 hcl];simp only [Bq0];have e1:(l.take c).length <=500:=by rw [List.length_take];omega
 have e2:(l.drop c).length <=500:=by rw [List.length_drop];omega
 rw [ZoY (by simp;omega)];simp only [Bq0,List.nil_append];rw [ZoY (by simp;omega)];simp only [Bq0];rw [Zh8 hcl];simp only [Bq0];rw [ZoY (by rw [List.length_append,List.length_singleton];omega)];simp only [Bq0];rw [ZBg,← hc,List.append_assoc];rfl
theorem Zxd (hF:100000 <=F) (hS:QN s) (hp:p < nn s) (hw:Wf s B σ) (hB:B <=700000) (hk:Kn s σ) (h3:σ.st p=3) (h0:¬ inn s (p:Int) < 0) (hn:(p:Int) ∉ σ.kn (inn s (p:Int)).toNat) (Qc:Z6×Int ->Option Z6)
 (hx:(YM s p (Kq s σ p) σ).st (inn s (p:Int)).toNat=2 ->Qc (XZ s (YM s p (Kq s σ p) σ),((inn s (p:Int)).toNat:Int))=some (XZ s (die (inn s (p:Int)).toNat (YM s p (Kq s σ p) σ)))):
 loop F (ZjY F (p:Int) Qc s.qG s.Zi (tab (nn s) σ.st) (tab (nn s) σ.kn) (tab (nn s) σ.wa) (tab (mm s) σ.be) (tab (mm s * mm s) (Ju σ)) σ.sd σ.ev (Um s σ.ma) (Kq s σ p) (spt s p)) 0=some (XZ s (KC s die p (Kq s σ p) σ)):=by
 have h16:=Zek hS;obtain⟨eq,hq⟩:=Jl hS hp h0;obtain⟨q,hqe⟩:∃ q,q= (inn s (p:Int)).toNat:= ⟨_,rfl⟩
 have hk3:=JZ hS hk hp h0 h3 hn (Kq s σ p);rw [← hqe] at eq hq hn hx;have hl:=hk.len hS hq
 have hne:q ≠ p:=fun e=>by
  subst e
  exact ZAP hS.inn hp (j:=1) (by omega) (by
   show(if((q:Int)) < 0 then(q:Int) else up s 0 (inn s (q:Int)))=_;rw [if_neg (by omega)];exact eq)
 obtain⟨c,hc⟩:∃ c,c= ((σ.kn q).takeWhile fun x=>decide (x < (p:Int))).length:= ⟨_,rfl⟩
 have hcl:c <= (σ.kn q).length:=by rw [hc];exact Zbh
 have fin:∀ {β:Type} (g:Z6 ->β) (K:Z6 ->Option β),True:=fun _ _=>trivial
 have e3:Zz (Zz (Um s σ.ma) (q:Int) (tab (mm s * mm s) (mx (σ.ma q) (Kq s σ p)))) (p:Int) (Kq s σ p)=tab (nn s) fun j=>tab (mm s * mm s) ((YM s p (Kq s σ p) σ).ma j):=by
  rw [K8];unfold Kq;rw [K8];refine Zb1 fun j _ i _=>?_
  show YG (YG σ.ma q _) p (σ.ma p) j i=YG σ.ma (inn s (p:Int)).toNat _ j i;rw [← hqe];by_cases e:j=p
  ·subst e;rw [Yf,Xi (fun z=>hne z.symm)]
  ·rw [Xi e]
 have e4:tab (nn s) (YG σ.kn q (ins (p:Int) (σ.kn q)))=tab (nn s) (YM s p (Kq s σ p) σ).kn:=by
  show _=tab (nn s) (YG σ.kn (inn s (p:Int)).toNat _);rw [← hqe]
 have e5:Z6.mk (Zc.mk s.qG s.Zi) (Zf.mk (tab (nn s) σ.st) (tab (nn s) fun j=>tab (mm s * mm s) ((YM s p (Kq s σ p) σ).ma j)) (tab (nn s) (YM s p (Kq s σ p) σ).kn) (tab (nn s) σ.wa) (tab (mm s) σ.be) (tab (mm s * mm s) (Ju σ)) σ.sd) σ.ev=XZ s (YM s p (Kq s σ p) σ):=rfl;have e6:(YM s p (Kq s σ p) σ).st q=σ.st q:=rfl;have self:Zz (tab (nn s) σ.kn) (q:Int) (σ.kn q)=tab (nn s) σ.kn:=by rw [XE,ZgK]
 have done:∀ (K:List Int ->Option Z6),K= (fun ZhP=>(ZW (Um s σ.ma) (q:Int)).bind fun ZFA=>bif(q:Int)== (p:Int) then none else(Zkf F ZFA (Kq s σ p)).bind fun Wh=>(gd (σ.st q==2) (ZgP F (Z6.mk (Zc.mk s.qG s.Zi) (Zf.mk (tab (nn s) σ.st) (Zz (Zz (Um s σ.ma) (q:Int) Wh.1) (p:Int) Wh.2) (Zz (tab (nn s) σ.kn) (q:Int) ZhP) (tab (nn s) σ.wa) (tab (mm s) σ.be) (tab (mm s * mm s) (Ju σ)) σ.sd) σ.ev) (q:Int)) default).bind fun ZFz=>(bif((σ.st q==2) && ZFz) then(Qc ((Z6.mk (Zc.mk s.qG s.Zi) (Zf.mk (tab (nn s) σ.st) (Zz (Zz (Um s σ.ma) (q:Int) Wh.1) (p:Int) Wh.2) (Zz (tab (nn s) σ.kn) (q:Int) ZhP) (tab (nn s) σ.wa) (tab (mm s) σ.be) (tab (mm s * mm s) (Ju σ)) σ.sd) σ.ev),(q:Int))).bind fun Ul=>(Zdt) (Ul.s.qG,Ul.s.Zi,Ul.w.qV,Ul.w.qX,Ul.w.qZ,Ul.w.Zh,Ul.w.Zt,Ul.w.kQ,Ul.w.kK,Ul.kU) else(Zdt) (s.qG,s.Zi,tab (nn s) σ.st,Zz (Zz (Um s σ.ma) (q:Int) Wh.1) (p:Int) Wh.2,Zz (tab (nn s) σ.kn) (q:Int) ZhP,tab (nn s) σ.wa,tab (mm s) σ.be,tab (mm s * mm s) (Ju σ),σ.sd,σ.ev))) ->K (ins (p:Int) (σ.kn q))=some (XZ s (KC s die p (Kq s σ p) σ)):=by
  intro K hK;subst hK;dsimp only;rw [Zbp hq];simp only [Bq0];rw [Wx,decide_eq_false hne,Cq0,Zw7 (by omega) (by omega) (ZF6 p)];simp only [Bq0];rw [e3,XE,e4,e5,Xo];unfold KC;rw [← hqe];by_cases h2:σ.st q=2
  ·rw [decide_eq_true h2,Qp,Zho (by omega) hS hq (by have:=hk3.len hS hq;omega)];by_cases hA:Alo s (YM s p (Kq s σ p) σ) q
   ·rw [Yk hA];simp only [Bq0,Bool.and_self,Cq1];rw [hx (by rw [e6];exact h2),Yk ⟨by rw [e6];exact h2,hA⟩];rfl
   ·rw [Z9 hA];simp only [Bq0,Bool.and_false,Cq0];rw [Z9 fun z=>hA z.2];rfl
  ·rw [decide_eq_false h2,Jo];simp only [Bq0,Bool.false_and,Cq0];rw [Z9 fun z=>h2 (by rw [← e6];exact z.1)];rfl
 refine XB (fun k=>(k:Int)) rfl (n:=c) (by omega) (fun k hk' next=>?_) (fun next=>?_)
 ·unfold ZjY;rw [QH,eq,Z5 hq];simp only [Bq0];have:=Zzr (l:=σ.kn q) (k:= (p:Int)) k (by omega);rw [YH (show k < (σ.kn q).length by omega),Cq1,Ql 0 (by omega)];simp only [Bq0];rw [decide_eq_true this,Cq1,Qg (by omega)]
 ·unfold ZjY;rw [QH,eq,Z5 hq];simp only [Bq0];by_cases hlt:c < (σ.kn q).length
  ·have:=Zzs (hk.srt q hq) (k:= (p:Int)) c (by omega) hlt;rw [YH hlt,Cq1,Ql 0 hlt];simp only [Bq0];rw [decide_eq_false (by omega),Cq0];simp only [Z5 hq,Bq0,self];exact(ZFT (by omega) hc _).trans (done _ rfl)
  ·have:c= (σ.kn q).length:=by omega
   rw [decide_eq_false (show ¬ ((c:Int) < ((σ.kn q).length:Int)) by omega),Cq0];simp only [Z5 hq,Bq0,self];exact(ZFT (by omega) hc _).trans (done _ rfl)
theorem Zzt (hF:100000 <=F) (hS:QN s) (hp:p < nn s) (hw:Wf s B σ) (hB:B <=700000) (hk:Kn s σ) (h3:σ.st p=3) (hn:¬ inn s (p:Int) < 0 ->(p:Int) ∉ σ.kn (inn s (p:Int)).toNat) (Qc:Z6×Int ->Option Z6) (nx:Int×List (List Int) ->Option Z6)
 (hx:¬ inn s (p:Int) < 0 ->(YM s p (Kq s σ p) σ).st (inn s (p:Int)).toNat=2 ->Qc (XZ s (YM s p (Kq s σ p) σ),((inn s (p:Int)).toNat:Int))=some (XZ s (die (inn s (p:Int)).toNat (YM s p (Kq s σ p) σ)))):
 ZjZ F (p:Int) Qc s.qG s.Zi (tab (nn s) σ.st) (tab (nn s) σ.kn) (tab (nn s) σ.wa) (tab (mm s) σ.be) (tab (mm s * mm s) (Ju σ)) σ.sd σ.ev (pl s p:Int) ((mm s:Int),Um s σ.ma) nx=some (XZ s (ZoA s die p σ)):=by
 unfold ZjZ;dsimp only;rw [ZfB hS,Cq0,X7 hp];simp only [Bq0];rw [QH];unfold ZoA;by_cases h0:inn s (p:Int) < 0
 ·rw [decide_eq_true h0,Cq1,if_pos h0];rfl
 ·rw [decide_eq_false h0,Cq0,if_neg h0];obtain⟨eq,hq⟩:=Jl hS hp h0;have hl:=Zxd (die:=die) hF hS hp hw hB hk h3 h0 (hn h0) Qc (hx h0);obtain⟨q,hqe⟩:∃ q,q= (inn s (p:Int)).toNat:= ⟨_,rfl⟩
  rw [← hqe] at eq hq ⊢;rw [eq,show Um s σ.ma=tab (nn s) fun p=>tab (mm s * mm s) (σ.ma p) from rfl,ZqY,Za9 hS hq];simp only [Bq0];rw [Wx,Z5 hp];simp only [Bq0];by_cases e:pl s q=pl s p
  ·rw [decide_eq_true e,Cq1,if_pos e];exact hl
  ·rw [decide_eq_false e,Cq0,if_neg e,show app 8 ([]:List Int) (tab (mm s * mm s) (σ.ma p))=some (Kq s σ p) from Zfz hS hp];simp only [Bq0];rw [ZcY hS (hw.few (by omega)) (hS.pl hp).2 (hS.pl hq).2];rfl
theorem Zwt (hF:1000000 <=F) (hS:QN s):∀ (d p:Nat) (σ:TS) (F':Nat),d < F' ->p < nn s ->up s d (p:Int) < 0 ->Wf s B σ ->B <=700000 ->Kn s σ ->σ.st p ≠ 3 ->loop F' (Zmq F) (XZ s σ,(p:Int))=some (XZ s (Zkl s d p σ)):=by
 intro d
 induction d generalizing B with
 | zero=>intro p σ F' _ _ hu _ _ _ _;exact absurd hu (by show ¬ ((p:Int)) < 0;omega)
 | succ d ih=>
   intro p σ F' hd hp hu hw hB hk h3;cases F' with
   | zero=>omega
   | succ F'=>
     obtain⟨b1,w0,b2⟩:=Zh4 hw hp h3;have wA:=ZmY hS hw hp h3;have kA:=Znm hk p;have sA:=KX (s:=s) p σ;have w1:=hw.st hp (3:Int) (B':=B) (by rw [show sw (3:Int)=0 from rfl];omega);rw [Jg];unfold Zmq;dsimp only;rw [show(XZ s σ).w.qV=tab (nn s) σ.st from rfl,Z5 hp];simp only [Bq0];rw [XE,show Z6.mk (XZ s σ).s (Zf.mk (tab (nn s) (YG σ.st p 3)) (XZ s σ).w.qX (XZ s σ).w.qZ (XZ s σ).w.Zh (XZ s σ).w.Zt (XZ s σ).w.kQ (XZ s σ).w.kK) (XZ s σ).kU=XZ s {σ with st:=YG σ.st p 3} from rfl,Zbi (w1.few (by omega))];simp only [Bq0];rw [show(XZ s (tell 6 (p:Int) 0 0 {σ with st:=YG σ.st p 3})).w.Zh=tab (nn s) σ.wa from rfl,Z5 hp];simp only [Bq0];rw [XE];refine XB (fun k=>((k:Int),s.qG,s.Zi,tab (nn s) (Zt s p ((σ.wa p).take k) (KJ p σ)).st,(tab (nn s) fun j=>tab (mm s * mm s) ((Zt s p ((σ.wa p).take k) (KJ p σ)).ma j)),tab (nn s) (Zt s p ((σ.wa p).take k) (KJ p σ)).kn,tab (nn s) (Zt s p ((σ.wa p).take k) (KJ p σ)).wa,tab (mm s) (Zt s p ((σ.wa p).take k) (KJ p σ)).be,tab (mm s * mm s) (Ju (Zt s p ((σ.wa p).take k) (KJ p σ))),(Zt s p ((σ.wa p).take k) (KJ p σ)).sd,(Zt s p ((σ.wa p).take k) (KJ p σ)).ev)) rfl (n:= (σ.wa p).length) (by omega) (fun k hk' next=>?_) (fun next=>?_)
     ·unfold ZnX;dsimp only;rw [YH hk',Cq1,Ql 0 hk'];simp only [Bq0];obtain⟨j,ej,hj⟩:=hw.ws p hp _ (QU (d:=0) hk');have wk:=ZcS hS hp ((σ.wa p).take k) _ _ w0 (fun x hx=>hw.ws p hp x (List.mem_of_mem_take hx));have hlen:((σ.wa p).take k).length <= (σ.wa p).length:=by rw [List.length_take];omega
      rw [ZqY,ej,ZrW hS (wk.few (by omega)) hj hp];simp only [Bq0];rw [ZkD p k _ hk',ej,Int.toNat_natCast,Qg (by omega)];rfl
     ·unfold ZnX;dsimp only;rw [Xn,Cq0,List.take_length,ZqY,Za9 hS hp];simp only [Bq0];have wB:=ZcS hS hp (σ.wa p) _ _ w0 (hw.ws p hp);refine Zjw (by omega) hS wB (by omega) hp (fun v k hk' next=>?_) (fun next=>?_)
      ·unfold ZjZ ZjX;dsimp only;rw [Zbq hS hk',Cq1];by_cases z:k=pl s p
       ·subst z;rw [show(((pl s p:Nat):Int) != ((pl s p:Nat):Int))=false by simp,Cq0,Cq0]
       ·have:(((k:Int)) != ((pl s p:Int)))=true:=by rw [KZ];exact decide_eq_true (by omega)
        rw [this,Cq1,Cq1];unfold Zwi;dsimp only;rw [Uw hS (hS.pl hp).2 hk',Z5 (KN (hS.pl hp).2 hk')];simp only [Bq0];rw [ZpD wB (by omega) (KN (hS.pl hp).2 hk')]
      ·have hpA:(Qd s p σ).st p=3:=by rw [sA.1,Yf]
       have hnot:¬ inn s (p:Int) < 0 ->(p:Int) ∉ (Qd s p σ).kn (inn s (p:Int)).toNat:=fun h0 hm=>by
        obtain⟨eq,hq⟩:=Jl hS hp h0;rw [sA.2.1] at hm;obtain⟨k,e1,e2,e3,e4⟩:=hk.rng _ hq _ hm;have:k=p:=by omega
        subst this;exact h3 e4
       have ht:=Zzt (F:=F) (die:=Zkl s d) (by omega) hS hp wA (by omega) kA hpA hnot (fun x=>loop F' (Zmq F) x) next fun h0 h2=>by
        obtain⟨eq,hq⟩:=Jl hS hp h0;refine ih (B:=B - 1) _ _ F' (by omega) hq ?_ ((Km wA).up (Nat.le_refl _)) (by omega) (JZ hS kA hp h0 hpA (hnot h0) _) (by rw [h2];decide);rw [← eq];have hu:(if((p:Int)) < 0 then(p:Int) else up s d (inn s (p:Int))) < 0:=hu
        rwa [if_neg (by omega)] at hu
       exact ht
end
end
section
noncomputable section
variable (s:Zc)
def Wv (p:Nat) (σ:TS):TS:= {σ with st:=YG σ.st p 2,ev:=σ.ev ++ [⟨5,(p:Int),0,0⟩]}
def ZaK (fall:Nat ->TS ->TS) (p:Nat) (σ:TS) (k:Nat):TS:=
 if pl s k=pl s p then(if σ.st k=1 then fall k σ else σ)
 else if(k:Int) ∈ σ.kn p then σ else send s (pl s p) (pl s k) ⟨3,(k:Int),0,0,[]⟩ σ
def ZnS (p:Nat) (σ:TS):TS:=ifc (σ.st p=2∧Alo s σ p) (Zkl s (nn s) p σ) σ
def Zqm (p k:Nat):List Nat:= (List.range k).filter fun q:Nat=>inn s (q:Int)== (p:Int)
def fk (fall:Nat ->TS ->TS) (p k:Nat) (σ:TS):TS:= (Zqm s p k).foldl (ZaK s fall p) σ
def JM:Nat ->Nat ->TS ->TS
 | 0,_,σ=>σ
 | d + 1,p,σ=>ZnS s p (fk s (JM d) p (nn s) (Wv p σ))
end
section
variable {s:Zc} {σ:TS} {F B p q d:Nat} {fall:Nat ->TS ->TS}
theorem ZdY (p k:Nat):Zqm s p (k + 1)=Zqm s p k ++ (if inn s (k:Int)= (p:Int) then [k] else []):=by
 unfold Zqm;rw [List.range_succ,List.filter_append,List.filter_cons,List.filter_nil,Xo];by_cases h:inn s (k:Int)= (p:Int) <;> simp [h]
theorem ZjC (p k:Nat):(Zqm s p k).length <=k:=by
 unfold Zqm;have:=List.length_filter_le (fun q:Nat=>inn s (q:Int)== (p:Int)) (List.range k)
 rwa [List.length_range] at this
theorem ZDp {k:Nat} (h:inn s (k:Int)= (p:Int)):fk s fall p (k + 1) σ=ZaK s fall p (fk s fall p k σ) k:=by
 unfold fk;rw [ZdY,if_pos h,List.foldl_append];rfl
theorem ZJs {k:Nat} (h:inn s (k:Int) ≠ (p:Int)):fk s fall p (k + 1) σ=fk s fall p k σ:=by
 unfold fk;rw [ZdY,if_neg h,List.append_nil]
structure Gd (s:Zc) (B:Nat) (σ:TS):Prop where
 wf:Wf s B σ
 kn:Kn s σ
theorem Gd.up (h:Gd s B σ) {B':Nat} (hb:B <=B'):Gd s B' σ:= ⟨h.wf.up hb,h.kn⟩
theorem ZSi (h:Kn s σ) {v:Int} (h3:σ.st p ≠ 3) {e:List Zw}:Kn s {σ with st:=YG σ.st p v,ev:=e}:=by
 refine⟨h.srt,fun q hq x hx=>?_⟩;obtain⟨k,h1,h2,h4,h5⟩:=h.rng q hq x hx;refine⟨k,h1,h2,h4,?_⟩;show YG σ.st p v k=3;rw [Xi (fun z=>by subst z;exact h3 h5)];exact h5
theorem ZvC (h:Kn s σ) (a b:Nat) (x:Zd):Kn s (send s a b x σ):= ⟨h.srt,h.rng⟩
theorem ZjK (h:Gd s B σ) (hp:p < nn s) (h1:σ.st p=1):11 <=B∧Gd s (B - 8) (Wv p σ):=by
 have hb:=h.wf.pot
 have h11:11 <=Pot s σ:=by
  have:=Ub (f:=fun p=>sw (σ.st p)) hp;have e:sw (σ.st p)=11:=by rw [h1];rfl
  unfold Pot;omega
 have w1:=h.wf.st hp (2:Int) (B':=B - 9) (by rw [h1];show B + 2 <=B - 9 + 11;omega);exact⟨by omega,(w1.tell 5 (p:Int) 0 0).up (by omega),ZSi h.kn (by rw [h1];decide)⟩
theorem Zzo (hp:p < nn s) (hu:up s (d + 1) (p:Int) < 0):up s d (inn s (p:Int)) < 0:=by
 have hu:(if((p:Int)) < 0 then(p:Int) else up s d (inn s (p:Int))) < 0:=hu
 rwa [if_neg (by omega)] at hu
theorem ZD3 (hS:QN s):∀ (d p:Nat) (σ:TS) (B:Nat),p < nn s ->up s d (p:Int) < 0 ->Gd s B σ ->σ.st p ≠ 3 ->Gd s B (Zkl s d p σ):=by
 intro d
 induction d with
 | zero=>intro p σ B hp hu _ _;exact absurd hu (by show ¬ ((p:Int)) < 0;omega)
 | succ d ih=>
   intro p σ B hp hu h h3;have wA:=ZmY hS h.wf hp h3;have kA:=Znm h.kn p;have sA:=KX (s:=s) p σ;have b1:= (Zh4 h.wf hp h3).1;have hpA:(Qd s p σ).st p=3:=by rw [sA.1,Yf]
   show Gd s B (ZoA s (Zkl s d) p (Qd s p σ));unfold ZoA;by_cases h0:inn s (p:Int) < 0
   ·rw [if_pos h0];exact⟨wA.up (by omega),kA⟩
   ·rw [if_neg h0];obtain⟨eq,hq⟩:=Jl hS hp h0
    have hnot:(p:Int) ∉ (Qd s p σ).kn (inn s (p:Int)).toNat:=fun hm=>by
     rw [sA.2.1] at hm;obtain⟨k,e1,e2,e3,e4⟩:=h.kn.rng _ hq _ hm;have:k=p:=by omega
     subst this;exact h3 e4
    have k3:=JZ hS kA hp h0 hpA hnot (Kq s (Qd s p σ) p);by_cases e:pl s (inn s (p:Int)).toNat=pl s p
    ·rw [if_pos e];unfold KC;by_cases c:(YM s p (Kq s (Qd s p σ) p) (Qd s p σ)).st (inn s (p:Int)).toNat=2∧Alo s (YM s p (Kq s (Qd s p σ) p) (Qd s p σ)) (inn s (p:Int)).toNat
     ·rw [Yk c];refine(ih _ _ (B - 1) hq ?_ ⟨Km wA,k3⟩ (by rw [c.1];decide)).up (by omega);rw [← eq];exact Zzo hp hu
     ·rw [Z9 c];exact⟨(Km wA).up (by omega),k3⟩
    ·rw [if_neg e];exact⟨(wA.send (hS.pl hp).2 (hS.pl hq).2 _).up (by show B - 1 + 1 + 0 <=B;omega),ZvC kA _ _ _⟩
theorem Zu7 (hS:QN s) (ih:∀ (k:Nat) (σ:TS) (B:Nat),k < nn s ->KL s d k ->Gd s B σ ->σ.st k=1 ->Gd s B (fall k σ)) {k:Nat} (hk:k < nn s) (hp:p < nn s) (hs:KL s d k) (h:Gd s B σ):Gd s (B + 1) (ZaK s fall p σ k):=by
 unfold ZaK;by_cases e:pl s k=pl s p
 ·rw [if_pos e];by_cases e1:σ.st k=1
  ·rw [if_pos e1];exact(ih k σ B hk hs h e1).up (by omega)
  ·rw [if_neg e1];exact h.up (by omega)
 ·rw [if_neg e];by_cases e1:(k:Int) ∈ σ.kn p
  ·rw [if_pos e1];exact h.up (by omega)
  ·rw [if_neg e1];exact⟨(h.wf.send (hS.pl hp).2 (hS.pl hk).2 _).up (by show B + 1 + 0 <=B + 1;omega),ZvC h.kn _ _ _⟩
theorem ZJt (hS:QN s) (ih:∀ (k:Nat) (σ:TS) (B:Nat),k < nn s ->KL s d k ->Gd s B σ ->σ.st k=1 ->Gd s B (fall k σ)) (hp:p < nn s) (hs:KL s (d + 1) p) (h:Gd s B σ):∀ k,k <=nn s ->Gd s (B + (Zqm s p k).length) (fk s fall p k σ):=by
 intro k
 induction k with
 | zero=>intro _;exact h
 | succ k ihk=>
   intro hk;have h1:=ihk (by omega);by_cases e:inn s (k:Int)= (p:Int)
   ·rw [ZDp e,ZdY,if_pos e,List.length_append,List.length_singleton];exact Zu7 hS ih (by omega) hp (hs.kid e) h1
   ·rw [ZJs e,ZdY,if_neg e,List.append_nil];exact h1
theorem ZdL (hS:QN s) (hp:p < nn s):up s (nn s) (p:Int) < 0:=hS.inn.acy p hp
theorem Zik (hS:QN s):∀ (d p:Nat) (σ:TS) (B:Nat),p < nn s ->KL s d p ->Gd s B σ ->σ.st p=1 ->Gd s B (JM s d p σ):=by
 intro d
 induction d with
 | zero=>intro p σ B hp hs _ _;exact absurd rfl (hs p hp 0 (Nat.le_refl _))
 | succ d ih=>
   intro p σ B hp hs h h1;obtain⟨b,g0⟩:=ZjK h hp h1;have g1:=ZJt hS ih hp hs g0 (nn s) (Nat.le_refl _);have hl:=ZjC (s:=s) p (nn s);have h8:nn s <=8:=hS.p2;have g2:=g1.up (B':=B) (by omega);show Gd s B (ZnS s p (fk s (JM s d) p (nn s) (Wv p σ)));unfold ZnS;by_cases c:(fk s (JM s d) p (nn s) (Wv p σ)).st p=2∧Alo s (fk s (JM s d) p (nn s) (Wv p σ)) p
   ·rw [Yk c];exact ZD3 hS _ _ _ _ hp (ZdL hS hp) g2 (by rw [c.1];decide)
   ·rw [Z9 c];exact g2
def Zb5 (s:Zc) (σ:TS):List Int×List (List Int)×List (List Int)×List (List Int)×List (List Zd)×List Zg×Int×Int×List ZX×List Zw:=
 (tab (nn s) σ.st,(tab (nn s) fun j=>tab (mm s * mm s) (σ.ma j)),tab (nn s) σ.kn,tab (nn s) σ.wa,tab (mm s) σ.be,tab (mm s * mm s) (Ju σ),σ.sd,s.qG,s.Zi,σ.ev)
def ZcK (s:Zc) (σ:TS):Int×List ZX×List Int×List (List Int)×List (List Int)×List (List Int)×List (List Zd)×List Zg×Int×List Zw:=
 (s.qG,s.Zi,tab (nn s) σ.st,(tab (nn s) fun j=>tab (mm s * mm s) (σ.ma j)),tab (nn s) σ.kn,tab (nn s) σ.wa,tab (mm s) σ.be,tab (mm s * mm s) (Ju σ),σ.sd,σ.ev)
theorem ZxD (hF:1000000 <=F) (hS:QN s) (hp:p < nn s) (h:Gd s B σ) (hB:B <=700000):ZeH F (p:Int) (Zb5 s σ)=some (hal s (ZnS s p σ)):=by
 unfold ZeH Zb5;dsimp only;rw [Z5 hp];simp only [Bq0];rw [Xo,ZqR];unfold ZnS;by_cases h2:σ.st p=2
 ·rw [decide_eq_true h2,Qp,ZeO (by omega) hS hp (by have:=h.kn.len hS hp;omega)];by_cases hA:Alo s σ p
  ·rw [Yk hA,Yk ⟨h2,hA⟩];simp only [Bq0,Bool.and_self,Cq1];unfold ZDt;have h8:nn s <=8:=hS.p2;rw [Zrz hF hS _ _ _ F (by omega) hp (ZdL hS hp) h.wf hB h.kn (by rw [h2];decide)];rfl
  ·rw [Z9 hA,Z9 fun z=>hA z.2];simp only [Bq0,Bool.and_false,Cq0]
 ·rw [decide_eq_false h2,Jo,Z9 fun z=>h2 z.1];simp only [Bq0,Bool.false_and,Cq0]
theorem Zif (k:Int) (nx:Int×List Int×List (List Int)×List (List Int)×List (List Int)×List (List Zd)×List Zg×Int×Int×List ZX×List Zw ->Option Z7):ZeG F (p:Int) k nx (Zb5 s σ)=nx (Ye (k + 1),Zb5 s σ):=rfl
theorem Zmn (hF:1000000 <=F) (hS:QN s):∀ (d p:Nat) (σ:TS) (F' B:Nat),d < F' ->p < nn s ->KL s d p ->Gd s B σ ->B <=700000 ->σ.st p=1 ->loop F' (Zmr F) (hal s σ,(p:Int))=some (hal s (JM s d p σ)):=by
 intro d
 induction d with
 | zero=>intro p σ F' B _ hp hs _ _ _;exact absurd rfl (hs p hp 0 (Nat.le_refl _))
 | succ d ih=>
   intro p σ F' B hd hp hs h hB h1;cases F' with
   | zero=>omega
   | succ F'=>
     obtain⟨b,g0⟩:=ZjK h hp h1;have gk:=ZJt hS (fun k σ B hk hs h e=>Zik hS d k σ B hk hs h e) hp hs g0;have h8:nn s <=8:=hS.p2;have w1:=h.wf.st hp (2:Int) (B':=B) (by rw [h1];show B + 2 <=B + 11;omega);rw [Jg];generalize hnx:loop F' (Zmr F)=nx;unfold Zmr Zn4;dsimp only;rw [show(hal s σ).Za.qV=tab (nn s) σ.st from rfl,Z5 hp];simp only [Bq0];rw [XE,show Z7.mk (Zf.mk (tab (nn s) (YG σ.st p 2)) (hal s σ).Za.qX (hal s σ).Za.qZ (hal s σ).Za.Zh (hal s σ).Za.Zt (hal s σ).Za.kQ (hal s σ).Za.kK) (hal s σ).qK (hal s σ).kU=hal s {σ with st:=YG σ.st p 2} from rfl,K6 (w1.few (by omega))];simp only [Bq0];refine XB (fun k=>((k:Int),Zb5 s (fk s (JM s d) p k (Wv p σ)))) rfl (n:=nn s) (by omega) (fun k hk next=>?_) (fun next=>?_)
     ·have gk':=gk k (by omega);have hl:=ZjC (s:=s) p k;have hB':B - 8 + (Zqm s p k).length <=700000:=by omega
      obtain⟨σk,hσ⟩:∃ σk,σk=fk s (JM s d) p k (Wv p σ):= ⟨_,rfl⟩
      rw [← hσ] at gk' ⊢;have fw:=gk'.wf.few (by omega);unfold Zj6;rw [show(Zb5 s σk)= (tab (nn s) σk.st,(tab (nn s) fun j=>tab (mm s * mm s) (σk.ma j)),tab (nn s) σk.kn,tab (nn s) σk.wa,tab (mm s) σk.be,tab (mm s * mm s) (Ju σk),σk.sd,s.qG,s.Zi,σk.ev) from rfl];dsimp only;rw [show(hal s (tell 5 (p:Int) 0 0 {σ with st:=YG σ.st p 2})).qK.Zi=s.Zi from rfl,show((s.Zi.length:Nat):Int)= ((nn s:Nat):Int) from rfl,YH hk,Cq1,X7 hk];simp only [Bq0];rw [QH,Xo];by_cases e:inn s (k:Int)= (p:Int)
      ·rw [decide_eq_true e,Cq1,ZqR,Wz hS hk,Wz hS hp];simp only [Bq0];rw [ZDp e,← hσ,Wx];unfold ZaK;by_cases e1:pl s k=pl s p
       ·rw [decide_eq_true e1,Cq1,if_pos e1,Z5 hk];simp only [Bq0];rw [Xo];by_cases e2:σk.st k=1
        ·rw [decide_eq_true e2,Cq1,if_pos e2,← hnx,ih k σk F' _ (by omega) hk (hs.kid e) gk' hB' e2];simp only [Bq0];exact(Zif (s:=s) (σ:=JM s d k σk) (F:=F) (p:=p) (k:Int) next).trans (by rw [Qg (by omega)])
        ·rw [decide_eq_false e2,Cq0,if_neg e2];exact(Zif (s:=s) (σ:=σk) (F:=F) (p:=p) (k:Int) next).trans (by rw [Qg (by omega)])
       ·rw [decide_eq_false e1,Cq0,if_neg e1,Z5 hp];simp only [Bq0];rw [contains_eq (by omega) (by have:=gk'.kn.len hS hp;omega)];simp only [Bq0];by_cases e2:(k:Int) ∈ σk.kn p
        ·rw [decide_eq_true e2,Bool.not_true,Cq0,if_pos e2];exact(Zif (s:=s) (σ:=σk) (F:=F) (p:=p) (k:Int) next).trans (by rw [Qg (by omega)])
        ·rw [decide_eq_false e2,Bool.not_false,Cq1,if_neg e2];rw [Zbk hS fw (hS.pl hp).2 (hS.pl hk).2];simp only [Bq0];exact(Zif (s:=s) (σ:=send s (pl s p) (pl s k) ⟨3,(k:Int),0,0,[]⟩ σk) (F:=F) (p:=p) (k:Int) next).trans (by rw [Qg (by omega)])
      ·rw [decide_eq_false e,Cq0,ZJs e,← hσ,Qg (by omega)]
       rfl
     ·have gk':=gk (nn s) (Nat.le_refl _);have hl:=ZjC (s:=s) p (nn s);refine(?_:Zj6 F (p:Int) _ _ _ next=ZeH F (p:Int) (Zb5 s (fk s (JM s d) p (nn s) (Wv p σ)))).trans (ZxD hF hS hp gk' (by omega));unfold Zj6 Zb5;dsimp only;rw [show(hal s (tell 5 (p:Int) 0 0 {σ with st:=YG σ.st p 2})).qK.Zi=s.Zi from rfl,show((s.Zi.length:Nat):Int)= ((nn s:Nat):Int) from rfl,Xn,Cq0]
end
end Go.Proofs.YtcnahmgekicbdaaGreat
end
end
section
namespace Go.Proofs.YtcnahmgekicbdaaGreat
open Go.Lf
section
variable {s:Zc} {σ:TS} {F B p q d:Nat} {fall:Nat ->TS ->TS}
theorem ZDj (hS:QN s) (ih:∀ (k:Nat) (σ:TS) (B:Nat),k < nn s ->KL s d k ->Gd s B σ ->σ.st k=1 ->Gd s B (fall k σ)) (hp:p < nn s):∀ (l:List Nat) (B:Nat) (σ:TS),(∀ k ∈ l,k < nn s∧KL s d k) ->Gd s B σ ->Gd s (B + l.length) (l.foldl (ZaK s fall p) σ):=by
 intro l
 induction l with
 | nil=>intro B σ _ h;exact h
 | cons k l ihl=>
   intro B σ hl h;have:=ihl (B + 1) (ZaK s fall p σ k) (fun j hj=>hl j (by simp [hj])) (Zu7 hS ih (hl k (by simp)).1 hp (hl k (by simp)).2 h);exact this.up (by rw [List.length_cons];omega)
theorem ZDr (hF:1000000 <=F) (hS:QN s) (hp:p < nn s) (h:Gd s B σ) (hB:B <=700000):
 ((ZW (tab (nn s) σ.st) (p:Int)).bind fun ZwH=>(gd (ZwH==2) (ZgP F (XZ s σ) (p:Int)) default).bind fun ZeW=>(bif((ZwH==2) && ZeW) then(Zrc F (XZ s σ) (p:Int)).bind fun ZiF=>some ZiF else some (XZ s σ)))=some (XZ s (ZnS s p σ)):=by
 rw [Z5 hp];simp only [Bq0];rw [Xo];unfold ZnS;by_cases h2:σ.st p=2
 ·rw [decide_eq_true h2,Qp,Zho (by omega) hS hp (by have:=h.kn.len hS hp;omega)];by_cases hA:Alo s σ p
  ·rw [Yk hA,Yk ⟨h2,hA⟩];simp only [Bq0,Bool.and_self,Cq1];unfold Zrc;have h8:nn s <=8:=hS.p2;rw [Zwt hF hS _ _ _ F (by omega) hp (ZdL hS hp) h.wf hB h.kn (by rw [h2];decide)];rfl
  ·rw [Z9 hA,Z9 fun z=>hA z.2];simp only [Bq0,Bool.and_false,Cq0]
 ·rw [decide_eq_false h2,Jo,Z9 fun z=>h2 z.1];simp only [Bq0,Bool.false_and,Cq0]
theorem Zts (k:Int) (nx:Int×Int×List ZX×List Int×List (List Int)×List (List Int)×List (List Int)×List (List Zd)×List Zg×Int×List Zw ->Option Z6):ZgU k nx (ZcK s σ)=nx (Ye (k + 1),ZcK s σ):=rfl
theorem Zl9 (hs:KL s (d + 1) p) {k:Nat} (hk:k ∈ KV s p):k < nn s∧KL s d k:= ⟨(Zdm.1 hk).1,hs.kid (Zdm.1 hk).2⟩
theorem Zra (hF:1000000 <=F) (hS:QN s):∀ (d p:Nat) (σ:TS) (F' B:Nat),d < F' ->p < nn s ->KL s d p ->Gd s B σ ->B <=700000 ->loop F' (Zms F) (XZ s σ,(p:Int))=some (XZ s (if σ.st p=1 then JM s d p σ else σ)):=by
 intro d
 induction d with
 | zero=>intro p σ F' B _ hp hs _ _;exact absurd rfl (hs p hp 0 (Nat.le_refl _))
 | succ d ih=>
   intro p σ F' B hd hp hs h hB;cases F' with
   | zero=>omega
   | succ F'=>
     rw [Jg];generalize hnx:loop F' (Zms F)=nx;unfold Zms Zj8;dsimp only;rw [show(XZ s σ).w.qV=tab (nn s) σ.st from rfl,Z5 hp];simp only [Bq0];rw [Xo];by_cases h1:σ.st p ≠ 1
     ·rw [decide_eq_false h1,Bool.not_false,Cq1,if_neg h1]
     have h1:=Classical.not_not.1 h1;rw [decide_eq_true h1,Bool.not_true,Cq0,if_pos h1];obtain⟨b,g0⟩:=ZjK h hp h1;have h8:nn s <=8:=hS.p2;have hk8:=Zql (p:=p) hS;have w1:=h.wf.st hp (2:Int) (B':=B) (by rw [h1];show B + 2 <=B + 11;omega);rw [XE,show Z6.mk (XZ s σ).s (Zf.mk (tab (nn s) (YG σ.st p 2)) (XZ s σ).w.qX (XZ s σ).w.qZ (XZ s σ).w.Zh (XZ s σ).w.Zt (XZ s σ).w.kQ (XZ s σ).w.kK) (XZ s σ).kU=XZ s {σ with st:=YG σ.st p 2} from rfl,Zbi (w1.few (by omega))];simp only [Bq0];rw [show(XZ s (tell 5 (p:Int) 0 0 {σ with st:=YG σ.st p 2})).s=s from rfl,ZvD (by omega) hS];simp only [Bq0];have gt:∀ j,Gd s (B - 8 + ((KV s p).take j).length) (((KV s p).take j).foldl (ZaK s (JM s d) p) (Wv p σ)):=fun j=>ZDj hS (fun k σ B hk hs h e=>Zik hS d k σ B hk hs h e) hp _ _ _ (fun k hk=>Zl9 hs (List.mem_of_mem_take hk)) g0
     refine XB (fun j=>((j:Int),ZcK s (((KV s p).take j).foldl (ZaK s (JM s d) p) (Wv p σ)))) rfl (n:= (KV s p).length) (by omega) (fun j hj next=>?_) (fun next=>?_)
     ·have gk':=gt j;have hl:((KV s p).take j).length <=8:=by rw [List.length_take];omega
      have hB':B - 8 + ((KV s p).take j).length <=700000:=by omega
      rw [List.take_succ_eq_append_getElem hj,List.foldl_append];obtain⟨σk,hσ⟩:∃ σk,σk= ((KV s p).take j).foldl (ZaK s (JM s d) p) (Wv p σ):= ⟨_,rfl⟩
      rw [← hσ] at gk' ⊢;have fw:=gk'.wf.few (by omega);obtain⟨k,ek⟩:∃ k,k= (KV s p)[j]:= ⟨_,rfl⟩
      have hkm:k ∈ KV s p:=by rw [ek];exact List.getElem_mem hj
      obtain⟨hk,hsk⟩:=Zl9 hs hkm;rw [← ek];show _=next (((j + 1:Nat):Int),ZcK s (ZaK s (JM s d) p σk k));unfold Zn5;rw [show(ZcK s σk)= (s.qG,s.Zi,tab (nn s) σk.st,(tab (nn s) fun j=>tab (mm s * mm s) (σk.ma j)),tab (nn s) σk.kn,tab (nn s) σk.wa,tab (mm s) σk.be,tab (mm s * mm s) (Ju σk),σk.sd,σk.ev) from rfl];dsimp only
      have eg:((KV s p).map Int.ofNat).getD j 0= (k:Int):=by
       rw [Kt (by rw [List.length_map];exact hj),List.getElem_map,ek];rfl
      rw [List.length_map,YH hj,Cq1,Ql 0 (by rw [List.length_map];exact hj),eg];simp only [Bq0];rw [ZqY,Za9 hS hk,Za9 hS hp];simp only [Bq0];rw [Wx];unfold ZaK;by_cases e1:pl s k=pl s p
      ·rw [decide_eq_true e1,Cq1,if_pos e1,← hnx,ih k σk F' _ (by omega) hk hsk gk' hB'];simp only [Bq0];exact(Zts (s:=s) (σ:=if σk.st k=1 then JM s d k σk else σk) (j:Int) next).trans (by rw [Qg (by omega)])
      ·rw [decide_eq_false e1,Cq0,if_neg e1,Zl8 (by omega) hp (by have:=gk'.kn.len hS hp;omega)];simp only [Bq0];by_cases e2:(k:Int) ∈ σk.kn p
       ·rw [decide_eq_true e2,Bool.not_true,Cq0,if_pos e2];exact(Zts (s:=s) (σ:=σk) (j:Int) next).trans (by rw [Qg (by omega)])
       ·rw [decide_eq_false e2,Bool.not_false,Cq1,if_neg e2];rw [ZcY hS fw (hS.pl hp).2 (hS.pl hk).2];simp only [Bq0];exact(Zts (s:=s) (σ:=send s (pl s p) (pl s k) ⟨3,(k:Int),0,0,[]⟩ σk) (j:Int) next).trans (by rw [Qg (by omega)])
     ·have gk':=gt (KV s p).length;rw [List.take_length] at gk' ⊢;unfold Zn5 ZcK;dsimp only;rw [List.length_map,Xn,Cq0,ZqY];exact ZDr hF hS hp gk' (by omega)
end
end
section
def drop1 (i:Nat) (σ:TS):TS:= {σ with ld:=YG σ.ld i (σ.ld i + 1)}
noncomputable def Zb4 (s:Zc) (k:Nat) (l:List Int) (σ:TS):TS:=KC s (Zkl s (nn s)) k l σ
noncomputable def Zl7 (s:Zc) (b:Nat) (x:Zd) (σ:TS):TS:=
 if x.kW=1 then see x.kX.toNat x.kV.toNat x.n σ
 else if x.kW=2 then note s x.kV.toNat x.kX.toNat σ
 else if x.kW=3 then(if σ.st x.kV.toNat=1 then JM s (nn s) x.kV.toNat σ else σ)
 else if x.kW=4 then Zb4 s x.kV.toNat x.qX σ
 else wait b x σ
def hd (σ:TS) (i:Nat):Zd:= (σ.sn i).getD (σ.ld i) default
noncomputable def ZfF (s:Zc) (a b:Nat) (σ:TS):TS:=Zl7 s b (hd σ (li s a b)) (drop1 (li s a b) σ)
def Zyw (s:Zc) (b:Nat) (x:Zd):Prop:=∃ p:Nat,x.kV= (p:Int)∧p < nn s∧
 ((x.kW=1∧∃ q:Nat,x.kX= (q:Int)∧q < nn s)∨(x.kW=2∧∃ q:Nat,x.kX= (q:Int)∧q < nn s)∨x.kW=3∨(x.kW=4∧0 <=inn s (p:Int)∧x.qX.length=mm s * mm s)∨(x.kW=5∧pl s p=b∧x.qX.length=mm s * mm s∧∃ q:Nat,x.kX= (q:Int)∧q < nn s))
def Zu3 (s:Zc) (x:Zd) (σ:TS):Prop:=x.kW=4 ->σ.st x.kV.toNat=3∧x.kV ∉ σ.kn (inn s x.kV).toNat
section
variable {s:Zc} {σ:TS} {F B a b p q:Nat} {x:Zd} {l:List Int}
theorem Zwb (h:σ.ld p < (σ.sn p).length):fl σ p=hd σ p::(σ.sn p).drop (σ.ld p + 1):=by
 unfold fl hd;rw [List.drop_eq_getElem_cons h,Kt h]
theorem ZAI (hp:p < mm s * mm s) (h:σ.ld p < (σ.sn p).length):Pot s (drop1 p σ) + ew (hd σ p)=Pot s σ:=by
 have e:=ZcW (f:=lw σ) (g:=lw (drop1 p σ)) hp fun j _ hj=>by
  unfold lw fl;show _ + (((σ.sn j).drop (YG σ.ld p _ j)).map ew).sum=_;rw [Xi hj];rfl
 have e1:lw (drop1 p σ) p + ew (hd σ p)=lw σ p:=by
  show(σ.sn p).length + (((σ.sn p).drop (YG σ.ld p _ p)).map ew).sum + _= (σ.sn p).length + ((fl σ p).map ew).sum;rw [Yf,Zwb h,List.map_cons,List.sum_cons];omega
 show σ.ev.length + Q5 (mm s * mm s) (lw (drop1 p σ)) + Q5 (mm s) (fun m=>(σ.be m).length) + Q5 (nn s) (fun q=>2 * (σ.wa q).length) + Q5 (nn s) (fun p=>sw (σ.st p)) + _=_;unfold Pot;omega
theorem ZnH (h:Gd s B σ) (hp:p < mm s * mm s) (hl:σ.ld p < (σ.sn p).length):ew (hd σ p) <=B∧Gd s (B - ew (hd σ p)) (drop1 p σ):=by
 have:=ZAI (s:=s) hp hl;have:=h.wf.pot;refine⟨by omega,⟨by omega,fun i hi=>?_,h.wf.ws⟩,⟨h.kn.srt,h.kn.rng⟩⟩;show YG σ.ld p _ i <=_;by_cases e:i=p
 ·subst e;rw [Yf];exact hl
 ·rw [Xi e];exact h.wf.ld i hi
theorem ZA8 (hS:QN s) (h:Gd s B σ) (hp:p < nn s) (h0:¬ inn s (p:Int) < 0) (h3:σ.st p=3) (hn:(p:Int) ∉ σ.kn (inn s (p:Int)).toNat):Gd s B (Zb4 s p l σ):=by
 obtain⟨eq,hq⟩:=Jl hS hp h0;have k3:=JZ hS h.kn hp h0 h3 hn l;unfold Zb4 KC;by_cases c:(YM s p l σ).st (inn s (p:Int)).toNat=2∧Alo s (YM s p l σ) (inn s (p:Int)).toNat
 ·rw [Yk c];exact ZD3 hS _ _ _ _ hq (ZdL hS hq) ⟨Km h.wf,k3⟩ (by rw [c.1];decide)
 ·rw [Z9 c];exact⟨Km h.wf,k3⟩
theorem ZzD (h:Gd s B σ) (p q:Nat) (n:Int):Gd s (B + 1) (see p q n σ):=by
 refine⟨h.wf.see p q n,?_⟩;unfold see;split <;> exact⟨h.kn.srt,h.kn.rng⟩
theorem ZHS (hS:QN s) (h:Gd s B σ) (hp:p < nn s) (hq:q < nn s):Gd s (B + 2) (JK s p q σ):=by
 have e:=ZoL (s:=s) p q σ;exact⟨h.wf.JK hS hp hq,⟨fun j hj=>by rw [e.2.1];exact h.kn.srt j hj,fun j hj y hy=>by rw [e.2.1] at hy;rw [e.1];exact h.kn.rng j hj y hy⟩⟩
theorem Zvq (hS:QN s) (h:Gd s B σ) (hp:p < nn s) (hq:q < nn s):Gd s (B + 2) (note s p q σ):=by
 refine⟨h.wf.note hS hp hq,?_⟩;unfold note;split
 ·exact(ZHS hS h hp hq).kn
 ·exact⟨h.kn.srt,h.kn.rng⟩
theorem ZFJ (h:Gd s B σ) (ha:a < mm s) (x:Zd):Gd s (B + 1) (wait a x σ):= ⟨h.wf.wait ha x,⟨h.kn.srt,h.kn.rng⟩⟩
theorem ZfE (hp:x.kV= (p:Int)) (hd:Zu3 s x σ) (h4:x.kW=4):σ.st p=3∧(p:Int) ∉ σ.kn (inn s (p:Int)).toNat:=by
 have:=hd h4;rw [hp,Int.toNat_natCast] at this;exact this
theorem ZBb (hS:QN s) (h:Gd s B σ) (hb:b < mm s) (hx:Zyw s b x) (hd:Zu3 s x σ):Gd s (B + ew x) (Zl7 s b x σ):=by
 obtain⟨p,hp,hpn,c⟩:=hx;unfold Zl7;rw [hp,Int.toNat_natCast];rcases c with⟨k,q,hq,hqn⟩ | ⟨k,q,hq,hqn⟩ | k | ⟨k,h0,hl⟩ | ⟨k,e,hl,q,hq,hqn⟩
 ·rw [if_pos k,hq,Int.toNat_natCast];exact(ZzD h q p x.n).up (by unfold ew;rw [if_pos k];omega)
 ·rw [if_neg (by omega),if_pos k,hq,Int.toNat_natCast];exact(Zvq hS h hpn hqn).up (by unfold ew;rw [if_neg (by omega),if_pos k];omega)
 ·rw [if_neg (by omega),if_neg (by omega),if_pos k];split
  ·exact(Zik hS _ _ _ _ hpn (KL.all hS.inn) h (by assumption)).up (by omega)
  ·exact h.up (by omega)
 ·rw [if_neg (by omega),if_neg (by omega),if_neg (by omega),if_pos k];have:=ZfE hp hd k;exact(ZA8 hS h hpn (by omega) this.1 this.2).up (by omega)
 ·rw [if_neg (by omega),if_neg (by omega),if_neg (by omega),if_neg (by omega)];exact(ZFJ h hb x).up (by unfold ew;rw [if_neg (by omega),if_neg (by omega),if_pos k];omega)
theorem ZBc (hS:QN s) (h:Gd s B σ) (ha:a < mm s) (hb:b < mm s) (hl:σ.ld (li s a b) < (σ.sn (li s a b)).length) (hx:Zyw s b (hd σ (li s a b))) (hd:Zu3 s (hd σ (li s a b)) σ):Gd s B (ZfF s a b σ):=by
 obtain⟨h1,h2⟩:=ZnH h (KN ha hb) hl;exact(ZBb hS h2 hb hx hd).up (by omega)
theorem ZmG {xs ys:List Zd} (h:xs.length + ys.length <=1000000):app 56 xs ys=some (xs ++ ys):=ZuH h (by decide)
theorem Zey (h:Gd s B σ) (hB:B <=700000) (hp:p < mm s * mm s) (hl:σ.ld p < (σ.sn p).length):
 Zz (Zz (tab (mm s * mm s) (Ju σ)) (p:Int) ⟨(Ju σ p).Zu,(fl σ p).drop 1⟩) (p:Int) ⟨Ye ((Ju σ p).Zu + 1),(fl σ p).drop 1⟩=tab (mm s * mm s) (Ju (drop1 p σ)):=by
 have hs:= (h.wf.few (by omega)).sn p hp;rw [XE,XE,Zxt];refine WQ fun j hj=>?_
 by_cases e:j=p
 ·subst e;rw [Yf];show _= (⟨((YG σ.ld j _ j:Nat):Int),(σ.sn j).drop (YG σ.ld j _ j)⟩:Zg);rw [Yf,show(Ju σ j).Zu= (σ.ld j:Int) from rfl,Qg (by omega)];unfold fl;rw [List.drop_drop]
 ·rw [Xi e];show _= (⟨((YG σ.ld p _ j:Nat):Int),(σ.sn j).drop (YG σ.ld p _ j)⟩:Zg);rw [Xi e];rfl
theorem ZzU (hl:σ.ld p < (σ.sn p).length):ZW (Ju σ p).kG 0=some (hd σ p):=by
 show ZW (fl σ p) 0=_;rw [Zwb hl];rfl
theorem ZzT (h:Gd s B σ) (hB:B <=700000) (hp:p < mm s * mm s) (hl:σ.ld p < (σ.sn p).length):slL (Ju σ p).kG 1 (((Ju σ p).kG.length:Nat):Int)=some ((fl σ p).drop 1)∧((fl σ p).drop 1).length <=800000:=by
 have hs:= (h.wf.few (by omega)).sn p hp;refine⟨?_,by unfold fl;rw [List.length_drop,List.length_drop];omega⟩;show slL (fl σ p) ((1:Nat):Int) (((fl σ p).length:Nat):Int)=_;exact Zh8 (by unfold fl;rw [List.length_drop];omega)
theorem Zq9 (hF:1000000 <=F) (hS:QN s) (h:Gd s B σ) (hB:B <=700000) (hp:p < nn s) (h0:¬ inn s (p:Int) < 0) (h3:σ.st p=3) (hn:(p:Int) ∉ σ.kn (inn s (p:Int)).toNat) (hx:x.kV= (p:Int)) (hm:x.qX.length=mm s * mm s):
 Zrj F (hal s σ) x=some (hal s (Zb4 s p x.qX σ)):=by
 obtain⟨eq,hq⟩:=Jl hS hp h0;have k3:=JZ hS h.kn hp h0 h3 hn x.qX;have w3:Wf s B (YM s p x.qX σ):=Km h.wf;have h16:=Zek hS;unfold Zrj;rw [hx];show(ZW s.Zi (p:Int)).bind _=_;rw [X7 hp];simp only [Bq0];obtain⟨q,hqe⟩:∃ q,q= (inn s (p:Int)).toNat:= ⟨_,rfl⟩
 rw [← hqe] at eq hq hn;rw [QH,eq];have hl:=h.kn.len hS hq;rw [show(hal s σ).Za.qZ=tab (nn s) σ.kn from rfl,Z5 hq];simp only [Bq0];rw [ZlP (by omega) (by omega) (h.kn.srt q hq) hn];simp only [Bq0,Bool.not_false,Cq1];rw [insert_eq (by omega)];simp only [Bq0];rw [XE];unfold ZfT;rw [QH,eq,show(hal s σ).Za.qX=Um s σ.ma from rfl,Zbp hq];simp only [Bq0];rw [ZfK (by omega) (by omega) hm];simp only [Bq0]
 have e4:tab (nn s) (YG σ.kn q (ins (p:Int) (σ.kn q)))=tab (nn s) (YM s p x.qX σ).kn:=by
  show _=tab (nn s) (YG σ.kn (inn s (p:Int)).toNat _);rw [← hqe]
 have e3:Um s (YG σ.ma q (mx (σ.ma q) x.qX))=tab (nn s) fun j=>tab (mm s * mm s) ((YM s p x.qX σ).ma j):=by
  show _=tab (nn s) fun j=>tab (mm s * mm s) (YG σ.ma (inn s (p:Int)).toNat _ j)
  rw [← hqe];rfl
 rw [K8,e3,e4,show(hal s σ).Za.qV=tab (nn s) σ.st from rfl,Z5 hq];simp only [Bq0];have e5:Z7.mk (Zf.mk (tab (nn s) σ.st) (tab (nn s) fun j=>tab (mm s * mm s) ((YM s p x.qX σ).ma j)) (tab (nn s) (YM s p x.qX σ).kn) (hal s σ).Za.Zh (hal s σ).Za.Zt (hal s σ).Za.kQ (hal s σ).Za.kK) (hal s σ).qK (hal s σ).kU=hal s (YM s p x.qX σ):=rfl;rw [e5,Xo];unfold Zb4 KC;rw [← hqe];have e6:(YM s p x.qX σ).st q=σ.st q:=rfl;have h8:nn s <=8:=hS.p2;by_cases h2:σ.st q=2
 ·rw [decide_eq_true h2,Qp,ZeO (by omega) hS hq (by have:=k3.len hS hq;omega)];by_cases hA:Alo s (YM s p x.qX σ) q
  ·rw [Yk hA];simp only [Bq0,Bool.and_self,Cq1];unfold ZDt;rw [Zrz hF hS _ _ _ F (by omega) hq (ZdL hS hq) w3 hB k3 (by rw [e6,h2];decide),Yk ⟨by rw [e6];exact h2,hA⟩];rfl
  ·rw [Z9 hA];simp only [Bq0,Bool.and_false,Cq0];rw [Z9 fun z=>hA z.2];rfl
 ·rw [decide_eq_false h2,Jo];simp only [Bq0,Bool.false_and,Cq0];rw [Z9 fun z=>h2 (by rw [← e6];exact z.1)];rfl
theorem Zxg (hF:1000000 <=F) (hS:QN s) (h:Gd s B σ) (hB:B <=600000) (ha:a < mm s) (hb:b < mm s) (hl:σ.ld (li s a b) < (σ.sn (li s a b)).length) (hx:Zyw s b (hd σ (li s a b))) (hd:Zu3 s (hd σ (li s a b)) σ):ZDB F (hal s σ) (a:Int) (b:Int)=some (hal s (ZfF s a b σ)):=by
 have hi:=KN ha hb;obtain⟨_,g'⟩:=ZnH h hi hl;have fw:=g'.wf.few (by omega);obtain⟨t1,t2⟩:=ZzT h (by omega) hi hl;unfold ZDB;show(ZW (tab (mm s * mm s) (Ju σ)) (Ye (Ye ((a:Int) * s.qG) + (b:Int)))).bind _=_;rw [Uw hS ha hb,Z5 hi];simp only [Bq0];rw [ZzU hl];simp only [Bq0];rw [t1];simp only [Bq0];unfold Zwl;rw [ZmG (by rw [List.length_nil];omega)];simp only [Bq0,List.nil_append]
 have el:∀ (β:Type) (f:List Zg ->β),f (Zz (Zz (hal s σ).Za.kQ (Ye ((Ye ((a:Int) * (hal s σ).qK.qG)) + (b:Int))) (Zg.mk (Ju σ (li s a b)).Zu ((fl σ (li s a b)).drop 1))) (Ye ((Ye ((a:Int) * (hal s σ).qK.qG)) + (b:Int))) (Zg.mk (Ye ((Ju σ (li s a b)).Zu + 1)) ((fl σ (li s a b)).drop 1)))=f (tab (mm s * mm s) (Ju (drop1 (li s a b) σ))):=fun β f=>by
  rw [show(hal s σ).qK.qG=s.qG from rfl,Uw hS ha hb,show(hal s σ).Za.kQ=tab (mm s * mm s) (Ju σ) from rfl,Zey h (by omega) hi hl]
 have el:=el _ id;simp only [id] at el;rw [el];have e5:Z7.mk (Zf.mk (hal s σ).Za.qV (hal s σ).Za.qX (hal s σ).Za.qZ (hal s σ).Za.Zh (hal s σ).Za.Zt (tab (mm s * mm s) (Ju (drop1 (li s a b) σ))) (hal s σ).Za.kK) (hal s σ).qK (hal s σ).kU=hal s (drop1 (li s a b) σ):=rfl;rw [e5];unfold ZfF Zl7;obtain⟨y,hy⟩:∃ y,y=Proofs.YtcnahmgekicbdaaGreat.hd σ (li s a b):= ⟨_,rfl⟩
 rw [← hy] at hx hd ⊢;obtain⟨p,hp,hpn,c⟩:=hx;simp only [Xo];rcases c with⟨k,q,hq,hqn⟩ | ⟨k,q,hq,hqn⟩ | k | ⟨k,h0,hm⟩ | ⟨k,e,hm,q,hq,hqn⟩
 ·rw [decide_eq_true k,Cq1,if_pos k,ZpE fw hq hqn,hp,hq,Int.toNat_natCast,Int.toNat_natCast]
  rfl
 ·rw [decide_eq_false (by omega),Cq0,decide_eq_true k,Cq1,if_neg (by omega),if_pos k,Zl4 hS fw hp hq hpn hqn,hp,hq,Int.toNat_natCast,Int.toNat_natCast]
  rfl
 ·rw [decide_eq_false (by omega),Cq0,decide_eq_false (by omega),Cq0,decide_eq_true k,Cq1,if_neg (by omega),if_neg (by omega),if_pos k,hp,Int.toNat_natCast];show(ZW (tab (nn s) σ.st) (p:Int)).bind _=_;rw [Z5 hpn];simp only [Bq0];by_cases e:σ.st p=1
  ·rw [decide_eq_true e,Cq1,if_pos (show(drop1 (li s a b) σ).st p=1 from e)];unfold ZDD;have h8:nn s <=8:=hS.p2;rw [Zmn hF hS (nn s) _ _ F _ (by omega) hpn (KL.all hS.inn) g' (by omega) e];rfl
  ·rw [decide_eq_false e,Cq0,if_neg (show ¬ (drop1 (li s a b) σ).st p=1 from e)];rfl
 ·have hD:=ZfE hp hd k;rw [decide_eq_false (by omega),Cq0,decide_eq_false (by omega),Cq0,decide_eq_false (by omega),Cq0,decide_eq_true k,Cq1,if_neg (by omega),if_neg (by omega),if_neg (by omega),if_pos k,Zq9 hF hS g' (by omega) hpn (by omega) hD.1 hD.2 hp hm,hp,Int.toNat_natCast];rfl
 ·rw [decide_eq_false (by omega),Cq0,decide_eq_false (by omega),Cq0,decide_eq_false (by omega),Cq0,decide_eq_false (by omega),Cq0,decide_eq_true k,Cq1,if_neg (by omega),if_neg (by omega),if_neg (by omega),if_neg (by omega)];unfold Zwk;rw [hp,Wz hS hpn,e];simp only [Bq0];rw [ZlL fw hb];rfl
end
end
section
section
variable {s:Zc} {σ:TS} {F B a b p q:Nat} {x:Zd} {l:List Int}
theorem Zt5 (hF:1000000 <=F) (hS:QN s) (h:Gd s B σ) (hi:li s a b < mm s * mm s) (ha:a < mm s) (hb:b < mm s) (hlt:σ.ld (li s a b) < (σ.sn (li s a b)).length) (hB:B <=600000) (hp:p < nn s) (h0:¬ inn s (p:Int) < 0) (h3:σ.st p=3) (hn:(p:Int) ∉ σ.kn (inn s (p:Int)).toNat) (hx:x.kV= (p:Int)) (hm:x.qX.length=mm s * mm s)
 (gd':Gd s B (drop1 (li s a b) σ)):
 loop F (Zj9 F (XZ s σ) (a:Int) (b:Int) (Ju σ (li s a b)) x ((fl σ (li s a b)).drop 1) (spt s p)) 0=some (XZ s (Zb4 s p x.qX (drop1 (li s a b) σ))):=by
 have h16:=Zek hS;obtain⟨eq,hq⟩:=Jl hS hp h0;obtain⟨τ,hτ⟩:∃ τ,τ=drop1 (li s a b) σ:= ⟨_,rfl⟩
 have k3:Kn s (YM s p x.qX τ):=by rw [hτ];exact JZ hS gd'.kn hp h0 h3 hn x.qX
 have w3:Wf s B (YM s p x.qX τ):=by rw [hτ];exact Km gd'.wf
 obtain⟨q,hqe⟩:∃ q,q= (inn s (p:Int)).toNat:= ⟨_,rfl⟩
 rw [← hqe] at eq hq hn;have hl:=h.kn.len hS hq;obtain⟨c,hc⟩:∃ c,c= ((σ.kn q).takeWhile fun x=>decide (x < (p:Int))).length:= ⟨_,rfl⟩
 have hcl:c <= (σ.kn q).length:=by rw [hc];exact Zbh
 have eL:Zz (Zz (XZ s σ).w.kQ (Ye ((Ye ((a:Int) * (XZ s σ).s.qG)) + (b:Int))) (Zg.mk (Ju σ (li s a b)).Zu ((fl σ (li s a b)).drop 1))) (Ye ((Ye ((a:Int) * (XZ s σ).s.qG)) + (b:Int))) (Zg.mk (Ye ((Ju σ (li s a b)).Zu + 1)) ((fl σ (li s a b)).drop 1))=tab (mm s * mm s) (Ju τ):=by
  rw [show(XZ s σ).s.qG=s.qG from rfl,Uw hS ha hb,show(XZ s σ).w.kQ=tab (mm s * mm s) (Ju σ) from rfl,Zey h (by omega) hi hlt,hτ]
 have e4:tab (nn s) (YG σ.kn q (ins (p:Int) (σ.kn q)))=tab (nn s) (YM s p x.qX τ).kn:=by
  show _=tab (nn s) (YG τ.kn (inn s (p:Int)).toNat _);rw [← hqe,hτ];rfl
 have e3:Um s (YG σ.ma q (mx (σ.ma q) x.qX))=tab (nn s) fun j=>tab (mm s * mm s) ((YM s p x.qX τ).ma j):=by
  show _=tab (nn s) fun j=>tab (mm s * mm s) (YG τ.ma (inn s (p:Int)).toNat _ j)
  rw [← hqe,hτ];rfl
 have e5:Z6.mk (XZ s σ).s (Zf.mk (tab (nn s) σ.st) (tab (nn s) fun j=>tab (mm s * mm s) ((YM s p x.qX τ).ma j)) (tab (nn s) (YM s p x.qX τ).kn) (XZ s σ).w.Zh (XZ s σ).w.Zt (tab (mm s * mm s) (Ju τ)) (XZ s σ).w.kK) (XZ s σ).kU=XZ s (YM s p x.qX τ):=by rw [hτ];rfl
 have e6:(YM s p x.qX τ).st q=σ.st q:=by rw [hτ];rfl
 have h8:nn s <=8:=hS.p2;have self:Zz (tab (nn s) σ.kn) (q:Int) (σ.kn q)=tab (nn s) σ.kn:=by rw [XE,ZgK]
 have eK:(XZ s σ).w.qZ=tab (nn s) σ.kn:=rfl;have eS:(XZ s σ).w.qV=tab (nn s) σ.st:=rfl;have eM:(XZ s σ).w.qX=Um s σ.ma:=rfl
 have done:∀ (K:List Int ->Option Z6),K= (fun z222=>(ZW (Um s σ.ma) (q:Int)).bind fun ZFE=>(ZeJ F ZFE x.qX).bind fun ZiE=>(gd (σ.st q==2) (ZgP F (Z6.mk (XZ s σ).s (Zf.mk (tab (nn s) σ.st) (Zz (Um s σ.ma) (q:Int) ZiE) (Zz (tab (nn s) σ.kn) (q:Int) z222) (XZ s σ).w.Zh (XZ s σ).w.Zt (tab (mm s * mm s) (Ju τ)) (XZ s σ).w.kK) (XZ s σ).kU) (q:Int)) default).bind fun ZFD=>(bif((σ.st q==2) && ZFD) then(Zrc F (Z6.mk (XZ s σ).s (Zf.mk (tab (nn s) σ.st) (Zz (Um s σ.ma) (q:Int) ZiE) (Zz (tab (nn s) σ.kn) (q:Int) z222) (XZ s σ).w.Zh (XZ s σ).w.Zt (tab (mm s * mm s) (Ju τ)) (XZ s σ).w.kK) (XZ s σ).kU) (q:Int)).bind fun UD=>(Zdw) (UD.s.qG,UD.s.Zi,UD.w.qV,UD.w.qX,UD.w.qZ,UD.w.Zh,UD.w.Zt,UD.w.kQ,UD.w.kK,UD.kU) else(Zdw) ((XZ s σ).s.qG,(XZ s σ).s.Zi,tab (nn s) σ.st,Zz (Um s σ.ma) (q:Int) ZiE,Zz (tab (nn s) σ.kn) (q:Int) z222,(XZ s σ).w.Zh,(XZ s σ).w.Zt,tab (mm s * mm s) (Ju τ),(XZ s σ).w.kK,(XZ s σ).kU))) ->K (ins (p:Int) (σ.kn q))=some (XZ s (Zb4 s p x.qX τ)):=by
  intro K hK;subst hK;dsimp only;rw [Zbp hq];simp only [Bq0];rw [Ztp (by omega) (by omega) hm];simp only [Bq0];rw [K8,e3,XE,e4,e5,Xo];unfold Zb4 KC;rw [← hqe];by_cases h2:σ.st q=2
  ·rw [decide_eq_true h2,Qp,Zho (by omega) hS hq (by have:=k3.len hS hq;omega)];by_cases hA:Alo s (YM s p x.qX τ) q
   ·rw [Yk hA];simp only [Bq0,Bool.and_self,Cq1];unfold Zrc;rw [Zwt hF hS _ _ _ F (by omega) hq (ZdL hS hq) w3 (by omega) k3 (by rw [e6,h2];decide),Yk ⟨by rw [e6];exact h2,hA⟩];rfl
   ·rw [Z9 hA];simp only [Bq0,Bool.and_false,Cq0];rw [Z9 fun z=>hA z.2,← e5];rfl
  ·rw [decide_eq_false h2,Jo];simp only [Bq0,Bool.false_and,Cq0];rw [Z9 fun z=>h2 (by rw [← e6];exact z.1),← e5];rfl
 rw [← hτ];refine XB (fun k=>(k:Int)) rfl (n:=c) (by omega) (fun k hk' next=>?_) (fun next=>?_)
 ·unfold Zj9;rw [QH,eq,hx,eK,Z5 hq];simp only [Bq0];have:=Zzr (l:=σ.kn q) (k:= (p:Int)) k (by omega);rw [YH (show k < (σ.kn q).length by omega),Cq1,Ql 0 (by omega)];simp only [Bq0];rw [decide_eq_true this,Cq1,Qg (by omega)]
 ·unfold Zj9;rw [QH,eq,hx,eK,Z5 hq];simp only [Bq0];by_cases hlt':c < (σ.kn q).length
  ·have:=Zzs (h.kn.srt q hq) (k:= (p:Int)) c (by omega) hlt';rw [YH hlt',Cq1,Ql 0 hlt'];simp only [Bq0];rw [decide_eq_false (by omega),Cq0];simp only [Z5 hq,Bq0,self,eL,eS,eM];exact(ZFT (by omega) hc _).trans (done _ rfl)
  ·have:c= (σ.kn q).length:=by omega
   rw [decide_eq_false (show ¬ ((c:Int) < ((σ.kn q).length:Int)) by omega),Cq0];simp only [Z5 hq,Bq0,self,eL,eS,eM];exact(ZFT (by omega) hc _).trans (done _ rfl)
theorem ZBa (hF:1000000 <=F) (hS:QN s) (h:Gd s B σ) (hB:B <=600000) (ha:a < mm s) (hb:b < mm s) (hl:σ.ld (li s a b) < (σ.sn (li s a b)).length) (hx:Zyw s b (hd σ (li s a b))) (hd:Zu3 s (hd σ (li s a b)) σ):ZDM F (XZ s σ) (a:Int) (b:Int)=some (XZ s (ZfF s a b σ)):=by
 have hi:=KN ha hb;obtain⟨_,g'⟩:=ZnH h hi hl;have fw:=g'.wf.few (by omega);obtain⟨t1,t2⟩:=ZzT h (by omega) hi hl;unfold ZDM
 have e0:ZW (XZ s σ).w.kQ (Ye ((Ye ((a:Int) * (XZ s σ).s.qG)) + (b:Int)))=some (Ju σ (li s a b)):=by
  rw [show(XZ s σ).s.qG=s.qG from rfl,Uw hS ha hb,show(XZ s σ).w.kQ=tab (mm s * mm s) (Ju σ) from rfl,Z5 hi]
 rw [e0];simp only [Bq0];rw [ZzU hl];simp only [Bq0];rw [t1];simp only [Bq0];rw [ZmG (by rw [List.length_nil];omega)];simp only [Bq0,List.nil_append]
 have el:Zz (Zz (XZ s σ).w.kQ (Ye ((Ye ((a:Int) * (XZ s σ).s.qG)) + (b:Int))) (Zg.mk (Ju σ (li s a b)).Zu ((fl σ (li s a b)).drop 1))) (Ye ((Ye ((a:Int) * (XZ s σ).s.qG)) + (b:Int))) (Zg.mk (Ye ((Ju σ (li s a b)).Zu + 1)) ((fl σ (li s a b)).drop 1))=tab (mm s * mm s) (Ju (drop1 (li s a b) σ)):=by
  rw [show(XZ s σ).s.qG=s.qG from rfl,Uw hS ha hb,show(XZ s σ).w.kQ=tab (mm s * mm s) (Ju σ) from rfl,Zey h (by omega) hi hl]
 rw [el];have e5:Z6.mk (XZ s σ).s (Zf.mk (XZ s σ).w.qV (XZ s σ).w.qX (XZ s σ).w.qZ (XZ s σ).w.Zh (XZ s σ).w.Zt (tab (mm s * mm s) (Ju (drop1 (li s a b) σ))) (XZ s σ).w.kK) (XZ s σ).kU=XZ s (drop1 (li s a b) σ):=rfl;rw [e5];unfold ZfF Zl7;obtain⟨y,hy⟩:∃ y,y=Proofs.YtcnahmgekicbdaaGreat.hd σ (li s a b):= ⟨_,rfl⟩
 rw [← hy] at hx hd ⊢;obtain⟨p,hp,hpn,c⟩:=hx;simp only [Xo];rcases c with⟨k,q,hq,hqn⟩ | ⟨k,q,hq,hqn⟩ | k | ⟨k,h0,hm⟩ | ⟨k,e,hm,q,hq,hqn⟩
 ·rw [decide_eq_true k,Cq1,if_pos k,hp,hq,Zva fw hqn hpn,Int.toNat_natCast,Int.toNat_natCast]
  rfl
 ·rw [decide_eq_false (by omega),Cq0,decide_eq_true k,Cq1,if_neg (by omega),if_pos k,hp,hq,Zqb hS fw hpn hqn,Int.toNat_natCast,Int.toNat_natCast]
  rfl
 ·rw [decide_eq_false (by omega),Cq0,decide_eq_false (by omega),Cq0,decide_eq_true k,Cq1,if_neg (by omega),if_neg (by omega),if_pos k,hp,Int.toNat_natCast];unfold ZDH;have h8:nn s <=8:=hS.p2;rw [Zra hF hS (nn s) _ _ F _ (by omega) hpn (KL.all hS.inn) g' (by omega)];rfl
 ·have hD:=ZfE hp hd k;rw [decide_eq_false (by omega),Cq0,decide_eq_false (by omega),Cq0,decide_eq_false (by omega),Cq0,decide_eq_true k,Cq1,if_neg (by omega),if_neg (by omega),if_neg (by omega),if_pos k,hp,Int.toNat_natCast];rw [show ZW (XZ s σ).s.Zi (p:Int)=some (spt s p) from X7 hpn];simp only [Bq0];exact Zt5 hF hS h hi ha hb hl hB hpn (by omega) hD.1 hD.2 hp hm (g'.up (by omega))
 ·rw [decide_eq_false (by omega),Cq0,decide_eq_false (by omega),Cq0,decide_eq_false (by omega),Cq0,decide_eq_false (by omega),Cq0,decide_eq_true k,Cq1,if_neg (by omega),if_neg (by omega),if_neg (by omega),if_neg (by omega)];rw [show ZW (XZ s σ).w.Zt (b:Int)=some (σ.be b) from Z5 hb];simp only [Bq0];have hbe:=fw.be b hb;rw [ZmG (by show(σ.be b).length + _ <=_;rw [List.length_singleton];have:((drop1 (li s a b) σ).be b)=σ.be b:=rfl;rw [this] at hbe;omega)];simp only [Bq0];rw [show Zz (XZ s σ).w.Zt (b:Int) (σ.be b ++ [y])=tab (mm s) (YG σ.be b (σ.be b ++ [y])) from XE]
  rfl
end
end
section
noncomputable section
def dep (s:Zc) (q:Nat):Nat:=@dite _ (∃ m,m <=nn s∧up s (m + 1) (q:Int) < 0∧∀ k,k < m ->¬ up s (k + 1) (q:Int) < 0) (Classical.propDecidable _) (fun h=>Classical.choose h) (fun _=>0)
def rdy (s:Zc) (ld:Nat ->Nat) (w:Nat) (x:Zd):Prop:=∀ b:Nat,b < mm s ->b ≠ w ->x.qX.getD (li s b w) 0 <= (ld (li s b w):Int)
def ZbY (s:Zc) (x:Zd):Nat:=dep s x.kX.toNat
def Ut (s:Zc) (ld:Nat ->Nat) (w:Nat) (l:List Zd):Nat ->Option Nat
 | 0=>none
 | k + 1=>ifc (rdy s ld w (l.getD k default)∧∀ j,Ut s ld w l k=some j ->ZbY s (l.getD j default) < ZbY s (l.getD k default)) (some k) (Ut s ld w l k)
def ZcL {α:Type} (l:List α) (i:Nat):List α:=l.take i ++ l.drop (i + 1)
def rung (s:Zc) (w i:Nat) (σ:TS):TS:=
 if σ.st ((σ.be w).getD i default).kV.toNat=1 then tell 4 ((σ.be w).getD i default).kV ((σ.be w).getD i default).kX 0 {σ with be:=YG σ.be w (ZcL (σ.be w) i)} else{σ with be:=YG σ.be w (ZcL (σ.be w) i)}
def ZcZ (s:Zc) (w:Nat):Nat ->TS ->TS
 | 0,σ=>σ
 | n + 1,σ=>match Ut s σ.ld w (σ.be w) (σ.be w).length with
   | none=>σ
   | some i=>ZcZ s w n (rung s w i σ)
end
def BeS (s:Zc) (x:Zd):Prop:= (∃ p:Nat,x.kV= (p:Int)∧p < nn s)∧(∃ q:Nat,x.kX= (q:Int)∧q < nn s)∧x.qX.length=mm s * mm s
section
variable {s:Zc} {σ:TS} {F B a b p q w:Nat} {x:Zd} {l:List Zd}
theorem ZrB (hS:QN s) (hq:q < nn s):dep s q <=nn s∧up s (dep s q + 1) (q:Int) < 0∧∀ k,k < dep s q ->¬ up s (k + 1) (q:Int) < 0:=by
 have h:∃ m,m <=nn s∧up s (m + 1) (q:Int) < 0∧∀ k,k < m ->¬ up s (k + 1) (q:Int) < 0:=
  Zds (c:=fun k=>up s (k + 1) (q:Int) < 0) (n:=nn s) (Wj (hS.inn.acy q hq) (by unfold nn;omega))
 unfold dep;rw [dif_pos h];exact Classical.choose_spec h
theorem Zkm {β:Type} (hF:1000 <=F) (hS:QN s) (hq:q < nn s) {r:Int ->Option β} {body:Int×Int ->(Int×Int ->Option β) ->Option β}
 (hb:∀ v n next,body (v,n) next=bif decide (v >=0) then(ZW s.Zi v).bind fun x=>next (x.Xu,Ye (n + 1)) else r n):loop F body (inn s (q:Int),0)=r (dep s q:Int):=by
 obtain⟨h1,h2,h3⟩:=ZrB hS hq;have h8:nn s <=8:=hS.p2;refine XB (fun k=>(up s (k + 1) (q:Int),(k:Int))) (by show(up s (0 + 1) (q:Int),((0:Nat):Int))=_;rw [up1];rfl) (n:=dep s q) (by omega) (fun k hk next=>?_) (fun next=>?_)
 ·have h:=h3 k hk;obtain⟨j,e,hj⟩:=ZbW (hS.inn.up (q:= (q:Int)) ⟨by omega,by unfold nn at hq;omega⟩ (k + 1)) h;rw [hb,Wi s (k + 1),if_neg h,e,Zd0,Cq1,X7 hj];simp only [Bq0];rw [QH,Qg (by omega)]
 ·rw [hb,decide_eq_false (by omega),Cq0]
theorem Zwu (hF:1000 <=F) (hS:QN s) (hq:q < nn s):∃ L,ZxN F s (q:Int)=some L∧L.length=dep s q:=by
 obtain⟨h1,h2,h3⟩:=ZrB hS hq;have h8:nn s <=8:=hS.p2;refine⟨arK s q (dep s q),?_,Zwz _ _ _⟩;unfold ZxN;rw [X7 hq];simp only [Bq0];rw [QH];refine XB (fun k=>(arK s q k,up s (k + 1) (q:Int))) (by show(arK s q 0,up s (0 + 1) (q:Int))=_;rw [up1];rfl) (n:=dep s q) (by omega) (fun k hk next=>?_) (fun next=>?_)
 ·have h:=h3 k hk;obtain⟨j,e,hj⟩:=ZbW (hS.inn.up (q:= (q:Int)) ⟨by omega,by unfold nn at hq;omega⟩ (k + 1)) h;unfold Zoh;dsimp only;rw [Wi s (k + 1),if_neg h,ZEw,e,Zd0,Cq1,ZoY (by rw [Zwz,List.length_singleton];omega),X7 hj];simp only [Bq0];rw [QH]
 ·unfold Zoh;dsimp only;rw [decide_eq_false (by omega),Cq0]
theorem ZsK (hF:1000 <=F) (hS:QN s) (hw:w < mm s) (hx:x.qX.length=mm s * mm s):Zri F (hal s σ) (w:Int) x=ifc (rdy s σ.ld w x) (some true) (some false):=by
 have h4:=hS.mm.2.2;unfold Zri
 exact KU (body:=ZfS (hal s σ) (w:Int) x) (r1:=some false) (r2:=some true) (s0:= (0:Int)) (fun k=>(k:Int)) rfl (fun k:Nat=>k ≠ w ->x.qX.getD (li s k w) 0 <= (σ.ld (li s k w):Int)) (n:=mm s) (F:=F) (by omega) (fun k hk next=>by
  unfold ZfS;rw [show(hal s σ).qK.qG=s.qG from rfl,Zbq hS hk,Cq1];by_cases e:k=w
  ·subst e;rw [show(((k:Int)) != ((k:Int)))=false by simp,Cq0,Yk (fun z=>absurd rfl z),Qg (by omega)]
  ·have e1:(((k:Int)) != ((w:Int)))=true:=by rw [KZ];exact decide_eq_true (by omega)
   have hi:=KN hk hw;rw [e1,Cq1,Uw hS hk hw,show(hal s σ).Za.kQ=tab (mm s * mm s) (Ju σ) from rfl,Z5 hi];simp only [Bq0];rw [Ql 0 (by rw [hx];exact hi)];simp only [Bq0];rw [show(Ju σ (li s k w)).Zu= (σ.ld (li s k w):Int) from rfl];by_cases c:x.qX.getD (li s k w) 0 <= (σ.ld (li s k w):Int)
   ·rw [decide_eq_false (by omega),Cq0,Yk (fun _=>c),Qg (by omega)]
   ·rw [decide_eq_true (by omega),Cq1,Z9 (fun z=>c (z e))]) (fun next=>by
  unfold ZfS;rw [show(hal s σ).qK.qG=s.qG from rfl,ZfB hS,Cq0])
theorem Zw0 (hF:1000 <=F) (hS:QN s) (hw:w < mm s) (hx:x.qX.length=mm s * mm s):ZDA F (XZ s σ) x (w:Int)=ifc (rdy s σ.ld w x) (some true) (some false):=by
 have h4:=hS.mm.2.2;unfold ZDA
 exact KU (body:=Zj4 (XZ s σ) x (w:Int)) (r1:=some false) (r2:=some true) (s0:= (0:Int)) (fun k=>(k:Int)) rfl (fun k:Nat=>k ≠ w ->x.qX.getD (li s k w) 0 <= (σ.ld (li s k w):Int)) (n:=mm s) (F:=F) (by omega) (fun k hk next=>by
  unfold Zj4;rw [show(XZ s σ).s.qG=s.qG from rfl,Zbq hS hk,Cq1];by_cases e:k=w
  ·subst e;rw [show(((k:Int)) != ((k:Int)))=false by simp,Jo];simp only [Bq0];rw [Jo];simp only [Bq0,Bool.false_and,Cq0];rw [Yk (fun z=>absurd rfl z),Qg (by omega)]
  ·have e1:(((k:Int)) != ((w:Int)))=true:=by rw [KZ];exact decide_eq_true (by omega)
   have hi:=KN hk hw;rw [e1,Qp,Uw hS hk hw,show(XZ s σ).w.kQ=tab (mm s * mm s) (Ju σ) from rfl,Z5 hi];simp only [Bq0];rw [Qp,Ql 0 (by rw [hx];exact hi)];simp only [Bq0,Bool.true_and];rw [show(Ju σ (li s k w)).Zu= (σ.ld (li s k w):Int) from rfl];by_cases c:x.qX.getD (li s k w) 0 <= (σ.ld (li s k w):Int)
   ·rw [decide_eq_false (by omega),Cq0,Yk (fun _=>c),Qg (by omega)]
   ·rw [decide_eq_true (by omega),Cq1,Z9 (fun z=>c (z e))]) (fun next=>by
  unfold Zj4;rw [show(XZ s σ).s.qG=s.qG from rfl,ZfB hS,Cq0])
theorem Zib {ld:Nat ->Nat}:∀ k j,Ut s ld w l k=some j ->j < k:=by
 intro k
 induction k with
 | zero=>intro j h;cases h
 | succ k ih=>
   intro j h;rw [Ut] at h;by_cases c:rdy s ld w (l.getD k default)∧∀ j,Ut s ld w l k=some j ->ZbY s (l.getD j default) < ZbY s (l.getD k default)
   ·rw [Yk c] at h;cases h;omega
   ·rw [Z9 c] at h;have:=ih j h;omega
def pI (o:Option Nat):Int:=match o with | none=>-1 | some j=>(j:Int)
noncomputable def pD (s:Zc) (l:List Zd) (o:Option Nat):Int:=match o with | none=>0 | some j=>(ZbY s (l.getD j default):Int)
theorem Zl2 (hF:1000000 <=F) (hS:QN s) (hw:w < mm s) (hl:l.length <=700000) (hx:∀ x ∈ l,BeS s x):
 Zj5 F (w:Int) (tab (nn s) σ.st) (tab (nn s) fun p=>tab (mm s * mm s) (σ.ma p)) (tab (nn s) σ.kn) (tab (nn s) σ.wa) (tab (mm s) σ.be) (tab (mm s * mm s) (Ju σ)) σ.sd s.qG s.Zi σ.ev l=some (pI (Ut s σ.ld w l l.length)):=by
 unfold Zj5;refine XB (fun k=>(pI (Ut s σ.ld w l k),pD s l (Ut s σ.ld w l k),(k:Int))) rfl (n:=l.length) (by omega) (fun k hk next=>?_) (fun next=>?_)
 ·unfold Zn2;dsimp only;rw [YH hk,Cq1,Ql default hk];simp only [Bq0];obtain⟨x,ex⟩:∃ x,x=l.getD k default:= ⟨_,rfl⟩
  obtain⟨_,⟨q,hq,hqn⟩,hm⟩:=hx _ (QU (d:=default) hk);rw [← ex] at hq hm ⊢;rw [ZqR,ZsK (by omega) hS hw hm,hq];have ed:ZbY s x=dep s q:=by unfold ZbY;rw [hq,Int.toNat_natCast]
  rw [Ut,← ex];have j0:∀ (a b:Int),Zdu (k:Int) next (a,b)=next (a,b,((k + 1:Nat):Int)):=fun a b=>by unfold Zdu;dsimp only;rw [Qg (by omega)]
  by_cases r:rdy s σ.ld w x
  ·rw [Yk r];simp only [Bq0,Bool.true_and];cases hpk:Ut s σ.ld w l k with
   | none=>
     rw [show decide (pI none < 0)=true from rfl,Bool.not_true,Cq0,Cq1];unfold ZnZ;simp only [Bq0];rw [X7 hqn];simp only [Bq0];rw [QH,Zkm (r:=fun n=>ZgQ (k:Int) next n) (by omega) hS hqn (fun v n nx=>by unfold Zt9;dsimp only;rw [Bool.not_true,Cq0]),Yk ⟨r,fun j z=>by cases z⟩];unfold ZgQ;rw [j0];show _=next ((k:Int),(ZbY s (l.getD k default):Int),_);rw [← ex,ed]
   | some j=>
     rw [show decide (pI (some j) < 0)=false from decide_eq_false (by simp [pI]),Bool.not_false,Cq1];unfold Zn1;simp only [Bq0];rw [X7 hqn];simp only [Bq0];rw [QH,Zkm (r:=fun n=>ZgS F s.Zi (pI (some j)) (pD s l (some j)) (k:Int) next x true n) (by omega) hS hqn (fun v n nx=>by unfold Zua;dsimp only;rw [Bool.not_true,Cq0])];unfold ZgS;rw [Bool.true_and];by_cases c:ZbY s (l.getD j default) < ZbY s x
     ·rw [decide_eq_true (show(dep s q:Int) > pD s l (some j) by show(dep s q:Int) > (ZbY s (l.getD j default):Int);omega),Cq1];unfold Zn0;simp only [Bq0];rw [hq,X7 hqn];simp only [Bq0];rw [QH,Zkm (r:=fun n=>ZgR (k:Int) next n) (by omega) hS hqn (fun v n nx=>by unfold Zub;dsimp only;rw [Bool.not_true,Cq0]),Yk ⟨r,fun j' z=>by cases z;exact c⟩];unfold ZgR;rw [j0];show _=next ((k:Int),(ZbY s (l.getD k default):Int),_);rw [← ex,ed]
     ·rw [decide_eq_false (show ¬ (dep s q:Int) > pD s l (some j) by show ¬ (dep s q:Int) > (ZbY s (l.getD j default):Int);omega),Cq0,Z9 (fun z=>c (z.2 j rfl)),j0]
  ·rw [Z9 r,Z9 (fun z=>r z.1)];simp only [Bq0,Bool.false_and,Cq0];rw [j0]
 ·unfold Zn2;dsimp only;rw [Xn,Cq0]
end
end Go.Proofs.YtcnahmgekicbdaaGreat
end
end
section
namespace Go.Proofs.YtcnahmgekicbdaaGreat
open Go.Lf
noncomputable def rings (s:Zc):Nat ->TS ->TS
 | 0,σ=>σ
 | k + 1,σ=>ZcZ s k ((rings s k σ).be k).length (rings s k σ)
def BeA (s:Zc) (σ:TS):Prop:=∀ w,w < mm s ->∀ x ∈ σ.be w,BeS s x
section
variable {s:Zc} {σ:TS} {F B a b p q w i n:Nat} {x:Zd} {l:List Zd}
theorem ZdA {α:Type} {l:List α} {i:Nat} (h:i < l.length):(ZcL l i).length + 1=l.length:=by
 unfold ZcL;rw [List.length_append,List.length_take,List.length_drop];omega
theorem ZrD {α:Type} {l:List α} {i:Nat} {x:α} (h:x ∈ ZcL l i):x ∈ l:=by
 unfold ZcL at h;rcases List.mem_append.1 h with h | h
 ·exact List.mem_of_mem_take h
 ·exact List.mem_of_mem_drop h
theorem ZaD (s:Zc) (w i:Nat) (σ:TS):(rung s w i σ).be=YG σ.be w (ZcL (σ.be w) i)∧(rung s w i σ).ld=σ.ld∧(rung s w i σ).st=σ.st∧(rung s w i σ).kn=σ.kn∧(rung s w i σ).ma=σ.ma∧(rung s w i σ).sn=σ.sn∧(rung s w i σ).wa=σ.wa∧(rung s w i σ).sd=σ.sd:=by
 unfold rung;split <;> exact⟨rfl,rfl,rfl,rfl,rfl,rfl,rfl,rfl⟩
theorem Zm6 (h:Gd s B σ) (hw:w < mm s) (hi:i < (σ.be w).length):Gd s B (rung s w i σ):=by
 have hb:=h.wf.pot;have h1:(σ.be w).length <=Pot s σ:=by have:=Ub (f:=fun m=>(σ.be m).length) hw;unfold Pot;omega
 have hp:=Zne (s:=s) (σ:=σ) hw (ZcL (σ.be w) i);have hc:=ZdA hi;have w1:Wf s (B - 1) {σ with be:=YG σ.be w (ZcL (σ.be w) i)}:= ⟨by omega,h.wf.ld,h.wf.ws⟩
 unfold rung;split
 ·exact⟨(w1.tell _ _ _ _).up (by omega),⟨h.kn.srt,h.kn.rng⟩⟩
 ·exact⟨w1.up (by omega),⟨h.kn.srt,h.kn.rng⟩⟩
theorem ZiW (h:BeA s σ):BeA s (rung s w i σ):=fun v hv x hx=>by
 rw [(ZaD s w i σ).1] at hx;by_cases e:v=w
 ·subst e;rw [Yf] at hx;exact h v hv x (ZrD hx)
 ·rw [Xi e] at hx;exact h v hv x hx
theorem ZFU (hw:w < mm s):∀ (n:Nat) (σ:TS),Gd s B σ ->BeA s σ ->Gd s B (ZcZ s w n σ)∧BeA s (ZcZ s w n σ):=by
 intro n
 induction n with
 | zero=>intro σ h hb;exact⟨h,hb⟩
 | succ n ih=>
   intro σ h hb;rw [ZcZ];cases hpk:Ut s σ.ld w (σ.be w) (σ.be w).length with
   | none=>exact⟨h,hb⟩
   | some i=>exact ih _ (Zm6 h hw (Zib _ _ hpk)) (ZiW hb)
theorem ZiZ (h:Gd s B σ) (hb:BeA s σ):∀ k,k <=mm s ->Gd s B (rings s k σ)∧BeA s (rings s k σ):=by
 intro k
 induction k with
 | zero=>intro _;exact⟨h,hb⟩
 | succ k ih=>
   intro hk;obtain⟨h1,h2⟩:=ih (by omega);exact ZFU (by omega) _ _ h1 h2
theorem del_eq (hi:i < l.length) (hl:l.length <=700000):Zrh l (i:Int) (Ye ((i:Int) + 1))=some (ZcL l i):=by
 unfold Zrh;rw [Qg (by omega)]
 have e1:slL l (i:Int) ((i + 1:Nat):Int)=some ((l.take (i + 1)).drop i):=by
  unfold slL;rw [decide_eq_true (show(0:Int) <= (i:Int) by omega),decide_eq_true (show(i:Int) <= ((i + 1:Nat):Int) by omega),decide_eq_true (show((i + 1:Nat):Int) <= (l.length:Int) by omega)]
  rfl
 rw [e1];simp only [Bq0];rw [Xo,decide_eq_false (by omega),Cq0,Zm4 (by omega)];simp only [Bq0];rw [Zh8 (by omega)];simp only [Bq0];rw [ZmG (by rw [List.length_take,List.length_drop];omega)];rfl
theorem ZwX (hF:1000000 <=F) (hS:QN s) (hB:B <=600000) (hw:w < mm s):∀ (n F':Nat) (σ:TS),n < F' ->(σ.be w).length <=n ->Gd s B σ ->BeA s σ ->loop F' (ZeF F (w:Int)) (Zb5 s σ)=some (hal s (ZcZ s w n σ)):=by
 intro n
 induction n with
 | zero=>
   intro F' σ hn hl h hb;cases F' with
   | zero=>omega
   | succ F'=>
     rw [Jg];unfold ZeF Zb5;dsimp only;rw [Z5 hw];simp only [Bq0];rw [Zl2 hF hS hw (by omega) (hb w hw)];have:(σ.be w).length=0:=by omega
     simp only [Bq0];rw [this,show decide (pI (Ut s σ.ld w (σ.be w) 0) < 0)=true from rfl,Cq1];rfl
 | succ n ih=>
   intro F' σ hn hl h hb;cases F' with
   | zero=>omega
   | succ F'=>
     rw [Jg];generalize hnx:loop F' (ZeF F (w:Int))=nx;have hlen:= (h.wf.few (by omega)).be w hw;unfold ZeF;rw [show Zb5 s σ= (tab (nn s) σ.st,(tab (nn s) fun j=>tab (mm s * mm s) (σ.ma j)),tab (nn s) σ.kn,tab (nn s) σ.wa,tab (mm s) σ.be,tab (mm s * mm s) (Ju σ),σ.sd,s.qG,s.Zi,σ.ev) from rfl];dsimp only;have hl7:(σ.be w).length <=600000:=by have:=h.wf.pot;have:=Ub (f:=fun m=>(σ.be m).length) hw;unfold Pot at *;omega
     rw [Z5 hw];simp only [Bq0];rw [Zl2 hF hS hw (by omega) (hb w hw),ZcZ];simp only [Bq0];cases hpk:Ut s σ.ld w (σ.be w) (σ.be w).length with
     | none=>rw [show decide (pI none < 0)=true from rfl,Cq1];rfl
     | some i=>
       have hi:=Zib _ _ hpk;rw [decide_eq_false (show ¬ pI (some i) < 0 by simp [pI]),Cq0,show pI (some i)= (i:Int) from rfl,Ql default hi];simp only [Bq0];rw [del_eq hi (by omega)];simp only [Bq0];obtain⟨⟨p,hp,hpn⟩,_,_⟩:=hb w hw _ (QU (d:=default) hi);rw [hp,Z5 hpn];simp only [Bq0];have gr:=Zm6 h hw hi;have br:=ZiW (w:=w) (i:=i) hb;have lr:((rung s w i σ).be w).length <=n:=by rw [(ZaD s w i σ).1,Yf];have:=ZdA hi;omega
       have hih:=ih F' (rung s w i σ) (by omega) lr gr br;rw [hnx] at hih;refine Eq.trans ?_ hih;unfold rung;rw [hp,Int.toNat_natCast,Xo,XE];by_cases e:σ.st p=1
       ·rw [decide_eq_true e,Cq1,if_pos e,show Z7.mk (Zf.mk (tab (nn s) σ.st) (tab (nn s) fun j=>tab (mm s * mm s) (σ.ma j)) (tab (nn s) σ.kn) (tab (nn s) σ.wa) (tab (mm s) (YG σ.be w (ZcL (σ.be w) i))) (tab (mm s * mm s) (Ju σ)) σ.sd) (Zc.mk s.qG s.Zi) σ.ev=hal s {σ with be:=YG σ.be w (ZcL (σ.be w) i)} from rfl];have hpb:=Zne (s:=s) (σ:=σ) hw (ZcL (σ.be w) i);have:=ZdA hi;have:=h.wf.pot;have w1:Wf s B {σ with be:=YG σ.be w (ZcL (σ.be w) i)}:= ⟨by omega,h.wf.ld,h.wf.ws⟩
        rw [K6 (w1.few (by omega))]
        rfl
       ·rw [decide_eq_false e,Cq0,if_neg e];rfl
theorem Zp9 (hF:1000000 <=F) (hS:QN s) (hw:w < mm s) (hl:(σ.be w).length <=700000) (hx:∀ x ∈ σ.be w,BeS s x) (Uv:Int×Int×List ZX×List Int×List (List Int)×List (List Int)×List (List Int)×List (List Zd)×List Zg×Int×List Zw ->Option Z6) (Zdh:Int×List ZX×List Int×List (List Int)×List (List Int)×List (List Int)×List (List Zd)×List Zg×Int×List Zw ->Option Z6) {r:Option Z6}
 (he:∀ nx,ZeI F (w:Int) Uv s.qG s.Zi (tab (nn s) σ.st) (tab (nn s) fun p=>tab (mm s * mm s) (σ.ma p)) (tab (nn s) σ.kn) (tab (nn s) σ.wa) (tab (mm s) σ.be) (tab (mm s * mm s) (Ju σ)) σ.sd σ.ev Zdh (σ.be w) (pI (Ut s σ.ld w (σ.be w) (σ.be w).length),(((σ.be w).length:Nat):Int)) nx=r):
 loop F (ZeI F (w:Int) Uv s.qG s.Zi (tab (nn s) σ.st) (tab (nn s) fun p=>tab (mm s * mm s) (σ.ma p)) (tab (nn s) σ.kn) (tab (nn s) σ.wa) (tab (mm s) σ.be) (tab (mm s * mm s) (Ju σ)) σ.sd σ.ev Zdh (σ.be w)) ((-1),0)=r:=by
 refine XB (fun k=>(pI (Ut s σ.ld w (σ.be w) k),(k:Int))) rfl (n:= (σ.be w).length) (by omega) (fun k hk next=>?_) he;have j0:∀ (a:Int),Zdv (k:Int) next a=next (a,((k + 1:Nat):Int)):=fun a=>by unfold Zdv;rw [Qg (by omega)]
 unfold ZeI;dsimp only;rw [YH hk,Cq1,Ql default hk];simp only [Bq0];obtain⟨x,ex⟩:∃ x,x= (σ.be w).getD k default:= ⟨_,rfl⟩
 obtain⟨_,⟨q,hq,hqn⟩,hm⟩:=hx _ (QU (d:=default) hk);rw [← ex] at hq hm ⊢;rw [ZqY,Zw0 (by omega) hS hw hm,hq];have ed:ZbY s x=dep s q:=by unfold ZbY;rw [hq,Int.toNat_natCast]
 rw [Ut,← ex];by_cases r:rdy s σ.ld w x
 ·rw [Yk r];simp only [Bq0,Bool.true_and];cases hpk:Ut s σ.ld w (σ.be w) k with
  | none=>
    rw [show decide (pI none < 0)=true from rfl,Bool.not_true,Cq0,Cq1,Yk ⟨r,fun j z=>by cases z⟩,j0];rfl
  | some j=>
    have hj:=Zib _ _ hpk;obtain⟨_,⟨q',hq',ZZU⟩,_⟩:=hx _ (QU (d:=default) (show j < (σ.be w).length by omega));obtain⟨L,e1,e2⟩:=Zwu (F:=F) (by omega) hS hqn;obtain⟨L',e1',e2'⟩:=Zwu (F:=F) (by omega) hS ZZU;have ed':ZbY s ((σ.be w).getD j default)=dep s q':=by unfold ZbY;rw [hq',Int.toNat_natCast]
    rw [show decide (pI (some j) < 0)=false from decide_eq_false (by simp [pI]),Bool.not_false,Cq1,show(Zc.mk s.qG s.Zi)=s from rfl,e1];simp only [Bq0];rw [Z5 hw];simp only [Bq0];rw [show pI (some j)= (j:Int) from rfl,Ql default (by omega)];simp only [Bq0];rw [hq',e1'];simp only [Bq0];rw [e2,e2'];by_cases c:ZbY s ((σ.be w).getD j default) < ZbY s x
    ·rw [decide_eq_true (show(dep s q:Int) > (dep s q':Int) by omega),Cq1,Yk ⟨r,fun j' z=>by cases z;exact c⟩,j0];rfl
    ·rw [decide_eq_false (show ¬ (dep s q:Int) > (dep s q':Int) by omega),Cq0,Z9 (fun z=>c (z.2 j rfl)),j0];rfl
 ·rw [Z9 r,Z9 (fun z=>r z.1)];simp only [Bq0,Bool.false_and,Cq0];rw [j0]
theorem ZwZ (hF:1000000 <=F) (hS:QN s) (hB:B <=600000) (hw:w < mm s) (Uv:Int×Int×List ZX×List Int×List (List Int)×List (List Int)×List (List Int)×List (List Zd)×List Zg×Int×List Zw ->Option Z6):∀ (n F':Nat) (σ:TS),n < F' ->(σ.be w).length <=n ->Gd s B σ ->BeA s σ ->loop F' (ZgX F (w:Int) Uv) (ZcK s σ)=Uv (((w + 1:Nat):Int),ZcK s (ZcZ s w n σ)):=by
 have h4:=hS.mm.2.2;intro n
 induction n with
 | zero=>
   intro F' σ hn hl h hb;cases F' with
   | zero=>omega
   | succ F'=>
     rw [Jg];unfold ZgX;rw [show ZcK s σ= (s.qG,s.Zi,tab (nn s) σ.st,(tab (nn s) fun j=>tab (mm s * mm s) (σ.ma j)),tab (nn s) σ.kn,tab (nn s) σ.wa,tab (mm s) σ.be,tab (mm s * mm s) (Ju σ),σ.sd,σ.ev) from rfl];dsimp only;rw [Z5 hw];simp only [Bq0];refine Zp9 hF hS hw (by omega) (hb w hw) _ _ (fun nx=>?_);unfold ZeI;dsimp only;have:(σ.be w).length=0:=by omega
     rw [Xn,Cq0,this,show decide (pI (Ut s σ.ld w (σ.be w) 0) < 0)=true from rfl,Cq1,Qg (by omega)];rfl
 | succ n ih=>
   intro F' σ hn hl h hb;cases F' with
   | zero=>omega
   | succ F'=>
     rw [Jg];generalize hnx:loop F' (ZgX F (w:Int) Uv)=nx;have hl7:(σ.be w).length <=600000:=by have:=h.wf.pot;have:=Ub (f:=fun m=>(σ.be m).length) hw;unfold Pot at *;omega
     unfold ZgX;rw [show ZcK s σ= (s.qG,s.Zi,tab (nn s) σ.st,(tab (nn s) fun j=>tab (mm s * mm s) (σ.ma j)),tab (nn s) σ.kn,tab (nn s) σ.wa,tab (mm s) σ.be,tab (mm s * mm s) (Ju σ),σ.sd,σ.ev) from rfl];dsimp only;rw [Z5 hw];simp only [Bq0];refine Zp9 hF hS hw (by omega) (hb w hw) _ _ (fun nx'=>?_);unfold ZeI;dsimp only;rw [Xn,Cq0,ZcZ];cases hpk:Ut s σ.ld w (σ.be w) (σ.be w).length with
     | none=>rw [show decide (pI none < 0)=true from rfl,Cq1,Qg (by omega)];rfl
     | some i=>
       have hi:=Zib _ _ hpk;have self:Zz (tab (mm s) σ.be) (w:Int) (σ.be w)=tab (mm s) σ.be:=by rw [XE,ZgK]
       rw [decide_eq_false (show ¬ pI (some i) < 0 by simp [pI]),Cq0,show pI (some i)= (i:Int) from rfl];simp only [Z5 hw,Bq0,self];rw [Ql default hi];simp only [Bq0];rw [Zm4 (by omega)];simp only [Bq0];rw [ZmG (by rw [List.length_nil,List.length_take];omega)];simp only [Bq0,List.nil_append];rw [Qg (by omega),Zh8 (by omega)];simp only [Bq0];rw [ZmG (by rw [List.length_take,List.length_drop];omega)];simp only [Bq0];obtain⟨⟨p,hp,hpn⟩,_,_⟩:=hb w hw _ (QU (d:=default) hi);have gr:=Zm6 h hw hi;have br:=ZiW (w:=w) (i:=i) hb;have lr:((rung s w i σ).be w).length <=n:=by rw [(ZaD s w i σ).1,Yf];have:=ZdA hi;omega
       have hih:=ih F' (rung s w i σ) (by omega) lr gr br;rw [hnx] at hih;refine Eq.trans ?_ hih;unfold rung;rw [hp,Int.toNat_natCast,XE,show Z6.mk (Zc.mk s.qG s.Zi) (Zf.mk (tab (nn s) σ.st) (tab (nn s) fun j=>tab (mm s * mm s) (σ.ma j)) (tab (nn s) σ.kn) (tab (nn s) σ.wa) (tab (mm s) (YG σ.be w (List.take i (σ.be w) ++ List.drop (i + 1) (σ.be w)))) (tab (mm s * mm s) (Ju σ)) σ.sd) σ.ev=XZ s {σ with be:=YG σ.be w (ZcL (σ.be w) i)} from rfl];unfold Zj8;rw [show(XZ s {σ with be:=YG σ.be w (ZcL (σ.be w) i)}).w.qV=tab (nn s) σ.st from rfl,Z5 hpn];simp only [Bq0];rw [Xo];by_cases e:σ.st p=1
       ·rw [decide_eq_true e,Cq1,if_pos e];have hpb:=Zne (s:=s) (σ:=σ) hw (ZcL (σ.be w) i);have:=ZdA hi;have:=h.wf.pot;have w1:Wf s B {σ with be:=YG σ.be w (ZcL (σ.be w) i)}:= ⟨by omega,h.wf.ld,h.wf.ws⟩
        rw [Zbi (w1.few (by omega))]
        rfl
       ·rw [decide_eq_false e,Cq0,if_neg e];rfl
theorem ZlT (hF:1000000 <=F) (hS:QN s) (hB:B <=600000) (h:Gd s B σ) (hb:BeA s σ):ZxM F (XZ s σ)=some (XZ s (rings s (mm s) σ)):=by
 have h4:=hS.mm.2.2;unfold ZxM;refine XB (fun k=>((k:Int),ZcK s (rings s k σ))) rfl (n:=mm s) (by omega) (fun k hk next=>?_) (fun next=>?_)
 ·obtain⟨g1,g2⟩:=ZiZ h hb k (by omega);have hl7:((rings s k σ).be k).length <=600000:=by have:=g1.wf.pot;have:=Ub (f:=fun m=>((rings s k σ).be m).length) hk;unfold Pot at *;omega
  unfold Zn9;rw [show ZcK s (rings s k σ)= (s.qG,s.Zi,tab (nn s) (rings s k σ).st,(tab (nn s) fun j=>tab (mm s * mm s) ((rings s k σ).ma j)),tab (nn s) (rings s k σ).kn,tab (nn s) (rings s k σ).wa,tab (mm s) (rings s k σ).be,tab (mm s * mm s) (Ju (rings s k σ)),(rings s k σ).sd,(rings s k σ).ev) from rfl];dsimp only;rw [show(XZ s σ).w.Zt=tab (mm s) σ.be from rfl,XA,YH hk,Cq1];exact ZwZ hF hS hB hk next _ F (rings s k σ) (by omega) (Nat.le_refl _) g1 g2
 ·unfold Zn9 ZcK;dsimp only;rw [show(XZ s σ).w.Zt=tab (mm s) σ.be from rfl,XA,Xn,Cq0];rfl
end
end
section
noncomputable section
variable (s:Zc)
def Zg7 (p:Nat) (σ:TS):TS:=
 if inn s (p:Int) < 0 then Qd s p σ
 else if pl s (inn s (p:Int)).toNat=pl s p then YM s p (Kq s (Qd s p σ) p) (Qd s p σ)
 else send s (pl s p) (pl s (inn s (p:Int)).toNat) ⟨4,(p:Int),0,0,Kq s (Qd s p σ) p⟩ (Qd s p σ)
def kK (p q:Nat) (σ:TS):TS:=tell 1 p q σ.sd {σ with sd:=σ.sd + 1}
inductive Act:TS ->TS ->Prop
 | fall {σ:TS} {p:Nat} (hp:p < nn s) (h:σ.st p=1):Act σ (Wv p σ)
 | ZlO {σ:TS} {p k:Nat} (hp:p < nn s) (hk:k < nn s) (hi:inn s (k:Int)= (p:Int)) (h:σ.st p ≠ 1) (hr:pl s k ≠ pl s p) (hn:(k:Int) ∉ σ.kn p):Act σ (send s (pl s p) (pl s k) ⟨3,(k:Int),0,0,[]⟩ σ)
 | die {σ:TS} {p:Nat} (hp:p < nn s) (h:σ.st p=2) (ha:Alo s σ p):Act σ (Zg7 s p σ)
 | ZwV {σ:TS} {p q:Nat} (hp:p < nn s) (hq:q < nn s) (h:σ.st p=1) (e:pl s p=pl s q):Act σ (see q p σ.sd (kK p q σ))
 | ZwU {σ:TS} {p q:Nat} (hp:p < nn s) (hq:q < nn s) (h:σ.st p=1) (e:pl s p ≠ pl s q):Act σ (send s (pl s p) (pl s q) ⟨1,(p:Int),(q:Int),σ.sd,[]⟩ (kK p q σ))
 | ZwK {σ:TS} {p q:Nat} (hp:p < nn s) (hq:q < nn s) (h:σ.st p=1) (e:pl s p=pl s q):Act σ (note s p q (tell 3 p q 0 σ))
 | ZwJ {σ:TS} {p q:Nat} (hp:p < nn s) (hq:q < nn s) (h:σ.st p=1) (e:pl s p ≠ pl s q):Act σ (send s (pl s p) (pl s q) ⟨2,(p:Int),(q:Int),0,[]⟩ (tell 3 p q 0 σ))
 | Zxi {σ:TS} {a b p q:Nat} (ha:a < mm s) (hb:b < mm s) (hl:σ.ld (li s a b) < (σ.sn (li s a b)).length) (hk:(hd σ (li s a b)).kW=1) (hp:(hd σ (li s a b)).kV= (p:Int)) (hq:(hd σ (li s a b)).kX= (q:Int)) (hpn:p < nn s) (hqn:q < nn s):Act σ (see q p (hd σ (li s a b)).n (drop1 (li s a b) σ))
 | Zxl {σ:TS} {a b p q:Nat} (ha:a < mm s) (hb:b < mm s) (hl:σ.ld (li s a b) < (σ.sn (li s a b)).length) (hk:(hd σ (li s a b)).kW=2) (hp:(hd σ (li s a b)).kV= (p:Int)) (hq:(hd σ (li s a b)).kX= (q:Int)) (hpn:p < nn s) (hqn:q < nn s):Act σ (note s p q (drop1 (li s a b) σ))
 | Zxj {σ:TS} {a b p:Nat} (ha:a < mm s) (hb:b < mm s) (hl:σ.ld (li s a b) < (σ.sn (li s a b)).length) (hk:(hd σ (li s a b)).kW=3) (hp:(hd σ (li s a b)).kV= (p:Int)) (hpn:p < nn s):Act σ (drop1 (li s a b) σ)
 | Zqk {σ:TS} {a b p:Nat} (ha:a < mm s) (hb:b < mm s) (hl:σ.ld (li s a b) < (σ.sn (li s a b)).length) (hk:(hd σ (li s a b)).kW=4) (hp:(hd σ (li s a b)).kV= (p:Int)) (hpn:p < nn s) (h0:0 <=inn s (p:Int)) (hm:(hd σ (li s a b)).qX.length=mm s * mm s) (h3:σ.st p=3) (hn:(p:Int) ∉ σ.kn (inn s (p:Int)).toNat):Act σ (YM s p (hd σ (li s a b)).qX (drop1 (li s a b) σ))
 | Zxk {σ:TS} {a b:Nat} (ha:a < mm s) (hb:b < mm s) (hl:σ.ld (li s a b) < (σ.sn (li s a b)).length) (hk:(hd σ (li s a b)).kW=5):Act σ (wait b (hd σ (li s a b)) (drop1 (li s a b) σ))
 | ring {σ:TS} {w i:Nat} (hw:w < mm s) (h:Ut s σ.ld w (σ.be w) (σ.be w).length=some i):Act σ (rung s w i σ)
inductive U0:TS ->TS ->Prop
 | refl {σ:TS}:U0 σ σ
 | tail {σ τ υ:TS}:U0 σ τ ->Act s τ υ ->U0 σ υ
def Zed (x:XC) (σ:TS):Prop:=
 (x.act=1∧∃ p q:Nat,x.a= (p:Int)∧x.b= (q:Int)∧p < nn s∧q < nn s∧σ.st p=1)∨
 (x.act=2∧∃ p q:Nat,x.a= (p:Int)∧x.b= (q:Int)∧p < nn s∧q < nn s∧σ.st p=1)∨
 (x.act=3∧∃ p:Nat,x.a= (p:Int)∧p < nn s∧σ.st p=1)∨
 (x.act=4∧∃ a b:Nat,x.a= (a:Int)∧x.b= (b:Int)∧a < mm s∧b < mm s∧σ.ld (li s a b) < (σ.sn (li s a b)).length)
def ZaN (x:XC) (σ:TS):TS:=
 if x.act=1 then(if pl s x.a.toNat=pl s x.b.toNat then see x.b.toNat x.a.toNat σ.sd (kK x.a.toNat x.b.toNat σ) else send s (pl s x.a.toNat) (pl s x.b.toNat) ⟨1,x.a,x.b,σ.sd,[]⟩ (kK x.a.toNat x.b.toNat σ))
 else if x.act=2 then(if pl s x.a.toNat=pl s x.b.toNat then note s x.a.toNat x.b.toNat (tell 3 x.a x.b 0 σ) else send s (pl s x.a.toNat) (pl s x.b.toNat) ⟨2,x.a,x.b,0,[]⟩ (tell 3 x.a x.b 0 σ))
 else if x.act=3 then JM s (nn s) x.a.toNat σ
 else ZfF s x.a.toNat x.b.toNat σ
def stepW (x:XC) (σ:TS):TS:=rings s (mm s) (ZaN s x σ)
end
section
variable {s:Zc} {σ τ υ:TS} {F B a b p q w i n d:Nat} {x:Zd}
theorem U0.trans (h:U0 s σ τ) (h':U0 s τ υ):U0 s σ υ:=by
 induction h' with
 | refl=>exact h
 | tail _ a ih=>exact .tail ih a
theorem U0.one (h:Act s σ τ):U0 s σ τ:= .tail .refl h
theorem U0.keep {P:TS ->Prop} (hP:∀ σ τ,P σ ->Act s σ τ ->P τ) (h:U0 s σ τ) (h0:P σ):P τ:=by
 induction h with
 | refl=>exact h0
 | tail _ a ih=>exact hP _ _ ih a
theorem ZfN {α:Type} (f:TS ->α ->TS) (Q:TS ->Prop):∀ (l:List α) (σ:TS),Q σ ->(∀ σ x,x ∈ l ->Q σ ->Q (f σ x)) ->Q (l.foldl f σ):=by
 intro l
 induction l with
 | nil=>intro σ h _;exact h
 | cons x l ih=>intro σ h hf;exact ih _ (hf σ x (by simp) h) fun σ y hy=>hf σ y (by simp [hy])
theorem ZbK (p q:Nat) (n:Int) (σ:TS):(see p q n σ).st=σ.st∧(see p q n σ).kn=σ.kn∧(see p q n σ).ma=σ.ma∧(see p q n σ).ld=σ.ld∧(see p q n σ).sn=σ.sn∧(see p q n σ).be=σ.be∧(see p q n σ).wa=σ.wa∧(see p q n σ).sd=σ.sd:=by
 unfold see;split <;> exact⟨rfl,rfl,rfl,rfl,rfl,rfl,rfl,rfl⟩
theorem ZaF (p q:Nat) (σ:TS):(note s p q σ).st=σ.st∧(note s p q σ).kn=σ.kn∧(note s p q σ).ma=σ.ma∧(note s p q σ).ld=σ.ld∧(note s p q σ).sd=σ.sd∧(note s p q σ).ev=σ.ev:=by
 unfold note;split
 ·have:=ZoL (s:=s) p q σ;exact⟨this.1,this.2.1,this.2.2.1,this.2.2.2.1,this.2.2.2.2.1,this.2.2.2.2.2.1⟩
 ·exact⟨rfl,rfl,rfl,rfl,rfl,rfl⟩
theorem ZHA (p:Nat) (σ:TS):(Zg7 s p σ).st=YG σ.st p 3:=by
 have e:= (KX (s:=s) p σ).1;unfold Zg7;split
 ·exact e
 ·split
  ·exact e
  ·exact e
theorem ZqZ {f:Nat ->Int} {k j:Nat} {v:Int} (hv:v ≠ 1) (h:f j ≠ 1):YG f k v j ≠ 1:=by
 unfold YG;by_cases e:j=k
 ·rw [if_pos e];exact hv
 ·rw [if_neg e];exact h
theorem ZPi (h:Act s σ τ) (hp:σ.st p ≠ 1):τ.st p ≠ 1:=by
 cases h with
 | fall hq h=>exact ZqZ (by decide) hp
 | ZlO=>exact hp
 | die hq h ha=>rw [ZHA];exact ZqZ (by decide) hp
 | ZwV=>rw [(ZbK _ _ _ _).1];exact hp
 | ZwU=>exact hp
 | ZwK=>rw [(ZaF _ _ _).1];exact hp
 | ZwJ=>exact hp
 | Zxi=>rw [(ZbK _ _ _ _).1];exact hp
 | Zxl=>rw [(ZaF _ _ _).1];exact hp
 | Zxj=>exact hp
 | Zqk=>exact hp
 | Zxk=>exact hp
 | ring=>rw [(ZaD _ _ _ _).2.2.1];exact hp
theorem ZH5 (h:U0 s σ τ) (hp:σ.st p ≠ 1):τ.st p ≠ 1:=h.keep (P:=fun σ=>σ.st p ≠ 1) (fun _ _ h a=>ZPi a h) hp
theorem ZrA (hS:QN s):∀ (d p:Nat) (σ:TS),p < nn s ->up s d (p:Int) < 0 ->σ.st p=2 ->Alo s σ p ->U0 s σ (Zkl s d p σ):=by
 intro d
 induction d with
 | zero=>intro p σ hp hu _ _;exact absurd hu (by show ¬ ((p:Int)) < 0;omega)
 | succ d ih=>
   intro p σ hp hu h2 hA;have h1:U0 s σ (Zg7 s p σ):= .one (.die hp h2 hA);show U0 s σ (ZoA s (Zkl s d) p (Qd s p σ));unfold ZoA;unfold Zg7 at h1;by_cases h0:inn s (p:Int) < 0
   ·rw [if_pos h0] at h1 ⊢;exact h1
   ·rw [if_neg h0] at h1 ⊢;obtain⟨eq,hq⟩:=Jl hS hp h0;by_cases e:pl s (inn s (p:Int)).toNat=pl s p
    ·rw [if_pos e] at h1 ⊢;unfold KC;by_cases c:(YM s p (Kq s (Qd s p σ) p) (Qd s p σ)).st (inn s (p:Int)).toNat=2∧Alo s (YM s p (Kq s (Qd s p σ) p) (Qd s p σ)) (inn s (p:Int)).toNat
     ·rw [Yk c];exact h1.trans (ih _ _ hq (by rw [← eq];exact Zzo hp hu) c.1 c.2)
     ·rw [Z9 c];exact h1
    ·rw [if_neg e] at h1 ⊢;exact h1
theorem Zmo (hS:QN s):∀ (d p:Nat) (σ:TS),p < nn s ->KL s d p ->σ.st p=1 ->U0 s σ (JM s d p σ):=by
 intro d
 induction d with
 | zero=>intro p σ hp hs _;exact absurd rfl (hs p hp 0 (Nat.le_refl _))
 | succ d ih=>
   intro p σ hp hs h1;have h0:U0 s σ (Wv p σ):= .one (.fall hp h1);have hne:(Wv p σ).st p ≠ 1:=by show YG σ.st p 2 p ≠ 1;rw [Yf];decide
   have hk:U0 s σ (fk s (JM s d) p (nn s) (Wv p σ))∧(fk s (JM s d) p (nn s) (Wv p σ)).st p ≠ 1:=by
    refine ZfN _ (fun τ=>U0 s σ τ∧τ.st p ≠ 1) _ _ ⟨h0,hne⟩ (fun τ k hk ⟨ha,hτ⟩=>?_);obtain⟨hkn,hki⟩:=Zdm.1 (show k ∈ KV s p from hk)
    have:U0 s τ (ZaK s (JM s d) p τ k):=by
     unfold ZaK;by_cases e:pl s k=pl s p
     ·rw [if_pos e];by_cases e1:τ.st k=1
      ·rw [if_pos e1];exact ih k τ hkn (hs.kid hki) e1
      ·rw [if_neg e1];exact .refl
     ·rw [if_neg e];by_cases e1:(k:Int) ∈ τ.kn p
      ·rw [if_pos e1];exact .refl
      ·rw [if_neg e1];exact .one (.ZlO hp hkn hki hτ e e1)
    exact⟨ha.trans this,ZH5 this hτ⟩
   show U0 s σ (ZnS s p (fk s (JM s d) p (nn s) (Wv p σ)));unfold ZnS;by_cases c:(fk s (JM s d) p (nn s) (Wv p σ)).st p=2∧Alo s (fk s (JM s d) p (nn s) (Wv p σ)) p
   ·rw [Yk c];exact hk.1.trans (ZrA hS _ _ _ hp (ZdL hS hp) c.1 c.2)
   ·rw [Z9 c];exact hk.1
theorem ZwY (hw:w < mm s):∀ (n:Nat) (σ:TS),U0 s σ (ZcZ s w n σ):=by
 intro n
 induction n with
 | zero=>intro σ;exact .refl
 | succ n ih=>
   intro σ;rw [ZcZ];cases hpk:Ut s σ.ld w (σ.be w) (σ.be w).length with
   | none=>exact .refl
   | some i=>exact(U0.one (.ring hw hpk)).trans (ih _)
theorem Zi0:∀ k,k <=mm s ->U0 s σ (rings s k σ):=by
 intro k
 induction k with
 | zero=>intro _;exact .refl
 | succ k ih=>intro hk;exact(ih (by omega)).trans (ZwY (by omega) _ _)
theorem Zxh (hS:QN s) (ha:a < mm s) (hb:b < mm s) (hl:σ.ld (li s a b) < (σ.sn (li s a b)).length) (hx:Zyw s b (hd σ (li s a b))) (hD:Zu3 s (hd σ (li s a b)) σ):U0 s σ (ZfF s a b σ):=by
 obtain⟨p,hp,hpn,c⟩:=hx;unfold ZfF Zl7;rcases c with⟨k,q,hq,hqn⟩ | ⟨k,q,hq,hqn⟩ | k | ⟨k,h0,hm⟩ | ⟨k,e,hm,q,hq,hqn⟩
 ·rw [if_pos k,hp,hq,Int.toNat_natCast,Int.toNat_natCast];exact .one (.Zxi ha hb hl k hp hq hpn hqn)
 ·rw [if_neg (by omega),if_pos k,hp,hq,Int.toNat_natCast,Int.toNat_natCast];exact .one (.Zxl ha hb hl k hp hq hpn hqn)
 ·rw [if_neg (by omega),if_neg (by omega),if_pos k,hp,Int.toNat_natCast];have h1:U0 s σ (drop1 (li s a b) σ):= .one (.Zxj ha hb hl k hp hpn);by_cases e:(drop1 (li s a b) σ).st p=1
  ·rw [if_pos e];exact h1.trans (Zmo hS _ _ _ hpn (KL.all hS.inn) e)
  ·rw [if_neg e];exact h1
 ·rw [if_neg (by omega),if_neg (by omega),if_neg (by omega),if_pos k,hp,Int.toNat_natCast];obtain⟨h3,hn⟩:=ZfE hp hD k;obtain⟨eq,hq⟩:=Jl hS hpn (by omega);have h1:U0 s σ (YM s p (hd σ (li s a b)).qX (drop1 (li s a b) σ)):= .one (.Zqk ha hb hl k hp hpn h0 hm h3 hn);unfold Zb4 KC;by_cases c:(YM s p (hd σ (li s a b)).qX (drop1 (li s a b) σ)).st (inn s (p:Int)).toNat=2∧Alo s (YM s p (hd σ (li s a b)).qX (drop1 (li s a b) σ)) (inn s (p:Int)).toNat
  ·rw [Yk c];exact h1.trans (ZrA hS _ _ _ hq (ZdL hS hq) c.1 c.2)
  ·rw [Z9 c];exact h1
 ·rw [if_neg (by omega),if_neg (by omega),if_neg (by omega),if_neg (by omega)];exact .one (.Zxk ha hb hl k)
end
end Go.Proofs.YtcnahmgekicbdaaGreat
end
end
section
namespace Go.Proofs.YtcnahmgekicbdaaGreat
open Go.Lf
def ZE8 (s:Zc) (a b:Nat) (x:Zd):Prop:=∃ p:Nat,x.kV= (p:Int)∧p < nn s∧x.qX.length <=16∧
 ((x.kW=1∧pl s p=a∧∃ q:Nat,x.kX= (q:Int)∧q < nn s∧pl s q=b)∨(x.kW=2∧pl s p=a∧∃ q:Nat,x.kX= (q:Int)∧q < nn s∧pl s q=b)∨(x.kW=3∧pl s p=b∧0 <=inn s (p:Int)∧pl s (inn s (p:Int)).toNat=a)∨(x.kW=4∧0 <=inn s (p:Int)∧x.qX.length=mm s * mm s∧pl s p=a∧pl s (inn s (p:Int)).toNat=b)∨(x.kW=5∧pl s p=b∧x.qX.length=mm s * mm s∧∃ q:Nat,x.kX= (q:Int)∧q < nn s∧pl s q=a))
theorem ZE8.s {s:Zc} {a b:Nat} {x:Zd} (h:ZE8 s a b x):Zyw s b x:=by
 obtain⟨p,hp,hpn,_,c⟩:=h;refine⟨p,hp,hpn,?_⟩;rcases c with⟨k,_,q,hq,hqn,_⟩ | ⟨k,_,q,hq,hqn,_⟩ | ⟨k,_⟩ | ⟨k,h0,hm,_⟩ | ⟨k,e,hm,q,hq,hqn,_⟩
 ·exact .inl ⟨k,q,hq,hqn⟩
 ·exact .inr (.inl ⟨k,q,hq,hqn⟩)
 ·exact .inr (.inr (.inl k))
 ·exact .inr (.inr (.inr (.inl ⟨k,h0,hm⟩)))
 ·exact .inr (.inr (.inr (.inr ⟨k,e,hm,q,hq,hqn⟩)))
structure P1 (s:Zc) (σ:TS):Prop where
 lets:∀ a b,a < mm s ->b < mm s ->∀ x ∈ σ.sn (li s a b),ZE8 s a b x
 self:∀ a,a < mm s ->σ.sn (li s a a)= []
 bea:∀ w,w < mm s ->∀ x ∈ σ.be w,BeS s x∧x.kW=5
 ws:∀ q,q < nn s ->∀ x ∈ σ.wa q,∃ k:Nat,x= (k:Int)∧k < nn s
section
variable {s:Zc} {σ τ υ:TS} {F B a b p q w i n d:Nat} {x:Zd}
theorem ZA7 {a b a' b':Nat} (hb:b < mm s) (hb':b' < mm s) (h:li s a b=li s a' b'):a=a'∧b=b':=by
 obtain⟨e1,e2⟩:= (ZaH hb).1 (show li s a b=a * mm s + b from rfl);obtain⟨e3,e4⟩:= (ZaH hb').1 (show li s a' b'=a' * mm s + b' from rfl);rw [h] at e1 e2;exact⟨by omega,by omega⟩
theorem P1.congr (h:P1 s σ) (h1:τ.sn=σ.sn) (h2:τ.be=σ.be) (h3:τ.wa=σ.wa):P1 s τ:= ⟨by rw [h1];exact h.lets,by rw [h1];exact h.self,by rw [h2];exact h.bea,by rw [h3];exact h.ws⟩
theorem P1.send (h:P1 s σ) (ha:a < mm s) (hb:b < mm s) (hne:a ≠ b) (hx:ZE8 s a b x):P1 s (Proofs.YtcnahmgekicbdaaGreat.send s a b x σ):=by
 refine⟨fun a' b' ha' hb' y hy=>?_,fun a' ha'=>?_,h.bea,h.ws⟩
 ·by_cases e:li s a' b'=li s a b
  ·obtain⟨rfl,rfl⟩:=ZA7 hb' hb e;rw [Ze1] at hy;rcases List.mem_append.1 hy with hy | hy
   ·exact h.lets _ _ ha' hb' y hy
   ·rw [List.mem_singleton.1 hy];exact hx
  ·rw [WS e] at hy;exact h.lets _ _ ha' hb' y hy
 ·rw [WS (fun e=>hne (by obtain⟨e1,e2⟩:=ZA7 ha' hb e;omega))];exact h.self a' ha'
theorem P1.wait (h:P1 s σ) (hx:BeS s x∧x.kW=5):P1 s (Proofs.YtcnahmgekicbdaaGreat.wait a x σ):=by
 refine⟨h.lets,h.self,fun w hw y hy=>?_,h.ws⟩;have hy:y ∈ YG σ.be a (σ.be a ++ [x]) w:=hy;by_cases e:w=a
 ·subst e;rw [Yf] at hy;rcases List.mem_append.1 hy with hy | hy
  ·exact h.bea w hw y hy
  ·rw [List.mem_singleton.1 hy];exact hx
 ·rw [Xi e] at hy;exact h.bea w hw y hy
theorem P1.JK (hS:QN s) (h:P1 s σ) (hp:p < nn s) (hq:q < nn s):P1 s (Proofs.YtcnahmgekicbdaaGreat.JK s p q σ):=by
 unfold Proofs.YtcnahmgekicbdaaGreat.JK;by_cases e:pl s p=pl s q
 ·rw [if_pos e];exact h.wait ⟨⟨⟨p,rfl,hp⟩,⟨q,rfl,hq⟩,XA⟩,rfl⟩
 ·rw [if_neg e];exact h.send (hS.pl hq).2 (hS.pl hp).2 (fun z=>e z.symm) ⟨p,rfl,hp,(by show(tab _ _).length <=16;rw [XA];exact Zek hS),.inr (.inr (.inr (.inr ⟨rfl,rfl,XA,q,rfl,hq,rfl⟩)))⟩
theorem P1.see (h:P1 s σ) (p q:Nat) (n:Int):P1 s (Proofs.YtcnahmgekicbdaaGreat.see p q n σ):=by
 have e:=ZbK p q n σ;exact h.congr e.2.2.2.2.1 e.2.2.2.2.2.1 e.2.2.2.2.2.2.1
theorem P1.note (hS:QN s) (h:P1 s σ) (hp:p < nn s) (hq:q < nn s):P1 s (Proofs.YtcnahmgekicbdaaGreat.note s p q σ):=by
 unfold Proofs.YtcnahmgekicbdaaGreat.note;by_cases e:σ.st q=3
 ·rw [if_pos e];exact h.JK hS hp hq
 ·rw [if_neg e];refine⟨h.lets,h.self,h.bea,fun j hj y hy=>?_⟩;have hy:y ∈ YG σ.wa q (σ.wa q ++ [(p:Int)]) j:=hy;by_cases e1:j=q
  ·subst e1;rw [Yf] at hy;rcases List.mem_append.1 hy with hy | hy
   ·exact h.ws j hj y hy
   ·rw [List.mem_singleton.1 hy];exact⟨p,rfl,hp⟩
  ·rw [Xi e1] at hy;exact h.ws j hj y hy
theorem P1.KJ (h:P1 s σ) (p:Nat):P1 s (Proofs.YtcnahmgekicbdaaGreat.KJ p σ):=by
 refine⟨h.lets,h.self,h.bea,fun j hj y hy=>?_⟩;have hy:y ∈ YG σ.wa p [] j:=hy;by_cases e1:j=p
 ·subst e1;rw [Yf] at hy;cases hy
 ·rw [Xi e1] at hy;exact h.ws j hj y hy
theorem P1.Zt (hS:QN s) (h:P1 s σ) (hp:p < nn s) (l:List Int) (hl:∀ x ∈ l,∃ k:Nat,x= (k:Int)∧k < nn s):P1 s (Proofs.YtcnahmgekicbdaaGreat.Zt s p l σ):=
 ZfN _ (P1 s) l σ h fun τ x hx hτ=>by
  obtain⟨k,e,hk⟩:=hl x hx;rw [e,Int.toNat_natCast];exact hτ.JK hS hk hp
theorem P1.Qd (hS:QN s) (h:P1 s σ) (hp:p < nn s):P1 s (Proofs.YtcnahmgekicbdaaGreat.Qd s p σ):= ((h.KJ p).Zt hS hp _ (h.ws p hp)).congr rfl rfl rfl
theorem P1.Zg7 (hS:QN s) (h:P1 s σ) (hp:p < nn s):P1 s (Proofs.YtcnahmgekicbdaaGreat.Zg7 s p σ):=by
 have hA:=h.Qd hS hp;unfold Proofs.YtcnahmgekicbdaaGreat.Zg7;by_cases h0:inn s (p:Int) < 0
 ·rw [if_pos h0];exact hA
 ·rw [if_neg h0];obtain⟨eq,hq⟩:=Jl hS hp h0;by_cases e:pl s (inn s (p:Int)).toNat=pl s p
  ·rw [if_pos e];exact hA.congr rfl rfl rfl
  ·rw [if_neg e];exact hA.send (hS.pl hp).2 (hS.pl hq).2 (fun z=>e z.symm) ⟨p,rfl,hp,(by show(tab _ _).length <=16;rw [XA];exact Zek hS),.inr (.inr (.inr (.inl ⟨rfl,by omega,XA,rfl,rfl⟩)))⟩
theorem ZCs (h:σ.ld i < (σ.sn i).length):hd σ i ∈ σ.sn i:=QU h
theorem P1.act (hS:QN s) (h:P1 s σ) (ac:Act s σ τ):P1 s τ:=by
 cases ac with
 | fall=>exact h.congr rfl rfl rfl
 | @ZlO p k hp hk hi h1 hr hn=>
   exact h.send (hS.pl hp).2 (hS.pl hk).2 (fun z=>hr z.symm) ⟨k,rfl,hk,(by show 0 <=16;omega),.inr (.inr (.inl ⟨rfl,rfl,by omega,by rw [hi,Int.toNat_natCast]⟩))⟩
 | die hp=>exact h.Zg7 hS hp
 | ZwV hp hq h1 e=>exact(h.congr (τ:=kK _ _ σ) rfl rfl rfl).see _ _ _
 | @ZwU p q hp hq h1 e=>exact(h.congr (τ:=kK _ _ σ) rfl rfl rfl).send (hS.pl hp).2 (hS.pl hq).2 e ⟨p,rfl,hp,(by show 0 <=16;omega),.inl ⟨rfl,rfl,q,rfl,hq,rfl⟩⟩
 | ZwK hp hq h1 e=>exact(h.congr (τ:=tell _ _ _ _ σ) rfl rfl rfl).note hS hp hq
 | @ZwJ p q hp hq h1 e=>exact(h.congr (τ:=tell _ _ _ _ σ) rfl rfl rfl).send (hS.pl hp).2 (hS.pl hq).2 e ⟨p,rfl,hp,(by show 0 <=16;omega),.inr (.inl ⟨rfl,rfl,q,rfl,hq,rfl⟩)⟩
 | Zxi=>exact(h.congr (τ:=drop1 _ σ) rfl rfl rfl).see _ _ _
 | Zxl ha hb hl hk hp hq hpn hqn=>exact(h.congr (τ:=drop1 _ σ) rfl rfl rfl).note hS hpn hqn
 | Zxj=>exact h.congr rfl rfl rfl
 | Zqk=>exact h.congr rfl rfl rfl
 | @Zxk a b ha hb hl hk=>
   have hm:=ZCs hl;obtain⟨p,hp,hpn,_,c⟩:=h.lets a b ha hb _ hm;refine(h.congr (τ:=drop1 _ σ) rfl rfl rfl).wait ⟨?_,hk⟩;rcases c with⟨k,_⟩ | ⟨k,_⟩ | ⟨k,_⟩ | ⟨k,_⟩ | ⟨k,e,hm,q,hq,hqn,_⟩
   ·omega
   ·omega
   ·omega
   ·omega
   ·exact⟨⟨p,hp,hpn⟩,⟨q,hq,hqn⟩,hm⟩
 | @ring w i hw hpk=>
   have e:=ZaD s w i σ;refine⟨by rw [e.2.2.2.2.2.1];exact h.lets,by rw [e.2.2.2.2.2.1];exact h.self,fun v hv y hy=>?_,by rw [e.2.2.2.2.2.2.1];exact h.ws⟩;rw [e.1] at hy;by_cases z:v=w
   ·subst z;rw [Yf] at hy;exact h.bea v hv y (ZrD hy)
   ·rw [Xi z] at hy;exact h.bea v hv y hy
def SnM (σ τ:TS):Prop:=∀ i,(σ.sn i).length <= (τ.sn i).length
theorem SnM.refl' (h:τ.sn=σ.sn):SnM σ τ:=fun i=>by rw [h];exact Nat.le_refl _
theorem SnM.trans (h:SnM σ τ) (h':SnM τ υ):SnM σ υ:=fun i=>Nat.le_trans (h i) (h' i)
theorem SnM.send (x:Zd):SnM σ (Proofs.YtcnahmgekicbdaaGreat.send s a b x σ):=fun i=>by
 by_cases e:i=li s a b
 ·subst e;rw [Ze1,List.length_append];omega
 ·rw [WS e];exact Nat.le_refl _
theorem SnM.JK (p q:Nat):SnM σ (Proofs.YtcnahmgekicbdaaGreat.JK s p q σ):=by
 unfold Proofs.YtcnahmgekicbdaaGreat.JK;split
 ·exact .refl' rfl
 ·exact .send _
theorem SnM.Zt (p:Nat) (l:List Int):SnM σ (Proofs.YtcnahmgekicbdaaGreat.Zt s p l σ):=ZfN _ (SnM σ) l σ (.refl' rfl) fun τ x _ h=>h.trans (.JK _ _)
theorem SnM.note (p q:Nat):SnM σ (Proofs.YtcnahmgekicbdaaGreat.note s p q σ):=by
 unfold Proofs.YtcnahmgekicbdaaGreat.note;split
 ·exact .JK _ _
 ·exact .refl' rfl
theorem SnM.Qd (p:Nat):SnM σ (Proofs.YtcnahmgekicbdaaGreat.Qd s p σ):= (SnM.Zt (σ:=Proofs.YtcnahmgekicbdaaGreat.KJ p σ) p (σ.wa p)).trans (.refl' rfl)
structure P2 (s:Zc) (σ:TS):Prop where
 ld:∀ i,σ.ld i <= (σ.sn i).length
 kn:Kn s σ
theorem P2.of (h:P2 s σ) (h1:τ.ld=σ.ld) (h2:SnM σ τ) (h3:τ.kn=σ.kn) (h4:∀ k,σ.st k=3 ->τ.st k=3):P2 s τ:=
 ⟨fun i=>by rw [h1];exact Nat.le_trans (h.ld i) (h2 i),fun q hq=>by rw [h3];exact h.kn.srt q hq,fun q hq x hx=>by
   rw [h3] at hx;obtain⟨k,a,b,c,d⟩:=h.kn.rng q hq x hx;exact⟨k,a,b,c,h4 k d⟩⟩
theorem P2.drop (h:P2 s σ) (hl:σ.ld i < (σ.sn i).length):P2 s (drop1 i σ):= ⟨fun j=>by
 show YG σ.ld i (σ.ld i + 1) j <= (σ.sn j).length;by_cases e:j=i
 ·subst e;rw [Yf];exact hl
 ·rw [Xi e];exact h.ld j,⟨h.kn.srt,h.kn.rng⟩⟩
theorem ZN7 {f:Nat ->Int} {k j:Nat} (h:f j=3):YG f k 3 j=3:=by
 unfold YG;by_cases e:j=k
 ·rw [if_pos e]
 ·rw [if_neg e];exact h
theorem P2.Qd (h:P2 s σ) (p:Nat):P2 s (Proofs.YtcnahmgekicbdaaGreat.Qd s p σ):=by
 have sA:=KX (s:=s) p σ;exact h.of sA.2.2.1 (.Qd p) sA.2.1 fun k hk=>by rw [sA.1];exact ZN7 hk
theorem P2.not_mem (h:P2 s σ) {q:Nat} (hq:q < nn s) (h2:σ.st p ≠ 3):(p:Int) ∉ σ.kn q:=fun hm=>by
 obtain⟨k,e1,_,_,e4⟩:=h.kn.rng q hq _ hm;have:k=p:=by omega
 subst this;exact h2 e4
theorem P2.act (hS:QN s) (h:P2 s σ) (ac:Act s σ τ):P2 s τ:=by
 cases ac with
 | @fall p hp h1=>
   refine h.of rfl (.refl' rfl) rfl fun k hk=>?_
   show YG σ.st p 2 k=3;rw [Xi (fun z=>by subst z;rw [h1] at hk;cases hk)];exact hk
 | ZlO=>exact h.of rfl (.send _) rfl fun _ z=>z
 | @die p hp h2 hA=>
   have hD:=h.Qd p;have sA:=KX (s:=s) p σ;unfold Zg7;by_cases h0:inn s (p:Int) < 0
   ·rw [if_pos h0];exact hD
   ·rw [if_neg h0];obtain⟨eq,hq⟩:=Jl hS hp h0;by_cases e:pl s (inn s (p:Int)).toNat=pl s p
    ·rw [if_pos e];exact⟨hD.ld,JZ hS hD.kn hp h0 (by rw [sA.1,Yf]) (by rw [sA.2.1];exact h.not_mem hq (by rw [h2];decide)) _⟩
    ·rw [if_neg e];exact hD.of rfl (.send _) rfl fun _ z=>z
 | @ZwV p q=>have e:=ZbK q p σ.sd (kK p q σ);exact h.of e.2.2.2.1 (.refl' e.2.2.2.2.1) e.2.1 fun k z=>by rw [e.1];exact z
 | @ZwU p q=>exact h.of rfl (SnM.trans (.refl' (τ:=kK p q σ) rfl) (.send _)) rfl fun _ z=>z
 | @ZwK p q=>have e:=ZaF (s:=s) p q (tell 3 p q 0 σ);exact h.of e.2.2.2.1 (SnM.trans (.refl' (τ:=tell 3 p q 0 σ) rfl) (.note _ _)) e.2.1 fun k z=>by rw [e.1];exact z
 | @ZwJ p q=>exact h.of rfl (SnM.trans (.refl' (τ:=tell 3 p q 0 σ) rfl) (.send _)) rfl fun _ z=>z
 | @Zxi a b p q ha hb hl=>have e:=ZbK q p (hd σ (li s a b)).n (drop1 (li s a b) σ);exact(h.drop hl).of e.2.2.2.1 (.refl' e.2.2.2.2.1) e.2.1 fun k z=>by rw [e.1];exact z
 | @Zxl a b p q ha hb hl=>have e:=ZaF (s:=s) p q (drop1 (li s a b) σ);exact(h.drop hl).of e.2.2.2.1 (.note _ _) e.2.1 fun k z=>by rw [e.1];exact z
 | Zxj ha hb hl=>exact h.drop hl
 | Zqk ha hb hl hk hp hpn h0 hm h3 hn=>exact⟨(h.drop hl).ld,JZ hS (h.drop hl).kn hpn (by omega) h3 hn _⟩
 | Zxk ha hb hl=>exact(h.drop hl).of rfl (.refl' rfl) rfl fun _ z=>z
 | @ring w i=>have e:=ZaD s w i σ;exact h.of e.2.1 (.refl' e.2.2.2.2.2.1) e.2.2.2.1 fun k z=>by rw [e.2.2.1];exact z
structure KI (s:Zc) (σ:TS):Prop where
 k1:∀ (i j:Nat) (x:Zd),(σ.sn i)[j]? =some x ->x.kW=4 ->∃ k:Nat,x.kV= (k:Int)∧k < nn s∧σ.st k=3∧((k:Int) ∈ σ.kn (inn s (k:Int)).toNat↔j < σ.ld i)
 k2:∀ (i i' j j':Nat) (x x':Zd),(σ.sn i)[j]? =some x ->(σ.sn i')[j']? =some x' ->x.kW=4 ->x'.kW=4 ->x.kV=x'.kV ->i=i'∧j=j'
 k3:∀ p,p < nn s ->σ.st p=3 ->0 <=inn s (p:Int) ->(p:Int) ∈ σ.kn (inn s (p:Int)).toNat∨∃ (i j:Nat) (x:Zd),(σ.sn i)[j]? =some x∧x.kW=4∧x.kV= (p:Int)
 k4:∀ p,p < nn s ->σ.st p=3 ->Alo s σ p
def S4 (σ τ:TS):Prop:=∀ (i j:Nat) (x:Zd),x.kW=4 ->((τ.sn i)[j]? =some x↔(σ.sn i)[j]? =some x)
theorem S4.refl' (h:τ.sn=σ.sn):S4 σ τ:=fun i j x _=>by rw [h]
theorem S4.trans (h:S4 σ τ) (h':S4 τ υ):S4 σ υ:=fun i j x hx=>(h' i j x hx).trans (h i j x hx)
theorem Zbl {x y:Zd} {j:Nat}:((send s a b x σ).sn i)[j]? =some y↔(σ.sn i)[j]? =some y∨(i=li s a b∧j= (σ.sn i).length∧y=x):=by
 by_cases e:i=li s a b
 ·subst e;rw [Ze1];rcases Nat.lt_trichotomy j (σ.sn (li s a b)).length with h | h | h
  ·rw [List.getElem?_append_left h];exact⟨.inl,fun z=>z.elim id fun w=>absurd w.2.1 (by omega)⟩
  ·subst h;rw [List.getElem?_append_right (Nat.le_refl _),Nat.sub_self]
   constructor
   ·intro z;simp at z;exact .inr ⟨rfl,rfl,z.symm⟩
   ·rintro(z | ⟨_,_,z⟩)
    ·rw [List.getElem?_eq_none (Nat.le_refl _)] at z;cases z
    ·simp [z]
  ·constructor
   ·intro z;have:= (Li0 z).1;rw [List.length_append,List.length_singleton] at this;omega
   ·rintro(z | ⟨_,z,_⟩)
    ·have:= (Li0 z).1;omega
    ·omega
 ·rw [WS e];exact⟨.inl,fun z=>z.elim id fun w=>absurd w.1 e⟩
theorem S4.send (hx:x.kW ≠ 4):S4 σ (Proofs.YtcnahmgekicbdaaGreat.send s a b x σ):=fun i j y hy=>by
 rw [Zbl];exact⟨fun z=>z.elim id fun w=>absurd (w.2.2 ▸ hy) hx,.inl⟩
theorem S4.JK (p q:Nat):S4 σ (Proofs.YtcnahmgekicbdaaGreat.JK s p q σ):=by
 unfold Proofs.YtcnahmgekicbdaaGreat.JK;split
 ·exact .refl' rfl
 ·exact .send (by show(5:Int) ≠ 4;decide)
theorem S4.Zt (p:Nat) (l:List Int):S4 σ (Proofs.YtcnahmgekicbdaaGreat.Zt s p l σ):=ZfN _ (S4 σ) l σ (.refl' rfl) fun τ x _ h=>h.trans (.JK _ _)
theorem S4.note (p q:Nat):S4 σ (Proofs.YtcnahmgekicbdaaGreat.note s p q σ):=by
 unfold Proofs.YtcnahmgekicbdaaGreat.note;split
 ·exact .JK _ _
 ·exact .refl' rfl
theorem S4.Qd (p:Nat):S4 σ (Proofs.YtcnahmgekicbdaaGreat.Qd s p σ):= (S4.Zt (σ:=Proofs.YtcnahmgekicbdaaGreat.KJ p σ) p (σ.wa p)).trans (.refl' rfl)
theorem KI.same (h:KI s σ) (h1:∀ p,τ.st p=3↔σ.st p=3) (h2:τ.kn=σ.kn) (h3:τ.ld=σ.ld) (h4:S4 σ τ):KI s τ:=by
 refine⟨fun i j x hx hk=>?_,fun i i' j j' x x' hx hx' hk hk' e=>h.k2 i i' j j' x x' ((h4 i j x hk).1 hx) ((h4 i' j' x' hk').1 hx') hk hk' e,fun p hp h3' h0=>?_,fun p hp h3'=>?_⟩
 ·obtain⟨k,e1,e2,e3,e4⟩:=h.k1 i j x ((h4 i j x hk).1 hx) hk;exact⟨k,e1,e2,(h1 k).2 e3,by rw [h2,h3];exact e4⟩
 ·rw [h2];exact(h.k3 p hp ((h1 p).1 h3') h0).imp id fun⟨i,j,x,a,b,c⟩=>⟨i,j,x,(h4 i j x b).2 a,b,c⟩
 ·intro k hk e;rw [h2];exact h.k4 p hp ((h1 p).1 h3') k hk e
theorem KI.drop (h:KI s σ) (hl:σ.ld i < (σ.sn i).length) (hk:(hd σ i).kW ≠ 4):KI s (drop1 i σ):=by
 refine⟨fun i' j x hx hk'=>?_,h.k2,h.k3,h.k4⟩;obtain⟨k,e1,e2,e3,e4⟩:=h.k1 i' j x hx hk';refine⟨k,e1,e2,e3,e4.trans ?_⟩;show j < σ.ld i'↔j < YG σ.ld i (σ.ld i + 1) i';by_cases e:i'=i
 ·subst e;rw [Yf]
  have:j ≠ σ.ld i':=fun z=>hk (by
   subst z;have hx:(σ.sn i')[σ.ld i']? =some x:=hx;unfold hd;rw [List.getD_eq_getElem?_getD,hx];exact hk')
  omega
 ·rw [Xi e]
theorem ZVX {f:Nat ->Int} {k j:Nat} {v:Int} (hv:v ≠ 3) (h:f k ≠ 3):YG f k v j=3↔f j=3:=by
 unfold YG;by_cases e:j=k
 ·subst e;rw [if_pos rfl];exact⟨fun z=>absurd z hv,fun z=>absurd z h⟩
 ·rw [if_neg e]
theorem KI.die (hS:QN s) (hP:P2 s σ) (h:KI s σ) (hp:p < nn s) (h2:σ.st p=2) (hA:Alo s σ p):KI s (Zg7 s p σ):=by
 have sA:=KX (s:=s) p σ;have h4:=S4.Qd (s:=s) (σ:=σ) p
 have no4:∀ (i j:Nat) (x:Zd),(σ.sn i)[j]? =some x ->x.kW=4 ->x.kV ≠ (p:Int):=fun i j x hx hk e=>by
  obtain⟨k,e1,_,e3,_⟩:=h.k1 i j x hx hk;have:k=p:=by omega
  subst this;rw [h2] at e3;cases e3
 have st3:∀ k,σ.st k=3 ->YG σ.st p 3 k=3:=fun k hk=>by
  unfold YG;by_cases e:k=p
  ·rw [if_pos e]
  ·rw [if_neg e];exact hk
 have ZwR:∀ k,YG σ.st p 3 k=3 ->k=p∨σ.st k=3:=fun k hk=>by
  by_cases e:k=p
  ·exact .inl e
  ·rw [Xi e] at hk;exact .inr hk
 unfold Zg7;by_cases h0:inn s (p:Int) < 0
 ·rw [if_pos h0];refine⟨fun i j x hx hk=>?_,fun i i' j j' x x' hx hx' hk hk' e=>h.k2 i i' j j' x x' ((h4 i j x hk).1 hx) ((h4 i' j' x' hk').1 hx') hk hk' e,fun k hk h3' h0'=>?_,fun k hk h3'=>?_⟩
  ·obtain⟨k,e1,e2,e3,e4⟩:=h.k1 i j x ((h4 i j x hk).1 hx) hk;exact⟨k,e1,e2,by rw [sA.1];exact st3 k e3,by rw [sA.2.1,sA.2.2.1];exact e4⟩
  ·rw [sA.1] at h3';rcases ZwR k h3' with e | e
   ·subst e;omega
   ·rw [sA.2.1];exact(h.k3 k hk e h0').imp id fun⟨i,j,x,a,b,c⟩=>⟨i,j,x,(h4 i j x b).2 a,b,c⟩
  ·rw [sA.1] at h3';intro j hj e;rw [sA.2.1];rcases ZwR k h3' with z | z
   ·subst z;exact hA j hj e
   ·exact h.k4 k hk z j hj e
 ·rw [if_neg h0];obtain⟨eq,hq⟩:=Jl hS hp h0;by_cases e:pl s (inn s (p:Int)).toNat=pl s p
  ·rw [if_pos e]
   have kne:∀ (k q':Nat),k ≠ p ->(((k:Int)) ∈ YG (Qd s p σ).kn (inn s (p:Int)).toNat (ins (p:Int) ((Qd s p σ).kn (inn s (p:Int)).toNat)) q'↔(k:Int) ∈ σ.kn q'):=fun k q' hne=>by
    rw [sA.2.1];by_cases z:q'= (inn s (p:Int)).toNat
    ·subst z;rw [Yf,ZaI];exact⟨fun w=>w.elim (fun w=>absurd (by omega) hne) id,.inr⟩
    ·rw [Xi z]
   refine⟨fun i j x hx hk=>?_,fun i i' j j' x x' hx hx' hk hk' e=>h.k2 i i' j j' x x' ((h4 i j x hk).1 hx) ((h4 i' j' x' hk').1 hx') hk hk' e,fun k hk h3' h0'=>?_,fun k hk h3'=>?_⟩
   ·have hx':= (h4 i j x hk).1 hx;obtain⟨k,e1,e2,e3,e4⟩:=h.k1 i j x hx' hk;have hne:k ≠ p:=fun z=>no4 i j x hx' hk (by rw [e1,z])
    refine⟨k,e1,e2,by show(Qd s p σ).st k=3;rw [sA.1];exact st3 k e3,?_⟩;refine(kne k _ hne).trans ?_;show _↔j < (Qd s p σ).ld i;rw [sA.2.2.1];exact e4
   ·have h3':(Qd s p σ).st k=3:=h3';rw [sA.1] at h3';rcases ZwR k h3' with z | z
    ·subst z;left;show _ ∈ YG _ _ _ _;rw [Yf];exact ZaI.2 (.inl rfl)
    ·have hne:k ≠ p:=fun w=>by subst w;rw [h2] at z;cases z
     refine(h.k3 k hk z h0').imp (fun w=>(kne k _ hne).2 w) fun⟨i,j,x,a,b,c⟩=>⟨i,j,x,(h4 i j x b).2 a,b,c⟩
   ·have h3':(Qd s p σ).st k=3:=h3';rw [sA.1] at h3';intro j hj ej
    have hold:(j:Int) ∈ σ.kn k:=by
     rcases ZwR k h3' with z | z
     ·subst z;exact hA j hj ej
     ·exact h.k4 k hk z j hj ej
    show _ ∈ YG _ _ _ _;rw [sA.2.1];by_cases z:k= (inn s (p:Int)).toNat
    ·subst z;rw [Yf];exact ZaI.2 (.inr hold)
    ·rw [Xi z];exact hold
  ·rw [if_neg e];obtain⟨y,hy⟩:∃ y:Zd,y= ⟨4,(p:Int),0,0,Kq s (Qd s p σ) p⟩:= ⟨_,rfl⟩
   rw [← hy];have yk:y.kW=4:=by rw [hy]
   have yp:y.kV= (p:Int):=by rw [hy]
   refine⟨fun i j x hx hk=>?_,fun i i' j j' x x' hx hx' hk hk' e=>?_,fun k hk h3' h0'=>?_,fun k hk h3'=>?_⟩
   ·rcases Zbl.1 hx with hx | ⟨e1,e2,e3⟩
    ·obtain⟨k,e1,e2,e3,e4⟩:=h.k1 i j x ((h4 i j x hk).1 hx) hk
     exact⟨k,e1,e2,by show(Qd s p σ).st k=3;rw [sA.1];exact st3 k e3,by
      show _ ∈ (Qd s p σ).kn _↔_ < (Qd s p σ).ld i;rw [sA.2.1,sA.2.2.1];exact e4⟩
    ·refine⟨p,by rw [e3];exact yp,hp,by show(Qd s p σ).st p=3;rw [sA.1,Yf],?_⟩;show _ ∈ (Qd s p σ).kn _↔_ < (Qd s p σ).ld i;rw [sA.2.1,e2,e1];have:= (hP.Qd p).ld (li s (pl s p) (pl s (inn s (p:Int)).toNat));exact⟨fun w=>absurd w (hP.not_mem hq (by rw [h2];decide)),fun w=>by omega⟩
   ·rcases Zbl.1 hx with hx | ⟨a1,a2,a3⟩ <;> rcases Zbl.1 hx' with hx' | ⟨b1,b2,b3⟩
    ·exact h.k2 i i' j j' x x' ((h4 i j x hk).1 hx) ((h4 i' j' x' hk').1 hx') hk hk' e
    ·exact absurd (by rw [e,b3,yp]) (no4 i j x ((h4 i j x hk).1 hx) hk)
    ·exact absurd (by rw [← e,a3,yp]) (no4 i' j' x' ((h4 i' j' x' hk').1 hx') hk')
    ·have:i=i':=by rw [a1,b1]
     subst this;exact⟨rfl,by rw [a2,b2]⟩
   ·have h3':(Qd s p σ).st k=3:=h3';rw [sA.1] at h3';rcases ZwR k h3' with z | z
    ·subst z;exact .inr ⟨_,_,y,Zbl.2 (.inr ⟨rfl,rfl,rfl⟩),yk,yp⟩
    ·refine(h.k3 k hk z h0').imp (fun w=>by show _ ∈ (Qd s p σ).kn _;rw [sA.2.1];exact w) fun⟨i,j,x,a,b,c⟩=>⟨i,j,x,Zbl.2 (.inl ((h4 i j x b).2 a)),b,c⟩
   ·have h3':(Qd s p σ).st k=3:=h3';rw [sA.1] at h3';intro j hj ej;show _ ∈ (Qd s p σ).kn k;rw [sA.2.1];rcases ZwR k h3' with z | z
    ·subst z;exact hA j hj ej
    ·exact h.k4 k hk z j hj ej
theorem KI.Zqk (hS:QN s) (h:KI s σ) (hl:σ.ld i < (σ.sn i).length) (hk:(hd σ i).kW=4) (hp:(hd σ i).kV= (p:Int)) (hpn:p < nn s) (l:List Int):KI s (YM s p l (drop1 i σ)):=by
 have hh:(σ.sn i)[σ.ld i]? =some (hd σ i):=by
  unfold hd;rw [List.getD_eq_getElem?_getD,List.getElem?_eq_getElem hl];rfl
 have kne:∀ (k q':Nat),k ≠ p ->(((k:Int)) ∈ YG σ.kn (inn s (p:Int)).toNat (ins (p:Int) (σ.kn (inn s (p:Int)).toNat)) q'↔(k:Int) ∈ σ.kn q'):=fun k q' hne=>by
  by_cases z:q'= (inn s (p:Int)).toNat
  ·subst z;rw [Yf,ZaI];exact⟨fun w=>w.elim (fun w=>absurd (by omega) hne) id,.inr⟩
  ·rw [Xi z]
 have kup:∀ (k q':Nat),(k:Int) ∈ σ.kn q' ->((k:Int)) ∈ YG σ.kn (inn s (p:Int)).toNat (ins (p:Int) (σ.kn (inn s (p:Int)).toNat)) q':=fun k q' hm=>by
  by_cases e:k=p
  ·by_cases z:q'= (inn s (p:Int)).toNat
   ·subst z;rw [Yf];exact ZaI.2 (.inr hm)
   ·rw [Xi z];exact hm
  ·exact(kne k q' e).2 hm
 refine⟨fun i' j x hx hk'=>?_,h.k2,fun k hk' h3 h0=>(h.k3 k hk' h3 h0).imp (fun w=>kup k _ w) id,fun k hk' h3 j hj e=>kup j k (h.k4 k hk' h3 j hj e)⟩;obtain⟨k,e1,e2,e3,e4⟩:=h.k1 i' j x hx hk';refine⟨k,e1,e2,e3,?_⟩;show(k:Int) ∈ YG σ.kn (inn s (p:Int)).toNat (ins (p:Int) (σ.kn (inn s (p:Int)).toNat)) (inn s (k:Int)).toNat↔j < YG σ.ld i (σ.ld i + 1) i';by_cases z:k=p
 ·subst z;obtain⟨a,c⟩:=h.k2 i' i j _ x _ hx hh hk' hk (by rw [e1,hp]);subst a c;rw [Yf,Yf];exact⟨fun _=>by omega,fun _=>ZaI.2 (.inl rfl)⟩
 ·rw [kne k _ z];by_cases e:i'=i
  ·subst e;rw [Yf]
   have:j ≠ σ.ld i':=fun w=>by
    subst w;have hx:(σ.sn i')[σ.ld i']? =some x:=hx;rw [hh] at hx;cases hx;rw [hp] at e1;omega
   exact e4.trans (by omega)
  ·rw [Xi e];exact e4
theorem KI.act (hS:QN s) (hP:P2 s σ) (h:KI s σ) (ac:Act s σ τ):KI s τ:=by
 cases ac with
 | @fall p hp h1=>exact h.same (fun k=>ZVX (by decide) (by rw [h1];decide)) rfl rfl (.refl' rfl)
 | ZlO=>exact h.same (fun _=>Iff.rfl) rfl rfl (.send (by show(3:Int) ≠ 4;decide))
 | die hp h2 hA=>exact h.die hS hP hp h2 hA
 | @ZwV p q=>have e:=ZbK q p σ.sd (kK p q σ);exact h.same (fun k=>by rw [e.1];exact Iff.rfl) e.2.1 e.2.2.2.1 (.refl' e.2.2.2.2.1)
 | @ZwU p q=>exact h.same (fun _=>Iff.rfl) rfl rfl (S4.trans (.refl' (τ:=kK p q σ) rfl) (.send (by show(1:Int) ≠ 4;decide)))
 | @ZwK p q=>have e:=ZaF (s:=s) p q (tell 3 p q 0 σ);exact h.same (fun k=>by rw [e.1];exact Iff.rfl) e.2.1 e.2.2.2.1 (S4.trans (.refl' (τ:=tell 3 p q 0 σ) rfl) (.note _ _))
 | @ZwJ p q=>exact h.same (fun _=>Iff.rfl) rfl rfl (S4.trans (.refl' (τ:=tell 3 p q 0 σ) rfl) (.send (by show(2:Int) ≠ 4;decide)))
 | @Zxi a b p q ha hb hl hk=>have e:=ZbK q p (hd σ (li s a b)).n (drop1 (li s a b) σ);exact(h.drop hl (by rw [hk];decide)).same (fun k=>by rw [e.1]) e.2.1 e.2.2.2.1 (.refl' e.2.2.2.2.1)
 | @Zxl a b p q ha hb hl hk=>have e:=ZaF (s:=s) p q (drop1 (li s a b) σ);exact(h.drop hl (by rw [hk];decide)).same (fun k=>by rw [e.1]) e.2.1 e.2.2.2.1 (.note _ _)
 | Zxj ha hb hl hk=>exact h.drop hl (by rw [hk];decide)
 | Zqk ha hb hl hk hp hpn=>exact h.Zqk hS hl hk hp hpn _
 | Zxk ha hb hl hk=>exact(h.drop hl (by rw [hk];decide)).same (fun _=>Iff.rfl) rfl rfl (.refl' rfl)
 | @ring w i=>have e:=ZaD s w i σ;exact h.same (fun k=>by rw [e.2.2.1]) e.2.2.2.1 e.2.1 (.refl' e.2.2.2.2.2.1)
end
end
end Go.Proofs.YtcnahmgekicbdaaGreat
end
end
