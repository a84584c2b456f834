/- Part 15. -/
import Derived.Test.YtcnahmgekicbdaaGreatDb14
set_option linter.all false
set_option maxHeartbeats 2000000
section
set_option maxRecDepth 20000
noncomputable section
namespace Go.Proofs.YtcnahmgekicbdaaGreat
open Go.Lf
section
open Go.Xv Go.Lf
theorem ZNL {F wm h} {p0:Zc} {p1:(List YP)} {p2:(List Int)} {Zo Zn YH YG QD QC} {r} (Ye:wm <=h.size) (Zz:Sl Zj wm h Zo Zn p0.Zh) (XR:Sl Ka wm h YH YG p1) (Wy:Sl (Zl .i64) wm h QD QC p2) (hL:ZDK F p0 p1 p2=some r):
 WR XX 25 #[.agg [.int .i64 p0.qG,.slice Zo p0.Zh.length Zn].toArray,.slice YH p1.length YG,.slice QD p2.length QC] wm h (CP (fun(v:Value) (Gb:List (Ast wm))=>∃ Jf JD Je Zfu Zfi Zfp Zfw Zft Zfh Zfo Zb0 Zfs Zfg Zfn ZbZ Zfr Zff Zfm ZbY Zfq Zfe Zfl,∃ (ZbX:Nat ->(Option Addr×Nat×Nat)),∃ ZpX ZpS ZpV,v= .tuple [.agg [.slice Jf JD Je,.slice Zfu Zfi Zfp,.slice Zft Zfh Zfo,.slice Zfs Zfg Zfn,.slice Zfr Zff Zfm,.slice Zfq Zfe Zfl,.int .i64 r.1.kK].toArray,.slice ZpX ZpS ZpV,.int .i64 r.2.2].toArray/\Gb= [ow wm (Zl .i64) Jf JD Je r.1.qV,Yb wm (Zx (Zl .i64)) Zfu Zfi Zfp Zfw r.1.qX,Yb wm (Zx (Zl .i64)) Zft Zfh Zfo Zb0 r.1.qZ,Yb wm (Zx (Zl .i64)) Zfs Zfg Zfn ZbZ r.1.Zk,Yb wm (Zx Zi) Zfr Zff Zfm ZbY r.1.Zt,Yb wm Zy Zfq Zfe Zfl ZbX r.1.kQ,ow wm Zw ZpX ZpS ZpV r.2.1]) [] h):=by
 refine bg Tryz.ntmps25 Ye Ym.nil ?_;intro T hT hS;unfold ZDK at hL;refine r3 ?_;rintro _ h2 ⟨b1,eb1,rfl,hS⟩;refine r1 ?_;rintro _ h4 ⟨b3,eb3,rfl,hS⟩;refine r7 ?_;obtain⟨x5,hx5,hL⟩:=bS hL;refine WO.cl gN rfl (Xi.fn ZT0 (Zb lk Zm)) hS .n (fun g' hz hf hO=>ZNG (by rw [hz];exact hS.hw) ((hS.sl Zz).mono hf) hx5) ?_;rintro _ h31 _ ⟨b6,a7,c9,a10,n11,c12,a13,n14,c15,ZuG,a16,n17,c18,Zp3,a19,n20,c21,Zp2,a22,n23,c24,Zp1,a25,n26,c27,ZzX,a28,n29,c30,rfl,rfl⟩ hS;cases hS.w7 k2 k3 k4 k5 k6 k7 k8;refine r12 ?_;refine WC.loop (WL.lift hL (fun p s=>match p with | (v41,v43,v44,v47,v51,v56,v61,v66,v71,v76,v77)=>∃ ZnL h33 a45 c46 a48 c49 n50 a52 c53 n54 ZRi a57 c58 n59 ZRh a62 c63 n64 ZsJ a67 c68 n69 Zna a72 c73 n74,∃ (Zm9:Nat ->(Option Addr×Nat×Nat)),∃ a78 c79 n80,s= ⟨ZnL,[],h33,none⟩/\Sp wm T h [bx wm b1 [.int .i64 p0.qG,.slice Zo p0.Zh.length Zn],bx wm b3 (cV none 0 0 none 0 0 none 0 0 none 0 0 none 0 0 none 0 0 0),X7 wm (Xn Zj) (a45,c46) v44,ow wm (Zl .i64) a48 n50 c49 v47,Yb wm (Zx (Zl .i64)) a52 n54 c53 ZRi v51,Yb wm (Zx (Zl .i64)) a57 n59 c58 ZRh v56,Yb wm (Zx (Zl .i64)) a62 n64 c63 ZsJ v61,Yb wm (Zx Zi) a67 n69 c68 Zna v66,Yb wm Zy a72 n74 c73 Zm9 v71,ow wm Zw a78 n80 c79 v77,bx wm b6 (cG v43 a45 v44.length c46 a48 n50 c49 a52 n54 c53 a57 n59 c58 a62 n64 c63 a67 n69 c68 a72 n74 c73 v76 a78 n80 c79)] h33/\ZnL.at 2= .slice QD p2.length QC/\ZnL.at 3= .pointer (some ⟨b1,0,none⟩)/\ZnL.at 6= .pointer (some ⟨b3,0,none⟩)/\ZnL.at 9= .pointer (some ⟨b6,0,none⟩)/\ZnL.at 19= .slice YH p1.length YG/\ZnL.at 20= .int .i64 (p1.length:Int)/\ZnL.at 21= .int .i64 v41) ⟨_,_,_,_,_,_,_,_,_,_,_,_,_,_,_,_,_,_,_,_,_,_,_,_,_,_,_,_,_,_,rfl,hS.only sl,Qa⟩ ?_);clear hL hS;rintro ZAA ⟨v41,v43,v44,v47,v51,v56,v61,v66,v71,v76,v77⟩ s ZGf hL ⟨ZnL,h33,a45,c46,a48,c49,n50,a52,c53,n54,ZRi,a57,c58,n59,ZRh,a62,c63,n64,ZsJ,a67,c68,n69,Zna,a72,c73,n74,Zm9,a78,c79,n80,rfl,hS,e35,e36,e37,e38,e39,e40,e42⟩;cases hS.w7 k3 k4 k5 k6 k7 k8 k9;dsimp only [Zol] at hL;refine r6 ?_;refine cn hL ?_ ?_
 ·intro hc hL;refine r6 ?_;obtain⟨x82,ZLD,hL⟩:=bS hL;obtain⟨b83,o84,_,Z6z,ZUI,ZUA,Z6V⟩:=Sl.at_ XR ZLD;refine r1 ?_;refine WO.w gN rfl (QA ZEo Zsu (Ya fh rfl) (At.fz hS.fz ZUA ZUI) (j:=0) rfl rfl (ws:= (cS x82)) rfl) ?_;refine r1 ?_;rintro _ h86 ⟨b85,YcX,rfl,hS⟩;refine r1 ?_;rintro h87 hS;refine r5 ?_;obtain⟨x88,ZZ0,hL⟩:=bS hL;refine WO.cl gN rfl (Xi.fn ZTZ (Zb lk (Zb lk Zm))) hS (.c k11 (.c k4 (.c k4 (.c k4 (.c k4 (.c k4 (.c k4 (.c k4 .n)))))))) (fun g' hz hf hO=>ZNF (p0:= (Z5.mk (Zc.mk v43 v44) (Ze.mk v47 v51 v56 v61 v66 v71 v76) v77)) (by rw [hz];exact hS.hw) ((hS.WA k3).mono hf) hO ZZ0) ?_;rintro _ YcH _ ⟨a89,c91,a92,n93,c94,a95,n96,c97,ZzK,a98,n99,Zt5,ZzJ,ZOX,n102,ZbF,Zz4,Zh6,n105,Zt4,Zz2,a107,n108,c109,ZZb,Yg9,n111,ZV4,rfl,rfl⟩ hS;cases hS.w7 k2 k3 k4 k5 k6 k7 k8;refine r7 ?_;exact Xh.Xx (ZGf _ _ hL ⟨_,_,_,_,_,_,_,_,_,_,_,_,_,_,_,_,_,_,_,_,_,_,_,_,_,_,_,_,_,_,rfl,hS.only sl,Qa⟩)
 ·intro hc hL;refine WQ ?_;refine WC.loop (WL.lift hL (fun p s=>match p with | (ZaG,Ub,v124,v127,v131,Jb,v141,v146,UL,ZbQ,v157)=>∃ ZjH ZNr Zpf Zh0 Zco KT n130 Zed Zf9 n134 Zhx Zcn c138 n139 ZlM ZeY c143 n144 ZlL ZcH c148 n149 ZlK a152 Zci n154,∃ (ZlJ:Nat ->(Option Addr×Nat×Nat)),∃ Zgh c159 n160,s= ⟨ZjH,[],ZNr,none⟩/\Sp wm T h [bx wm b1 [.int .i64 p0.qG,.slice Zo p0.Zh.length Zn],bx wm b3 (cV none 0 0 none 0 0 none 0 0 none 0 0 none 0 0 none 0 0 0),X7 wm (Xn Zj) (Zpf,Zh0) v124,ow wm (Zl .i64) Zco n130 KT v127,Yb wm (Zx (Zl .i64)) Zed n134 Zf9 Zhx v131,Yb wm (Zx (Zl .i64)) Zcn n139 c138 ZlM Jb,Yb wm (Zx (Zl .i64)) ZeY n144 c143 ZlL v141,Yb wm (Zx Zi) ZcH n149 c148 ZlK v146,Yb wm Zy a152 n154 Zci ZlJ UL,ow wm Zw Zgh n160 c159 v157,bx wm b6 (cG Ub Zpf v124.length Zh0 Zco n130 KT Zed n134 Zf9 Zcn n139 c138 ZeY n144 c143 ZcH n149 c148 a152 n154 Zci ZbQ Zgh n160 c159)] ZNr/\ZjH.at 2= .slice QD p2.length QC/\ZjH.at 3= .pointer (some ⟨b1,0,none⟩)/\ZjH.at 6= .pointer (some ⟨b3,0,none⟩)/\ZjH.at 9= .pointer (some ⟨b6,0,none⟩)/\ZjH.at 12= .int .i64 ZaG) ⟨_,_,_,_,_,_,_,_,_,_,_,_,_,_,_,_,_,_,_,_,_,_,_,_,_,_,_,_,_,_,rfl,hS.only sl,Qa⟩ ?_);clear hL hS;rintro ZaK ⟨ZaG,Ub,v124,v127,v131,Jb,v141,v146,UL,ZbQ,v157⟩ s ZB3 hL ⟨ZjH,ZNr,Zpf,Zh0,Zco,KT,n130,Zed,Zf9,n134,Zhx,Zcn,c138,n139,ZlM,ZeY,c143,n144,ZlL,ZcH,c148,n149,ZlK,a152,Zci,n154,ZlJ,Zgh,c159,n160,rfl,hS,e117,e118,e119,e120,Z3N⟩;cases hS.w7 k3 k4 k5 k6 k7 k8 k9;dsimp only [Zg3] at hL;refine r16 ?_;refine r4 ?_;have hS:=hS.nil (e:= (Zl .i64));refine WC.loop (WL.lift hL (fun p s=>match p with | (ZkT,UK)=>∃ Zdi Zw1 ZH2 c171 n172,s= ⟨Zdi,[],Zw1,none⟩/\Sp wm T h [ow wm (Zl .i64) ZH2 n172 c171 ZkT,bx wm b1 [.int .i64 p0.qG,.slice Zo p0.Zh.length Zn],bx wm b3 (cV none 0 0 none 0 0 none 0 0 none 0 0 none 0 0 none 0 0 0),bx wm b6 (cG Ub Zpf v124.length Zh0 Zco v127.length KT Zed v131.length Zf9 Zcn Jb.length c138 ZeY v141.length c143 ZcH v146.length c148 a152 UL.length Zci ZbQ Zgh v157.length c159),Yb wm Zy a152 UL.length Zci ZlJ UL,X7 wm (Xn Zj) (Zpf,Zh0) v124,ow wm (Zl .i64) Zco v127.length KT v127,Yb wm (Zx (Zl .i64)) Zed v131.length Zf9 Zhx v131,Yb wm (Zx (Zl .i64)) Zcn Jb.length c138 ZlM Jb,Yb wm (Zx (Zl .i64)) ZeY v141.length c143 ZlL v141,Yb wm (Zx Zi) ZcH v146.length c148 ZlK v146,ow wm Zw Zgh v157.length c159 v157] Zw1/\Zdi.at 2= .slice QD p2.length QC/\Zdi.at 3= .pointer (some ⟨b1,0,none⟩)/\Zdi.at 6= .pointer (some ⟨b3,0,none⟩)/\Zdi.at 9= .pointer (some ⟨b6,0,none⟩)/\Zdi.at 12= .int .i64 ZaG/\Zdi.at 13= .slice ZH2 n172 c171/\Zdi.at 35= .slice a152 UL.length Zci/\Zdi.at 36= .int .i64 (UL.length:Int)/\Zdi.at 37= .int .i64 UK) ⟨_,_,none,0,0,rfl,hS.only sl,Qa⟩ ?_);clear hL hS;rintro ZdP ⟨ZkT,UK⟩ s ZB0 hL ⟨Zdi,Zw1,ZH2,c171,n172,rfl,hS,Z3C,e165,e166,e167,e168,ZNZ,Z3B,ZVs,Z3A⟩;obtain rfl:=hS.on k0;dsimp only [Zok] at hL;refine r6 ?_;refine cn hL ?_ ?_
  ·intro hc hL;refine r2 ?_;refine WC.Zd9 (r:=r) (fun(ZyY:(List Int)) s=>∃ Zdh ZCX Zul ZxM n189,s= ⟨Zdh,[],ZCX,none⟩/\Sp wm T h [ow wm (Zl .i64) Zul n189 ZxM ZyY,bx wm b1 [.int .i64 p0.qG,.slice Zo p0.Zh.length Zn],bx wm b3 (cV none 0 0 none 0 0 none 0 0 none 0 0 none 0 0 none 0 0 0),bx wm b6 (cG Ub Zpf v124.length Zh0 Zco v127.length KT Zed v131.length Zf9 Zcn Jb.length c138 ZeY v141.length c143 ZcH v146.length c148 a152 UL.length Zci ZbQ Zgh v157.length c159),Yb wm Zy a152 UL.length Zci ZlJ UL,X7 wm (Xn Zj) (Zpf,Zh0) v124,ow wm (Zl .i64) Zco v127.length KT v127,Yb wm (Zx (Zl .i64)) Zed v131.length Zf9 Zhx v131,Yb wm (Zx (Zl .i64)) Zcn Jb.length c138 ZlM Jb,Yb wm (Zx (Zl .i64)) ZeY v141.length c143 ZlL v141,Yb wm (Zx Zi) ZcH v146.length c148 ZlK v146,ow wm Zw Zgh v157.length c159 v157] ZCX/\Zdh.at 2= .slice QD p2.length QC/\Zdh.at 3= .pointer (some ⟨b1,0,none⟩)/\Zdh.at 6= .pointer (some ⟨b3,0,none⟩)/\Zdh.at 9= .pointer (some ⟨b6,0,none⟩)/\Zdh.at 12= .int .i64 ZaG/\Zdh.at 13= .slice Zul n189 ZxM/\Zdh.at 35= .slice a152 UL.length Zci/\Zdh.at 36= .int .i64 (UL.length:Int)/\Zdh.at 37= .int .i64 UK) (Zoj UK ZdP) ?_ ?_
   ·clear hL hS;rintro ZyY s hL ⟨Zdh,ZCX,Zul,ZxM,n189,rfl,hS,e181,Ydy,Ydx,Ydw,e185,e190,Ydv,Ydu,Ydt⟩;obtain rfl:=hS.on k0;dsimp only [Zoj] at hL;refine r4 ?_;exact Xh.Xx (ZB0 _ _ hL ⟨_,_,Zul,ZxM,ZyY.length,rfl,hS.only sl,Qa⟩)
   ·skip;refine r4 ?_;obtain⟨Zes,Zu8,hL⟩:=bS hL;obtain⟨ZoT,Z9y,ZH0,n198,ZxL,ZLT,Z1a,ZM2⟩:=hS.Un k4 Zu8;refine r1 ?_;refine WO.w gN rfl (QA ZvY WY (Ya fh rfl) ZM2 (j:=0) rfl rfl (ws:= [.int .i64 Zes.Zu,.slice ZH0 n198 ZxL]) rfl) ?_;refine r1 ?_;rintro _ Z3d ⟨YfP,Z77,rfl,hS⟩;refine r2 ?_;rintro Ycj hS;refine r6 ?_;refine WO.w gN rfl (J9 QV lk (congrArg Nat.cast (hS.Uj k5 Zu8 ZLT).1)) ?_;refine r3 ?_;refine cn hL ?_ ?_
    ·intro hc hL;refine r3 ?_;refine WO.hn gN rfl (Kw (e:= (Zl .i64)) hS XJ XL Kt rfl rfl rfl (ZX lk YD) rfl [((),UK)] rfl (xs:= [UK]) rfl (by intro q hq;simp only [List.mem_cons,List.not_mem_nil,or_false] at hq;subst hq;exact trivial) rfl) ?_;rintro _ Ych ⟨Z4D,Z76,rfl,hS⟩;obtain⟨ZJY,ZRS,hL⟩:=bS hL;refine WO.hv gN rfl (Uc (e:= (Zl .i64)) hS k2 X4 lk lk (hS.Qr k0) (hS.on k0) ZRS) ?_;rintro _ ZU3 ⟨a206,ZD0,rfl,hS⟩;refine r3 ?_;exact QU.Xx _ hL ⟨_,_,a206,ZD0,ZJY.length,rfl,hS.only sl,Qa⟩
    ·intro hc hL;refine r2 ?_;exact QU.Xx _ hL ⟨_,_,ZH2,c171,ZkT.length,rfl,hS.only sl,Qa⟩
  ·intro hc hL;refine r13 ?_;refine cn hL ?_ ?_
   ·intro hc hL;refine r1 ?_;refine WC.YJ mixed Kq0 ?_;refine r7 ?_;refine WX.wr (fun x=>x=b6) hS gN rfl (fun _ _ hR=>Xg ZEq (Ya fh rfl) (At.eqv (hR b6 rfl) (hS.QW k3)) (j:=9) rfl (v:= .slice Zgh v157.length c159) rfl) ?_ rfl rfl;rintro Z3c e210 hS;refine r1 ?_;refine WX.hu gN (Zsw hS k2 Zeu lk lk (vs:= (cV Zco v127.length KT Zed v131.length Zf9 Zcn Jb.length c138 ZeY v141.length c143 ZcH v146.length c148 a152 UL.length Zci ZbQ)) rfl rfl rfl rfl (cs':= (cV Zco v127.length KT Zed v131.length Zf9 Zcn Jb.length c138 ZeY v141.length c143 ZcH v146.length c148 a152 UL.length Zci ZbQ)) rfl) ?_ rfl rfl [7] Kq0 (.c .z (hS.dj (.c k2 (.c k2 .n))) YR.e);rintro Ycg hS;refine WX.w gN rfl (J4 lk) ?_ Kq0;refine WX.w gN rfl (J4 lk) ?_ Kq0;refine r8 ?_;have hr:=Oi0 hL;subst hr;exact Z8.gen (vs:= [.agg [.slice Zco v127.length KT,.slice Zed v131.length Zf9,.slice Zcn Jb.length c138,.slice ZeY v141.length c143,.slice ZcH v146.length c148,.slice a152 UL.length Zci,.int .i64 ZbQ].toArray,.slice Zgh v157.length c159,.int .i64 ZaG]) rfl (J5 (ZW rfl (XC rfl (YC rfl (Zr rfl e166)))) (Zd5 Zr4 Zeu (hS.QW k0) (j:=0) rfl rfl (ws:= (cV Zco v127.length KT Zed v131.length Zf9 Zcn Jb.length c138 ZeY v141.length c143 ZcH v146.length c148 a152 UL.length Zci ZbQ)) rfl) (Yr lk (Yr lk Zv))) rfl ⟨_,⟨Zco,v127.length,KT,Zed,v131.length,Zf9,Zhx,Zcn,Jb.length,c138,ZlM,ZeY,v141.length,c143,ZlL,ZcH,v146.length,c148,ZlK,a152,UL.length,Zci,ZlJ,Zgh,v157.length,c159,rfl,rfl⟩,hT ▸ hS.only sl⟩
   ·intro hc hL;refine r5 ?_;obtain⟨ZyF,ZBi,hL⟩:=bS hL;obtain⟨YfM,Z9t,_,Z06,Z2D,Z1G⟩:=Src.at_ (hS.Qr k0) ZBi;refine r5 ?_;refine WC.Zd9 (r:=r) (fun(v222:Int) s=>∃ ZhC ZNk,s= ⟨ZhC,[],ZNk,none⟩/\Sp wm T h [bx wm b1 [.int .i64 p0.qG,.slice Zo p0.Zh.length Zn],bx wm b3 (cV none 0 0 none 0 0 none 0 0 none 0 0 none 0 0 none 0 0 0),bx wm b6 (cG Ub Zpf v124.length Zh0 Zco v127.length KT Zed v131.length Zf9 Zcn Jb.length c138 ZeY v141.length c143 ZcH v146.length c148 a152 UL.length Zci ZbQ Zgh v157.length c159),X7 wm (Xn Zj) (Zpf,Zh0) v124,ow wm (Zl .i64) Zco v127.length KT v127,Yb wm (Zx (Zl .i64)) Zed v131.length Zf9 Zhx v131,Yb wm (Zx (Zl .i64)) Zcn Jb.length c138 ZlM Jb,Yb wm (Zx (Zl .i64)) ZeY v141.length c143 ZlL v141,Yb wm (Zx Zi) ZcH v146.length c148 ZlK v146,Yb wm Zy a152 UL.length Zci ZlJ UL,ow wm Zw Zgh v157.length c159 v157] ZNk/\ZhC.at 2= .slice QD p2.length QC/\ZhC.at 3= .pointer (some ⟨b1,0,none⟩)/\ZhC.at 6= .pointer (some ⟨b3,0,none⟩)/\ZhC.at 9= .pointer (some ⟨b6,0,none⟩)/\ZhC.at 12= .int .i64 ZaG/\ZhC.at 16= .int .i64 v222) (Zg2 F p0 ZaG Ub v124 v127 v131 Jb v141 v146 UL ZbQ v157 ZaK) ?_ ?_
    ·clear hL hS;rintro v222 s hL ⟨ZhC,ZNk,rfl,hS,e217,ZVr,e219,e220,e221,e223⟩;dsimp only [Zg2] at hL;refine r1 ?_;refine WC.YJ mixed Kq0 ?_;refine r4 ?_;obtain⟨Zpz,ZqA,hL⟩:=bS hL;refine WX.w gN rfl (QS (Ya (YC rfl fh) rfl) (Ya fh rfl) (ZmI ZqA)) ?_ rfl;refine r3 ?_;obtain⟨Zpy,Zqz,hL⟩:=bS hL;refine WX.w gN rfl (QS (Ya (YC rfl fh) rfl) (Ya fh rfl) (Zd6 Zqz)) ?_ rfl;obtain⟨ZyE,ZBh,hL⟩:=bS hL;refine WX.cl gN rfl (Xi.fn ZJd (Zb lk (Zb lk (Zb lk Zm)))) hS (.c k2 (.c k3 (.c k3 (.c k3 (.c k3 (.c k3 (.c k3 (.c k3 .n)))))))) (fun g' hz hf hO=>ZDz (p0:= (Z5.mk (Zc.mk Ub v124) (Ze.mk v127 v131 Jb v141 v146 UL ZbQ) v157)) (by rw [hz];exact hS.hw) ((hS.WA k3).mono hf) hO ZBh) ?_ rfl rfl [] Kq0 YR.e;rintro _ Z27 _ ⟨a227,c229,Zx8,n231,c232,a233,n234,ZVW,ZzY,a236,n237,ZtX,ZKy,ZHZ,n240,ZHz,ZKx,Zx7,n243,Z4l,ZKw,ZWF,n246,ZVV,ZKv,ZWE,n249,ZVU,rfl,rfl⟩ hS;cases hS.w7 k2 k3 k4 k5 k6 k7 k8;refine r4 ?_;obtain⟨Ze3,Zl3,hL⟩:=bS hL;refine WO.cl gN rfl (Xi.fn ZCk (Zb lk Zm)) hS (.c k0 (.c k1 (.c k1 (.c k1 (.c k1 (.c k1 (.c k1 (.c k1 .n)))))))) (fun g' hz hf hO=>ZtE (by rw [hz];exact hS.hw) ((hS.WA k1).mono hf) hO Zl3) ?_;rintro _ Z26 _ ⟨ZOU,ZVS,ZOT,n258,ZHx,Zx6,n261,ZxI,ZsF,ZOS,n264,ZHw,ZzW,ZHY,n267,ZHv,ZzV,ZOR,n270,ZOm,ZsE,ZOQ,n273,ZOl,ZzU,ZHX,n276,ZHu,rfl,rfl⟩ hS;cases hS.w7 k2 k3 k4 k5 k6 k7 k8;refine r8 ?_;exact Xh.Xx (ZB3 _ _ hL ⟨_,_,_,_,_,_,_,_,_,_,_,_,_,_,_,_,_,_,_,_,_,_,_,_,_,_,_,_,_,_,rfl,hS.only sl,Qa⟩)
    ·skip;refine r8 ?_;refine cn hL ?_ ?_
     ·intro hc hL;refine r4 ?_;obtain⟨ZPV,ZSn,hL⟩:=bS hL;obtain⟨Yfq,Z89,_,Z0T,Z2n,Z1W,Z1y⟩:=Sl.at_ Wy ZSn;refine r4 ?_;obtain⟨Zv6,Zqx,hL⟩:=bS hL;refine WO.w gN rfl (QS (Ya (YC rfl fh) rfl) (Ya fh rfl) (Zd6 Zqx)) ?_;obtain⟨ZhN,Zqw,hL⟩:=bS hL;obtain⟨Z4B,ZZk,_,ZMk,ZMW,Z1x⟩:=Src.at_ (hS.Qr k0) Zqw;refine r4 ?_;exact QU.Xx _ hL ⟨_,_,rfl,hS.only sl,Qa⟩
     ·intro hc hL;refine r1 ?_;exact QU.Xx _ hL ⟨_,_,rfl,hS.only sl,Qa⟩
theorem ZNH {F wm h} {p0:Z6} {p1:(List YP)} {Zo Zn YQ ZV ZU YB Yu ZT ZP YA ZH ZL ZK Yz ZI ZR ZO Yy ZJ ZQ ZN Yx} {ZM:Nat ->(Option Addr×Nat×Nat)} {ZC ZB Z0 ZY Yw Yn YH YG} {r} (Ye:wm <=h.size) (Yp:Sl Zj wm h ZC ZB p0.qK.Zh) (XR:Sl Ka wm h YH YG p1) (hO:Ym (wm:=wm) (gH wm Yn p0 Zo YQ Zn ZV YB ZU Yu ZT YA ZP ZH ZL Yz ZK ZI ZR Yy ZO ZJ ZQ Yx ZN ZM ZC ZB Z0 Yw ZY) h) (hL:ZDF F p0 p1=some r):
 WR XX 42 #[.pointer (some ⟨Yn,0,none⟩),.slice YH p1.length YG] wm h (CP (fun(v:Value) (Gb:List (Ast wm))=>∃ Xe Qc Y6 Xd YX Y5 Xw Xc YW Y4 Yl Xb YV Y3 Yk Xa YU Y2 Yj Y9 YT Y1,∃ (Yi:Nat ->(Option Addr×Nat×Nat)),∃ Y8 Y0 Y7 YS YZ Jf JD Je,v= .slice Jf JD Je/\Gb= [bx wm Yn (cH Xe Qc Y6 Xd YX Y5 Xc YW Y4 Xb YV Y3 Xa YU Y2 Y9 YT Y1 r.1.Za.kK r.1.qK.qG Y8 r.1.qK.Zh.length Y0 Y7 YS YZ),ow wm (Zl .i64) Xe Qc Y6 r.1.Za.qV,Yb wm (Zx (Zl .i64)) Xd YX Y5 Xw r.1.Za.qX,Yb wm (Zx (Zl .i64)) Xc YW Y4 Yl r.1.Za.qZ,Yb wm (Zx (Zl .i64)) Xb YV Y3 Yk r.1.Za.Zk,Yb wm (Zx Zi) Xa YU Y2 Yj r.1.Za.Zt,Yb wm Zy Y9 YT Y1 Yi r.1.Za.kQ,X7 wm (Xn Zj) (Y8,Y0) r.1.qK.Zh,ow wm Zw Y7 YS YZ r.1.kU,ow wm (Zl .i64) Jf JD Je r.2]) (gH wm Yn p0 Zo YQ Zn ZV YB ZU Yu ZT YA ZP ZH ZL Yz ZK ZI ZR Yy ZO ZJ ZQ Yx ZN ZM ZC ZB Z0 Yw ZY) h):=by
 refine bg Tryz.ntmps42 Ye hO ?_;intro T hT hS;unfold ZDF at hL;cases hS.w7 k1 k2 k3 k4 k5 k6 k7;refine r16 ?_;refine r3 ?_;have hS:=hS.nil (e:= (Zl .i64));have hS:=hS.add (A:=X7 wm (Xn Zj) (ZC,ZB) p0.qK.Zh) (hS.sl Yp) (fun _ z=>z);refine WC.loop (WL.lift hL (fun p s=>match p with | (v4,v11,v13,v17,v22,v27,v32,v37,v42,v43,v44,v47)=>∃ QJ h1 a5 c6 n7 a14 c15 n16 a18 c19 n20 ZsL a23 c24 n25 ZsK a28 c29 n30 Zp5 a33 c34 n35 ZK8 a38 c39 n40,∃ (ZK6:Nat ->(Option Addr×Nat×Nat)),∃ a45 c46 a48 c49 n50,s= ⟨QJ,[],h1,none⟩/\Sp wm T h [ow wm (Zl .i64) a5 n7 c6 v4,ow wm (Zl .i64) a14 n16 c15 v13,Yb wm (Zx (Zl .i64)) a18 n20 c19 ZsL v17,Yb wm (Zx (Zl .i64)) a23 n25 c24 ZsK v22,Yb wm (Zx (Zl .i64)) a28 n30 c29 Zp5 v27,Yb wm (Zx Zi) a33 n35 c34 ZK8 v32,Yb wm Zy a38 n40 c39 ZK6 v37,X7 wm (Xn Zj) (a45,c46) v44,ow wm Zw a48 n50 c49 v47,bx wm Yn (cH a14 n16 c15 a18 n20 c19 a23 n25 c24 a28 n30 c29 a33 n35 c34 a38 n40 c39 v42 v43 a45 v44.length c46 a48 n50 c49)] h1/\QJ.at 0= .pointer (some ⟨Yn,0,none⟩)/\QJ.at 5= .slice a5 n7 c6/\QJ.at 8= .slice YH p1.length YG/\QJ.at 9= .int .i64 (p1.length:Int)/\QJ.at 10= .int .i64 v11) ⟨_,_,_,_,_,_,_,_,_,_,_,_,_,_,_,_,_,_,_,_,_,_,_,_,_,_,_,_,_,_,_,_,_,rfl,hS.only sl,Qa⟩ ?_);clear hL hS;rintro ZgF ⟨v4,v11,v13,v17,v22,v27,v32,v37,v42,v43,v44,v47⟩ s ZGi hL ⟨QJ,h1,a5,c6,n7,a14,c15,n16,a18,c19,n20,ZsL,a23,c24,n25,ZsK,a28,c29,n30,Zp5,a33,c34,n35,ZK8,a38,c39,n40,ZK6,a45,c46,a48,c49,n50,rfl,hS,e3,e8,e9,e10,e12⟩;obtain rfl:=hS.on k0;cases hS.w7 k1 k2 k3 k4 k5 k6 k8;dsimp only [Zog] at hL;refine r6 ?_;refine cn hL ?_ ?_
 ·intro hc hL;refine r2 ?_;refine WC.Zd9 (r:=r) (fun(p:(List Int)×(List Int)×(List (List Int))×(List (List Int))×(List (List Int))×(List (List Zd))×(List Zg)×Int×Int×(List ZG)×(List Zq)) s=>match p with | (v55,v63,v67,v72,v77,v82,v87,v92,v93,v94,v97)=>∃ Ztr h52 a56 c57 n58 a64 c65 n66 a68 c69 n70 Zwz a73 c74 n75 Zwy a78 c79 n80 Zww a83 c84 n85 ZRf a88 c89 n90,∃ (ZRd:Nat ->(Option Addr×Nat×Nat)),∃ a95 c96 a98 c99 n100,s= ⟨Ztr,[],h52,none⟩/\Sp wm T h [ow wm (Zl .i64) a56 n58 c57 v55,ow wm (Zl .i64) a64 n66 c65 v63,Yb wm (Zx (Zl .i64)) a68 n70 c69 Zwz v67,Yb wm (Zx (Zl .i64)) a73 n75 c74 Zwy v72,Yb wm (Zx (Zl .i64)) a78 n80 c79 Zww v77,Yb wm (Zx Zi) a83 n85 c84 ZRf v82,Yb wm Zy a88 n90 c89 ZRd v87,X7 wm (Xn Zj) (a95,c96) v94,ow wm Zw a98 n100 c99 v97,bx wm Yn (cH a64 n66 c65 a68 n70 c69 a73 n75 c74 a78 n80 c79 a83 n85 c84 a88 n90 c89 v92 v93 a95 v94.length c96 a98 n100 c99)] h52/\Ztr.at 0= .pointer (some ⟨Yn,0,none⟩)/\Ztr.at 5= .slice a56 n58 c57/\Ztr.at 8= .slice YH p1.length YG/\Ztr.at 9= .int .i64 (p1.length:Int)/\Ztr.at 10= .int .i64 v11) (ZgZ v11 ZgF) ?_ ?_
  ·clear hL hS;rintro⟨v55,v63,v67,v72,v77,v82,v87,v92,v93,v94,v97⟩ s hL ⟨Ztr,h52,a56,c57,n58,a64,c65,n66,a68,c69,n70,Zwz,a73,c74,n75,Zwy,a78,c79,n80,Zww,a83,c84,n85,ZRf,a88,c89,n90,ZRd,a95,c96,a98,c99,n100,rfl,hS,e54,e59,e60,e61,e62⟩;obtain rfl:=hS.on k0;cases hS.w7 k1 k2 k3 k4 k5 k6 k8;dsimp only [ZgZ] at hL;refine r4 ?_;exact Xh.Xx (ZGi _ _ hL ⟨_,_,_,_,_,_,_,_,_,_,_,_,_,_,_,_,_,_,_,_,_,_,_,_,_,_,_,_,_,_,_,_,_,rfl,hS.only sl,Qa⟩)
  ·skip;refine r4 ?_;obtain⟨x101,hx101,hL⟩:=bS hL;obtain⟨Yf9,Z9V,_,Z1p,ZNf,ZMP,Z1U⟩:=Sl.at_ XR hx101;refine r1 ?_;refine WO.w gN rfl (QA ZEo Zsu (Ya fh rfl) (At.fz hS.fz ZMP ZNf) (j:=0) rfl rfl (ws:= (cS x101)) rfl) ?_;refine r1 ?_;rintro _ YcM ⟨Z4J,Z8k,rfl,hS⟩;refine r2 ?_;rintro YcL hS;refine r6 ?_;obtain⟨x107,ZS6,hL⟩:=bS hL;refine WO.cp gN rfl (Xi.fn ZTW (Zb lk (Zb lk Zm))) (WR.Xl rfl (ZNB (Nat.le_refl _) (p0:= (Z6.mk (Ze.mk v13 v17 v22 v27 v32 v37 v42) (Zc.mk v43 v44) v47)) (hS.QW k10) (.inl (hS.lt k10)) (hS.ord k2) (hS.Yq k3 Zp) (hS.Yq k4 Zp) (hS.Yq k5 Zp) (hS.Yq k6 Zp) (hS.Yq k7 ZA) (hS.JA k8) (hS.ord k9) ZS6)) ?_;refine r2 ?_;refine cn hL ?_ ?_
   ·intro hc hL;refine r4 ?_;obtain⟨Wi,ZqJ,hL⟩:=bS hL;refine WO.cl gN rfl (Xi.fn ZJe (Zb lk (Zb lk Zm))) hS (.c k10 (.c k2 (.c k2 (.c k2 (.c k2 (.c k2 (.c k2 (.c k3 .n)))))))) (fun g' hz hf hO=>ZDA (p0:= (Z6.mk (Ze.mk v13 v17 v22 v27 v32 v37 v42) (Zc.mk v43 v44) v47)) (by rw [hz];exact hS.hw) ((hS.WA k8).mono hf) hO ZqJ) ?_;rintro _ ZCZ _ ⟨a109,n110,ZxP,Za8,n113,ZrP,Zm8,Zyh,n116,c117,ZgC,Zyg,n119,ZbE,ZsG,ZkA,n122,ZrN,Zz1,a124,n125,Zh0,Zz0,a127,KT,a130,n131,Zt3,rfl,rfl⟩ hS;cases hS.w7 k1 k2 k3 k4 k5 k6 k8;refine r5 ?_;refine WO.hn gN rfl (Kw (e:= (Zl .i64)) hS XJ XL Kt rfl rfl rfl (ZX lk YD) rfl [((),v11)] rfl (xs:= [v11]) rfl (by intro q hq;simp only [List.mem_cons,List.not_mem_nil,or_false] at hq;subst hq;exact trivial) rfl) ?_;rintro _ Z3k ⟨ZoV,ZVl,rfl,hS⟩;obtain⟨ZPD,ZRZ,hL⟩:=bS hL;refine WO.hv gN rfl (Uc (e:= (Zl .i64)) hS k11 X4 lk lk (hS.Qr k0) (hS.on k0) ZRZ) ?_;rintro _ Z3j ⟨a138,c139,rfl,hS⟩;refine r3 ?_;exact QU.Xx _ hL ⟨_,_,_,_,_,_,_,_,_,_,_,_,_,_,_,_,_,_,_,_,_,_,_,_,_,_,_,_,_,_,_,_,_,rfl,hS.only sl,Qa⟩
   ·intro hc hL;refine r2 ?_;exact QU.Xx _ hL ⟨_,_,_,_,_,_,_,_,_,_,_,_,_,_,_,_,_,_,_,_,_,_,_,_,_,_,_,_,_,_,_,_,_,rfl,hS.only sl,Qa⟩
 ·intro hc hL;refine r12 ?_;have hr:=Oi0 hL;subst hr;exact Z8.Uu rfl (Yr lk Zv) ⟨_,⟨a14,v13.length,c15,a18,v17.length,c19,ZsL,a23,v22.length,c24,ZsK,a28,v27.length,c29,Zp5,a33,v32.length,c34,ZK8,a38,v37.length,c39,ZK6,a45,c46,a48,v47.length,c49,a5,v4.length,c6,rfl,rfl⟩,hT ▸ hS.only sl⟩
theorem ZNO {F wm h} {p0:Zc} {p1:(List YP)} {p2:(List Int)} {Zo Zn YH YG QD QC} {r} (Ye:wm <=h.size) (Zz:Sl Zj wm h Zo Zn p0.Zh) (XR:Sl Ka wm h YH YG p1) (Wy:Sl (Zl .i64) wm h QD QC p2) (hL:ZtI F p0 p1 p2=some r):
 WR XX 23 #[.agg [.int .i64 p0.qG,.slice Zo p0.Zh.length Zn].toArray,.slice YH p1.length YG,.slice QD p2.length QC] wm h (CP (fun(v:Value) (Gb:List (Ast wm))=>∃ Jf JD Je Zfu Zfi Zfp Zfw Zft Zfh Zfo Zb0 Zfs Zfg Zfn ZbZ Zfr Zff Zfm ZbY Zfq Zfe Zfl,∃ (ZbX:Nat ->(Option Addr×Nat×Nat)),∃ ZpX ZpS ZpV,v= .tuple [.agg [.slice Jf JD Je,.slice Zfu Zfi Zfp,.slice Zft Zfh Zfo,.slice Zfs Zfg Zfn,.slice Zfr Zff Zfm,.slice Zfq Zfe Zfl,.int .i64 r.1.kK].toArray,.slice ZpX ZpS ZpV,.int .i64 r.2.2.1,.int .i64 r.2.2.2].toArray/\Gb= [ow wm (Zl .i64) Jf JD Je r.1.qV,Yb wm (Zx (Zl .i64)) Zfu Zfi Zfp Zfw r.1.qX,Yb wm (Zx (Zl .i64)) Zft Zfh Zfo Zb0 r.1.qZ,Yb wm (Zx (Zl .i64)) Zfs Zfg Zfn ZbZ r.1.Zk,Yb wm (Zx Zi) Zfr Zff Zfm ZbY r.1.Zt,Yb wm Zy Zfq Zfe Zfl ZbX r.1.kQ,ow wm Zw ZpX ZpS ZpV r.2.1]) [] h):=by
 refine bg Tryz.ntmps23 Ye Ym.nil ?_;intro T hT hS;unfold ZtI at hL;refine r3 ?_;rintro _ h2 ⟨b1,eb1,rfl,hS⟩;refine r1 ?_;rintro _ h4 ⟨b3,eb3,rfl,hS⟩;refine r9 ?_;obtain⟨x5,hx5,hL⟩:=bS hL;refine WO.cp gN rfl (Xi.fn ZT3 (Zb lk Zm)) (WR.Xl rfl (ZNJ (Nat.le_refl _) (hS.WN Zz) hx5)) ?_;refine r13 ?_;refine WO.Zay (Zf.no rfl rfl rfl (Zr rfl fh)) (fun hk6=>?_) (fun hk6=>?_)
 ·replace hL:=Q9 hk6 hL;refine WO.inl (Zf.on (Zf.no rfl rfl rfl (Zr rfl fh)) hk6) rfl (Xi.fn ZTY (Zb (Q8 fh rfl hk6) (Zb Zro Zm))) (WF.begin (args:= [_,_]) (fn:=Tryz.f46) Kq0 (by exact rfl) Tryz.ntmps46 (by simp) ?_);simp only [Yh,Yo,Nat.reduceAdd];refine r9 ?_;refine WO.ZeD (r:=r) (fun(v9:Int) (v:Value) (h7:H)=>v= .int .i64 v9/\Sp wm T h [bx wm b1 [.int .i64 p0.qG,.slice Zo p0.Zh.length Zn],bx wm b3 (cV none 0 0 none 0 0 none 0 0 none 0 0 none 0 0 none 0 0 0)] h7) (ZeN F p0 p1 p2) gN rfl (Xi.fn ZTV (Zb lk (Zb lk Zm))) ?_ (WF.begin (args:= [_,_]) (fn:=Tryz.f68) Kq0 (by exact rfl) Tryz.ntmps68 (by simp) ?_)
  ·clear hL hS;rintro v9 v h7 hL ⟨rfl,hS⟩;dsimp only [ZeN] at hL;refine r5 ?_;refine Z8.Uu rfl (Yr lk Zv) ?_;refine WO.w gN rfl (Za6 lk (Znf hk6) lk) ?_;refine r2 ?_;refine cn hL ?_ ?_
   ·intro hc hL;refine r2 ?_;refine WO.w gN rfl (J6 ZD8 YD rfl (cs':= (cV none 0 0 none 0 0 none 0 0 none 0 0 none 0 0 none 0 0 0)) rfl) ?_;refine r1 ?_;rintro h10 hS;refine r7 ?_;have hS:=hS.nil (e:= (Zl .i64));have hS:=hS.Zec (e:= (Zx (Zl .i64))) (ps:=fun _=>(Zx (Zl .i64)).dflt);have hS:=hS.Zec (e:= (Zx (Zl .i64))) (ps:=fun _=>(Zx (Zl .i64)).dflt);have hS:=hS.Zec (e:= (Zx (Zl .i64))) (ps:=fun _=>(Zx (Zl .i64)).dflt);have hS:=hS.Zec (e:= (Zx Zi)) (ps:=fun _=>(Zx Zi).dflt);have hS:=hS.Zec (e:=Zy) (ps:=fun _=>Zy.dflt);have hS:=hS.nil (e:=Zw);have hr:=Oi0 hL;subst hr;exact Z8.gen (vs:= [.agg [.slice none 0 0,.slice none 0 0,.slice none 0 0,.slice none 0 0,.slice none 0 0,.slice none 0 0,.int .i64 0].toArray,.slice none 0 0,.int .i64 0,.int .i64 2]) rfl (J5 (ZW rfl (ZW rfl (ZW rfl fh))) (Zd5 Zr4 Zeu (hS.QW k7) (j:=0) rfl rfl (ws:= (cV none 0 0 none 0 0 none 0 0 none 0 0 none 0 0 none 0 0 0)) rfl) (Yr lk (Yr lk (Yr lk Zv)))) rfl ⟨_,⟨none,0,0,none,0,0,(fun _=>(Zx (Zl .i64)).dflt),none,0,0,(fun _=>(Zx (Zl .i64)).dflt),none,0,0,(fun _=>(Zx (Zl .i64)).dflt),none,0,0,(fun _=>(Zx Zi).dflt),none,0,0,(fun _=>Zy.dflt),none,0,0,rfl,rfl⟩,hT ▸ hS.only sl⟩
   ·intro hc hL;refine r5 ?_;obtain⟨x11,ZBq,hL⟩:=bS hL;refine WO.cl gN rfl (Xi.fn ZT2 (Zb lk Zm)) hS .n (fun g' hz hf hO=>ZNI (by rw [hz];exact hS.hw) ((hS.sl Zz).mono hf) ZBq) ?_;rintro _ h37 _ ⟨b12,a13,n14,c15,a16,n17,c18,Zp3,a19,n20,c21,Zp2,a22,n23,c24,Zp1,a25,n26,c27,ZzX,a28,n29,c30,ZIf,a31,c33,a34,n35,c36,rfl,rfl⟩ hS;cases hS.w7 k1 k2 k3 k4 k5 k6 k8;refine r7 ?_;obtain⟨x39,hx39,hL⟩:=bS hL;refine WO.cl gN rfl (Xi.fn ZT1 (Zb lk (Zb lk Zm))) hS (.c k0 (.c k0 (.c k0 (.c k0 (.c k0 (.c k0 (.c k0 (.c k1 .n)))))))) (fun g' hz hf hO=>ZNH (by rw [hz];exact hS.hw) ((hS.WA k7).mono hf) ((hS.sl XR).mono hf) hO hx39) ?_;rintro _ h67 _ ⟨a40,n41,c42,a43,n44,c45,ZQ2,a46,n47,c48,ZQ0,a49,n50,c51,ZQZ,a52,n53,c54,ZQY,a55,n56,c57,Z5G,a58,c60,a61,n62,c63,a64,n65,c66,rfl,rfl⟩ hS;cases hS.w7 k1 k2 k3 k4 k5 k6 k8;obtain rfl:=hS.on k9;refine r9 ?_;refine WC.loop (WL.lift hL (fun p s=>match p with | (v75,v77,v81,v86,v91,v96,Jq,ZbR,v107,Wm,K3)=>∃ Ztq h69 a78 c79 n80 a82 c83 n84 ZgD a87 c88 n89 Zwu a92 c93 n94 Zwt a97 c98 n99 ZlT ZdE ZbF n104,∃ (ZlS:Nat ->(Option Addr×Nat×Nat)),∃ a109 Zcj Za8 Zhi n114,s= ⟨Ztq,[],h69,none⟩/\Sp wm T h [bx wm b1 [.int .i64 p0.qG,.slice Zo p0.Zh.length Zn],bx wm b3 (cV none 0 0 none 0 0 none 0 0 none 0 0 none 0 0 none 0 0 0),ow wm (Zl .i64) a78 n80 c79 v77,Yb wm (Zx (Zl .i64)) a82 n84 c83 ZgD v81,Yb wm (Zx (Zl .i64)) a87 n89 c88 Zwu v86,Yb wm (Zx (Zl .i64)) a92 n94 c93 Zwt v91,Yb wm (Zx Zi) a97 n99 c98 ZlT v96,Yb wm Zy ZdE n104 ZbF ZlS Jq,X7 wm (Xn Zj) (a109,Zcj) Wm,ow wm Zw Za8 n114 Zhi K3,bx wm b12 (cH a78 n80 c79 a82 n84 c83 a87 n89 c88 a92 n94 c93 a97 n99 c98 ZdE n104 ZbF ZbR v107 a109 Wm.length Zcj Za8 n114 Zhi)] h69/\Ztq.at 2= .slice QD p2.length QC/\Ztq.at 3= .pointer (some ⟨b1,0,none⟩)/\Ztq.at 6= .pointer (some ⟨b3,0,none⟩)/\Ztq.at 10= .pointer (some ⟨b12,0,none⟩)/\Ztq.at 11= .int .i64 v75) ⟨_,_,_,_,_,_,_,_,_,_,_,_,_,_,_,_,_,_,_,_,_,_,_,_,_,_,_,_,_,_,rfl,hS.only sl,Qa⟩ ?_);clear hL hS;rintro ZaL ⟨v75,v77,v81,v86,v91,v96,Jq,ZbR,v107,Wm,K3⟩ s ZB8 hL ⟨Ztq,h69,a78,c79,n80,a82,c83,n84,ZgD,a87,c88,n89,Zwu,a92,c93,n94,Zwt,a97,c98,n99,ZlT,ZdE,ZbF,n104,ZlS,a109,Zcj,Za8,Zhi,n114,rfl,hS,e71,e72,e73,e74,e76⟩;cases hS.w7 k2 k3 k4 k5 k6 k7 k9;dsimp only [Zg5] at hL;refine r16 ?_;refine r4 ?_;have hS:=hS.nil (e:= (Zl .i64));refine WC.loop (WL.lift hL (fun p s=>match p with | (Ub,v130)=>∃ Zdk h116 a124 Zdu n126,s= ⟨Zdk,[],h116,none⟩/\Sp wm T h [ow wm (Zl .i64) a124 n126 Zdu Ub,bx wm b1 [.int .i64 p0.qG,.slice Zo p0.Zh.length Zn],bx wm b3 (cV none 0 0 none 0 0 none 0 0 none 0 0 none 0 0 none 0 0 0),bx wm b12 (cH a78 v77.length c79 a82 v81.length c83 a87 v86.length c88 a92 v91.length c93 a97 v96.length c98 ZdE Jq.length ZbF ZbR v107 a109 Wm.length Zcj Za8 K3.length Zhi),Yb wm Zy ZdE Jq.length ZbF ZlS Jq,ow wm (Zl .i64) a78 v77.length c79 v77,Yb wm (Zx (Zl .i64)) a82 v81.length c83 ZgD v81,Yb wm (Zx (Zl .i64)) a87 v86.length c88 Zwu v86,Yb wm (Zx (Zl .i64)) a92 v91.length c93 Zwt v91,Yb wm (Zx Zi) a97 v96.length c98 ZlT v96,X7 wm (Xn Zj) (a109,Zcj) Wm,ow wm Zw Za8 K3.length Zhi K3] h116/\Zdk.at 2= .slice QD p2.length QC/\Zdk.at 3= .pointer (some ⟨b1,0,none⟩)/\Zdk.at 6= .pointer (some ⟨b3,0,none⟩)/\Zdk.at 10= .pointer (some ⟨b12,0,none⟩)/\Zdk.at 11= .int .i64 v75/\Zdk.at 12= .slice a124 n126 Zdu/\Zdk.at 45= .slice ZdE Jq.length ZbF/\Zdk.at 46= .int .i64 (Jq.length:Int)/\Zdk.at 47= .int .i64 v130) ⟨_,_,none,0,0,rfl,hS.only sl,Qa⟩ ?_);clear hL hS;rintro ZdS ⟨Ub,v130⟩ s ZB7 hL ⟨Zdk,h116,a124,Zdu,n126,rfl,hS,e118,e119,e120,YdF,Z3N,e127,e128,e129,ZDO⟩;obtain rfl:=hS.on k0;dsimp only [Zoo] at hL;refine r6 ?_;refine cn hL ?_ ?_
    ·intro hc hL;refine r2 ?_;refine WC.Zd9 (r:=r) (fun(KZ:(List Int)) s=>∃ Zdj ZCZ a141 Zkl n143,s= ⟨Zdj,[],ZCZ,none⟩/\Sp wm T h [ow wm (Zl .i64) a141 n143 Zkl KZ,bx wm b1 [.int .i64 p0.qG,.slice Zo p0.Zh.length Zn],bx wm b3 (cV none 0 0 none 0 0 none 0 0 none 0 0 none 0 0 none 0 0 0),bx wm b12 (cH a78 v77.length c79 a82 v81.length c83 a87 v86.length c88 a92 v91.length c93 a97 v96.length c98 ZdE Jq.length ZbF ZbR v107 a109 Wm.length Zcj Za8 K3.length Zhi),Yb wm Zy ZdE Jq.length ZbF ZlS Jq,ow wm (Zl .i64) a78 v77.length c79 v77,Yb wm (Zx (Zl .i64)) a82 v81.length c83 ZgD v81,Yb wm (Zx (Zl .i64)) a87 v86.length c88 Zwu v86,Yb wm (Zx (Zl .i64)) a92 v91.length c93 Zwt v91,Yb wm (Zx Zi) a97 v96.length c98 ZlT v96,X7 wm (Xn Zj) (a109,Zcj) Wm,ow wm Zw Za8 K3.length Zhi K3] ZCZ/\Zdj.at 2= .slice QD p2.length QC/\Zdj.at 3= .pointer (some ⟨b1,0,none⟩)/\Zdj.at 6= .pointer (some ⟨b3,0,none⟩)/\Zdj.at 10= .pointer (some ⟨b12,0,none⟩)/\Zdj.at 11= .int .i64 v75/\Zdj.at 12= .slice a141 n143 Zkl/\Zdj.at 45= .slice ZdE Jq.length ZbF/\Zdj.at 46= .int .i64 (Jq.length:Int)/\Zdj.at 47= .int .i64 v130) (Zon v130 ZdS) ?_ ?_
     ·clear hL hS;rintro KZ s hL ⟨Zdj,ZCZ,a141,Zkl,n143,rfl,hS,Z3M,YdD,e137,e138,YdC,ZVw,Z3I,Z3H,Z3G⟩;obtain rfl:=hS.on k0;dsimp only [Zon] at hL;refine r4 ?_;exact Xh.Xx (ZB7 _ _ hL ⟨_,_,a141,Zkl,KZ.length,rfl,hS.only sl,Qa⟩)
     ·skip;refine r4 ?_;obtain⟨Zv9,Zu9,hL⟩:=bS hL;obtain⟨Yf0,Z9K,Zls,n152,Zci,ZLU,Z1i,ZNa⟩:=hS.Un k4 Zu9;refine r1 ?_;refine WO.w gN rfl (QA ZvY WY (Ya fh rfl) ZNa (j:=0) rfl rfl (ws:= [.int .i64 Zv9.Zu,.slice Zls n152 Zci]) rfl) ?_;refine r1 ?_;rintro _ ZGz ⟨ZWo,Z8f,rfl,hS⟩;refine r2 ?_;rintro Ycy hS;refine r6 ?_;refine WO.w gN rfl (J9 QV lk (congrArg Nat.cast (hS.Uj k5 Zu9 ZLU).1)) ?_;refine r3 ?_;refine cn hL ?_ ?_
      ·intro hc hL;refine r3 ?_;refine WO.hn gN rfl (Kw (e:= (Zl .i64)) hS XJ XL Kt rfl rfl rfl (ZX lk YD) rfl [((),v130)] rfl (xs:= [v130]) rfl (by intro q hq;simp only [List.mem_cons,List.not_mem_nil,or_false] at hq;subst hq;exact trivial) rfl) ?_;rintro _ Ycx ⟨YfW,Z8e,rfl,hS⟩;obtain⟨z159,ZRY,hL⟩:=bS hL;refine WO.hv gN rfl (Uc (e:= (Zl .i64)) hS k2 X4 lk lk (hS.Qr k0) (hS.on k0) ZRY) ?_;rintro _ Zw1 ⟨a160,Z4u,rfl,hS⟩;refine r3 ?_;exact QU.Xx _ hL ⟨_,_,a160,Z4u,z159.length,rfl,hS.only sl,Qa⟩
      ·intro hc hL;refine r2 ?_;exact QU.Xx _ hL ⟨_,_,a124,Zdu,Ub.length,rfl,hS.only sl,Qa⟩
    ·intro hc hL;refine r13 ?_;refine cn hL ?_ ?_
     ·intro hc hL;refine r2 ?_;refine Zgk.kX rfl ?_;refine r5 ?_;refine WC.YJ mixed Kq0 ?_;refine r7 ?_;refine WX.wr (fun x=>x=b12) hS gN rfl (fun _ _ hR=>Xg ZEq (Ya fh rfl) (At.eqv (hR b12 rfl) (hS.QW k3)) (j:=9) rfl (v:= .slice Za8 K3.length Zhi) rfl) ?_ rfl rfl;rintro ZNp Z3C hS;refine r1 ?_;refine WX.hu gN (Zsw hS k2 Zeu lk lk (vs:= (cV a78 v77.length c79 a82 v81.length c83 a87 v86.length c88 a92 v91.length c93 a97 v96.length c98 ZdE Jq.length ZbF ZbR)) rfl rfl rfl rfl (cs':= (cV a78 v77.length c79 a82 v81.length c83 a87 v86.length c88 a92 v91.length c93 a97 v96.length c98 ZdE Jq.length ZbF ZbR)) rfl) ?_ rfl rfl [7] Kq0 (.c .z (hS.dj (.c k2 (.c k2 .n))) YR.e);rintro Ycw hS;refine WX.w gN rfl (J4 lk) ?_ Kq0;refine WX.w gN rfl (J4 lk) ?_ Kq0;refine WX.w gN rfl (J4 lk) ?_ Kq0;refine r3 ?_;have hr:=Oi0 hL;subst hr;exact Z8.gen (vs:= [.agg [.slice a78 v77.length c79,.slice a82 v81.length c83,.slice a87 v86.length c88,.slice a92 v91.length c93,.slice a97 v96.length c98,.slice ZdE Jq.length ZbF,.int .i64 ZbR].toArray,.slice Za8 K3.length Zhi,.int .i64 v75,.int .i64 0]) rfl (J5 (ZW rfl (ZW rfl e120)) (Zd5 Zr4 Zeu (hS.QW k0) (j:=0) rfl rfl (ws:= (cV a78 v77.length c79 a82 v81.length c83 a87 v86.length c88 a92 v91.length c93 a97 v96.length c98 ZdE Jq.length ZbF ZbR)) rfl) (Yr lk (Yr lk (Yr lk Zv)))) rfl ⟨_,⟨a78,v77.length,c79,a82,v81.length,c83,ZgD,a87,v86.length,c88,Zwu,a92,v91.length,c93,Zwt,a97,v96.length,c98,ZlT,ZdE,Jq.length,ZbF,ZlS,Za8,K3.length,Zhi,rfl,rfl⟩,hT ▸ hS.only sl⟩
     ·intro hc hL;refine r5 ?_;obtain⟨ZkN,ZqF,hL⟩:=bS hL;obtain⟨Z4G,ZZp,_,ZMt,ZM6,ZME⟩:=Src.at_ (hS.Qr k0) ZqF;refine r5 ?_;refine WC.Zd9 (r:=r) (fun(UK:Int) s=>∃ ZhD ZNo,s= ⟨ZhD,[],ZNo,none⟩/\Sp wm T h [bx wm b1 [.int .i64 p0.qG,.slice Zo p0.Zh.length Zn],bx wm b3 (cV none 0 0 none 0 0 none 0 0 none 0 0 none 0 0 none 0 0 0),bx wm b12 (cH a78 v77.length c79 a82 v81.length c83 a87 v86.length c88 a92 v91.length c93 a97 v96.length c98 ZdE Jq.length ZbF ZbR v107 a109 Wm.length Zcj Za8 K3.length Zhi),ow wm (Zl .i64) a78 v77.length c79 v77,Yb wm (Zx (Zl .i64)) a82 v81.length c83 ZgD v81,Yb wm (Zx (Zl .i64)) a87 v86.length c88 Zwu v86,Yb wm (Zx (Zl .i64)) a92 v91.length c93 Zwt v91,Yb wm (Zx Zi) a97 v96.length c98 ZlT v96,Yb wm Zy ZdE Jq.length ZbF ZlS Jq,X7 wm (Xn Zj) (a109,Zcj) Wm,ow wm Zw Za8 K3.length Zhi K3] ZNo/\ZhD.at 2= .slice QD p2.length QC/\ZhD.at 3= .pointer (some ⟨b1,0,none⟩)/\ZhD.at 6= .pointer (some ⟨b3,0,none⟩)/\ZhD.at 10= .pointer (some ⟨b12,0,none⟩)/\ZhD.at 11= .int .i64 v75/\ZhD.at 15= .int .i64 UK) (Zg4 F p0 v75 v77 v81 v86 v91 v96 Jq ZbR v107 Wm K3 ZaL) ?_ ?_
      ·clear hL hS;rintro UK s hL ⟨ZhD,ZNo,rfl,hS,Ydz,ZVt,ZNZ,Z3B,ZVs,Z3A⟩;dsimp only [Zg4] at hL;refine WC.YJ mixed Kq0 ?_;refine r4 ?_;obtain⟨ZFj,ZSV,hL⟩:=bS hL;refine WX.w gN rfl (QS (Ya (YC rfl fh) rfl) (Ya fh rfl) (ZmI ZSV)) ?_ rfl;refine r3 ?_;obtain⟨ZFi,ZSU,hL⟩:=bS hL;refine WX.w gN rfl (QS (Ya (YC rfl fh) rfl) (Ya fh rfl) (Zd6 ZSU)) ?_ rfl;refine WX.w gN rfl (J6 ZV7 (ZX lk (ZX lk (ZX lk YD))) rfl (cs':= [.int .i64 4,.int .i64 ZFj,.int .i64 ZFi]) rfl) ?_ rfl;obtain⟨ZiT,ZSS,hL⟩:=bS hL;refine WX.cl gN rfl (Xi.fn ZJe (Zb lk (Zb lk Zm))) hS (.c k2 (.c k2 (.c k2 (.c k2 (.c k2 (.c k2 (.c k2 (.c k3 .n)))))))) (fun g' hz hf hO=>ZDA (p0:= (Z6.mk (Ze.mk v77 v81 v86 v91 v96 Jq ZbR) (Zc.mk v107 Wm) K3)) (p1:= (YP.mk 4 ZFj ZFi)) (by rw [hz];exact hS.hw) ((hS.WA k9).mono hf) hO ZSS) ?_ rfl rfl [] Kq0 YR.e;rintro _ ZNm _ ⟨Zh5,n182,c183,Zh4,n185,ZV2,ZzZ,Zul,n188,Zt0,ZKL,ZEE,n191,Z4q,ZYX,a193,n194,ZD1,ZYV,a196,n197,c198,ZYT,Zr8,c201,ZWI,n203,ZtY,rfl,rfl⟩ hS;cases hS.w7 k1 k2 k3 k4 k5 k6 k8;refine r8 ?_;exact Xh.Xx (ZB8 _ _ hL ⟨_,_,_,_,_,_,_,_,_,_,_,_,_,_,_,_,_,_,_,_,_,_,_,_,_,_,_,_,_,_,rfl,hS.only sl,Qa⟩)
      ·skip;refine r8 ?_;refine cn hL ?_ ?_
       ·intro hc hL;refine r4 ?_;obtain⟨ZhO,Zl4,hL⟩:=bS hL;obtain⟨ZOt,ZZm,_,Zti,ZCS,Z10,Z1J⟩:=Sl.at_ Wy Zl4;refine r4 ?_;obtain⟨ZyG,ZBj,hL⟩:=bS hL;refine WO.w gN rfl (QS (Ya (YC rfl fh) rfl) (Ya fh rfl) (Zd6 ZBj)) ?_;obtain⟨ZQa,ZSK,hL⟩:=bS hL;obtain⟨YfN,Z9u,_,Z07,Z2E,Z1H⟩:=Src.at_ (hS.Qr k0) ZSK;refine r4 ?_;exact QU.Xx _ hL ⟨_,_,rfl,hS.only sl,Qa⟩
       ·intro hc hL;refine r1 ?_;exact QU.Xx _ hL ⟨_,_,rfl,hS.only sl,Qa⟩
  ·skip;simp only [Yh,Yo,Nat.reduceAdd];refine r14 ?_;refine WC.loop (WL.lift hL (fun Zbf s=>∃ Zmj ZNl,s= ⟨Zmj,[],ZNl,none⟩/\Sp wm T h [bx wm b1 [.int .i64 p0.qG,.slice Zo p0.Zh.length Zn],bx wm b3 (cV none 0 0 none 0 0 none 0 0 none 0 0 none 0 0 none 0 0 0)] ZNl/\Zmj.at 0= .slice QD p2.length QC/\Zmj.at 1= .func (.func 47) #[] [].toArray/\Zmj.at 7= .int .i64 (p2.length:Int)/\Zmj.at 8= .int .i64 Zbf) ⟨_,_,rfl,hS.only sl,Qa⟩ ?_);clear hL hS;rintro ZuP Zbf s ZBY hL ⟨Zmj,ZNl,rfl,hS,e216,e217,ZVr,e220⟩;dsimp only [ZeO] at hL;refine r6 ?_;refine cn hL ?_ ?_
   ·intro hc hL;refine r15 ?_;obtain⟨ZP7,ZSF,hL⟩:=bS hL;obtain⟨YfL,Z9s,_,Z05,Z2C,Z1Y,Z1F⟩:=Sl.at_ Wy ZSF;refine r2 ?_;obtain⟨Zpy,Zqz,hL⟩:=bS hL;refine WO.cp gN rfl (Xi.clo (first:= []) (cap:= []) lk ZTX lks rfl) (WR.Xl rfl (ZND (Nat.le_refl _) Zqz)) ?_;refine r2 ?_;refine cn hL ?_ ?_
    ·intro hc hL;refine r12 ?_;exact Z8.Uu rfl (Yr lk Zv) ⟨_,hL,⟨rfl,hS.only sl⟩⟩
    ·intro hc hL;refine r7 ?_;exact Xh.Xx (ZBY _ _ hL ⟨_,_,rfl,hS.only sl,Qa⟩)
   ·intro hc hL;refine WQ ?_;exact Z8.Uu rfl (Yr lk Zv) ⟨_,hL,⟨rfl,hS.only sl⟩⟩
 ·replace hL:=Ja hk6 hL;refine WO.XO (Zf.no rfl rfl rfl (Zr rfl fh)) hk6 rfl ?_;refine WO.w gN rfl (ZaD lk (Zng hk6) lk) ?_;refine r2 ?_;refine WC.ZoI lk rfl ?_;refine r2 ?_;refine WO.w gN rfl (J6 ZD8 YD rfl (cs':= (cV none 0 0 none 0 0 none 0 0 none 0 0 none 0 0 none 0 0 0)) rfl) ?_;refine r1 ?_;rintro Yca hS;refine r7 ?_;have hS:=hS.nil (e:= (Zl .i64));have hS:=hS.Zec (e:= (Zx (Zl .i64))) (ps:=fun _=>(Zx (Zl .i64)).dflt);have hS:=hS.Zec (e:= (Zx (Zl .i64))) (ps:=fun _=>(Zx (Zl .i64)).dflt);have hS:=hS.Zec (e:= (Zx (Zl .i64))) (ps:=fun _=>(Zx (Zl .i64)).dflt);have hS:=hS.Zec (e:= (Zx Zi)) (ps:=fun _=>(Zx Zi).dflt);have hS:=hS.Zec (e:=Zy) (ps:=fun _=>Zy.dflt);have hS:=hS.nil (e:=Zw);have hr:=Oi0 hL;subst hr;exact Z8.gen (vs:= [.agg [.slice none 0 0,.slice none 0 0,.slice none 0 0,.slice none 0 0,.slice none 0 0,.slice none 0 0,.int .i64 0].toArray,.slice none 0 0,.int .i64 0,.int .i64 2]) rfl (J5 (ZW rfl (ZW rfl (ZW rfl fh))) (Zd5 Zr4 Zeu (hS.QW k7) (j:=0) rfl rfl (ws:= (cV none 0 0 none 0 0 none 0 0 none 0 0 none 0 0 none 0 0 0)) rfl) (Yr lk (Yr lk (Yr lk Zv)))) rfl ⟨_,⟨none,0,0,none,0,0,(fun _=>(Zx (Zl .i64)).dflt),none,0,0,(fun _=>(Zx (Zl .i64)).dflt),none,0,0,(fun _=>(Zx (Zl .i64)).dflt),none,0,0,(fun _=>(Zx Zi).dflt),none,0,0,(fun _=>Zy.dflt),none,0,0,rfl,rfl⟩,hT ▸ hS.only sl⟩
end
section
def f4L (F:Nat) (p0:Zc) (p1:(List YP)) (p2:(List Int)):Option Bool:=
 (ZGY p0).bind fun x3=>(bif(((!x3) || (decide ((p1.length:Int) > 120))) || (decide ((p2.length:Int) > 120))) then(Zxu).bind fun x4=>some x4 else(ZtI F p0 p1 p2).bind fun x5=>(Zxt F p0).bind fun x32=>(gd (!((!x32) || (decide ((p1.length:Int) > 100)))) (ZtH F p2) default).bind fun x33=>(bif(((!x32) || (decide ((p1.length:Int) > 100))) || (!x33)) then(gd (x5.2.2.2==2) (Zxs F x5.1) default).bind fun x34=>(gd ((((x5.2.2.2==2) && x34) && ((x5.2.1.length:Int)==0)) && (x5.2.2.1==0)) (Zxu) default).bind fun x35=>some (((((x5.2.2.2==2) && x34) && ((x5.2.1.length:Int)==0)) && (x5.2.2.1==0)) && x35) else(ZDK F p0 p1 p2).bind fun x36=>(gd (x5.2.2.2==0) (ZtJ F x5.1 x36.1) default).bind fun x63=>(gd ((x5.2.2.2==0) && x63) (Zxr F x5.2.1 x36.2.1) default).bind fun x64=>(gd ((((x5.2.2.2==0) && x63) && x64) && (x5.2.2.1==x36.2.2)) (Zxu) default).bind fun x65=>some (((((x5.2.2.2==0) && x63) && x64) && (x5.2.2.1==x36.2.2)) && x65)))
end
section
open Go.Xv Go.Lf
theorem ZVb {F wm h} {p0:Zc} {p1:(List YP)} {p2:(List Int)} {Zo Zn YH YG QD QC} {r} (Ye:wm <=h.size) (Zz:Sl Zj wm h Zo Zn p0.Zh) (XR:Sl Ka wm h YH YG p1) (Wy:Sl (Zl .i64) wm h QD QC p2) (hL:f4L F p0 p1 p2=some r):
 WR XX 4 #[.agg [.int .i64 p0.qG,.slice Zo p0.Zh.length Zn].toArray,.slice YH p1.length YG,.slice QD p2.length QC] wm h (CP (fun(v:Value) (Gb:List (Ast wm))=>v= .bool r/\Gb= []) [] h):=by
 refine bg Tryz.ntmps4 Ye Ym.nil ?_;intro T hT hS;unfold f4L at hL;refine r3 ?_;rintro _ h2 ⟨b1,eb1,rfl,hS⟩;refine r7 ?_;obtain⟨x3,hx3,hL⟩:=bS hL;refine WO.cp gN rfl (Xi.fn ZUa (Zb lk Zm)) (WR.Xl rfl (ZNX (Nat.le_refl _) (hS.WN Zz) hx3)) ?_;refine r13 ?_;refine cn hL ?_ ?_
 ·intro hc hL;refine r2 ?_;obtain⟨x4,hx4,hL⟩:=bS hL;refine WO.cp gN rfl (Xi.fn ZCl Zm) (ZtK hx4) ?_;refine r5 ?_;exact rt hL hT hS
 ·intro hc hL;refine r7 ?_;obtain⟨x5,hx5,hL⟩:=bS hL;refine WO.cl gN rfl (Xi.fn ZT6 (Zb lk (Zb lk (Zb lk Zm)))) hS .n (fun g' hz hf hO=>ZNO (by rw [hz];exact hS.hw) ((hS.sl Zz).mono hf) ((hS.sl XR).mono hf) ((hS.sl Wy).mono hf) hx5) ?_;rintro _ h27 _ ⟨a6,n7,c8,a9,n10,c11,ZQJ,a12,n13,c14,ZIg,a15,n16,c17,ZuF,a18,n19,c20,ZuE,a21,n22,c23,ZuD,a24,n25,c26,rfl,rfl⟩ hS;cases hS.w7 k0 k1 k2 k3 k4 k5 k6;refine r6 ?_;rintro _ h30 ⟨b29,Yde,rfl,hS⟩;refine r1 ?_;rintro h31 hS;refine r9 ?_;obtain⟨x32,hx32,hL⟩:=bS hL;refine WO.cp gN rfl (Xi.fn ZT9 (Zb lk Zm)) (ZNW (hS.WN Zz) hx32) ?_;refine r8 ?_;obtain⟨x33,ZwV,hL⟩:=XM hL;refine WO.gcp (Zf.no rfl rfl rfl (Zr rfl fh)) rfl (fun hg=>(Xi.fn ZT5 (Zb (Q8 fh rfl hg) Zm))) (fun hg=>ZNN (hS.WN Wy) (ZwV hg)) ?_;refine r4 ?_;refine cn hL ?_ ?_
  ·intro hc hL;refine r6 ?_;obtain⟨x34,hx34,hL⟩:=XM hL;refine WO.gcp (Zf.yes rfl rfl rfl (Zr rfl fh)) rfl (fun hg=>(Xi.fn ZT8 (Zb (Q8 fh rfl hg) Zm))) (fun hg=>ZNU (hS.ord k1) (hS.Yq k2 Zp) (hS.Yq k3 Zp) (hS.Yq k4 Zp) (hS.Yq k5 Zp) (hS.Yq k6 ZA) (hx34 hg)) ?_;refine WQ ?_;obtain⟨x35,ZLI,hL⟩:=XM hL;refine WO.gcp (Zf.yes rfl rfl rfl fh) rfl (fun hg=>(Xi.fn ZCl Zm)) (fun hg=>ZtK (ZLI hg)) ?_;refine r6 ?_;exact rt hL hT hS
  ·intro hc hL;refine r7 ?_;obtain⟨x36,Z0j,hL⟩:=bS hL;refine WO.cl gN rfl (Xi.fn ZT4 (Zb lk (Zb lk (Zb lk Zm)))) hS .n (fun g' hz hf hO=>ZNL (by rw [hz];exact hS.hw) ((hS.sl Zz).mono hf) ((hS.sl XR).mono hf) ((hS.sl Wy).mono hf) Z0j) ?_;rintro _ h58 _ ⟨a37,n38,c39,a40,n41,c42,Z5H,a43,n44,c45,ZQ2,a46,n47,c48,ZQ0,a49,n50,c51,ZQZ,a52,n53,c54,ZQY,a55,n56,c57,rfl,rfl⟩ hS;simp only [List.cons_append,List.nil_append] at hS;cases hS.w7 k0 k1 k2 k3 k4 k5 k6;refine r5 ?_;rintro _ h61 ⟨b60,Z3u,rfl,hS⟩;refine r1 ?_;rintro h62 hS;refine WQ ?_;obtain⟨x63,Z0b,hL⟩:=XM hL;refine WO.gcp (Zf.yes rfl rfl rfl (YC rfl fh)) rfl (fun hg=>(Xi.fn ZJi (Zb (Q8 (Zr rfl fh) rfl hg) (Zb (Q8 fh rfl hg) Zm)))) (fun hg=>ZDL (hS.ord k9) (hS.Yq k10 Zp) (hS.Yq k11 Zp) (hS.Yq k12 Zp) (hS.Yq k13 Zp) (hS.Yq k14 ZA) (hS.ord k1) (hS.Yq k2 Zp) (hS.Yq k3 Zp) (hS.Yq k4 Zp) (hS.Yq k5 Zp) (hS.Yq k6 ZA) (Z0b hg)) ?_;refine r4 ?_;obtain⟨x64,ZLE,hL⟩:=XM hL;refine WO.gcp (Zf.yes rfl rfl rfl (YC rfl fh)) rfl (fun hg=>(Xi.fn ZT7 (Zb (Q8 (Zr rfl fh) rfl hg) (Zb (Q8 fh rfl hg) Zm)))) (fun hg=>ZNR (hS.ord k15) (hS.ord k7) (ZLE hg)) ?_;refine r7 ?_;obtain⟨x65,ZA0,hL⟩:=XM hL;refine WO.gcp (Zf.yes rfl rfl rfl fh) rfl (fun hg=>(Xi.fn ZCl Zm)) (fun hg=>ZtK (ZA0 hg)) ?_;refine r5 ?_;exact rt hL hT hS
theorem ZVc {F h} {p0:Zc} {p1:(List YP)} {p2:(List Int)} {Zo Zn YH YG QD QC} {r} (Zz:Sl Zj h.size h Zo Zn p0.Zh) (XR:Sl Ka h.size h YH YG p1) (Wy:Sl (Zl .i64) h.size h QD QC p2) (hL:f4L F p0 p1 p2=some r):Pure XX 4 #[.agg [.int .i64 p0.qG,.slice Zo p0.Zh.length Zn].toArray,.slice YH p1.length YG,.slice QD p2.length QC] h (.bool r):=
 WR.Xl rfl (ZVb (Nat.le_refl _) Zz XR Wy hL)
end
section
end
end Go.Proofs.YtcnahmgekicbdaaGreat
end
end
section
namespace Go.Lf
theorem ZyJ {k:Nat} (h:k < 4611686018427387904):Yd ((k:Int) + 1)= ((k + 1:Nat):Int):=by
 rw [Zam (by omega) (by omega)];rfl
theorem Zub {α:Type} {JO:Nat} {xs ys:List α} (h:xs.length + ys.length <=1000000) (hb:JO <=1000):app JO xs ys=some (xs ++ ys):=
 Zuc (Nat.le_trans (Nat.mul_le_mul (show 2 * (xs.length + ys.length) + 1000 <=2001000 by omega) hb) (by decide))
def iter {α β σ:Type} (g:Nat ->α ->σ ->(σ ->Option β) ->Option β) (d:σ ->Option β):Nat ->List α ->σ ->Option β
 | _,[],s=>d s
 | i,x::l,s=>g i x s (fun s'=>iter g d (i + 1) l s')
end Go.Lf
end
section
namespace Go.Proofs.YtcnahmgekicbdaaGreat
open Go.Lf
section
section
variable {β γ:Type}
theorem ZwI {body:γ ->(γ ->Option β) ->Option β} {r:Option β} (S:Nat ->γ) {n F:Nat} (hF:n < F) (hb:∀ k,k < n ->∀ next,body (S k) next=next (S (k + 1))) (he:∀ next,body (S n) next=r):loop F body (S 0)=r:=by
 have:∀ j F,j <=n ->n - j < F ->loop F body (S j)=r:=by
  intro j F hj hF;obtain⟨d,hd⟩:∃ d,d=n - j:= ⟨_,rfl⟩
  induction d generalizing j F with
  | zero=>
    have:j=n:=by omega
    subst this;cases F with
    | zero=>omega
    | succ F=>rw [Jp];exact he _
  | succ d ih=>
    cases F with
    | zero=>omega
    | succ F=>rw [Jp,hb j (by omega)];exact ih (j + 1) F (by omega) (by omega) (by omega)
 exact this 0 F (Nat.zero_le _) (by omega)
end
theorem X9 {k:Nat} (h:k < 4611686018427387904):Yd ((k:Int) + 1)= ((k + 1:Nat):Int):=ZyJ h
theorem ZLj (k n:Nat):decide ((k:Int) < (n:Int))=decide (k < n):=by
 by_cases h:k < n
 ·rw [decide_eq_true h,decide_eq_true (by omega)]
 ·rw [decide_eq_false h,decide_eq_false (by omega)]
theorem Yv {k n:Nat} (h:k < n):decide ((k:Int) < (n:Int))=true:=decide_eq_true (by omega)
theorem YI (n:Nat):decide ((n:Int) < (n:Int))=false:=decide_eq_false (by omega)
theorem ZNs {α:Type} {l:List α} {k:Nat} (h:k < l.length):ZF l (k:Int)=some l[k]:=by rw [Zdf,List.getElem?_eq_getElem h]
theorem app1 {α:Type} {b:Nat} {l:List α} {x:α} (h:l.length <=900000) (hb:b <=1000):app b l [x]=some (l ++ [x]):=Zub (by simp;omega) hb
theorem Wu {α:Type} [BEq α] [LawfulBEq α] (a:α):(a !=a)=false:=by simp
end
section
theorem Xr {β γ:Type} {body:γ ->(γ ->Option β) ->Option β} {r:Option β} {s0:γ} (S:Nat ->γ) (h0:S 0=s0) {n F:Nat} (hF:n < F) (hb:∀ k,k < n ->∀ next,body (S k) next=next (S (k + 1))) (he:∀ next,body (S n) next=r):loop F body s0=r:=h0 ▸ ZwI S hF hb he
theorem Qd {α:Type} {l:List α} {k:Nat} {d:α} (h:k < l.length):l.getD k d ∈ l:=by
 rw [List.getD_eq_getElem?_getD,List.getElem?_eq_getElem h];exact List.getElem_mem h
theorem XY {α:Type} {l:List α} {k:Nat} (d:α) (h:k < l.length):ZF l (k:Int)=some (l.getD k d):=by
 rw [ZNs h,List.getD_eq_getElem?_getD,List.getElem?_eq_getElem h];rfl
theorem Zaa (a b:Int):(a !=b)=decide (a ≠ b):=by
 by_cases h:a=b <;> simp [h]
theorem Xq (a b:Int):(a==b)=decide (a=b):=by
 by_cases h:a=b <;> simp [h]
theorem ZbA {c:Nat ->Prop} {n:Nat} (h:c n):∃ m,m <=n/\c m/\∀ k,k < m ->¬ c k:=by
 induction n using Nat.strongRecOn with
 | _ n ih=>
   by_cases hz:∃ j,j < n/\c j
   ·obtain⟨j,h1,h2⟩:=hz;obtain⟨m,q1,q2,q3⟩:=ih j h1 h2;exact⟨m,by omega,q2,q3⟩
   ·exact⟨n,Nat.le_refl _,h,fun k hk q=>hz ⟨k,hk,q⟩⟩
theorem ZLe:∀ (n:Nat) (f:Nat ->Nat),(∀ i,i <=n ->f i < n) ->∃ i j,i < j/\j <=n/\f i=f j:=by
 intro n
 induction n with
 | zero=>intro f h;exact absurd (h 0 (Nat.le_refl _)) (Nat.not_lt_zero _)
 | succ n ih=>
   intro f h;by_cases hz:∃ i,i <=n/\f i=f (n + 1)
   ·obtain⟨i,h1,h2⟩:=hz;exact⟨i,n + 1,by omega,Nat.le_refl _,h2⟩
   ·have hne:∀ i,i <=n ->f i ≠ f (n + 1):=fun i hi q=>hz ⟨i,hi,q⟩
    have hl:=h (n + 1) (Nat.le_refl _)
    obtain⟨i,j,h1,h2,h3⟩:=ih (fun i=>if f i < f (n + 1) then f i else f i - 1) (fun i hi=>by
     have:=h i (by omega);have:=hne i hi;by_cases q:f i < f (n + 1)
     ·rw [if_pos q];omega
     ·rw [if_neg q];omega)
    refine⟨i,j,h1,by omega,?_⟩;have a1:=hne i (by omega);have a2:=hne j h2;by_cases q1:f i < f (n + 1) <;> by_cases q2:f j < f (n + 1)
    ·rwa [if_pos q1,if_pos q2] at h3
    ·rw [if_pos q1,if_neg q2] at h3;omega
    ·rw [if_neg q1,if_pos q2] at h3;omega
    ·rw [if_neg q1,if_neg q2] at h3;omega
section
variable {β γ:Type} {R:β ->Prop}
end
theorem ZdX (k:Nat):decide ((k:Int) >=0)=true:=decide_eq_true (by omega)
noncomputable def ifc {α:Sort _} (c:Prop) (a b:α):α:=@ite α c (Classical.propDecidable c) a b
theorem Z9 {α:Sort _} {c:Prop} (h:c) {a b:α}:ifc c a b=a:=by unfold ifc;exact if_pos h
theorem Z7 {α:Sort _} {c:Prop} (h:¬ c) {a b:α}:ifc c a b=b:=by unfold ifc;exact if_neg h
theorem Wv {β γ:Type} {body:γ ->(γ ->Option β) ->Option β} {r1 r2:Option β} {s0:γ} (S:Nat ->γ) (h0:S 0=s0) (c:Nat ->Prop) {n F:Nat} (hF:n < F)
 (hb:∀ k,k < n ->∀ next,body (S k) next=ifc (c k) (next (S (k + 1))) r1) (he:∀ next,body (S n) next=r2):loop F body s0=ifc (∀ k,k < n ->c k) r2 r1:=by
 by_cases hall:∀ k,k < n ->c k
 ·rw [Z9 hall];exact Xr S h0 hF (fun k hk next=>by rw [hb k hk,Z9 (hall k hk)]) he
 ·rw [Z7 hall];have hz:∃ k,k < n/\¬ c k:=Classical.byContradiction fun q=>hall fun p hp=>Classical.byContradiction fun q2=>q ⟨p,hp,q2⟩
  obtain⟨k0,hk0⟩:=hz;obtain⟨m,_,hm,hlt⟩:=ZbA (c:=fun k=>k < n/\¬ c k) hk0;exact Xr S h0 (n:=m) (by omega) (fun k hk next=>by rw [hb k (by omega),Z9 (Classical.byContradiction fun q=>hlt k hk ⟨by omega,q⟩)]) (fun next=>by rw [hb m hm.1,Z7 hm.2])
theorem KE {α:Type} {l:List α} {k:Nat} {d:α} (h:k < l.length):l.getD k d=l[k]:=by
 rw [List.getD_eq_getElem?_getD,List.getElem?_eq_getElem h];rfl
theorem Zo6 {xs ys:List Int} (h:xs.length + ys.length <=1000000):app 8 xs ys=some (xs ++ ys):=Zub h (by decide)
end
section
def inn (w:Zc) (q:Int):Int:= (w.Zh.getD q.toNat default).XA
def up (w:Zc):Nat ->Int ->Int
 | 0,q=>q
 | k + 1,q=>if q < 0 then q else up w k (inn w q)
theorem Zsp {w:Zc} {q:Int} (h:q < 0) (k:Nat):up w k q=q:=by
 cases k with
 | zero=>rfl
 | succ k=>show(if q < 0 then q else _)=q;rw [if_pos h]
theorem Wn (w:Zc) (k:Nat) (q:Int):up w (k + 1) q=if up w k q < 0 then up w k q else inn w (up w k q):=by
 induction k generalizing q with
 | zero=>rfl
 | succ k ih=>
   show(if q < 0 then q else up w (k + 1) (inn w q))=_;by_cases h:q < 0
   ·rw [if_pos h,Zsp h,if_pos h]
   ·rw [if_neg h,ih];show _=if(if q < 0 then q else up w k (inn w q)) < 0 then _ else _
    rw [if_neg h];show _=if _ then(if q < 0 then q else up w k (inn w q)) else inn w (if q < 0 then q else up w k (inn w q))
    rw [if_neg h]
theorem up_add (w:Zc) (a b:Nat) (q:Int):up w (a + b) q=up w b (up w a q):=by
 induction a generalizing q with
 | zero=>rw [Nat.zero_add];rfl
 | succ a ih=>
   rw [show a + 1 + b= (a + b) + 1 by omega];show(if q < 0 then q else up w (a + b) (inn w q))=up w b (if q < 0 then q else up w a (inn w q));by_cases h:q < 0
   ·rw [if_pos h,if_pos h,Zsp h]
   ·rw [if_neg h,if_neg h,ih]
theorem Wo {w:Zc} {q:Int} {a:Nat} (h:up w a q < 0) {b:Nat} (hb:a <=b):up w b q < 0:=by
 obtain⟨d,rfl⟩:∃ d,b=a + d:= ⟨b - a,by omega⟩
 rw [up_add,Zsp h];exact h
def okN (w:Zc) (q:Int):Prop:=-1 <=q/\q < (w.Zh.length:Int)
instance (w:Zc) (q:Int):Decidable (okN w q):=by unfold okN;infer_instance
structure Inn (w:Zc):Prop where
 rng:∀ p:Nat,p < w.Zh.length ->okN w (inn w p)
 acy:∀ p:Nat,p < w.Zh.length ->up w w.Zh.length p < 0
theorem Inn.up {w:Zc} (h:Inn w) {q:Int} (hq:okN w q) (k:Nat):okN w (up w k q):=by
 induction k with
 | zero=>exact hq
 | succ k ih=>
   rw [Wn];by_cases h2:Proofs.YtcnahmgekicbdaaGreat.up w k q < 0
   ·rw [if_pos h2];exact ih
   ·rw [if_neg h2];have:=h.rng (Proofs.YtcnahmgekicbdaaGreat.up w k q).toNat (by have:=ih.2;omega)
    rwa [Int.toNat_of_nonneg (by omega)] at this
theorem Zpc {w:Zc} (hr:∀ p:Nat,p < w.Zh.length ->okN w (inn w p)):(∀ p:Nat,p < w.Zh.length ->up w w.Zh.length p < 0)↔∀ p:Nat,p < w.Zh.length ->∀ j,j <=w.Zh.length ->up w (j + 1) p ≠ (p:Int):=by
 constructor
 ·intro h p hp j hj e
  have:∀ m:Nat,up w (m * (j + 1)) p= (p:Int):=fun m=>by
   induction m with
   | zero=>rw [Nat.zero_mul];rfl
   | succ m ih=>rw [Nat.succ_mul,up_add,ih,e]
  have h2:=Wo (h p hp) (b:=w.Zh.length * (j + 1)) (Nat.le_mul_of_pos_right _ (by omega));rw [this] at h2;omega
 ·intro h p hp;rcases Int.lt_or_le (up w w.Zh.length p) 0 with q | q
  ·exact q
  ·exfalso
   have hk:∀ k,k <=w.Zh.length ->0 <=up w k p:=fun k hk=>by
    rcases Int.lt_or_le (up w k p) 0 with z | z
    ·have:=Wo z hk;omega
    ·exact z
   have hok:∀ k,okN w (up w k p):=fun k=>by
    induction k with
    | zero=>exact⟨by show(-1:Int) <= (p:Int);omega,by show(p:Int) < _;omega⟩
    | succ k ih=>
      rw [Wn];by_cases h2:up w k p < 0
      ·rw [if_pos h2];exact ih
      ·rw [if_neg h2];have:=hr (up w k p).toNat (by have:=ih.2;omega)
       rwa [Int.toNat_of_nonneg (by omega)] at this
   obtain⟨i,j,h1,h2,h3⟩:=ZLe w.Zh.length (fun k=>(up w k p).toNat) fun k hk'=>by
    have:= (hok k).2;have:=hk k hk';omega
   have e:up w i p=up w j p:=by have:=hk i (by omega);have:=hk j h2;omega
   have hi:=hk i (by omega);have:=h (up w i p).toNat (by have:= (hok i).2;omega) (j - i - 1) (by omega);apply this;rw [Int.toNat_of_nonneg hi,show j - i - 1 + 1=j - i by omega,<- up_add,show i + (j - i)=j by omega,e]
theorem Zb2 {w:Zc} {q:Int} (h:okN w q) (h2:¬ q < 0):∃ k:Nat,q= (k:Int)/\k < w.Zh.length:= ⟨q.toNat,by omega,by have:=h.2;omega⟩
def spt (w:Zc) (p:Nat):ZG:=w.Zh.getD p default
theorem Qb {w:Zc} {p:Nat} (hp:p < w.Zh.length):ZF w.Zh (p:Int)=some (spt w p):=XY default hp
theorem QN (w:Zc) (p:Nat):(spt w p).XA=inn w (p:Int):=by unfold spt inn;rw [Int.toNat_natCast]
def KU (w:Zc) (d v:Nat):Prop:=∀ k,k < w.Zh.length ->∀ j,d <=j ->up w j (k:Int) ≠ (v:Int)
theorem KU.all {w:Zc} (hi:Inn w) {v:Nat}:KU w w.Zh.length v:=fun k hk j hj q=>by
 have:=Wo (hi.acy k hk) hj;omega
theorem ZFz {w:Zc} {x k v j:Nat} (h1:up w j (x:Int)= (k:Int)) (h2:inn w (k:Int)= (v:Int)):up w (j + 1) (x:Int)= (v:Int):=by
 rw [Wn,h1,if_neg (by omega),h2]
theorem KU.kid {w:Zc} {d v k:Nat} (h:KU w (d + 1) v) (h2:inn w (k:Int)= (v:Int)):KU w d k:=fun x hx j hj q=>h x hx (j + 1) (by omega) (ZFz q h2)
theorem ZAv {w:Zc} (hi:Inn w) {v j:Nat} (hv:v < w.Zh.length) (hj:0 < j):up w j (v:Int) ≠ (v:Int):=by
 intro e
 have h:∀ m,up w (m * j) (v:Int)= (v:Int):=by
  intro m
  induction m with
  | zero=>rw [Nat.zero_mul];rfl
  | succ m ih=>rw [Nat.succ_mul,up_add,ih,e]
 have:=h w.Zh.length;have h2:=Wo (hi.acy v hv) (show w.Zh.length <=w.Zh.length * j from Nat.le_mul_of_pos_right _ hj);omega
structure Qu (s:Zc):Prop where
 m1:1 <=s.qG
 m2:s.qG <=4
 p1:1 <=s.Zh.length
 p2:s.Zh.length <=8
 at_:∀ p,p < s.Zh.length ->0 <= (spt s p).at_/\(spt s p).at_ < s.qG
 inn:Inn s
def Ends (s:Zc) (p:Nat):Prop:=∃ m,m <=s.Zh.length/\up s (m + 1) (p:Int) < 0
section
variable {F:Nat} {s:Zc}
theorem ZsM (hr:∀ p:Nat,p < s.Zh.length ->okN s (inn s p)) {p:Nat} (hp:p < s.Zh.length):∀ k,okN s (up s k (p:Int)):=by
 intro k
 induction k with
 | zero=>exact⟨by show(-1:Int) <= (p:Int);omega,by show(p:Int) < _;omega⟩
 | succ k ih=>
   rw [Wn];by_cases h2:up s k p < 0
   ·rw [if_pos h2];exact ih
   ·rw [if_neg h2];obtain⟨j,e,hj⟩:=Zb2 ih h2;rw [e];exact hr j hj
theorem Zrr (hr:∀ p:Nat,p < s.Zh.length ->okN s (inn s p)):(∀ p,p < s.Zh.length ->Ends s p)↔∀ p:Nat,p < s.Zh.length ->up s s.Zh.length (p:Int) < 0:=by
 constructor
 ·intro h;refine(Zpc hr).2 fun p hp j hj e=>?_
  obtain⟨m,hm,he⟩:=h p hp
  have:∀ k:Nat,up s (k * (j + 1)) p= (p:Int):=fun k=>by
   induction k with
   | zero=>rw [Nat.zero_mul];rfl
   | succ k ih=>rw [Nat.succ_mul,up_add,ih,e]
  have h2:=Wo he (b:= (m + 1) * (j + 1)) (Nat.le_mul_of_pos_right _ (by omega));rw [this] at h2;omega
 ·intro h p hp;exact⟨s.Zh.length,Nat.le_refl _,Wo (h p hp) (by omega)⟩
theorem ZtU (hF:1000 <=F) (h8:s.Zh.length <=8) (hr:∀ p:Nat,p < s.Zh.length ->okN s (inn s p)) {p:Nat} (hp:p < s.Zh.length) (v30:Int) (next:Int×Int ->Option Int):
 loop F (Zj4 s (p:Int) next) (inn s (p:Int),v30,0,false)=ifc (Ends s p) (next (((p + 1:Nat):Int),v30)) (some 2):=by
 have e0:(inn s (p:Int),v30,(0:Int),false)= (up s (0 + 1) p,v30,((0:Nat):Int),false):=by
  rw [Wn];show _= (if((p:Int)) < 0 then _ else _,_);rw [if_neg (by omega)];rfl
 obtain⟨m,hm,hs,hlt⟩:=ZbA (c:=fun k=>s.Zh.length <=k\/up s (k + 1) p < 0) (n:=s.Zh.length) (.inl (by omega))
 have hj:∀ j,j < m ->j < s.Zh.length/\¬ up s (j + 1) p < 0:=fun j hj=>by
  have:=hlt j hj;exact⟨Classical.byContradiction fun z=>this (.inl (by omega)),fun q=>this (.inr q)⟩
 refine Xr (fun j=>(up s (j + 1) p,v30,(j:Int),false)) e0.symm (n:=m) (by omega) (fun j hjm nx=>?_) (fun nx=>?_)
 ·obtain⟨a1,a2⟩:=hj j hjm;obtain⟨k,e,hk⟩:=Zb2 (ZsM hr hp (j + 1)) a2;unfold Zj4;dsimp only;rw [Wn s (j + 1),if_neg a2,e,ZdX,Cq1,X9 (by omega),decide_eq_false (by omega),Qb hk];simp only [Cq0,Bool.not_true,Bq0];rw [QN]
 ·unfold Zj4;dsimp only;by_cases h2:up s (m + 1) p < 0
  ·rw [decide_eq_false (show ¬ up s (m + 1) p >=0 by omega),Cq0,Z9 ⟨m,hm,h2⟩];unfold Zg0;dsimp only;rw [Cq0,X9 (by omega)]
  ·have hml:m=s.Zh.length:=by rcases hs with z | z;· omega
                              ·exact absurd z h2
   obtain⟨k,e,hk⟩:=Zb2 (ZsM hr hp (m + 1)) h2
   have hne:¬ Ends s p:=by
    rintro⟨j,h1,h3⟩;have:=Wo h3 (show j + 1 <=m + 1 by omega);exact h2 this
   rw [e,ZdX,Cq1,X9 (by omega),decide_eq_true (show((m + 1:Nat):Int) > (s.Zh.length:Int) by omega),Z7 hne]
   rfl
theorem ZAN (hF:1000 <=F) (h8:s.Zh.length <=8) (hr:∀ p:Nat,p < s.Zh.length ->okN s (inn s p)) {p:Nat} (hp:p < s.Zh.length) (next:Int ->Option Bool):
 loop F (Zj6 s (p:Int) next) (inn s (p:Int),0)=ifc (∀ j,j <=s.Zh.length ->up s (j + 1) p ≠ (p:Int)) (next ((p + 1:Nat):Int)) (some false):=by
 have hok:=ZsM hr hp
 have e0:(inn s (p:Int),(0:Int))= (up s (0 + 1) p,((0:Nat):Int)):=by
  rw [Wn];show _= (if((p:Int)) < 0 then _ else _,_);rw [if_neg (by omega)];rfl
 obtain⟨m,hm,hs,hlt⟩:=ZbA (c:=fun k=>s.Zh.length < k\/up s (k + 1) p < 0\/up s (k + 1) p= (p:Int)) (n:=s.Zh.length + 1) (.inl (by omega))
 have hj:∀ j,j < m ->j <=s.Zh.length/\¬ up s (j + 1) p < 0/\up s (j + 1) p ≠ (p:Int):=fun j hj=>by
  have:=hlt j hj;exact⟨Classical.byContradiction fun z=>this (.inl (by omega)),fun q=>this (.inr (.inl q)),fun q=>this (.inr (.inr q))⟩
 refine Xr (fun j=>(up s (j + 1) p,(j:Int))) e0.symm (n:=m) (by omega) (fun j hjm nx=>?_) (fun nx=>?_)
 ·obtain⟨a1,a2,a3⟩:=hj j hjm;obtain⟨k,e,hk⟩:=Zb2 (hok (j + 1)) a2;unfold Zj6;dsimp only;rw [Wn s (j + 1),if_neg a2];rw [e] at a3 |-;rw [decide_eq_true (show(j:Int) <= (s.Zh.length:Int) by omega),ZdX,Bool.and_self,Cq1,Xq,decide_eq_false a3,Cq0,Qb hk];simp only [Bq0];rw [X9 (by omega),QN]
 ·unfold Zj6;dsimp only;by_cases h1:s.Zh.length < m
  ·rw [decide_eq_false (show ¬ (m:Int) <= (s.Zh.length:Int) by omega),Bool.false_and,Cq0,X9 (by omega),Z9 fun j q1=>(hj j (by omega)).2.2]
  ·by_cases h2:up s (m + 1) p < 0
   ·rw [decide_eq_false (show ¬ up s (m + 1) p >=0 by omega),Bool.and_false,Cq0,X9 (by omega),Z9];intro j q1 q2;rcases Nat.lt_or_ge j m with z | z
    ·exact(hj j z).2.2 q2
    ·have:=Wo h2 (show m + 1 <=j + 1 by omega);omega
   ·have h3:up s (m + 1) p= (p:Int):=by
     rcases hs with z | z | z
     ·exact absurd z h1
     ·exact absurd z h2
     ·exact z
    rw [decide_eq_true (show(m:Int) <= (s.Zh.length:Int) by omega),h3,ZdX,Bool.and_self,Cq1,Xq,decide_eq_true rfl,Cq1,Z7 fun z=>z m (by omega) h3]
def Rng (s:Zc) (p:Nat):Prop:= (0 <= (spt s p).at_/\(spt s p).at_ < s.qG)/\okN s (inn s (p:Int))
def Bnd (s:Zc):Prop:=1 <=s.qG/\s.qG <=4/\1 <=s.Zh.length/\s.Zh.length <=8
theorem ZiC (s:Zc):((((decide (s.qG < 1)) || (decide (s.qG > 4))) || (decide ((s.Zh.length:Int) < 1))) || (decide ((s.Zh.length:Int) > 8)))=true↔¬ Bnd s:=by
 unfold Bnd;simp only [Bool.or_eq_true,decide_eq_true_eq];omega
theorem ZaI:Qu s↔Bnd s/\(∀ p,p < s.Zh.length ->Rng s p)/\∀ p:Nat,p < s.Zh.length ->up s s.Zh.length (p:Int) < 0:=
 ⟨fun h=>⟨⟨h.m1,h.m2,h.p1,h.p2⟩,fun p hp=>⟨h.at_ p hp,h.inn.rng p hp⟩,h.inn.acy⟩,fun h=>⟨h.1.1,h.1.2.1,h.1.2.2.1,h.1.2.2.2,fun p hp=>(h.2.1 p hp).1,⟨fun p hp=>(h.2.1 p hp).2,h.2.2⟩⟩⟩
theorem Zwj (hF:1000 <=F) (s:Zc):Zxt F s=ifc (Qu s) (some true) (some false):=by
 unfold Zxt;rcases Classical.em (¬ Bnd s) with hb | hb
 ·rw [(ZiC s).2 hb,Cq1,Z7 fun z=>hb (ZaI.1 z).1]
 have hb:=Classical.not_not.1 hb;rw [Bool.eq_false_iff.2 fun z=>(ZiC s).1 z hb,Cq0];have h8:=hb.2.2.2
 have e1:=Wv (body:=Zj7 F s) (r1:=some false) (r2:=loop F (Zg6 F s) 0) (s0:= (0:Int)) (fun k=>(k:Int)) rfl (Rng s) (n:=s.Zh.length) (F:=F) (by omega) (fun k hk next=>by
  unfold Zj7;rw [Yv hk,Cq1,Qb hk];simp only [Bq0];rw [QN];by_cases r:Rng s k
  ·have r1:=r.1.1;have r2:=r.1.2;have r3:=r.2.1;have r4:=r.2.2;rw [Z9 r,decide_eq_false (by omega),decide_eq_false (by omega),decide_eq_false (by omega),decide_eq_false (by omega)];simp only [Bool.or_self,Cq0];rw [X9 (by omega)]
  ·rw [Z7 r]
   have:((((decide ((spt s k).at_ < 0)) || (decide ((spt s k).at_ >=s.qG))) || (decide (inn s (k:Int) < (-1)))) || (decide (inn s (k:Int) >= (s.Zh.length:Int))))=true:=by
    rw [<- Bool.not_eq_false];intro z;simp only [Bool.or_eq_false_iff,decide_eq_false_iff_not] at z;exact r ⟨⟨by omega,by omega⟩,by omega,by omega⟩
   rw [this,Cq1]) (fun next=>by
  unfold Zj7;rw [YI,Cq0])
 rw [e1];by_cases hr:∀ p,p < s.Zh.length ->Rng s p
 ·have hr':∀ p:Nat,p < s.Zh.length ->okN s (inn s p):=fun p hp=>(hr p hp).2
  have e2:=Wv (body:=Zg6 F s) (r1:=some false) (r2:=some true) (s0:= (0:Int)) (fun k=>(k:Int)) rfl (fun p:Nat=>∀ j,j <=s.Zh.length ->up s (j + 1) p ≠ (p:Int)) (n:=s.Zh.length) (F:=F) (by omega) (fun k hk next=>by
   unfold Zg6;rw [Yv hk,Cq1,Qb hk];simp only [Bq0];rw [QN];exact ZAN hF h8 hr' hk next) (fun next=>by
   unfold Zg6;rw [YI,Cq0])
  rw [Z9 hr,e2];by_cases ha:∀ p:Nat,p < s.Zh.length ->up s s.Zh.length (p:Int) < 0
  ·rw [Z9 (ZaI.2 ⟨hb,hr,ha⟩),Z9 ((Zpc hr').1 ha)]
  ·rw [Z7 fun z=>ha (ZaI.1 z).2.2,Z7 fun z=>ha ((Zpc hr').2 z)]
 ·rw [Z7 hr,Z7 fun z=>hr (ZaI.1 z).2.1]
theorem Zki (hF:1000 <=F) (s:Zc):ZDI F s=ifc (Qu s) (some 0) (some 2):=by
 unfold ZDI;rcases Classical.em (¬ Bnd s) with hb | hb
 ·rw [(ZiC s).2 hb,Cq1,Z7 fun z=>hb (ZaI.1 z).1]
 have hb:=Classical.not_not.1 hb;rw [Bool.eq_false_iff.2 fun z=>(ZiC s).1 z hb,Cq0];have h8:=hb.2.2.2
 have e1:=Wv (body:=Zj5 F s) (r1:=some 2) (r2:=loop F (Zg1 F s) (0,0)) (s0:= (0:Int)) (fun k=>(k:Int)) rfl (Rng s) (n:=s.Zh.length) (F:=F) (by omega) (fun k hk next=>by
  unfold Zj5 Zn9;rw [Yv hk,Cq1,Qb hk];simp only [Bq0];rw [QN];by_cases r1:0 <= (spt s k).at_/\(spt s k).at_ < s.qG
  ·rw [decide_eq_false (show ¬ (spt s k).at_ < 0 by omega),decide_eq_false (show ¬ (spt s k).at_ >=s.qG by omega)];simp only [Bool.or_self,Bool.not_false,Bool.true_and,Bool.false_or];by_cases r2:inn s (k:Int)=-1
   ·rw [r2,Wu,QL];simp only [Bq0,Bool.false_and,Cq0];rw [X9 (by omega),Z9 ⟨r1,by rw [r2];unfold okN;omega⟩]
   ·rw [Zaa,decide_eq_true r2,Qm];simp only [Bq0,Bool.true_and];by_cases r3:0 <=inn s (k:Int)/\inn s (k:Int) < (s.Zh.length:Int)
    ·rw [decide_eq_true (show inn s (k:Int) >=0 from r3.1),decide_eq_true r3.2,Bool.and_self,Bool.not_true,Cq0,X9 (by omega),Z9 ⟨r1,by unfold okN;omega⟩]
    ·have:(decide (inn s (k:Int) >=0) && decide (inn s (k:Int) < (s.Zh.length:Int)))=false:=by
      rw [<- Bool.not_eq_true];intro z;simp only [Ba0,decide_eq_true_eq] at z;exact r3 ⟨z.1,z.2⟩
     rw [this,Bool.not_false,Cq1,Z7];rintro⟨_,a,b⟩;exact r3 ⟨by omega,b⟩
  ·have:(decide ((spt s k).at_ < 0) || decide ((spt s k).at_ >=s.qG))=true:=by
    rw [<- Bool.not_eq_false];intro z;simp only [Bool.or_eq_false_iff,decide_eq_false_iff_not] at z;exact r1 ⟨by omega,by omega⟩
   rw [this];simp only [Bool.not_true,Bool.false_and,QL,Bq0,Bool.true_or,Cq1];rw [Z7 fun z=>r1 z.1]) (fun next=>by
  unfold Zj5;rw [YI,Cq0])
 rw [e1];by_cases hr:∀ p,p < s.Zh.length ->Rng s p
 ·have hr':∀ p:Nat,p < s.Zh.length ->okN s (inn s p):=fun p hp=>(hr p hp).2
  have e2:=Wv (body:=Zg1 F s) (r1:=some 2) (r2:=some 0) (s0:= ((0:Int),(0:Int))) (fun k=>((k:Int),(0:Int))) rfl (Ends s) (n:=s.Zh.length) (F:=F) (by omega) (fun k hk next=>by
   unfold Zg1;dsimp only;rw [Yv hk,Cq1,Qb hk];simp only [Bq0];rw [QN];exact ZtU hF h8 hr' hk 0 next) (fun next=>by
   unfold Zg1;dsimp only;rw [YI,Cq0])
  rw [Z9 hr,e2];by_cases ha:∀ p:Nat,p < s.Zh.length ->up s s.Zh.length (p:Int) < 0
  ·rw [Z9 (ZaI.2 ⟨hb,hr,ha⟩),Z9 ((Zrr hr').2 ha)]
  ·rw [Z7 fun z=>ha (ZaI.1 z).2.2,Z7 fun z=>ha ((Zrr hr').1 z)]
 ·rw [Z7 hr,Z7 fun z=>hr (ZaI.1 z).2.1]
end
end
section
def arK (s:Zc) (p:Nat) (k:Nat):List Int:= (List.range k).map fun j=>up s (j + 1) (p:Int)
theorem ZEe (s:Zc) (p k:Nat):arK s p (k + 1)=arK s p k ++ [up s (k + 1) (p:Int)]:=by
 unfold arK;rw [List.range_succ,List.map_append];rfl
theorem ZvX (s:Zc) (p k:Nat):(arK s p k).length=k:=by unfold arK;rw [List.length_map,List.length_range]
section
variable {F:Nat} {s:Zc}
theorem ZlU (s:Zc) (p:Int):(decide (p >=0) && decide (p < (s.Zh.length:Int)))=true↔∃ k:Nat,p= (k:Int)/\k < s.Zh.length:=by
 rw [Ba0,decide_eq_true_eq,decide_eq_true_eq]
 constructor
 ·rintro⟨a,b⟩;exact⟨p.toNat,by omega,by omega⟩
 ·rintro⟨k,rfl,h⟩;omega
theorem Zfz {k:Nat} (h:k < s.Zh.length):(decide ((k:Int) >=0) && decide ((k:Int) < (s.Zh.length:Int)))=true:= (ZlU s k).2 ⟨k,rfl,h⟩
theorem up1 {p:Nat}:up s (0 + 1) (p:Int)=inn s (p:Int):=by
 rw [Wn];show(if((p:Int)) < 0 then _ else _)=_;rw [if_neg (by omega)];rfl
theorem ZdV {l:List Int} (h:l.length < F) (h2:l.length <=1000000):Zor F l l=some true:=by
 unfold Zor;rw [Wu,Cq0];refine Xr (fun k=>(k:Int)) rfl (n:=l.length) h (fun k hk next=>?_) (fun next=>?_)
 ·unfold Zoq;rw [Yv hk,Cq1,XY 0 hk];simp only [Bq0];rw [Wu,Cq0,X9 (by omega)]
 ·unfold Zoq;rw [YI,Cq0]
end
end
section
section
variable {F:Nat} {w:Zc} {d p o n:Int}
def c3 (l:List Zq) (d p o:Int):Nat:=l.countP fun x=>((x.kZ==d) && (x.kV==p)) && (x.kX==o)
end
end
section
def k1 (l:List Zq) (e:Zq):Nat:=l.countP fun x=>((x.kZ==1) && (x.n==e.n)) && ((e.kZ==1) || ((x.kV==e.kX) && (x.kX==e.kV)))
def k2 (l:List Zq) (e:Zq):Nat:=l.countP fun x=>(x.kZ==2) && (x.n==e.n)
section
variable {F:Nat} {w:Zc}
theorem ZAU (hF:100000 <=F) (h8:w.Zh.length <=8) (p:Int):Ztz F w p=some (((List.range w.Zh.length).filter fun q:Nat=>inn w (q:Int)==p).map Int.ofNat):=by
 unfold Ztz;refine Xr (fun k=>(((List.range k).filter fun q:Nat=>inn w (q:Int)==p).map Int.ofNat,(k:Int))) rfl (n:=w.Zh.length) (by omega) (fun k hk next=>?_) (fun next=>?_)
 ·have hl:=List.length_filter_le (fun q:Nat=>inn w (q:Int)==p) (List.range k);rw [List.length_range] at hl;unfold ZnZ ZjX;dsimp only;rw [Yv hk,Cq1,Qb hk];simp only [Bq0];rw [QN,List.range_succ,List.filter_append,List.map_append,X9 (by omega),List.filter_cons,List.filter_nil];cases h:(inn w (k:Int)==p) with
  | true=>
    rw [Cq1,if_pos rfl,Zo6 (by rw [List.length_map,List.length_singleton];omega)];rfl
  | false=>rw [Cq0,if_neg (by decide),List.map_nil,List.append_nil]
 ·unfold ZnZ;dsimp only;rw [YI,Cq0]
end
end
section
section
variable {F:Nat} {w:Zc}
end
end
section
def tab {α:Type} (n:Nat) (f:Nat ->α):List α:= (List.range n).map f
def YE {α:Type} (f:Nat ->α) (k:Nat) (v:α):Nat ->α:=fun j=>if j=k then v else f j
theorem Yg {α:Type} (f:Nat ->α) (k:Nat) (v:α):YE f k v k=v:=if_pos rfl
theorem Xk {α:Type} {f:Nat ->α} {k j:Nat} {v:α} (h:j ≠ k):YE f k v j=f j:=if_neg h
theorem ZgL {α:Type} (f:Nat ->α) (k:Nat):YE f k (f k)=f:=by funext j;unfold YE;by_cases h:j=k <;> simp [h]
theorem Zw4 {α:Type} (f:Nat ->α) (k:Nat) (v w:α):YE (YE f k v) k w=YE f k w:=by funext j;unfold YE;by_cases h:j=k <;> simp [h]
section
variable {α:Type} {n k:Nat} {f g:Nat ->α} {v:α}
theorem Xt:(tab n f).length=n:=by simp [tab]
theorem Zic (h:k < n):(tab n f)[k]? =some (f k):=by simp [tab,h]
theorem Z4 (h:k < n):ZF (tab n f) (k:Int)=some (f k):=by rw [Zdf,Zic h]
theorem XD:ZE (tab n f) (k:Int) v=tab n (YE f k v):=by
 unfold ZE;apply List.ext_getElem?;intro j;rw [Int.toNat_natCast,List.getElem?_set,Xt];by_cases hj:j < n
 ·rw [Zic hj,Zic hj];unfold YE;by_cases e:k=j
  ·subst e;simp [hj]
  ·rw [if_neg e,if_neg (fun q=>e q.symm)]
 ·rw [List.getElem?_eq_none (by rw [Xt];omega),List.getElem?_eq_none (by rw [Xt];omega)];by_cases e:k=j
  ·subst e;simp [hj]
  ·rw [if_neg e]
theorem WV (h:∀ k,k < n ->f k=g k):tab n f=tab n g:=by
 unfold tab;exact List.map_congr_left fun k hk=>h k (List.mem_range.1 hk)
theorem Zbi:tab (n + 1) f=tab n f ++ [f n]:=by simp [tab,List.range_succ]
end
theorem ZFA {α:Type} (n:Nat) (x:α):List.replicate n x=tab n fun _=>x:=by
 apply List.ext_getElem?;intro j;by_cases hj:j < n
 ·rw [Zic hj,List.getElem?_replicate,if_pos hj]
 ·rw [List.getElem?_eq_none (by simp;omega),List.getElem?_eq_none (by rw [Xt];omega)]
structure TS where
 st:Nat ->Int
 ma:Nat ->Nat ->Int
 kn:Nat ->List Int
 wa:Nat ->List Int
 be:Nat ->List Zd
 sn:Nat ->List Zd
 ld:Nat ->Nat
 sd:Int
 ev:List Zq
section
variable (s:Zc)
def nn:Nat:=s.Zh.length
def mm:Nat:=s.qG.toNat
def pl (p:Nat):Nat:= (spt s p).at_.toNat
def li (a b:Nat):Nat:=a * mm s + b
def Jc (σ:TS) (i:Nat):Zg:= ⟨(σ.ld i:Int),(σ.sn i).drop (σ.ld i)⟩
def vw (σ:TS):Ze:= ⟨tab (nn s) σ.st,tab (nn s) fun p=>tab (mm s * mm s) (σ.ma p),tab (nn s) σ.kn,tab (nn s) σ.wa,tab (mm s) σ.be,tab (mm s * mm s) (Jc σ),σ.sd⟩
def hal (σ:TS):Z6:= ⟨vw s σ,s,σ.ev⟩
def XZ (σ:TS):Z5:= ⟨s,vw s σ,σ.ev⟩
def tell (d p q n:Int) (σ:TS):TS:= {σ with ev:=σ.ev ++ [⟨d,p,q,n⟩]}
def send (a b:Nat) (x:Zd) (σ:TS):TS:= {σ with sn:=YE σ.sn (li s a b) (σ.sn (li s a b) ++ [x])}
def wait (m:Nat) (x:Zd) (σ:TS):TS:= {σ with be:=YE σ.be m (σ.be m ++ [x])}
def Kc (σ:TS) (p:Nat):List Int:=tab (mm s * mm s) (σ.ma p)
def JM (p q:Nat) (σ:TS):TS:=if pl s p=pl s q then wait (pl s p) ⟨5,p,q,0,Kc s σ q⟩ σ else send s (pl s q) (pl s p) ⟨5,p,q,0,Kc s σ q⟩ σ
def see (p q:Nat) (n:Int) (σ:TS):TS:=if σ.st p=1 then tell 2 p q n σ else σ
def note (p q:Nat) (σ:TS):TS:=if σ.st q=3 then JM s p q σ else{σ with wa:=YE σ.wa q (σ.wa q ++ [(p:Int)])}
structure Few (B:Nat) (σ:TS):Prop where
 ev:σ.ev.length <=B
 sn:∀ i,i < mm s * mm s ->(σ.sn i).length <=B
 be:∀ m,m < mm s ->(σ.be m).length <=B
 wa:∀ q,q < nn s ->(σ.wa q).length <=B
 ld:∀ i,i < mm s * mm s ->σ.ld i <= (σ.sn i).length
 ws:∀ q,q < nn s ->∀ x ∈ σ.wa q,∃ k:Nat,x= (k:Int)/\k < nn s
end
section
variable {s:Zc} {σ:TS} {a b p q k B:Nat}
theorem Qu.mm (h:Qu s):s.qG= (Proofs.YtcnahmgekicbdaaGreat.mm s:Int)/\1 <=Proofs.YtcnahmgekicbdaaGreat.mm s/\Proofs.YtcnahmgekicbdaaGreat.mm s <=4:=by
 have:=h.m1;have:=h.m2;unfold Proofs.YtcnahmgekicbdaaGreat.mm;omega
theorem Qu.pl (h:Qu s) (hp:p < nn s):(spt s p).at_= (Proofs.YtcnahmgekicbdaaGreat.pl s p:Int)/\Proofs.YtcnahmgekicbdaaGreat.pl s p < Proofs.YtcnahmgekicbdaaGreat.mm s:=by
 have:=h.at_ p hp;have:=h.mm.1;unfold Proofs.YtcnahmgekicbdaaGreat.pl;omega
theorem KV (ha:a < mm s) (hb:b < mm s):li s a b < mm s * mm s:=by
 unfold li;have:(a + 1) * mm s <=mm s * mm s:=Nat.mul_le_mul_right _ ha;rw [Nat.add_mul,Nat.one_mul] at this;omega
theorem UF (hS:Qu s) (ha:a < mm s) (hb:b < mm s):Yd (Yd ((a:Int) * s.qG) + (b:Int))= ((li s a b:Nat):Int):=by
 obtain⟨e,h1,h4⟩:=hS.mm;have hl:=KV ha hb;have h16:mm s * mm s <=16:=Nat.mul_le_mul h4 h4;have hm:a * mm s <=li s a b:=by unfold li;omega
 rw [e];have e1:(a:Int) * ((mm s:Nat):Int)= ((a * mm s:Nat):Int):=by rw [Int.natCast_mul]
 have e3:Yd ((a * mm s:Nat):Int)= ((a * mm s:Nat):Int):=Zam (by omega) (by omega);have e2:((a * mm s:Nat):Int) + (b:Int)= ((li s a b:Nat):Int):=by unfold li;omega
 rw [e1,e3,e2];exact Zam (by omega) (by omega)
theorem WJ (hS:Qu s) (hp:p < nn s):KP (hal s σ) (p:Int)=some (pl s p:Int):=by
 unfold KP;show(ZF s.Zh (p:Int)).bind _=_;rw [Qb hp];simp only [Bq0];rw [(hS.pl hp).1]
theorem Za7 (hS:Qu s) (hp:p < nn s):KQ (XZ s σ) (p:Int)=some (pl s p:Int):=by
 unfold KQ;show(ZF s.Zh (p:Int)).bind _=_;rw [Qb hp];simp only [Bq0];rw [(hS.pl hp).1]
theorem Zae (h:Few s 800000 σ) (d p q n:Int):Zlb (hal s σ) d p q n=some (hal s (tell d p q n σ)):=by
 unfold Zlb;show(app 32 σ.ev _).bind _=_;rw [app1 (by have:=h.ev;omega) (by decide)];rfl
theorem Zbh (h:Few s 800000 σ) (d p q n:Int):Zlc (XZ s σ) d p q n=some (XZ s (tell d p q n σ)):=by
 unfold Zlc;show(app 32 σ.ev _).bind _=_;rw [app1 (by have:=h.ev;omega) (by decide)];rfl
theorem Zqi (h:Few s B σ) (ha:a < mm s) (hb:b < mm s) (x:Zd):tab (mm s * mm s) (YE (Jc σ) (li s a b) ⟨(σ.ld (li s a b):Int),(σ.sn (li s a b)).drop (σ.ld (li s a b)) ++ [x]⟩)=tab (mm s * mm s) (Jc (send s a b x σ)):=by
 refine WV fun k hk=>?_
 by_cases e:k=li s a b
 ·subst e;rw [Yg];show _= (⟨_,(YE σ.sn (li s a b) _ (li s a b)).drop _⟩:Zg);rw [Yg];show _= (⟨_,(σ.sn (li s a b) ++ [x]).drop (σ.ld (li s a b))⟩:Zg);rw [List.drop_append_of_le_length (h.ld _ hk)];rfl
 ·rw [Xk e];show _= (⟨_,(YE σ.sn (li s a b) _ k).drop _⟩:Zg);rw [Xk e];rfl
theorem Zbj (hS:Qu s) (h:Few s 800000 σ) (ha:a < mm s) (hb:b < mm s) (x:Zd):ZnX (hal s σ) (a:Int) (b:Int) x=some (hal s (send s a b x σ)):=by
 unfold ZnX;show(ZF (tab (mm s * mm s) (Jc σ)) (Yd (Yd ((a:Int) * s.qG) + (b:Int)))).bind _=_;have hl:=KV ha hb;rw [UF hS ha hb,Z4 hl];simp only [Bq0];have:((Jc σ (li s a b)).kG).length <=900000:=by have:=h.sn _ hl;unfold Jc;simp;omega
 rw [app1 this (by decide)];simp only [Bq0];show some (Z6.mk (Ze.mk _ _ _ _ _ (ZE (tab (mm s * mm s) (Jc σ)) (Yd (Yd ((a:Int) * s.qG) + (b:Int))) _) _) _ _)=_;rw [UF hS ha hb,XD,show(Jc σ (li s a b)).Zu= (σ.ld (li s a b):Int) from rfl,show(Jc σ (li s a b)).kG= (σ.sn (li s a b)).drop (σ.ld (li s a b)) from rfl,Zqi h ha hb x];rfl
theorem ZcQ (hS:Qu s) (h:Few s 800000 σ) (ha:a < mm s) (hb:b < mm s) (x:Zd):Zn7 (XZ s σ) (a:Int) (b:Int) x=some (XZ s (send s a b x σ)):=by
 unfold Zn7;show(ZF (tab (mm s * mm s) (Jc σ)) (Yd (Yd ((a:Int) * s.qG) + (b:Int)))).bind _=_;have hl:=KV ha hb;rw [UF hS ha hb,Z4 hl];simp only [Bq0];have:((Jc σ (li s a b)).kG).length <=900000:=by have:=h.sn _ hl;unfold Jc;simp;omega
 rw [app1 this (by decide)];simp only [Bq0];show some (Z5.mk _ (Ze.mk _ _ _ _ _ (ZE (tab (mm s * mm s) (Jc σ)) (Yd (Yd ((a:Int) * s.qG) + (b:Int))) _) _) _)=_;rw [UF hS ha hb,XD,show(Jc σ (li s a b)).Zu= (σ.ld (li s a b):Int) from rfl,show(Jc σ (li s a b)).kG= (σ.sn (li s a b)).drop (σ.ld (li s a b)) from rfl,Zqi h ha hb x];rfl
theorem Zlw (h:Few s 800000 σ) (ha:a < mm s) (x:Zd):Zmu (hal s σ) (a:Int) x=some (hal s (wait a x σ)):=by
 unfold Zmu;show(ZF (tab (mm s) σ.be) (a:Int)).bind _=_;rw [Z4 ha];simp only [Bq0];rw [app1 (by have:=h.be a ha;omega) (by decide)];simp only [Bq0];show(ZF (tab (mm s) σ.be) (a:Int)).bind (fun _=>some (Z6.mk (Ze.mk _ _ _ _ (ZE (tab (mm s) σ.be) (a:Int) _) _ _) _ _))=_;rw [Z4 ha,XD];rfl
theorem ZfH (hS:Qu s) (hq:q < nn s):app 8 ([]:List Int) (Kc s σ q)=some (Kc s σ q):=by
 have:(Kc s σ q).length <=16:=by unfold Kc;rw [Xt];exact Nat.mul_le_mul hS.mm.2.2 hS.mm.2.2
 rw [Zo6 (by simp;omega)];rfl
theorem WG (a b:Nat):(((a:Int))== ((b:Int)))=decide (a=b):=by
 rw [Xq];by_cases h:a=b
 ·subst h;simp
 ·rw [decide_eq_false h,decide_eq_false (by omega)]
theorem ZmD (hS:Qu s) (h:Few s 800000 σ) (hp:p < nn s) (hq:q < nn s):Zxg (hal s σ) (p:Int) (q:Int)=some (hal s (JM s p q σ)):=by
 unfold Zxg ZhF;show(ZF (tab (nn s) fun p=>tab (mm s * mm s) (σ.ma p)) (q:Int)).bind _=_;rw [Z4 hq];simp only [Bq0];rw [show app 8 ([]:List Int) (tab (mm s * mm s) (σ.ma q))=some (Kc s σ q) from ZfH hS hq];simp only [Bq0];rw [WJ hS hp,WJ hS hq];simp only [Bq0];rw [WG];unfold JM;by_cases e:pl s p=pl s q
 ·rw [decide_eq_true e,Cq1,if_pos e,Zlw h (hS.pl hp).2];rfl
 ·rw [decide_eq_false e,Cq0,if_neg e,Zbj hS h (hS.pl hq).2 (hS.pl hp).2];rfl
theorem ZrT (hS:Qu s) (h:Few s 800000 σ) (hp:p < nn s) (hq:q < nn s):Zxi (XZ s σ) (p:Int) (q:Int)=some (XZ s (JM s p q σ)):=by
 unfold Zxi;show(ZF (tab (nn s) fun p=>tab (mm s * mm s) (σ.ma p)) (q:Int)).bind _=_;rw [Z4 hq];simp only [Bq0];rw [show app 8 ([]:List Int) (tab (mm s * mm s) (σ.ma q))=some (Kc s σ q) from ZfH hS hq];simp only [Bq0];rw [Za7 hS hp,Za7 hS hq];simp only [Bq0];rw [WG];unfold JM;by_cases e:pl s p=pl s q
 ·rw [decide_eq_true e,Cq1,if_pos e];show(ZF (tab (mm s) σ.be) (pl s p:Int)).bind _=_;have ha:= (hS.pl hp).2;rw [Z4 ha];simp only [Bq0];rw [app1 (by have:=h.be _ ha;omega) (by decide)];simp only [Bq0];show(ZF (tab (mm s) σ.be) (pl s p:Int)).bind (fun _=>some (Z5.mk _ (Ze.mk _ _ _ _ (ZE (tab (mm s) σ.be) (pl s p:Int) _) _ _) _))=_;rw [Z4 ha,XD];rfl
 ·rw [decide_eq_false e,Cq0,if_neg e,ZcQ hS h (hS.pl hq).2 (hS.pl hp).2];rfl
theorem Zux (h:Few s 800000 σ) (hp:p < nn s) (hq:q < nn s) (n:Int):Zxm (XZ s σ) (p:Int) (q:Int) n=some (XZ s (see p q n σ)):=by
 unfold Zxm Zj2;show((ZF (tab (nn s) σ.st) (p:Int)).bind _).bind _=_;rw [Z4 hp];simp only [Bq0];unfold see;rw [Xq];by_cases e:σ.st p=1
 ·rw [decide_eq_true e,Cq1,if_pos e,Zbh h];rfl
 ·rw [decide_eq_false e,Cq0,if_neg e]
theorem ZpO (h:Few s 800000 σ) {x:Zd} (hx:x.kX= (p:Int)) (hp:p < nn s):Zxk (hal s σ) x=some (hal s (if σ.st p=1 then tell 2 p x.kV x.n σ else σ)):=by
 unfold Zxk;rw [hx];show(ZF (tab (nn s) σ.st) (p:Int)).bind _=_;rw [Z4 hp];simp only [Bq0];rw [Xq];by_cases e:σ.st p=1
 ·rw [decide_eq_true e,Cq1,if_pos e,Zae h];rfl
 ·rw [decide_eq_false e,Cq0,if_neg e]
theorem Zqc (hS:Qu s) (h:Few s 800000 σ) (hp:p < nn s) (hq:q < nn s):Zxl (XZ s σ) (p:Int) (q:Int)=some (XZ s (note s p q σ)):=by
 unfold Zxl;show(ZF (tab (nn s) σ.st) (q:Int)).bind _=_;rw [Z4 hq];simp only [Bq0];unfold note;rw [Xq];by_cases e:σ.st q=3
 ·rw [decide_eq_true e,Cq1,if_pos e,ZrT hS h hp hq];rfl
 ·rw [decide_eq_false e,Cq0,if_neg e];show(ZF (tab (nn s) σ.wa) (q:Int)).bind _=_;rw [Z4 hq];simp only [Bq0];rw [app1 (by have:=h.wa _ hq;omega) (by decide)];simp only [Bq0];show(ZF (tab (nn s) σ.wa) (q:Int)).bind (fun _=>some (Z5.mk _ (Ze.mk _ _ _ (ZE (tab (nn s) σ.wa) (q:Int) _) _ _ _) _))=_;rw [Z4 hq,XD];rfl
theorem ZlZ (hS:Qu s) (h:Few s 800000 σ) {x:Zd} (hx:x.kV= (p:Int)) (hy:x.kX= (q:Int)) (hp:p < nn s) (hq:q < nn s):Zxj (hal s σ) x=some (hal s (note s p q σ)):=by
 unfold Zxj;rw [hx,hy];show(ZF (tab (nn s) σ.st) (q:Int)).bind _=_;rw [Z4 hq];simp only [Bq0];unfold note;rw [Xq];by_cases e:σ.st q=3
 ·rw [decide_eq_true e,Cq1,if_pos e,ZmD hS h hp hq];rfl
 ·rw [decide_eq_false e,Cq0,if_neg e];show(ZF (tab (nn s) σ.wa) (q:Int)).bind _=_;rw [Z4 hq];simp only [Bq0];rw [app1 (by have:=h.wa _ hq;omega) (by decide)];simp only [Bq0];show(ZF (tab (nn s) σ.wa) (q:Int)).bind (fun _=>some (Z6.mk (Ze.mk _ _ _ (ZE (tab (nn s) σ.wa) (q:Int) _) _ _ _) _ _))=_;rw [Z4 hq,XD];rfl
end
end
section
def Alo (s:Zc) (σ:TS) (p:Nat):Prop:=∀ k:Nat,k < nn s ->inn s (k:Int)= (p:Int) ->(k:Int) ∈ σ.kn p
def ins (k:Int) (l:List Int):List Int:=l.takeWhile (fun x=>decide (x < k)) ++ k::l.dropWhile (fun x=>decide (x < k))
def mx (f:Nat ->Int) (l:List Int) (i:Nat):Int:=if l.getD i 0 > f i then l.getD i 0 else f i
theorem ZHJ:∀ (l:List Int) (a b:Int),l.Pairwise (· < ·) ->(∀ x ∈ l,a <=x/\x < b) ->(l.length:Int) <=max 0 (b - a):=by
 intro l
 induction l with
 | nil=>intro a b _ _;simp;omega
 | cons x xs ih=>
   intro a b h1 h2;obtain⟨p1,p2⟩:=List.pairwise_cons.1 h1;have:=ih (x + 1) b p2 fun y hy=>⟨by have:=p1 y hy;omega,(h2 y (by simp [hy])).2⟩
   have:=h2 x (by simp);rw [List.length_cons];omega
section
variable {s:Zc} {σ:TS} {F p k q:Nat}
theorem ZAY {l:List Int} (hF:1000 <=F) (hl:l.length <=500) (x:Int):∃ r,Zrf F l x=some r/\(r >=0↔x ∈ l):=by
 unfold Zrf;by_cases hz:∃ j,j < l.length/\l.getD j 0=x
 ·obtain⟨j,hj⟩:=hz;obtain⟨m,_,⟨hm,hx⟩,hlt⟩:=ZbA (c:=fun j=>j < l.length/\l.getD j 0=x) hj;refine⟨(m:Int),Xr (fun k=>(k:Int)) rfl (n:=m) (by omega) (fun k hk next=>?_) (fun next=>?_),?_⟩
  ·unfold ZdY;rw [Yv (show k < l.length by omega),Cq1,XY 0 (show k < l.length by omega)];simp only [Bq0];rw [Xq,decide_eq_false (fun e=>hlt k hk ⟨by omega,e.symm⟩),Cq0,X9 (by omega)]
  ·unfold ZdY;rw [Yv hm,Cq1,XY 0 hm];simp only [Bq0];rw [Xq,decide_eq_true hx.symm,Cq1]
  ·exact⟨fun _=>by rw [<- hx];exact Qd hm,fun _=>by omega⟩
 ·refine⟨-1,Xr (fun k=>(k:Int)) rfl (n:=l.length) (by omega) (fun k hk next=>?_) (fun next=>?_),?_⟩
  ·unfold ZdY;rw [Yv hk,Cq1,XY 0 hk];simp only [Bq0];rw [Xq,decide_eq_false (fun e=>hz ⟨k,hk,e.symm⟩),Cq0,X9 (by omega)]
  ·unfold ZdY;rw [YI,Cq0]
  ·refine⟨fun h=>by omega,fun h=>?_⟩;obtain⟨j,hj,e⟩:=List.getElem_of_mem h;exact absurd ⟨j,hj,by rw [KE hj];exact e⟩ hz
theorem contains_eq {l:List Int} (hF:1000 <=F) (hl:l.length <=500) (x:Int):Zxf F l x=some (decide (x ∈ l)):=by
 obtain⟨r,h1,h2⟩:=ZAY (F:=F) hF hl x;unfold Zxf;rw [h1];simp only [Bq0];congr 1;by_cases h:x ∈ l
 ·rw [decide_eq_true h,decide_eq_true (h2.2 h)]
 ·rw [decide_eq_false h,decide_eq_false fun q=>h (h2.1 q)]
theorem Zl0 (hF:1000 <=F) (hp:p < nn s) (hl:(σ.kn p).length <=500) (x:Int):Zxh F (XZ s σ) (p:Int) x=some (decide (x ∈ σ.kn p)):=by
 unfold Zxh;show(ZF (tab (nn s) σ.kn) (p:Int)).bind _=_;rw [Z4 hp];simp only [Bq0]
 have e:=Wv (body:=ZjW x (σ.kn p)) (r1:=some true) (r2:=some false) (s0:= (0:Int)) (fun k=>(k:Int)) rfl (fun k=>(σ.kn p).getD k 0 ≠ x) (n:= (σ.kn p).length) (F:=F) (by omega) (fun k hk next=>by
  unfold ZjW;rw [Yv hk,Cq1,XY 0 hk];simp only [Bq0];rw [Xq];by_cases e:(σ.kn p).getD k 0=x
  ·rw [decide_eq_true e,Cq1,Z7 (fun z=>z e)]
  ·rw [decide_eq_false e,Cq0,Z9 e,X9 (by omega)]) (fun next=>by
  unfold ZjW;rw [YI,Cq0])
 rw [e];by_cases h:x ∈ σ.kn p
 ·obtain⟨j,hj,e⟩:=List.getElem_of_mem h;rw [Z7 (fun z=>z j hj (by rw [KE hj];exact e)),decide_eq_true h]
 ·rw [Z9 (fun k hk e=>h (by rw [<- e];exact Qd hk)),decide_eq_false h]
theorem ZeT (hF:1000 <=F) (hS:Qu s) (hp:p < nn s) (hl:(σ.kn p).length <=500):Zrc F (hal s σ) (p:Int)=ifc (Alo s σ p) (some true) (some false):=by
 unfold Zrc ZnW;simp only [Bq0];have h8:=hS.p2
 have e:=Wv (body:=ZjP F (hal s σ) (p:Int)) (r1:=some false) (r2:=some true) (s0:= ((0:Int),false)) (fun k=>((k:Int),false)) rfl (fun k:Nat=>inn s (k:Int)= (p:Int) ->(k:Int) ∈ σ.kn p) (n:=nn s) (F:=F) (by unfold nn;omega) (fun k hk next=>by
  unfold ZjP;dsimp only;rw [show(hal s σ).qK.Zh=s.Zh from rfl,show((s.Zh.length:Nat):Int)= ((nn s:Nat):Int) from rfl,Yv hk,Cq1,Qb hk];simp only [Bq0];rw [QN,Xq];by_cases e:inn s (k:Int)= (p:Int)
  ·rw [decide_eq_true e,Cq1,Cq0];show(ZF (tab (nn s) σ.kn) (p:Int)).bind _=_;rw [Z4 hp];simp only [Bq0];rw [contains_eq hF hl];simp only [Bq0,Bool.not_false,Bool.not_true,Cq1,Cq0];by_cases m:(k:Int) ∈ σ.kn p
   ·rw [decide_eq_true m,Bool.not_true,Cq0,Z9 (fun _=>m),X9 (by unfold nn at hk;omega)]
   ·rw [decide_eq_false m,Bool.not_false,Cq1,Z7 (fun z=>m (z e))];rfl
  ·rw [decide_eq_false e,Cq0,Z9 (fun z=>absurd z e),X9 (by unfold nn at hk;omega)]) (fun next=>by
  unfold ZjP;dsimp only;rw [show(hal s σ).qK.Zh=s.Zh from rfl,show((s.Zh.length:Nat):Int)= ((nn s:Nat):Int) from rfl,YI,Cq0]
  rfl)
 rw [e];rfl
def K9 (s:Zc) (p:Nat):List Nat:= (List.range (nn s)).filter fun q:Nat=>inn s (q:Int)== (p:Int)
theorem Zdb:k ∈ K9 s p↔k < nn s/\inn s (k:Int)= (p:Int):=by unfold K9;simp
theorem Zqm (hS:Qu s):(K9 s p).length <=8:=by
 have:=List.length_filter_le (fun q:Nat=>inn s (q:Int)== (p:Int)) (List.range (nn s));have h8:=hS.p2;unfold K9;rw [List.length_range] at this;unfold nn at *;omega
theorem ZuZ (hF:100000 <=F) (hS:Qu s):Ztz F s (p:Int)=some ((K9 s p).map Int.ofNat):=ZAU hF hS.p2 (p:Int)
theorem Zhp (hF:100000 <=F) (hS:Qu s) (hp:p < nn s) (hl:(σ.kn p).length <=500):ZgQ F (XZ s σ) (p:Int)=ifc (Alo s σ p) (some true) (some false):=by
 unfold ZgQ;rw [show(XZ s σ).s=s from rfl,ZuZ hF hS];simp only [Bq0];have h8:=Zqm (p:=p) hS
 have e:=Wv (body:=ZjV F (XZ s σ) (p:Int) ((K9 s p).map Int.ofNat)) (r1:=some false) (r2:=some true) (s0:= (0:Int)) (fun k=>(k:Int)) rfl (fun j:Nat=>(((K9 s p).getD j 0:Nat):Int) ∈ σ.kn p) (n:= (K9 s p).length) (F:=F) (by omega) (fun j hj next=>by
  unfold ZjV;rw [List.length_map,Yv hj,Cq1,XY 0 (by rw [List.length_map];exact hj)];simp only [Bq0]
  have e1:((K9 s p).map Int.ofNat).getD j 0= (((K9 s p).getD j 0:Nat):Int):=by
   rw [KE (by rw [List.length_map];exact hj),KE hj,List.getElem_map];rfl
  rw [e1,Zl0 (by omega) hp hl];simp only [Bq0];by_cases m:(((K9 s p).getD j 0:Nat):Int) ∈ σ.kn p
  ·rw [decide_eq_true m,Bool.not_true,Cq0,Z9 m,X9 (by omega)]
  ·rw [decide_eq_false m,Bool.not_false,Cq1,Z7 m]) (fun next=>by
  unfold ZjV;rw [List.length_map,YI,Cq0])
 rw [e];by_cases h:Alo s σ p
 ·rw [Z9 h,Z9 fun j hj=>by
   have:=Zdb.1 (Qd (d:=0) hj);exact h _ this.1 this.2]
 ·rw [Z7 h,Z7 fun z=>h fun k hk e=>by
   have hm:=Zdb.2 ⟨hk,e⟩;obtain⟨j,hj,e2⟩:=List.getElem_of_mem hm;have:=z j hj;rw [KE hj,e2] at this;exact this]
end
theorem Zbg {l:List Int} {k:Int}:(l.takeWhile fun x=>decide (x < k)).length <=l.length:=by
 induction l with
 | nil=>simp
 | cons x xs ih=>
   rw [List.takeWhile_cons];by_cases h:x < k <;> simp [h];omega
theorem Zzc {l:List Int} {k:Int}:∀ j,j < (l.takeWhile fun x=>decide (x < k)).length ->l.getD j 0 < k:=by
 induction l with
 | nil=>intro j hj;simp at hj
 | cons x xs ih=>
   intro j hj;rw [List.takeWhile_cons] at hj;by_cases h:x < k
   ·rw [decide_eq_true h,if_pos rfl,List.length_cons] at hj;cases j with
    | zero=>simpa using h
    | succ j=>have:=ih j (by omega);simpa using this
   ·rw [decide_eq_false h] at hj;simp at hj
theorem Zzd {l:List Int} {k:Int} (hs:l.Pairwise (· < ·)):∀ j,(l.takeWhile fun x=>decide (x < k)).length <=j ->j < l.length ->k <=l.getD j 0:=by
 induction l with
 | nil=>intro j _ hj;simp at hj
 | cons x xs ih=>
   intro j h1 h2;obtain⟨p1,p2⟩:=List.pairwise_cons.1 hs;rw [List.takeWhile_cons] at h1;by_cases h:x < k
   ·rw [decide_eq_true h,if_pos rfl,List.length_cons] at h1;cases j with
    | zero=>omega
    | succ j=>have:=ih p2 j (by omega) (by simpa using h2);simpa using this
   ·cases j with
    | zero=>simpa using h
    | succ j=>
      have hj:j < xs.length:=by simpa using h2
      have:=p1 _ (Qd (d:=0) hj);simp only [List.getD_cons_succ];omega
theorem ZpG {l:List Int} {k:Int}:l.take (l.takeWhile fun x=>decide (x < k)).length=l.takeWhile (fun x=>decide (x < k))/\l.drop (l.takeWhile fun x=>decide (x < k)).length=l.dropWhile (fun x=>decide (x < k)):=by
 have h:=List.takeWhile_append_dropWhile (p:=fun x:Int=>decide (x < k)) (l:=l)
 constructor
 ·conv=>lhs;rw [<- h]
  rw [List.takeWhile_append_dropWhile];have:∀ (a b:List Int),(a ++ b).take a.length=a:=fun a b=>by simp
  conv=>lhs;arg 2;rw [<- h]
  exact this _ _
 ·have:∀ (a b:List Int),(a ++ b).drop a.length=b:=fun a b=>by simp
  conv=>lhs;arg 2;rw [<- h]
  exact this _ _
theorem ZAX (k:Int) (l:List Int):ins k l=l.take (l.takeWhile fun x=>decide (x < k)).length ++ k::l.drop (l.takeWhile fun x=>decide (x < k)).length:=by
 unfold ins;rw [ZpG.1,ZpG.2]
theorem ZaO {k x:Int} {l:List Int}:x ∈ ins k l↔x=k\/x ∈ l:=by
 unfold ins
 conv=>rhs;rhs;rw [<- List.takeWhile_append_dropWhile (p:=fun x:Int=>decide (x < k)) (l:=l)]
 simp only [List.mem_append,List.mem_cons]
 constructor
 ·rintro(h | h | h)
  ·exact .inr (.inl h)
  ·exact .inl h
  ·exact .inr (.inr h)
 ·rintro(h | h | h)
  ·exact .inr (.inl h)
  ·exact .inl h
  ·exact .inr (.inr h)
theorem Zs0 {k:Int}:∀ {l:List Int},l.Pairwise (· < ·) ->k ∉ l ->(ins k l).Pairwise (· < ·):=by
 intro l
 induction l with
 | nil=>intro _ _;simp [ins]
 | cons x xs ih=>
   intro hs hk;obtain⟨p1,p2⟩:=List.pairwise_cons.1 hs;simp at hk;by_cases h:x < k
   ·have e:ins k (x::xs)=x::ins k xs:=by unfold ins;simp [List.takeWhile_cons,List.dropWhile_cons,h]
    rw [e]
    exact List.pairwise_cons.2 ⟨fun y hy=>by rcases ZaO.1 hy with z | z;· rw [z];exact h
                                             ·exact p1 y z,ih p2 hk.2⟩
   ·have e:ins k (x::xs)=k::x::xs:=by unfold ins;simp [List.takeWhile_cons,List.dropWhile_cons,h]
    rw [e]
    exact List.pairwise_cons.2 ⟨fun y hy=>by rcases List.mem_cons.1 hy with z | z;· rw [z];omega
                                             ·have:=p1 y z;omega,hs⟩
theorem ZFV (a b:Int):Zrg a b=some (decide (a < b)):=by
 unfold Zrg Zmt;simp [gd]
theorem ZlC {F:Nat} {l:List Int} {k:Int} (hF:1000 <=F) (hl:l.length <=500) (hs:l.Pairwise (· < ·)) (hk:k ∉ l):Zms F l k=some (((l.takeWhile fun x=>decide (x < k)).length:Int),false):=by
 unfold Zms;obtain⟨c,hc⟩:∃ c,c= (l.takeWhile fun x=>decide (x < k)).length:= ⟨_,rfl⟩
 have h1:∀ j,j < c ->l.getD j 0 < k:=fun j hj=>Zzc j (by omega)
 have h2:∀ j,c <=j ->j < l.length ->k <=l.getD j 0:=fun j a b=>Zzd hs j (by omega) b
 have hcl:c <=l.length:=by rw [hc];exact Zbg
 rw [<- hc]
 have key:∀ d F i j:Nat,d < F ->j - i <=d ->i <=c ->c <=j ->j <=l.length ->loop F (ZfV l k) ((i:Int),(j:Int))=some ((c:Int),false):=by
  intro d
  induction d with
  | zero=>
    intro F i j hF hd hi hj hjl;have:i=c:=by omega
    subst this;have:j=i:=by omega
    subst this;cases F with
    | zero=>omega
    | succ F=>
      rw [Jp];unfold ZfV;dsimp only;rw [YI,Cq0,ZLj];by_cases hlt:j < l.length
      ·rw [decide_eq_true hlt,XY 0 hlt];have:l.getD j 0 ≠ k:=fun e=>hk (by rw [<- e];exact Qd hlt)
       rw [Qm];simp only [Bq0];rw [Xq,decide_eq_false this];simp [gd,Zmq,XY 0 hlt]
      ·rw [decide_eq_false hlt];simp [gd]
  | succ d ih=>
    intro F i j hF hd hi hj hjl;by_cases hij:i < j
    ·cases F with
     | zero=>omega
     | succ F=>
       rw [Jp];unfold ZfV;dsimp only;have e1:Yd ((i:Int) + (j:Int))= ((i + j:Nat):Int):=by rw [Zam (by omega) (by omega)];omega
       have e2:IntKind.wrap .u64 (((i + j:Nat):Int))= ((i + j:Nat):Int):=by
        show(((i + j:Nat):Int)) % 18446744073709551616=_;omega
       have e3:Yd ((((i + j:Nat):Int)) / 2)= (((i + j) / 2:Nat):Int):=by rw [Zam (by omega) (by omega)];omega
       obtain⟨m,hm⟩:∃ m,m= (i + j) / 2:= ⟨_,rfl⟩
       rw [Yv hij,Cq1,e1,e2,e3,<- hm,XY 0 (by omega)];simp only [Bq0];rw [ZFV];simp only [Bq0];by_cases hx:l.getD m 0 < k
       ·rw [decide_eq_true hx,Cq1,X9 (by omega)];have:m < c:=Classical.byContradiction fun z=>by have:=h2 m (by omega) (by omega);omega
        exact ih F (m + 1) j (by omega) (by omega) (by omega) hj hjl
       ·rw [decide_eq_false hx,Cq0];have:c <=m:=Classical.byContradiction fun z=>by have:=h1 m (by omega);omega
        exact ih F i m (by omega) (by omega) hi this (by omega)
    ·exact ih F i j (by omega) (by omega) hi hj hjl
 have:=key l.length F 0 l.length (by omega) (by omega) (Nat.zero_le _) hcl (Nat.le_refl _);exact this
theorem insert_eq {l:List Int} {k:Int} (hl:l.length <=500):Zre l ((l.takeWhile fun x=>decide (x < k)).length:Int) [k]=some (ins k l):=by
 unfold Zre;have:=Zbg (l:=l) (k:=k);rw [Nm0 (by omega),decide_eq_true (show(0:Int) <= ((l.takeWhile fun x=>decide (x < k)).length:Int) by omega),decide_eq_true (show((l.takeWhile fun x=>decide (x < k)).length:Int) <= (l.length:Int) by omega)];show some _=_;rw [Int.toNat_natCast,ZAX,List.append_assoc];rfl
theorem ZeB {β:Type} {F n:Nat} {f:Nat ->Int} {l:List Int} {r:Option β} (hF:n < F) (hn:n <=1000) (hl:l.length=n) {body:Int×List Int ->(Int×List Int ->Option β) ->Option β}
 (hb:∀ v8 (k:Nat),k < n ->∀ next,body ((k:Int),v8) next= (ZF l (k:Int)).bind fun x=>(ZF v8 (k:Int)).bind fun y=>(ZF v8 (k:Int)).bind fun z=>next (Yd ((k:Int) + 1),ZE v8 (k:Int) (if x > y then x else y)))
 (he:∀ next,body ((n:Int),tab n (mx f l)) next=r):loop F body (0,tab n f)=r:=by
 refine Xr (fun k=>((k:Int),tab n fun i=>if i < k then mx f l i else f i)) (by simp) hF (fun k hk next=>?_) (fun next=>?_)
 ·rw [hb _ _ hk,XY 0 (by rw [hl];exact hk)];simp only [Bq0];rw [Z4 hk];simp only [Bq0];rw [if_neg (Nat.lt_irrefl _),XD,X9 (by omega)];congr 2;refine WV fun i hi=>?_
  unfold YE;by_cases e:i=k
  ·subst e;rw [if_pos rfl,if_pos (Nat.lt_succ_self _)];rfl
  ·rw [if_neg e];show(if i < k then mx f l i else f i)=_;by_cases h:i < k
   ·rw [if_pos h,if_pos (by omega)]
   ·rw [if_neg h,if_neg (by omega)]
 ·have:(tab n fun i=>if i < n then mx f l i else f i)=tab n (mx f l):=WV fun i hi=>by rw [if_pos hi]
  show body ((n:Int),tab n fun i=>if i < n then mx f l i else f i) next=r;rw [this];exact he next
section
variable {F n:Nat} {f:Nat ->Int} {l:List Int}
theorem ZwH (hF:1000 <=F) (hn:n <=500) (hl:l.length=n):Zj8 F (tab n f) l=some (tab n (mx f l),l):=by
 unfold Zj8;refine ZeB (by omega) (by omega) hl (fun v8 k hk next=>?_) (fun next=>?_)
 ·unfold Ziu;dsimp only;rw [hl,Yv hk,Cq1]
 ·unfold Ziu;dsimp only;rw [hl,YI,Cq0]
theorem ZsU (hF:1000 <=F) (hn:n <=500) (hl:l.length=n):ZeP F (tab n f) l=some (tab n (mx f l)):=by
 unfold ZeP;refine ZeB (by omega) (by omega) hl (fun v8 k hk next=>?_) (fun next=>?_)
 ·unfold ZfW;dsimp only;rw [hl,Yv hk,Cq1]
 ·unfold ZfW;dsimp only;rw [hl,YI,Cq0]
theorem ZfQ (hF:1000 <=F) (hn:n <=500) (hl:l.length=n):Zmr F [tab n f,l]=some (tab n (mx f l)):=by
 unfold Zmr ZhF;have e0:ZF [tab n f,l] 0=some (tab n f):=rfl;rw [e0];simp only [Bq0];rw [Zo6 (by rw [Xt];simp;omega)];simp only [Bq0,List.nil_append];have e1:slL [tab n f,l] 1 (([tab n f,l].length:Nat):Int)=some [l]:=rfl;rw [e1];simp only [Bq0];refine Xr (fun k=>((k:Int),if k=0 then tab n f else tab n (mx f l))) rfl (n:=1) (by omega) (fun k hk next=>?_) (fun next=>?_)
 ·have:k=0:=by omega
  subst this;unfold Zit;dsimp only;rw [show decide (((0:Nat):Int) < (([l].length:Nat):Int))=true from rfl,Cq1,show ZF [l] ((0:Nat):Int)=some l from rfl];simp only [Bq0];refine ZeB (by omega) (by omega) hl (fun v8 k hk next=>?_) (fun next'=>?_)
  ·unfold Zis;dsimp only;rw [hl,Yv hk,Cq1]
  ·unfold Zis;dsimp only;rw [hl,YI,Cq0];rfl
 ·unfold Zit;dsimp only;rw [show decide (((1:Nat):Int) < (([l].length:Nat):Int))=false from rfl,Cq0];rfl
end
end
section
def QF (n:Nat) (f:Nat ->Nat):Nat:= ((List.range n).map f).sum
section
variable {n k:Nat} {f g:Nat ->Nat}
theorem Zaf:QF (n + 1) f=QF n f + f n:=by simp [QF,List.range_succ]
theorem ZbS (h:∀ k,k < n ->f k=g k):QF n f=QF n g:=by
 unfold QF;rw [List.map_congr_left fun k hk=>h k (List.mem_range.1 hk)]
theorem ZFB (h:∀ k,k < n ->f k <=g k):QF n f <=QF n g:=by
 induction n with
 | zero=>simp [QF]
 | succ n ih=>rw [Zaf,Zaf];have:=ih fun k hk=>h k (by omega);have:=h n (by omega);omega
theorem Ue (h:k < n):f k <=QF n f:=by
 induction n with
 | zero=>omega
 | succ n ih=>
   rw [Zaf];by_cases e:k=n
   ·subst e;omega
   ·have:=ih (by omega);omega
theorem ZpJ {v:Nat} (h:k < n):QF n (YE f k v) + f k=QF n f + v:=by
 induction n with
 | zero=>omega
 | succ n ih=>
   rw [Zaf,Zaf];by_cases e:k=n
   ·subst e;rw [Yg,ZbS (f:=YE f k v) (g:=f) fun j hj=>Xk (by omega)];omega
   ·have:=ih (by omega);rw [Xk (by omega)];omega
theorem ZcN (h:k < n) (hg:∀ j,j < n ->j ≠ k ->g j=f j):QF n g + f k=QF n f + g k:=by
 rw [ZbS (f:=g) (g:=YE f k (g k)) fun j hj=>by
  by_cases e:j=k
  ·subst e;rw [Yg]
  ·rw [Xk e,hg j hj e]]
 exact ZpJ h
theorem ZiZ (n c:Nat):QF n (fun _=>c)=n * c:=by
 induction n with
 | zero=>simp [QF]
 | succ n ih=>rw [Zaf,ih,Nat.succ_mul]
end
def ew (x:Zd):Nat:=if x.kW=1 then 1 else if x.kW=2 then 2 else if x.kW=5 then 1 else 0
def sw (x:Int):Nat:=if x=1 then 11 else if x=3 then 0 else 2
def fl (σ:TS) (i:Nat):List Zd:= (σ.sn i).drop (σ.ld i)
def lw (σ:TS) (i:Nat):Nat:= (σ.sn i).length + ((fl σ i).map ew).sum
def Pot (s:Zc) (σ:TS):Nat:=σ.ev.length + QF (mm s * mm s) (lw σ) + QF (mm s) (fun m=>(σ.be m).length) + QF (nn s) (fun q=>2 * (σ.wa q).length) + QF (nn s) (fun p=>sw (σ.st p))
structure Wf (s:Zc) (B:Nat) (σ:TS):Prop where
 pot:Pot s σ <=B
 ld:∀ i,i < mm s * mm s ->σ.ld i <= (σ.sn i).length
 ws:∀ q,q < nn s ->∀ x ∈ σ.wa q,∃ k:Nat,x= (k:Int)/\k < nn s
section
variable {s:Zc} {σ:TS} {B a b p q m:Nat}
theorem Wf.few (h:Wf s B σ) (hB:B <=800000):Few s 800000 σ:=by
 have hp:=h.pot;unfold Pot at hp;refine⟨by omega,fun i hi=>?_,fun m hm=>?_,fun q hq=>?_,h.ld,h.ws⟩
 ·have:=Ue (f:=lw σ) hi;unfold lw at this;unfold lw at hp;omega
 ·have:=Ue (f:=fun m=>(σ.be m).length) hm;omega
 ·have:=Ue (f:=fun q=>2 * (σ.wa q).length) hq;omega
theorem ZAn (d p q n:Int):Pot s (tell d p q n σ)=Pot s σ + 1:=by
 show(σ.ev ++ [_]).length + QF (mm s * mm s) (lw σ) + QF (mm s) (fun m=>(σ.be m).length) + QF (nn s) (fun q=>2 * (σ.wa q).length) + QF (nn s) (fun p=>sw (σ.st p))=_;rw [List.length_append,List.length_singleton];unfold Pot;omega
theorem ZGR (hl:σ.ld (li s a b) <= (σ.sn (li s a b)).length) (x:Zd):fl (send s a b x σ) (li s a b)=fl σ (li s a b) ++ [x]:=by
 show(YE σ.sn (li s a b) _ (li s a b)).drop (σ.ld (li s a b))=_;rw [Yg,List.drop_append_of_le_length hl];rfl
theorem Ztv {i:Nat} (hi:i ≠ li s a b) (x:Zd):fl (send s a b x σ) i=fl σ i:=by
 show(YE σ.sn (li s a b) _ i).drop (σ.ld i)=_;rw [Xk hi];rfl
theorem Zfa (x:Zd):(send s a b x σ).sn (li s a b)=σ.sn (li s a b) ++ [x]:=Yg _ _ _
theorem WW {i:Nat} (hi:i ≠ li s a b) (x:Zd):(send s a b x σ).sn i=σ.sn i:=Xk hi
theorem ZAo (ha:a < mm s) (hb:b < mm s) (hl:∀ i,i < mm s * mm s ->σ.ld i <= (σ.sn i).length) (x:Zd):Pot s (send s a b x σ)=Pot s σ + 1 + ew x:=by
 have hi:=KV ha hb;have h:=ZcN (f:=lw σ) (g:=lw (send s a b x σ)) hi fun j _ hj=>by unfold lw;rw [WW hj,Ztv hj]
 have e:lw (send s a b x σ) (li s a b)=lw σ (li s a b) + 1 + ew x:=by
  unfold lw;rw [Zfa,ZGR (hl _ hi),List.length_append,List.map_append,List.sum_append];simp;omega
 show σ.ev.length + QF (mm s * mm s) (lw (send s a b x σ)) + QF (mm s) (fun m=>(σ.be m).length) + QF (nn s) (fun q=>2 * (σ.wa q).length) + QF (nn s) (fun p=>sw (σ.st p))=_;unfold Pot;omega
theorem Znc (hm:m < mm s) (l:List Zd):Pot s {σ with be:=YE σ.be m l} + (σ.be m).length=Pot s σ + l.length:=by
 have h:=ZcN (f:=fun m=>(σ.be m).length) (g:=fun j=>(YE σ.be m l j).length) hm fun j _ hj=>by rw [Xk hj]
 rw [Yg] at h;show σ.ev.length + QF (mm s * mm s) (lw σ) + QF (mm s) (fun j=>(YE σ.be m l j).length) + QF (nn s) (fun q=>2 * (σ.wa q).length) + QF (nn s) (fun p=>sw (σ.st p)) + _=_;unfold Pot;omega
theorem ZAm (hm:m < mm s) (x:Zd):Pot s (wait m x σ)=Pot s σ + 1:=by
 have:=Znc (σ:=σ) hm (σ.be m ++ [x]);rw [List.length_append,List.length_singleton] at this;unfold wait;omega
theorem ZLb (hq:q < nn s) (l:List Int):Pot s {σ with wa:=YE σ.wa q l} + 2 * (σ.wa q).length=Pot s σ + 2 * l.length:=by
 have h:=ZcN (f:=fun q=>2 * (σ.wa q).length) (g:=fun j=>2 * (YE σ.wa q l j).length) hq fun j _ hj=>by rw [Xk hj]
 rw [Yg] at h;show σ.ev.length + QF (mm s * mm s) (lw σ) + QF (mm s) (fun m=>(σ.be m).length) + QF (nn s) (fun j=>2 * (YE σ.wa q l j).length) + QF (nn s) (fun p=>sw (σ.st p)) + _=_;unfold Pot;omega
theorem ZLc (hp:p < nn s) (v:Int):Pot s {σ with st:=YE σ.st p v} + sw (σ.st p)=Pot s σ + sw v:=by
 have h:=ZcN (f:=fun p=>sw (σ.st p)) (g:=fun j=>sw (YE σ.st p v j)) hp fun j _ hj=>by rw [Xk hj]
 rw [Yg] at h;show σ.ev.length + QF (mm s * mm s) (lw σ) + QF (mm s) (fun m=>(σ.be m).length) + QF (nn s) (fun q=>2 * (σ.wa q).length) + QF (nn s) (fun j=>sw (YE σ.st p v j)) + _=_;unfold Pot;omega
theorem ZG9 (p q n:Int) (l:List Int):ew ⟨5,p,q,n,l⟩=1:=rfl
theorem Wf.tell (h:Wf s B σ) (d p q n:Int):Wf s (B + 1) (tell d p q n σ):= ⟨by rw [ZAn];have:=h.pot;omega,h.ld,h.ws⟩
theorem Wf.send (h:Wf s B σ) (ha:a < mm s) (hb:b < mm s) (x:Zd):Wf s (B + 1 + ew x) (send s a b x σ):=by
 refine⟨by rw [ZAo ha hb h.ld];have:=h.pot;omega,fun i hi=>?_,h.ws⟩;show σ.ld i <=_;by_cases e:i=li s a b
 ·subst e;rw [Zfa,List.length_append];have:=h.ld _ hi;omega
 ·rw [WW e];exact h.ld i hi
theorem Wf.wait (h:Wf s B σ) (hm:m < mm s) (x:Zd):Wf s (B + 1) (wait m x σ):= ⟨by rw [ZAm hm];have:=h.pot;omega,h.ld,h.ws⟩
theorem Wf.up (h:Wf s B σ) {B':Nat} (hb:B <=B'):Wf s B' σ:= ⟨Nat.le_trans h.pot hb,h.ld,h.ws⟩
theorem Wf.JM (hS:Qu s) (h:Wf s B σ) (hp:p < nn s) (hq:q < nn s):Wf s (B + 2) (JM s p q σ):=by
 unfold Proofs.YtcnahmgekicbdaaGreat.JM;by_cases e:pl s p=pl s q
 ·rw [if_pos e];exact(h.wait (hS.pl hp).2 _).up (by omega)
 ·rw [if_neg e];exact(h.send (hS.pl hq).2 (hS.pl hp).2 _).up (by rw [ZG9];omega)
theorem Wf.wa (h:Wf s B σ) (hq:q < nn s) {l:List Int} (hl:∀ x ∈ l,∃ k:Nat,x= (k:Int)/\k < nn s) {B':Nat} (hB:B + 2 * l.length <=B' + 2 * (σ.wa q).length):Wf s B' {σ with wa:=YE σ.wa q l}:=by
 refine⟨?_,h.ld,fun j hj x hx=>?_⟩
 ·have:=ZLb (σ:=σ) hq l;have:=h.pot;omega
 ·have hx:x ∈ YE σ.wa q l j:=hx;by_cases e:j=q
  ·subst e;rw [Yg] at hx;exact hl x hx
  ·rw [Xk e] at hx;exact h.ws j hj x hx
theorem Wf.st (h:Wf s B σ) (hp:p < nn s) (v:Int) {B':Nat} (hB:B + sw v <=B' + sw (σ.st p)):Wf s B' {σ with st:=YE σ.st p v}:=
 ⟨by have:=ZLc (σ:=σ) hp v;have:=h.pot;omega,h.ld,h.ws⟩
theorem Wf.note (hS:Qu s) (h:Wf s B σ) (hp:p < nn s) (hq:q < nn s):Wf s (B + 2) (note s p q σ):=by
 unfold Proofs.YtcnahmgekicbdaaGreat.note;by_cases e:σ.st q=3
 ·rw [if_pos e];exact h.JM hS hp hq
 ·rw [if_neg e]
  exact h.wa hq (fun x hx=>by
   rcases List.mem_append.1 hx with hx | hx
   ·exact h.ws q hq x hx
   ·rw [List.mem_singleton.1 hx];exact⟨p,rfl,hp⟩) (by rw [List.length_append,List.length_singleton];omega)
theorem Wf.see (h:Wf s B σ) (p q:Nat) (n:Int):Wf s (B + 1) (see p q n σ):=by
 unfold Proofs.YtcnahmgekicbdaaGreat.see;by_cases e:σ.st p=1
 ·rw [if_pos e];exact h.tell _ _ _ _
 ·rw [if_neg e];exact h.up (by omega)
end
end
section
structure Kn (s:Zc) (σ:TS):Prop where
 srt:∀ q,q < nn s ->(σ.kn q).Pairwise (· < ·)
 rng:∀ q,q < nn s ->∀ x ∈ σ.kn q,∃ k:Nat,x= (k:Int)/\k < nn s/\inn s (k:Int)= (q:Int)/\σ.st k=3
noncomputable section
variable (s:Zc)
def ZhT (σ:TS) (p K:Nat) (i:Nat):Int:=if i / mm s=pl s p/\i % mm s < K/\i % mm s ≠ pl s p then((σ.sn i).length:Int) else σ.ma p i
def KS (p:Nat) (σ:TS):TS:= {σ with st:=YE σ.st p 3,ev:=σ.ev ++ [⟨6,(p:Int),0,0⟩],wa:=YE σ.wa p []}
def Zt (p:Nat) (l:List Int) (σ:TS):TS:=l.foldl (fun σ x=>JM s x.toNat p σ) σ
def ZVz (p:Nat) (σ:TS):TS:= {σ with ma:=YE σ.ma p (ZhT s σ p (mm s))}
def X5 (p:Nat) (σ:TS):TS:=ZVz s p (Zt s p (σ.wa p) (KS p σ))
def YF (k:Nat) (l:List Int) (σ:TS):TS:= {σ with kn:=YE σ.kn (inn s (k:Int)).toNat (ins (k:Int) (σ.kn (inn s (k:Int)).toNat)),ma:=YE σ.ma (inn s (k:Int)).toNat (mx (σ.ma (inn s (k:Int)).toNat) l)}
def Ww (die:Nat ->TS ->TS) (k:Nat) (l:List Int) (σ:TS):TS:=
 ifc ((YF s k l σ).st (inn s (k:Int)).toNat=2/\Alo s (YF s k l σ) (inn s (k:Int)).toNat) (die (inn s (k:Int)).toNat (YF s k l σ)) (YF s k l σ)
def Zkd (die:Nat ->TS ->TS) (p:Nat) (σ:TS):TS:=
 if inn s (p:Int) < 0 then σ
 else if pl s (inn s (p:Int)).toNat=pl s p then Ww s die p (Kc s σ p) σ
 else send s (pl s p) (pl s (inn s (p:Int)).toNat) ⟨4,(p:Int),0,0,Kc s σ p⟩ σ
def Zhc:Nat ->Nat ->TS ->TS
 | 0,_,σ=>σ
 | d + 1,p,σ=>Zkd s (Zhc d) p (X5 s p σ)
end
section
variable {s:Zc} {σ:TS} {F B p q:Nat}
theorem Znz:Z6.mk (Ze.mk (tab (nn s) σ.st) (tab (nn s) fun p=>tab (mm s * mm s) (σ.ma p)) (tab (nn s) σ.kn) (tab (nn s) σ.wa) (tab (mm s) σ.be) (tab (mm s * mm s) (Jc σ)) σ.sd) (Zc.mk s.qG s.Zh) σ.ev=hal s σ:=rfl
theorem ZnI:Z5.mk (Zc.mk s.qG s.Zh) (Ze.mk (tab (nn s) σ.st) (tab (nn s) fun p=>tab (mm s * mm s) (σ.ma p)) (tab (nn s) σ.kn) (tab (nn s) σ.wa) (tab (mm s) σ.be) (tab (mm s * mm s) (Jc σ)) σ.sd) σ.ev=XZ s σ:=rfl
theorem ZoS (p q:Nat) (σ:TS):(JM s p q σ).st=σ.st/\(JM s p q σ).kn=σ.kn/\(JM s p q σ).ma=σ.ma/\(JM s p q σ).ld=σ.ld/\(JM s p q σ).sd=σ.sd/\(JM s p q σ).ev=σ.ev/\(JM s p q σ).wa=σ.wa:=by
 unfold JM;split <;> exact⟨rfl,rfl,rfl,rfl,rfl,rfl,rfl⟩
theorem ZrS (p:Nat):∀ (l:List Int) (σ:TS),(Zt s p l σ).st=σ.st/\(Zt s p l σ).kn=σ.kn/\(Zt s p l σ).ma=σ.ma/\(Zt s p l σ).ld=σ.ld/\(Zt s p l σ).sd=σ.sd/\(Zt s p l σ).ev=σ.ev/\(Zt s p l σ).wa=σ.wa:=by
 intro l
 induction l with
 | nil=>intro σ;exact⟨rfl,rfl,rfl,rfl,rfl,rfl,rfl⟩
 | cons x l ih=>
   intro σ;have h1:=ih (JM s x.toNat p σ);have h2:=ZoS (s:=s) x.toNat p σ;have e:Zt s p (x::l) σ=Zt s p l (JM s x.toNat p σ):=rfl;rw [e];exact⟨h1.1.trans h2.1,h1.2.1.trans h2.2.1,h1.2.2.1.trans h2.2.2.1,h1.2.2.2.1.trans h2.2.2.2.1,h1.2.2.2.2.1.trans h2.2.2.2.2.1,h1.2.2.2.2.2.1.trans h2.2.2.2.2.2.1,h1.2.2.2.2.2.2.trans h2.2.2.2.2.2.2⟩
theorem Zkn (p k:Nat) (l:List Int) (hk:k < l.length) (σ:TS):Zt s p (l.take (k + 1)) σ=JM s (l.getD k 0).toNat p (Zt s p (l.take k) σ):=by
 unfold Zt;rw [List.take_succ_eq_append_getElem hk,List.foldl_append,KE hk];rfl
theorem ZcM (hS:Qu s) (hp:p < nn s):∀ (l:List Int) (B:Nat) (σ:TS),Wf s B σ ->(∀ x ∈ l,∃ k:Nat,x= (k:Int)/\k < nn s) ->Wf s (B + 2 * l.length) (Zt s p l σ):=by
 intro l
 induction l with
 | nil=>intro B σ h _;exact h
 | cons x l ih=>
   intro B σ h hx;obtain⟨k,e,hk⟩:=hx x (by simp);have h1:=ih (B + 2) (JM s x.toNat p σ) (by rw [e,Int.toNat_natCast];exact h.JM hS hk hp) (fun y hy=>hx y (by simp [hy]));exact h1.up (by rw [List.length_cons];omega)
theorem Zzf {x:Int} (h:x ≠ 3):2 <=sw x:=by
 unfold sw;by_cases e:x=1
 ·rw [if_pos e];omega
 ·rw [if_neg e,if_neg h];omega
theorem Zia (h:Wf s B σ) (hp:p < nn s) (h3:σ.st p ≠ 3):2 <=B/\Wf s (B - 1 - 2 * (σ.wa p).length) (KS p σ)/\2 * (σ.wa p).length + 2 <=B:=by
 have h2:=Zzf h3
 have YaN:2 + 2 * (σ.wa p).length <=Pot s σ:=by
  have a1:=Ue (f:=fun p=>sw (σ.st p)) hp;have a2:=Ue (f:=fun q=>2 * (σ.wa q).length) hp;unfold Pot;omega
 have hb:=h.pot;have w1:=h.st hp (3:Int) (B':=B - 2) (by rw [show sw (3:Int)=0 from rfl];omega);have w2:=w1.tell 6 (p:Int) 0 0
 have w3:=w2.wa (l:= []) hp (by simp) (B':=B - 1 - 2 * (σ.wa p).length) (by
  show _ <=_ + 2 * (σ.wa p).length;simp;omega)
 exact⟨by omega,w3,by omega⟩
theorem Wf.ma (h:Wf s B σ) (f:Nat ->Nat ->Int):Wf s B {σ with ma:=f}:= ⟨h.pot,h.ld,h.ws⟩
theorem Kv {k:Nat} {l:List Int} (h:Wf s B σ):Wf s B (YF s k l σ):= ⟨h.pot,h.ld,h.ws⟩
theorem ZmV (hS:Qu s) (h:Wf s B σ) (hp:p < nn s) (h3:σ.st p ≠ 3):Wf s (B - 1) (X5 s p σ):=by
 obtain⟨h1,h2,h4⟩:=Zia h hp h3;have:=ZcM hS hp (σ.wa p) _ _ h2 (h.ws p hp);exact(this.up (by omega)).ma _
theorem Ko (p:Nat) (σ:TS):(X5 s p σ).st=YE σ.st p 3/\(X5 s p σ).kn=σ.kn/\(X5 s p σ).ld=σ.ld/\(X5 s p σ).sd=σ.sd/\(X5 s p σ).ev=σ.ev ++ [⟨6,(p:Int),0,0⟩]/\(X5 s p σ).wa=YE σ.wa p []:=by
 have h:=ZrS (s:=s) p (σ.wa p) (KS p σ);exact⟨h.1,h.2.1,h.2.2.2.1,h.2.2.2.2.1,h.2.2.2.2.2.1,h.2.2.2.2.2.2⟩
theorem Znl (h:Kn s σ) (p:Nat):Kn s (X5 s p σ):=by
 have e:=Ko (s:=s) p σ;refine⟨fun q hq=>by rw [e.2.1];exact h.srt q hq,fun q hq x hx=>?_⟩;rw [e.2.1] at hx;obtain⟨k,h1,h2,h3,h4⟩:=h.rng q hq x hx;refine⟨k,h1,h2,h3,?_⟩;rw [e.1];by_cases z:k=p
 ·subst z;exact Yg _ _ _
 ·rw [Xk z];exact h4
theorem Kn.len (hS:Qu s) (h:Kn s σ) (hq:q < nn s):(σ.kn q).length <=8:=by
 have:=ZHJ (σ.kn q) 0 (nn s) (h.srt q hq) fun x hx=>by
  obtain⟨k,e,hk,_⟩:=h.rng q hq x hx;omega
 have h8:=hS.p2;unfold nn at this;omega
theorem Ju (hS:Qu s) (hp:p < nn s) (h0:¬ inn s (p:Int) < 0):inn s (p:Int)= ((inn s (p:Int)).toNat:Int)/\(inn s (p:Int)).toNat < nn s:=by
 obtain⟨k,e,hk⟩:=Zb2 (hS.inn.rng p hp) h0;rw [e,Int.toNat_natCast];exact⟨rfl,hk⟩
theorem J3 (hS:Qu s) (h:Kn s σ) (hp:p < nn s) (h0:¬ inn s (p:Int) < 0) (h3:σ.st p=3) (hn:(p:Int) ∉ σ.kn (inn s (p:Int)).toNat) (l:List Int):Kn s (YF s p l σ):=by
 obtain⟨e,hq⟩:=Ju hS hp h0;refine⟨fun q hq'=>?_,fun q hq' x hx=>?_⟩
 ·show(YE σ.kn _ _ q).Pairwise _;by_cases z:q= (inn s (p:Int)).toNat
  ·subst z;rw [Yg];exact Zs0 (h.srt _ hq) hn
  ·rw [Xk z];exact h.srt q hq'
 ·have hx:x ∈ YE σ.kn _ _ q:=hx;by_cases z:q= (inn s (p:Int)).toNat
  ·subst z;rw [Yg] at hx;rcases ZaO.1 hx with w | w
   ·exact⟨p,w,hp,e,h3⟩
   ·exact h.rng _ hq x w
  ·rw [Xk z] at hx;exact h.rng q hq' x hx
theorem ZaN {M a b i:Nat} (hb:b < M):i=a * M + b↔i / M=a/\i % M=b:=by
 have hM:0 < M:=by omega
 constructor
 ·intro e;subst e;have e1:(a * M + b) / M=a:=by rw [Nat.mul_comm,Nat.mul_add_div hM,Nat.div_eq_of_lt hb,Nat.add_zero]
  exact⟨e1,by rw [Nat.mul_comm,Nat.mul_add_mod,Nat.mod_eq_of_lt hb]⟩
 ·rintro⟨h1,h2⟩;have:=Nat.div_add_mod i M;rw [h1,h2,Nat.mul_comm] at this;exact this.symm
theorem ZwE (σ:TS) (p i:Nat):ZhT s σ p 0 i=σ.ma p i:=by unfold ZhT;rw [if_neg];rintro⟨_,h,_⟩;omega
theorem ZwF {k:Nat} (hk:k < mm s) (hne:k ≠ pl s p) (i:Nat):ZhT s σ p (k + 1) i=YE (ZhT s σ p k) (li s (pl s p) k) ((σ.sn (li s (pl s p) k)).length:Int) i:=by
 unfold YE;by_cases e:i=li s (pl s p) k
 ·rw [if_pos e];obtain⟨e1,e2⟩:= (ZaN hk).1 e;unfold ZhT;rw [if_pos ⟨e1,by omega,by omega⟩,e]
 ·rw [if_neg e];unfold ZhT;by_cases c:i / mm s=pl s p/\i % mm s < k/\i % mm s ≠ pl s p
  ·rw [if_pos c,if_pos ⟨c.1,by omega,c.2.2⟩]
  ·rw [if_neg c,if_neg];rintro⟨c1,c2,c3⟩;refine c ⟨c1,?_,c3⟩;have:i % mm s ≠ k:=fun z=>e ((ZaN hk).2 ⟨c1,z⟩)
   omega
theorem ZwG {k:Nat} (hne:k=pl s p) (i:Nat):ZhT s σ p (k + 1) i=ZhT s σ p k i:=by
 unfold ZhT;by_cases c:i / mm s=pl s p/\i % mm s < k/\i % mm s ≠ pl s p
 ·rw [if_pos c,if_pos ⟨c.1,by omega,c.2.2⟩]
 ·rw [if_neg c,if_neg];rintro⟨c1,c2,c3⟩;exact c ⟨c1,by omega,c3⟩
def Ut (s:Zc) (f:Nat ->Nat ->Int):List (List Int):=tab (nn s) fun j=>tab (mm s * mm s) (f j)
theorem Zbs {f:Nat ->Nat ->Int} (hp:p < nn s):ZF (Ut s f) (p:Int)=some (tab (mm s * mm s) (f p)):=Z4 hp
theorem Zah {f:Nat ->Nat ->Int} {g:Nat ->Int}:ZE (Ut s f) (p:Int) (tab (mm s * mm s) g)=Ut s (YE f p g):=by
 unfold Ut;rw [XD];refine WV fun j _=>?_
 by_cases e:j=p
 ·subst e;rw [Yg,Yg]
 ·rw [Xk e,Xk e]
theorem Zb7 {f g:Nat ->Nat ->Int} (h:∀ j,j < nn s ->∀ i,i < mm s * mm s ->f j i=g j i):Ut s f=Ut s g:=WV fun j hj=>WV fun i hi=>h j hj i hi
theorem ZpN (h:Wf s B σ) (hB:B <=800000) {i:Nat} (hi:i < mm s * mm s):Yd ((Jc σ i).Zu + ((Jc σ i).kG.length:Int))= ((σ.sn i).length:Int):=by
 have h1:=h.ld i hi;have h2:= (h.few hB).sn i hi;show Yd ((σ.ld i:Int) + (((σ.sn i).drop (σ.ld i)).length:Int))=_;rw [List.length_drop,Zam (by omega) (by omega)];omega
theorem Zjn {β:Type} (hF:1000 <=F) (hS:Qu s) (h:Wf s B σ) (hB:B <=800000) (hp:p < nn s) {r:Option β} {body:Int×List (List Int) ->(Int×List (List Int) ->Option β) ->Option β}
 (hb:∀ (v:List (List Int)) (k:Nat),k < mm s ->∀ next,body ((k:Int),v) next=bif((k:Int) != (pl s p:Int)) then((ZF v (p:Int)).bind fun x=>(ZF x (Yd (Yd ((pl s p:Int) * s.qG) + (k:Int)))).bind fun _=>next (Yd ((k:Int) + 1),ZE v (p:Int) (ZE x (Yd (Yd ((pl s p:Int) * s.qG) + (k:Int))) ((σ.sn (li s (pl s p) k)).length:Int)))) else next (Yd ((k:Int) + 1),v))
 (he:∀ next,body ((mm s:Int),Ut s (ZVz s p σ).ma) next=r):loop F body (0,Ut s σ.ma)=r:=by
 obtain⟨_,_,h4⟩:=hS.mm;have hpl:= (hS.pl hp).2
 refine Xr (fun k=>((k:Int),Ut s (YE σ.ma p (ZhT s σ p k)))) (by
  have:Ut s (YE σ.ma p (ZhT s σ p 0))=Ut s σ.ma:=Zb7 fun j _ i _=>by
   by_cases e:j=p
   ·subst e;rw [Yg,ZwE]
   ·rw [Xk e]
  rw [this];rfl) (n:=mm s) (by omega) (fun k hk next=>?_) (fun next=>?_)
 ·rw [hb _ _ hk]
  have e1:(((k:Int)) != ((pl s p:Int)))=decide (k ≠ pl s p):=by
   rw [Zaa];by_cases z:k=pl s p
   ·subst z;simp
   ·rw [decide_eq_true z,decide_eq_true (by omega)]
  rw [e1];by_cases z:k ≠ pl s p
  ·rw [decide_eq_true z,Cq1,Zbs hp,Yg];simp only [Bq0];rw [UF hS hpl hk,Z4 (KV hpl hk)];simp only [Bq0];rw [XD,Zah,X9 (by omega)];congr 2;refine Zb7 fun j _ i hi=>?_
   by_cases e:j=p
   ·subst e;rw [Yg,Yg,ZwF hk z]
   ·rw [Xk e,Xk e,Xk e]
  ·have z:=Classical.not_not.1 z;rw [decide_eq_false (by simpa using z),Cq0,X9 (by omega)];congr 2;refine Zb7 fun j _ i hi=>?_
   by_cases e:j=p
   ·subst e;rw [Yg,Yg,ZwG z]
   ·rw [Xk e,Xk e]
 ·exact he next
end
end
section
section
variable {s:Zc} {σ:TS} {F B p q:Nat} {die:Nat ->TS ->TS}
theorem ZFR (p:Nat):(Kc s σ p).length=mm s * mm s:=Xt
theorem Zcv (hS:Qu s):mm s * mm s <=16:=Nat.mul_le_mul hS.mm.2.2 hS.mm.2.2
theorem ZfJ (hS:Qu s):decide (((mm s:Nat):Int) < s.qG)=false:=by rw [hS.mm.1];exact YI _
theorem Zbt (hS:Qu s) {k:Nat} (hk:k < mm s):decide ((k:Int) < s.qG)=true:=by rw [hS.mm.1];exact Yv hk
theorem Zwe (hF:100000 <=F) (hS:Qu s) (hp:p < nn s) (hw:Wf s B σ) (hB:B <=700000) (hk:Kn s σ) (h3:σ.st p=3) (hn:¬ inn s (p:Int) < 0 ->(p:Int) ∉ σ.kn (inn s (p:Int)).toNat) (Qg:Z6×Int ->Option Z6) (nx:Int×List (List Int) ->Option Z6)
 (hx:¬ inn s (p:Int) < 0 ->(YF s p (Kc s σ p) σ).st (inn s (p:Int)).toNat=2 ->Qg (hal s (YF s p (Kc s σ p) σ),((inn s (p:Int)).toNat:Int))=some (hal s (die (inn s (p:Int)).toNat (YF s p (Kc s σ p) σ)))):
 ZjN F (p:Int) Qg (tab (nn s) σ.st) (tab (nn s) σ.kn) (tab (nn s) σ.wa) (tab (mm s) σ.be) (tab (mm s * mm s) (Jc σ)) σ.sd s.qG s.Zh σ.ev (pl s p:Int) ((mm s:Int),Ut s σ.ma) nx=some (hal s (Zkd s die p σ)):=by
 have h16:=Zcv hS;unfold ZjN;dsimp only;rw [ZfJ hS,Cq0,Qb hp];simp only [Bq0];rw [QN];unfold Zkd;by_cases h0:inn s (p:Int) < 0
 ·rw [decide_eq_true h0,Cq1,if_pos h0];rfl
 ·rw [decide_eq_false h0,Cq0,if_neg h0];obtain⟨eq,hq⟩:=Ju hS hp h0;have hn:=hn h0;have hx:=hx h0;obtain⟨q,hqe⟩:∃ q,q= (inn s (p:Int)).toNat:= ⟨_,rfl⟩
  rw [<- hqe] at eq hq hn hx |-;rw [eq,show Ut s σ.ma=tab (nn s) fun p=>tab (mm s * mm s) (σ.ma p) from rfl,Znz,WJ hS hq];simp only [Bq0];rw [WG,Z4 hp];simp only [Bq0];by_cases e:pl s q=pl s p
  ·rw [decide_eq_true e,Cq1,if_pos e,Z4 hq];simp only [Bq0];have hl:=hk.len hS hq;rw [ZlC (by omega) (by omega) (hk.srt q hq) hn];simp only [Bq0,Bool.not_false,Cq1];rw [insert_eq (by omega)];simp only [Bq0];rw [XD];unfold ZjL;rw [QN,eq,Z4 hq];simp only [Bq0];rw [ZfQ (by omega) (by omega) Xt];simp only [Bq0];rw [Z4 hq];simp only [Bq0]
   have e3:ZE (tab (nn s) fun p=>tab (mm s * mm s) (σ.ma p)) (q:Int) (tab (mm s * mm s) (mx (σ.ma q) (tab (mm s * mm s) (σ.ma p))))=tab (nn s) fun j=>tab (mm s * mm s) ((YF s p (Kc s σ p) σ).ma j):=by
    have:=Zah (s:=s) (p:=q) (f:=σ.ma) (g:=mx (σ.ma q) (tab (mm s * mm s) (σ.ma p)));unfold Ut at this;rw [this];show _=tab (nn s) fun j=>tab (mm s * mm s) (YE σ.ma (inn s (p:Int)).toNat _ j)
    rw [<- hqe];rfl
   have e4:tab (nn s) (YE σ.kn q (ins (p:Int) (σ.kn q)))=tab (nn s) (YF s p (Kc s σ p) σ).kn:=by
    show _=tab (nn s) (YE σ.kn (inn s (p:Int)).toNat _);rw [<- hqe]
   rw [e3,e4];have e5:Z6.mk (Ze.mk (tab (nn s) σ.st) (tab (nn s) fun j=>tab (mm s * mm s) ((YF s p (Kc s σ p) σ).ma j)) (tab (nn s) (YF s p (Kc s σ p) σ).kn) (tab (nn s) σ.wa) (tab (mm s) σ.be) (tab (mm s * mm s) (Jc σ)) σ.sd) (Zc.mk s.qG s.Zh) σ.ev=hal s (YF s p (Kc s σ p) σ):=rfl;rw [e5];have hk3:=J3 hS hk hp h0 h3 (by rw [<- hqe];exact hn) (Kc s σ p);rw [Xq];unfold Ww;rw [<- hqe];have e6:(YF s p (Kc s σ p) σ).st q=σ.st q:=rfl;by_cases h2:σ.st q=2
   ·rw [decide_eq_true h2,Qm,ZeT (by omega) hS hq (by have:=hk3.len hS hq;omega)];by_cases hA:Alo s (YF s p (Kc s σ p) σ) q
    ·rw [Z9 hA];simp only [Bq0,Bool.and_self,Cq1];rw [hx (by rw [e6];exact h2),Z9 ⟨by rw [e6];exact h2,hA⟩];rfl
    ·rw [Z7 hA];simp only [Bq0,Bool.and_false,Cq0];rw [Z7 fun z=>hA z.2]
     rfl
   ·rw [decide_eq_false h2,QL];simp only [Bq0,Bool.false_and,Cq0];rw [Z7 fun z=>h2 (by rw [<- e6];exact z.1)]
    rfl
  ·rw [decide_eq_false e,Cq0,if_neg e];unfold ZhF;rw [show app 8 ([]:List Int) (tab (mm s * mm s) (σ.ma p))=some (Kc s σ p) from ZfH hS hp];simp only [Bq0];rw [Zbj hS (hw.few (by omega)) (hS.pl hp).2 (hS.pl hq).2];rfl
theorem Zrz (hF:1000000 <=F) (hS:Qu s):∀ (d p:Nat) (σ:TS) (F':Nat),d < F' ->p < nn s ->up s d (p:Int) < 0 ->Wf s B σ ->B <=700000 ->Kn s σ ->σ.st p ≠ 3 ->loop F' (Zmm F) (hal s σ,(p:Int))=some (hal s (Zhc s d p σ)):=by
 intro d
 induction d generalizing B with
 | zero=>intro p σ F' _ _ hu _ _ _ _;exact absurd hu (by show ¬ ((p:Int)) < 0;omega)
 | succ d ih=>
   intro p σ F' hd hp hu hw hB hk h3;cases F' with
   | zero=>omega
   | succ F'=>
     obtain⟨b1,w0,b2⟩:=Zia hw hp h3;have wA:=ZmV hS hw hp h3;have kA:=Znl hk p;have sA:=Ko (s:=s) p σ;have w1:=hw.st hp (3:Int) (B':=B) (by rw [show sw (3:Int)=0 from rfl];omega);have sB:=ZrS (s:=s) p (σ.wa p) (KS p σ);rw [Jp];unfold Zmm;dsimp only;rw [show(hal s σ).Za.qV=tab (nn s) σ.st from rfl,Z4 hp];simp only [Bq0];rw [XD,show Z6.mk (Ze.mk (tab (nn s) (YE σ.st p 3)) (hal s σ).Za.qX (hal s σ).Za.qZ (hal s σ).Za.Zk (hal s σ).Za.Zt (hal s σ).Za.kQ (hal s σ).Za.kK) (hal s σ).qK (hal s σ).kU=hal s {σ with st:=YE σ.st p 3} from rfl,Zae (w1.few (by omega))];simp only [Bq0];rw [show(hal s (tell 6 (p:Int) 0 0 {σ with st:=YE σ.st p 3})).Za.Zk=tab (nn s) σ.wa from rfl,Z4 hp];simp only [Bq0];rw [XD];refine Xr (fun k=>((k:Int),tab (nn s) (Zt s p ((σ.wa p).take k) (KS p σ)).st,(tab (nn s) fun j=>tab (mm s * mm s) ((Zt s p ((σ.wa p).take k) (KS p σ)).ma j)),tab (nn s) (Zt s p ((σ.wa p).take k) (KS p σ)).kn,tab (nn s) (Zt s p ((σ.wa p).take k) (KS p σ)).wa,tab (mm s) (Zt s p ((σ.wa p).take k) (KS p σ)).be,tab (mm s * mm s) (Jc (Zt s p ((σ.wa p).take k) (KS p σ))),(Zt s p ((σ.wa p).take k) (KS p σ)).sd,s.qG,s.Zh,(Zt s p ((σ.wa p).take k) (KS p σ)).ev)) rfl (n:= (σ.wa p).length) (by omega) (fun k hk' next=>?_) (fun next=>?_)
     ·unfold ZnV;dsimp only;rw [Yv hk',Cq1,XY 0 hk'];simp only [Bq0];obtain⟨j,ej,hj⟩:=hw.ws p hp _ (Qd (d:=0) hk');have wk:=ZcM hS hp ((σ.wa p).take k) _ _ w0 (fun x hx=>hw.ws p hp x (List.mem_of_mem_take hx));have hlen:((σ.wa p).take k).length <= (σ.wa p).length:=by rw [List.length_take];omega
      rw [Znz,ej,ZmD hS (wk.few (by omega)) hj hp];simp only [Bq0];rw [Zkn p k _ hk',ej,Int.toNat_natCast,X9 (by omega)];rfl
     ·unfold ZnV;dsimp only;rw [YI,Cq0,List.take_length,Znz,WJ hS hp];simp only [Bq0];have wB:=ZcM hS hp (σ.wa p) _ _ w0 (hw.ws p hp);refine Zjn (by omega) hS wB (by omega) hp (fun v k hk' next=>?_) (fun next=>?_)
      ·unfold ZjN ZjM;dsimp only;rw [Zbt hS hk',Cq1];by_cases z:k=pl s p
       ·subst z;rw [show(((pl s p:Nat):Int) != ((pl s p:Nat):Int))=false by simp,Cq0,Cq0]
       ·have:(((k:Int)) != ((pl s p:Int)))=true:=by rw [Zaa];exact decide_eq_true (by omega)
        rw [this,Cq1,Cq1,UF hS (hS.pl hp).2 hk',Z4 (KV (hS.pl hp).2 hk')];simp only [Bq0];rw [ZpN wB (by omega) (KV (hS.pl hp).2 hk')]
      ·have hpA:(X5 s p σ).st p=3:=by rw [sA.1,Yg]
       have hnot:¬ inn s (p:Int) < 0 ->(p:Int) ∉ (X5 s p σ).kn (inn s (p:Int)).toNat:=fun h0 hm=>by
        obtain⟨eq,hq⟩:=Ju hS hp h0;rw [sA.2.1] at hm;obtain⟨k,e1,e2,e3,e4⟩:=hk.rng _ hq _ hm;have:k=p:=by omega
        subst this;exact h3 e4
       have ht:=Zwe (F:=F) (die:=Zhc s d) (by omega) hS hp wA (by omega) kA hpA hnot (fun x=>loop F' (Zmm F) x) next fun h0 h2=>by
        obtain⟨eq,hq⟩:=Ju hS hp h0;refine ih (B:=B - 1) _ _ F' (by omega) hq ?_ ((Kv wA).up (Nat.le_refl _)) (by omega) (J3 hS kA hp h0 hpA (hnot h0) _) (by rw [h2];decide);rw [<- eq];have hu:(if((p:Int)) < 0 then(p:Int) else up s d (inn s (p:Int))) < 0:=hu
        rwa [if_neg (by omega)] at hu
       exact ht
end
end
section
theorem Zm2 {α:Type} {l:List α} {c:Nat} (h:c <=l.length):slL l 0 (c:Int)=some (l.take c):=by
 unfold slL;rw [decide_eq_true (show(0:Int) <=0 by omega),decide_eq_true (show(0:Int) <= (c:Int) by omega),decide_eq_true (show(c:Int) <= (l.length:Int) by omega)];simp
theorem Zie {α:Type} {l:List α} {c:Nat} (h:c <=l.length):slL l (c:Int) (l.length:Int)=some (l.drop c):=by
 unfold slL;rw [decide_eq_true (show(0:Int) <= (c:Int) by omega),decide_eq_true (show(c:Int) <= (l.length:Int) by omega),decide_eq_true (show(l.length:Int) <= (l.length:Int) by omega)];simp
section
variable {s:Zc} {σ:TS} {F B p q:Nat} {die:Nat ->TS ->TS}
theorem ZFG {l:List Int} {k:Int} (hl:l.length <=500) {c:Nat} (hc:c= (l.takeWhile fun x=>decide (x < k)).length) {β:Type} (f:List Int ->Option β):((slL l 0 (c:Int)).bind fun z1=>(app 8 ([]:List Int) z1).bind fun z2=>(app 8 z2 [k]).bind fun z3=>(slL l (c:Int) (l.length:Int)).bind fun z4=>(app 8 z3 z4).bind f)=f (ins k l):=by
 have hcl:c <=l.length:=by rw [hc];exact Zbg
 rw [Zm2 hcl];simp only [Bq0];have e1:(l.take c).length <=500:=by rw [List.length_take];omega
 have e2:(l.drop c).length <=500:=by rw [List.length_drop];omega
 rw [Zo6 (by simp;omega)];simp only [Bq0,List.nil_append];rw [Zo6 (by simp;omega)];simp only [Bq0];rw [Zie hcl];simp only [Bq0];rw [Zo6 (by rw [List.length_append,List.length_singleton];omega)];simp only [Bq0];rw [ZAX,<- hc,List.append_assoc];rfl
theorem ZwM (hF:100000 <=F) (hS:Qu s) (hp:p < nn s) (hw:Wf s B σ) (hB:B <=700000) (hk:Kn s σ) (h3:σ.st p=3) (h0:¬ inn s (p:Int) < 0) (hn:(p:Int) ∉ σ.kn (inn s (p:Int)).toNat) (Qg:Z5×Int ->Option Z5)
 (hx:(YF s p (Kc s σ p) σ).st (inn s (p:Int)).toNat=2 ->Qg (XZ s (YF s p (Kc s σ p) σ),((inn s (p:Int)).toNat:Int))=some (XZ s (die (inn s (p:Int)).toNat (YF s p (Kc s σ p) σ)))):
 loop F (ZjS F (p:Int) Qg s.qG s.Zh (tab (nn s) σ.st) (tab (nn s) σ.kn) (tab (nn s) σ.wa) (tab (mm s) σ.be) (tab (mm s * mm s) (Jc σ)) σ.sd σ.ev (Ut s σ.ma) (Kc s σ p) (spt s p)) 0=some (XZ s (Ww s die p (Kc s σ p) σ)):=by
 have h16:=Zcv hS;obtain⟨eq,hq⟩:=Ju hS hp h0;obtain⟨q,hqe⟩:∃ q,q= (inn s (p:Int)).toNat:= ⟨_,rfl⟩
 have hk3:=J3 hS hk hp h0 h3 hn (Kc s σ p);rw [<- hqe] at eq hq hn hx;have hl:=hk.len hS hq
 have hne:q ≠ p:=fun e=>by
  subst e
  exact ZAv hS.inn hp (j:=1) (by omega) (by
   show(if((q:Int)) < 0 then(q:Int) else up s 0 (inn s (q:Int)))=_;rw [if_neg (by omega)];exact eq)
 obtain⟨c,hc⟩:∃ c,c= ((σ.kn q).takeWhile fun x=>decide (x < (p:Int))).length:= ⟨_,rfl⟩
 have hcl:c <= (σ.kn q).length:=by rw [hc];exact Zbg
 have fin:∀ {β:Type} (g:Z5 ->β) (K:Z5 ->Option β),True:=fun _ _=>trivial
 have e3:ZE (ZE (Ut s σ.ma) (q:Int) (tab (mm s * mm s) (mx (σ.ma q) (Kc s σ p)))) (p:Int) (Kc s σ p)=tab (nn s) fun j=>tab (mm s * mm s) ((YF s p (Kc s σ p) σ).ma j):=by
  rw [Zah];unfold Kc;rw [Zah];refine Zb7 fun j _ i _=>?_
  show YE (YE σ.ma q _) p (σ.ma p) j i=YE σ.ma (inn s (p:Int)).toNat _ j i;rw [<- hqe];by_cases e:j=p
  ·subst e;rw [Yg,Xk (fun z=>hne z.symm)]
  ·rw [Xk e]
 have e4:tab (nn s) (YE σ.kn q (ins (p:Int) (σ.kn q)))=tab (nn s) (YF s p (Kc s σ p) σ).kn:=by
  show _=tab (nn s) (YE σ.kn (inn s (p:Int)).toNat _);rw [<- hqe]
 have e5:Z5.mk (Zc.mk s.qG s.Zh) (Ze.mk (tab (nn s) σ.st) (tab (nn s) fun j=>tab (mm s * mm s) ((YF s p (Kc s σ p) σ).ma j)) (tab (nn s) (YF s p (Kc s σ p) σ).kn) (tab (nn s) σ.wa) (tab (mm s) σ.be) (tab (mm s * mm s) (Jc σ)) σ.sd) σ.ev=XZ s (YF s p (Kc s σ p) σ):=rfl;have e6:(YF s p (Kc s σ p) σ).st q=σ.st q:=rfl;have self:ZE (tab (nn s) σ.kn) (q:Int) (σ.kn q)=tab (nn s) σ.kn:=by rw [XD,ZgL]
 have done:∀ (K:List Int ->Option Z5),K= (fun ZiI=>(ZF (Ut s σ.ma) (q:Int)).bind fun ZFe=>bif(q:Int)== (p:Int) then none else(Zj8 F ZFe (Kc s σ p)).bind fun Ku=>(gd (σ.st q==2) (ZgQ F (Z5.mk (Zc.mk s.qG s.Zh) (Ze.mk (tab (nn s) σ.st) (ZE (ZE (Ut s σ.ma) (q:Int) Ku.1) (p:Int) Ku.2) (ZE (tab (nn s) σ.kn) (q:Int) ZiI) (tab (nn s) σ.wa) (tab (mm s) σ.be) (tab (mm s * mm s) (Jc σ)) σ.sd) σ.ev) (q:Int)) default).bind fun ZFd=>(bif((σ.st q==2) && ZFd) then(Qg ((Z5.mk (Zc.mk s.qG s.Zh) (Ze.mk (tab (nn s) σ.st) (ZE (ZE (Ut s σ.ma) (q:Int) Ku.1) (p:Int) Ku.2) (ZE (tab (nn s) σ.kn) (q:Int) ZiI) (tab (nn s) σ.wa) (tab (mm s) σ.be) (tab (mm s * mm s) (Jc σ)) σ.sd) σ.ev),(q:Int))).bind fun WU=>(Zdm) (WU.s.qG,WU.s.Zh,WU.w.qV,WU.w.qX,WU.w.qZ,WU.w.Zk,WU.w.Zt,WU.w.kQ,WU.w.kK,WU.kU) else(Zdm) (s.qG,s.Zh,tab (nn s) σ.st,ZE (ZE (Ut s σ.ma) (q:Int) Ku.1) (p:Int) Ku.2,ZE (tab (nn s) σ.kn) (q:Int) ZiI,tab (nn s) σ.wa,tab (mm s) σ.be,tab (mm s * mm s) (Jc σ),σ.sd,σ.ev))) ->K (ins (p:Int) (σ.kn q))=some (XZ s (Ww s die p (Kc s σ p) σ)):=by
  intro K hK;subst hK;dsimp only;rw [Zbs hq];simp only [Bq0];rw [WG,decide_eq_false hne,Cq0,ZwH (by omega) (by omega) (ZFR p)];simp only [Bq0];rw [e3,XD,e4,e5,Xq];unfold Ww;rw [<- hqe];by_cases h2:σ.st q=2
  ·rw [decide_eq_true h2,Qm,Zhp (by omega) hS hq (by have:=hk3.len hS hq;omega)];by_cases hA:Alo s (YF s p (Kc s σ p) σ) q
   ·rw [Z9 hA];simp only [Bq0,Bool.and_self,Cq1];rw [hx (by rw [e6];exact h2),Z9 ⟨by rw [e6];exact h2,hA⟩];rfl
   ·rw [Z7 hA];simp only [Bq0,Bool.and_false,Cq0];rw [Z7 fun z=>hA z.2];rfl
  ·rw [decide_eq_false h2,QL];simp only [Bq0,Bool.false_and,Cq0];rw [Z7 fun z=>h2 (by rw [<- e6];exact z.1)];rfl
 refine Xr (fun k=>(k:Int)) rfl (n:=c) (by omega) (fun k hk' next=>?_) (fun next=>?_)
 ·unfold ZjS;rw [QN,eq,Z4 hq];simp only [Bq0];have:=Zzc (l:=σ.kn q) (k:= (p:Int)) k (by omega);rw [Yv (show k < (σ.kn q).length by omega),Cq1,XY 0 (by omega)];simp only [Bq0];rw [decide_eq_true this,Cq1,X9 (by omega)]
 ·unfold ZjS;rw [QN,eq,Z4 hq];simp only [Bq0];by_cases hlt:c < (σ.kn q).length
  ·have:=Zzd (hk.srt q hq) (k:= (p:Int)) c (by omega) hlt;rw [Yv hlt,Cq1,XY 0 hlt];simp only [Bq0];rw [decide_eq_false (by omega),Cq0];simp only [Z4 hq,Bq0,self];exact(ZFG (by omega) hc _).trans (done _ rfl)
  ·have:c= (σ.kn q).length:=by omega
   rw [decide_eq_false (show ¬ ((c:Int) < ((σ.kn q).length:Int)) by omega),Cq0];simp only [Z4 hq,Bq0,self];exact(ZFG (by omega) hc _).trans (done _ rfl)
theorem Zze (hF:100000 <=F) (hS:Qu s) (hp:p < nn s) (hw:Wf s B σ) (hB:B <=700000) (hk:Kn s σ) (h3:σ.st p=3) (hn:¬ inn s (p:Int) < 0 ->(p:Int) ∉ σ.kn (inn s (p:Int)).toNat) (Qg:Z5×Int ->Option Z5) (nx:Int×List (List Int) ->Option Z5)
 (hx:¬ inn s (p:Int) < 0 ->(YF s p (Kc s σ p) σ).st (inn s (p:Int)).toNat=2 ->Qg (XZ s (YF s p (Kc s σ p) σ),((inn s (p:Int)).toNat:Int))=some (XZ s (die (inn s (p:Int)).toNat (YF s p (Kc s σ p) σ)))):
 ZjT F (p:Int) Qg s.qG s.Zh (tab (nn s) σ.st) (tab (nn s) σ.kn) (tab (nn s) σ.wa) (tab (mm s) σ.be) (tab (mm s * mm s) (Jc σ)) σ.sd σ.ev (pl s p:Int) ((mm s:Int),Ut s σ.ma) nx=some (XZ s (Zkd s die p σ)):=by
 unfold ZjT;dsimp only;rw [ZfJ hS,Cq0,Qb hp];simp only [Bq0];rw [QN];unfold Zkd;by_cases h0:inn s (p:Int) < 0
 ·rw [decide_eq_true h0,Cq1,if_pos h0];rfl
 ·rw [decide_eq_false h0,Cq0,if_neg h0];obtain⟨eq,hq⟩:=Ju hS hp h0;have hl:=ZwM (die:=die) hF hS hp hw hB hk h3 h0 (hn h0) Qg (hx h0);obtain⟨q,hqe⟩:∃ q,q= (inn s (p:Int)).toNat:= ⟨_,rfl⟩
  rw [<- hqe] at eq hq |-;rw [eq,show Ut s σ.ma=tab (nn s) fun p=>tab (mm s * mm s) (σ.ma p) from rfl,ZnI,Za7 hS hq];simp only [Bq0];rw [WG,Z4 hp];simp only [Bq0];by_cases e:pl s q=pl s p
  ·rw [decide_eq_true e,Cq1,if_pos e];exact hl
  ·rw [decide_eq_false e,Cq0,if_neg e,show app 8 ([]:List Int) (tab (mm s * mm s) (σ.ma p))=some (Kc s σ p) from ZfH hS hp];simp only [Bq0];rw [ZcQ hS (hw.few (by omega)) (hS.pl hp).2 (hS.pl hq).2];rfl
theorem ZvR (hF:1000000 <=F) (hS:Qu s):∀ (d p:Nat) (σ:TS) (F':Nat),d < F' ->p < nn s ->up s d (p:Int) < 0 ->Wf s B σ ->B <=700000 ->Kn s σ ->σ.st p ≠ 3 ->loop F' (Zmn F) (XZ s σ,(p:Int))=some (XZ s (Zhc s d p σ)):=by
 intro d
 induction d generalizing B with
 | zero=>intro p σ F' _ _ hu _ _ _ _;exact absurd hu (by show ¬ ((p:Int)) < 0;omega)
 | succ d ih=>
   intro p σ F' hd hp hu hw hB hk h3;cases F' with
   | zero=>omega
   | succ F'=>
     obtain⟨b1,w0,b2⟩:=Zia hw hp h3;have wA:=ZmV hS hw hp h3;have kA:=Znl hk p;have sA:=Ko (s:=s) p σ;have w1:=hw.st hp (3:Int) (B':=B) (by rw [show sw (3:Int)=0 from rfl];omega);rw [Jp];unfold Zmn;dsimp only;rw [show(XZ s σ).w.qV=tab (nn s) σ.st from rfl,Z4 hp];simp only [Bq0];rw [XD,show Z5.mk (XZ s σ).s (Ze.mk (tab (nn s) (YE σ.st p 3)) (XZ s σ).w.qX (XZ s σ).w.qZ (XZ s σ).w.Zk (XZ s σ).w.Zt (XZ s σ).w.kQ (XZ s σ).w.kK) (XZ s σ).kU=XZ s {σ with st:=YE σ.st p 3} from rfl,Zbh (w1.few (by omega))];simp only [Bq0];rw [show(XZ s (tell 6 (p:Int) 0 0 {σ with st:=YE σ.st p 3})).w.Zk=tab (nn s) σ.wa from rfl,Z4 hp];simp only [Bq0];rw [XD];refine Xr (fun k=>((k:Int),s.qG,s.Zh,tab (nn s) (Zt s p ((σ.wa p).take k) (KS p σ)).st,(tab (nn s) fun j=>tab (mm s * mm s) ((Zt s p ((σ.wa p).take k) (KS p σ)).ma j)),tab (nn s) (Zt s p ((σ.wa p).take k) (KS p σ)).kn,tab (nn s) (Zt s p ((σ.wa p).take k) (KS p σ)).wa,tab (mm s) (Zt s p ((σ.wa p).take k) (KS p σ)).be,tab (mm s * mm s) (Jc (Zt s p ((σ.wa p).take k) (KS p σ))),(Zt s p ((σ.wa p).take k) (KS p σ)).sd,(Zt s p ((σ.wa p).take k) (KS p σ)).ev)) rfl (n:= (σ.wa p).length) (by omega) (fun k hk' next=>?_) (fun next=>?_)
     ·unfold ZnY;dsimp only;rw [Yv hk',Cq1,XY 0 hk'];simp only [Bq0];obtain⟨j,ej,hj⟩:=hw.ws p hp _ (Qd (d:=0) hk');have wk:=ZcM hS hp ((σ.wa p).take k) _ _ w0 (fun x hx=>hw.ws p hp x (List.mem_of_mem_take hx));have hlen:((σ.wa p).take k).length <= (σ.wa p).length:=by rw [List.length_take];omega
      rw [ZnI,ej,ZrT hS (wk.few (by omega)) hj hp];simp only [Bq0];rw [Zkn p k _ hk',ej,Int.toNat_natCast,X9 (by omega)];rfl
     ·unfold ZnY;dsimp only;rw [YI,Cq0,List.take_length,ZnI,Za7 hS hp];simp only [Bq0];have wB:=ZcM hS hp (σ.wa p) _ _ w0 (hw.ws p hp);refine Zjn (by omega) hS wB (by omega) hp (fun v k hk' next=>?_) (fun next=>?_)
      ·unfold ZjT ZjR;dsimp only;rw [Zbt hS hk',Cq1];by_cases z:k=pl s p
       ·subst z;rw [show(((pl s p:Nat):Int) != ((pl s p:Nat):Int))=false by simp,Cq0,Cq0]
       ·have:(((k:Int)) != ((pl s p:Int)))=true:=by rw [Zaa];exact decide_eq_true (by omega)
        rw [this,Cq1,Cq1];unfold ZvE;dsimp only;rw [UF hS (hS.pl hp).2 hk',Z4 (KV (hS.pl hp).2 hk')];simp only [Bq0];rw [ZpN wB (by omega) (KV (hS.pl hp).2 hk')]
      ·have hpA:(X5 s p σ).st p=3:=by rw [sA.1,Yg]
       have hnot:¬ inn s (p:Int) < 0 ->(p:Int) ∉ (X5 s p σ).kn (inn s (p:Int)).toNat:=fun h0 hm=>by
        obtain⟨eq,hq⟩:=Ju hS hp h0;rw [sA.2.1] at hm;obtain⟨k,e1,e2,e3,e4⟩:=hk.rng _ hq _ hm;have:k=p:=by omega
        subst this;exact h3 e4
       have ht:=Zze (F:=F) (die:=Zhc s d) (by omega) hS hp wA (by omega) kA hpA hnot (fun x=>loop F' (Zmn F) x) next fun h0 h2=>by
        obtain⟨eq,hq⟩:=Ju hS hp h0;refine ih (B:=B - 1) _ _ F' (by omega) hq ?_ ((Kv wA).up (Nat.le_refl _)) (by omega) (J3 hS kA hp h0 hpA (hnot h0) _) (by rw [h2];decide);rw [<- eq];have hu:(if((p:Int)) < 0 then(p:Int) else up s d (inn s (p:Int))) < 0:=hu
        rwa [if_neg (by omega)] at hu
       exact ht
end
end
section
noncomputable section
variable (s:Zc)
def UC (p:Nat) (σ:TS):TS:= {σ with st:=YE σ.st p 2,ev:=σ.ev ++ [⟨5,(p:Int),0,0⟩]}
def Zaz (fall:Nat ->TS ->TS) (p:Nat) (σ:TS) (k:Nat):TS:=
 if pl s k=pl s p then(if σ.st k=1 then fall k σ else σ)
 else if(k:Int) ∈ σ.kn p then σ else send s (pl s p) (pl s k) ⟨3,(k:Int),0,0,[]⟩ σ
def ZjK (p:Nat) (σ:TS):TS:=ifc (σ.st p=2/\Alo s σ p) (Zhc s (nn s) p σ) σ
def Zqn (p k:Nat):List Nat:= (List.range k).filter fun q:Nat=>inn s (q:Int)== (p:Int)
def fk (fall:Nat ->TS ->TS) (p k:Nat) (σ:TS):TS:= (Zqn s p k).foldl (Zaz s fall p) σ
def Jg:Nat ->Nat ->TS ->TS
 | 0,_,σ=>σ
 | d + 1,p,σ=>ZjK s p (fk s (Jg d) p (nn s) (UC p σ))
end
section
variable {s:Zc} {σ:TS} {F B p q d:Nat} {fall:Nat ->TS ->TS}
theorem ZdU (p k:Nat):Zqn s p (k + 1)=Zqn s p k ++ (if inn s (k:Int)= (p:Int) then [k] else []):=by
 unfold Zqn;rw [List.range_succ,List.filter_append,List.filter_cons,List.filter_nil,Xq];by_cases h:inn s (k:Int)= (p:Int) <;> simp [h]
theorem Zju (p k:Nat):(Zqn s p k).length <=k:=by
 unfold Zqn;have:=List.length_filter_le (fun q:Nat=>inn s (q:Int)== (p:Int)) (List.range k)
 rwa [List.length_range] at this
theorem ZDc {k:Nat} (h:inn s (k:Int)= (p:Int)):fk s fall p (k + 1) σ=Zaz s fall p (fk s fall p k σ) k:=by
 unfold fk;rw [ZdU,if_pos h,List.foldl_append];rfl
theorem ZJw {k:Nat} (h:inn s (k:Int) ≠ (p:Int)):fk s fall p (k + 1) σ=fk s fall p k σ:=by
 unfold fk;rw [ZdU,if_neg h,List.append_nil]
structure Gd (s:Zc) (B:Nat) (σ:TS):Prop where
 wf:Wf s B σ
 kn:Kn s σ
theorem Gd.up (h:Gd s B σ) {B':Nat} (hb:B <=B'):Gd s B' σ:= ⟨h.wf.up hb,h.kn⟩
theorem ZRw (h:Kn s σ) {v:Int} (h3:σ.st p ≠ 3) {e:List Zq}:Kn s {σ with st:=YE σ.st p v,ev:=e}:=by
 refine⟨h.srt,fun q hq x hx=>?_⟩;obtain⟨k,h1,h2,h4,h5⟩:=h.rng q hq x hx;refine⟨k,h1,h2,h4,?_⟩;show YE σ.st p v k=3;rw [Xk (fun z=>by subst z;exact h3 h5)];exact h5
theorem ZuY (h:Kn s σ) (a b:Nat) (x:Zd):Kn s (send s a b x σ):= ⟨h.srt,h.rng⟩
theorem ZjC (h:Gd s B σ) (hp:p < nn s) (h1:σ.st p=1):11 <=B/\Gd s (B - 8) (UC p σ):=by
 have hb:=h.wf.pot
 have h11:11 <=Pot s σ:=by
  have:=Ue (f:=fun p=>sw (σ.st p)) hp;have e:sw (σ.st p)=11:=by rw [h1];rfl
  unfold Pot;omega
 have w1:=h.wf.st hp (2:Int) (B':=B - 9) (by rw [h1];show B + 2 <=B - 9 + 11;omega);exact⟨by omega,(w1.tell 5 (p:Int) 0 0).up (by omega),ZRw h.kn (by rw [h1];decide)⟩
theorem Zy9 (hp:p < nn s) (hu:up s (d + 1) (p:Int) < 0):up s d (inn s (p:Int)) < 0:=by
 have hu:(if((p:Int)) < 0 then(p:Int) else up s d (inn s (p:Int))) < 0:=hu
 rwa [if_neg (by omega)] at hu
theorem ZDQ (hS:Qu s):∀ (d p:Nat) (σ:TS) (B:Nat),p < nn s ->up s d (p:Int) < 0 ->Gd s B σ ->σ.st p ≠ 3 ->Gd s B (Zhc s d p σ):=by
 intro d
 induction d with
 | zero=>intro p σ B hp hu _ _;exact absurd hu (by show ¬ ((p:Int)) < 0;omega)
 | succ d ih=>
   intro p σ B hp hu h h3;have wA:=ZmV hS h.wf hp h3;have kA:=Znl h.kn p;have sA:=Ko (s:=s) p σ;have b1:= (Zia h.wf hp h3).1;have hpA:(X5 s p σ).st p=3:=by rw [sA.1,Yg]
   show Gd s B (Zkd s (Zhc s d) p (X5 s p σ));unfold Zkd;by_cases h0:inn s (p:Int) < 0
   ·rw [if_pos h0];exact⟨wA.up (by omega),kA⟩
   ·rw [if_neg h0];obtain⟨eq,hq⟩:=Ju hS hp h0
    have hnot:(p:Int) ∉ (X5 s p σ).kn (inn s (p:Int)).toNat:=fun hm=>by
     rw [sA.2.1] at hm;obtain⟨k,e1,e2,e3,e4⟩:=h.kn.rng _ hq _ hm;have:k=p:=by omega
     subst this;exact h3 e4
    have k3:=J3 hS kA hp h0 hpA hnot (Kc s (X5 s p σ) p);by_cases e:pl s (inn s (p:Int)).toNat=pl s p
    ·rw [if_pos e];unfold Ww;by_cases c:(YF s p (Kc s (X5 s p σ) p) (X5 s p σ)).st (inn s (p:Int)).toNat=2/\Alo s (YF s p (Kc s (X5 s p σ) p) (X5 s p σ)) (inn s (p:Int)).toNat
     ·rw [Z9 c];refine(ih _ _ (B - 1) hq ?_ ⟨Kv wA,k3⟩ (by rw [c.1];decide)).up (by omega);rw [<- eq];exact Zy9 hp hu
     ·rw [Z7 c];exact⟨(Kv wA).up (by omega),k3⟩
    ·rw [if_neg e];exact⟨(wA.send (hS.pl hp).2 (hS.pl hq).2 _).up (by show B - 1 + 1 + 0 <=B;omega),ZuY kA _ _ _⟩
theorem Zuu (hS:Qu s) (ih:∀ (k:Nat) (σ:TS) (B:Nat),k < nn s ->KU s d k ->Gd s B σ ->σ.st k=1 ->Gd s B (fall k σ)) {k:Nat} (hk:k < nn s) (hp:p < nn s) (hs:KU s d k) (h:Gd s B σ):Gd s (B + 1) (Zaz s fall p σ k):=by
 unfold Zaz;by_cases e:pl s k=pl s p
 ·rw [if_pos e];by_cases e1:σ.st k=1
  ·rw [if_pos e1];exact(ih k σ B hk hs h e1).up (by omega)
  ·rw [if_neg e1];exact h.up (by omega)
 ·rw [if_neg e];by_cases e1:(k:Int) ∈ σ.kn p
  ·rw [if_pos e1];exact h.up (by omega)
  ·rw [if_neg e1];exact⟨(h.wf.send (hS.pl hp).2 (hS.pl hk).2 _).up (by show B + 1 + 0 <=B + 1;omega),ZuY h.kn _ _ _⟩
theorem ZJx (hS:Qu s) (ih:∀ (k:Nat) (σ:TS) (B:Nat),k < nn s ->KU s d k ->Gd s B σ ->σ.st k=1 ->Gd s B (fall k σ)) (hp:p < nn s) (hs:KU s (d + 1) p) (h:Gd s B σ):∀ k,k <=nn s ->Gd s (B + (Zqn s p k).length) (fk s fall p k σ):=by
 intro k
 induction k with
 | zero=>intro _;exact h
 | succ k ihk=>
   intro hk;have h1:=ihk (by omega);by_cases e:inn s (k:Int)= (p:Int)
   ·rw [ZDc e,ZdU,if_pos e,List.length_append,List.length_singleton];exact Zuu hS ih (by omega) hp (hs.kid e) h1
   ·rw [ZJw e,ZdU,if_neg e,List.append_nil];exact h1
theorem ZdD (hS:Qu s) (hp:p < nn s):up s (nn s) (p:Int) < 0:=hS.inn.acy p hp
theorem Zir (hS:Qu s):∀ (d p:Nat) (σ:TS) (B:Nat),p < nn s ->KU s d p ->Gd s B σ ->σ.st p=1 ->Gd s B (Jg s d p σ):=by
 intro d
 induction d with
 | zero=>intro p σ B hp hs _ _;exact absurd rfl (hs p hp 0 (Nat.le_refl _))
 | succ d ih=>
   intro p σ B hp hs h h1;obtain⟨b,g0⟩:=ZjC h hp h1;have g1:=ZJx hS ih hp hs g0 (nn s) (Nat.le_refl _);have hl:=Zju (s:=s) p (nn s);have h8:nn s <=8:=hS.p2;have g2:=g1.up (B':=B) (by omega);show Gd s B (ZjK s p (fk s (Jg s d) p (nn s) (UC p σ)));unfold ZjK;by_cases c:(fk s (Jg s d) p (nn s) (UC p σ)).st p=2/\Alo s (fk s (Jg s d) p (nn s) (UC p σ)) p
   ·rw [Z9 c];exact ZDQ hS _ _ _ _ hp (ZdD hS hp) g2 (by rw [c.1];decide)
   ·rw [Z7 c];exact g2
def KD (s:Zc) (σ:TS):List Int×List (List Int)×List (List Int)×List (List Int)×List (List Zd)×List Zg×Int×Int×List ZG×List Zq:=
 (tab (nn s) σ.st,(tab (nn s) fun j=>tab (mm s * mm s) (σ.ma j)),tab (nn s) σ.kn,tab (nn s) σ.wa,tab (mm s) σ.be,tab (mm s * mm s) (Jc σ),σ.sd,s.qG,s.Zh,σ.ev)
def KO (s:Zc) (σ:TS):Int×List ZG×List Int×List (List Int)×List (List Int)×List (List Int)×List (List Zd)×List Zg×Int×List Zq:=
 (s.qG,s.Zh,tab (nn s) σ.st,(tab (nn s) fun j=>tab (mm s * mm s) (σ.ma j)),tab (nn s) σ.kn,tab (nn s) σ.wa,tab (mm s) σ.be,tab (mm s * mm s) (Jc σ),σ.sd,σ.ev)
theorem Zxe (hF:1000000 <=F) (hS:Qu s) (hp:p < nn s) (h:Gd s B σ) (hB:B <=700000):ZeL F (p:Int) (KD s σ)=some (hal s (ZjK s p σ)):=by
 unfold ZeL KD;dsimp only;rw [Z4 hp];simp only [Bq0];rw [Xq,Znz];unfold ZjK;by_cases h2:σ.st p=2
 ·rw [decide_eq_true h2,Qm,ZeT (by omega) hS hp (by have:=h.kn.len hS hp;omega)];by_cases hA:Alo s σ p
  ·rw [Z9 hA,Z9 ⟨h2,hA⟩];simp only [Bq0,Bool.and_self,Cq1];unfold ZDh;have h8:nn s <=8:=hS.p2;rw [Zrz hF hS _ _ _ F (by omega) hp (ZdD hS hp) h.wf hB h.kn (by rw [h2];decide)];rfl
  ·rw [Z7 hA,Z7 fun z=>hA z.2];simp only [Bq0,Bool.and_false,Cq0]
 ·rw [decide_eq_false h2,QL,Z7 fun z=>h2 z.1];simp only [Bq0,Bool.false_and,Cq0]
theorem Zil (k:Int) (nx:Int×List Int×List (List Int)×List (List Int)×List (List Int)×List (List Zd)×List Zg×Int×Int×List ZG×List Zq ->Option Z6):ZeK F (p:Int) k nx (KD s σ)=nx (Yd (k + 1),KD s σ):=rfl
theorem Zmk (hF:1000000 <=F) (hS:Qu s):∀ (d p:Nat) (σ:TS) (F' B:Nat),d < F' ->p < nn s ->KU s d p ->Gd s B σ ->B <=700000 ->σ.st p=1 ->loop F' (Zmo F) (hal s σ,(p:Int))=some (hal s (Jg s d p σ)):=by
 intro d
 induction d with
 | zero=>intro p σ F' B _ hp hs _ _ _;exact absurd rfl (hs p hp 0 (Nat.le_refl _))
 | succ d ih=>
   intro p σ F' B hd hp hs h hB h1;cases F' with
   | zero=>omega
   | succ F'=>
     obtain⟨b,g0⟩:=ZjC h hp h1;have gk:=ZJx hS (fun k σ B hk hs h e=>Zir hS d k σ B hk hs h e) hp hs g0;have h8:nn s <=8:=hS.p2;have w1:=h.wf.st hp (2:Int) (B':=B) (by rw [h1];show B + 2 <=B + 11;omega);rw [Jp];generalize hnx:loop F' (Zmo F)=nx;unfold Zmo Zn5;dsimp only;rw [show(hal s σ).Za.qV=tab (nn s) σ.st from rfl,Z4 hp];simp only [Bq0];rw [XD,show Z6.mk (Ze.mk (tab (nn s) (YE σ.st p 2)) (hal s σ).Za.qX (hal s σ).Za.qZ (hal s σ).Za.Zk (hal s σ).Za.Zt (hal s σ).Za.kQ (hal s σ).Za.kK) (hal s σ).qK (hal s σ).kU=hal s {σ with st:=YE σ.st p 2} from rfl,Zae (w1.few (by omega))];simp only [Bq0];refine Xr (fun k=>((k:Int),KD s (fk s (Jg s d) p k (UC p σ)))) rfl (n:=nn s) (by omega) (fun k hk next=>?_) (fun next=>?_)
     ·have gk':=gk k (by omega);have hl:=Zju (s:=s) p k;have hB':B - 8 + (Zqn s p k).length <=700000:=by omega
      obtain⟨σk,hσ⟩:∃ σk,σk=fk s (Jg s d) p k (UC p σ):= ⟨_,rfl⟩
      rw [<- hσ] at gk' |-;have fw:=gk'.wf.few (by omega);unfold Zj0;rw [show(KD s σk)= (tab (nn s) σk.st,(tab (nn s) fun j=>tab (mm s * mm s) (σk.ma j)),tab (nn s) σk.kn,tab (nn s) σk.wa,tab (mm s) σk.be,tab (mm s * mm s) (Jc σk),σk.sd,s.qG,s.Zh,σk.ev) from rfl];dsimp only;rw [show(hal s (tell 5 (p:Int) 0 0 {σ with st:=YE σ.st p 2})).qK.Zh=s.Zh from rfl,show((s.Zh.length:Nat):Int)= ((nn s:Nat):Int) from rfl,Yv hk,Cq1,Qb hk];simp only [Bq0];rw [QN,Xq];by_cases e:inn s (k:Int)= (p:Int)
      ·rw [decide_eq_true e,Cq1,Znz,WJ hS hk,WJ hS hp];simp only [Bq0];rw [ZDc e,<- hσ,WG];unfold Zaz;by_cases e1:pl s k=pl s p
       ·rw [decide_eq_true e1,Cq1,if_pos e1,Z4 hk];simp only [Bq0];rw [Xq];by_cases e2:σk.st k=1
        ·rw [decide_eq_true e2,Cq1,if_pos e2,<- hnx,ih k σk F' _ (by omega) hk (hs.kid e) gk' hB' e2];simp only [Bq0];exact(Zil (s:=s) (σ:=Jg s d k σk) (F:=F) (p:=p) (k:Int) next).trans (by rw [X9 (by omega)])
        ·rw [decide_eq_false e2,Cq0,if_neg e2];exact(Zil (s:=s) (σ:=σk) (F:=F) (p:=p) (k:Int) next).trans (by rw [X9 (by omega)])
       ·rw [decide_eq_false e1,Cq0,if_neg e1,Z4 hp];simp only [Bq0];rw [contains_eq (by omega) (by have:=gk'.kn.len hS hp;omega)];simp only [Bq0];by_cases e2:(k:Int) ∈ σk.kn p
        ·rw [decide_eq_true e2,Bool.not_true,Cq0,if_pos e2];exact(Zil (s:=s) (σ:=σk) (F:=F) (p:=p) (k:Int) next).trans (by rw [X9 (by omega)])
        ·rw [decide_eq_false e2,Bool.not_false,Cq1,if_neg e2];rw [Zbj hS fw (hS.pl hp).2 (hS.pl hk).2];simp only [Bq0];exact(Zil (s:=s) (σ:=send s (pl s p) (pl s k) ⟨3,(k:Int),0,0,[]⟩ σk) (F:=F) (p:=p) (k:Int) next).trans (by rw [X9 (by omega)])
      ·rw [decide_eq_false e,Cq0,ZJw e,<- hσ,X9 (by omega)]
       rfl
     ·have gk':=gk (nn s) (Nat.le_refl _);have hl:=Zju (s:=s) p (nn s);refine(?_:Zj0 F (p:Int) _ _ _ next=ZeL F (p:Int) (KD s (fk s (Jg s d) p (nn s) (UC p σ)))).trans (Zxe hF hS hp gk' (by omega));unfold Zj0 KD;dsimp only;rw [show(hal s (tell 5 (p:Int) 0 0 {σ with st:=YE σ.st p 2})).qK.Zh=s.Zh from rfl,show((s.Zh.length:Nat):Int)= ((nn s:Nat):Int) from rfl,YI,Cq0]
end
end
section
section
variable {s:Zc} {σ:TS} {F B p q d:Nat} {fall:Nat ->TS ->TS}
theorem ZC6 (hS:Qu s) (ih:∀ (k:Nat) (σ:TS) (B:Nat),k < nn s ->KU s d k ->Gd s B σ ->σ.st k=1 ->Gd s B (fall k σ)) (hp:p < nn s):∀ (l:List Nat) (B:Nat) (σ:TS),(∀ k ∈ l,k < nn s/\KU s d k) ->Gd s B σ ->Gd s (B + l.length) (l.foldl (Zaz s fall p) σ):=by
 intro l
 induction l with
 | nil=>intro B σ _ h;exact h
 | cons k l ihl=>
   intro B σ hl h;have:=ihl (B + 1) (Zaz s fall p σ k) (fun j hj=>hl j (by simp [hj])) (Zuu hS ih (hl k (by simp)).1 hp (hl k (by simp)).2 h);exact this.up (by rw [List.length_cons];omega)
theorem ZDe (hF:1000000 <=F) (hS:Qu s) (hp:p < nn s) (h:Gd s B σ) (hB:B <=700000):
 ((ZF (tab (nn s) σ.st) (p:Int)).bind fun Zv8=>(gd (Zv8==2) (ZgQ F (XZ s σ) (p:Int)) default).bind fun Ze5=>(bif((Zv8==2) && Ze5) then(Zrd F (XZ s σ) (p:Int)).bind fun ZiR=>some ZiR else some (XZ s σ)))=some (XZ s (ZjK s p σ)):=by
 rw [Z4 hp];simp only [Bq0];rw [Xq];unfold ZjK;by_cases h2:σ.st p=2
 ·rw [decide_eq_true h2,Qm,Zhp (by omega) hS hp (by have:=h.kn.len hS hp;omega)];by_cases hA:Alo s σ p
  ·rw [Z9 hA,Z9 ⟨h2,hA⟩];simp only [Bq0,Bool.and_self,Cq1];unfold Zrd;have h8:nn s <=8:=hS.p2;rw [ZvR hF hS _ _ _ F (by omega) hp (ZdD hS hp) h.wf hB h.kn (by rw [h2];decide)];rfl
  ·rw [Z7 hA,Z7 fun z=>hA z.2];simp only [Bq0,Bool.and_false,Cq0]
 ·rw [decide_eq_false h2,QL,Z7 fun z=>h2 z.1];simp only [Bq0,Bool.false_and,Cq0]
theorem ZsX (k:Int) (nx:Int×Int×List ZG×List Int×List (List Int)×List (List Int)×List (List Int)×List (List Zd)×List Zg×Int×List Zq ->Option Z5):ZgV k nx (KO s σ)=nx (Yd (k + 1),KO s σ):=rfl
theorem Zl1 (hs:KU s (d + 1) p) {k:Nat} (hk:k ∈ K9 s p):k < nn s/\KU s d k:= ⟨(Zdb.1 hk).1,hs.kid (Zdb.1 hk).2⟩
theorem Zrb (hF:1000000 <=F) (hS:Qu s):∀ (d p:Nat) (σ:TS) (F' B:Nat),d < F' ->p < nn s ->KU s d p ->Gd s B σ ->B <=700000 ->loop F' (Zmp F) (XZ s σ,(p:Int))=some (XZ s (if σ.st p=1 then Jg s d p σ else σ)):=by
 intro d
 induction d with
 | zero=>intro p σ F' B _ hp hs _ _;exact absurd rfl (hs p hp 0 (Nat.le_refl _))
 | succ d ih=>
   intro p σ F' B hd hp hs h hB;cases F' with
   | zero=>omega
   | succ F'=>
     rw [Jp];generalize hnx:loop F' (Zmp F)=nx;unfold Zmp Zj2;dsimp only;rw [show(XZ s σ).w.qV=tab (nn s) σ.st from rfl,Z4 hp];simp only [Bq0];rw [Xq];by_cases h1:σ.st p ≠ 1
     ·rw [decide_eq_false h1,Bool.not_false,Cq1,if_neg h1]
     have h1:=Classical.not_not.1 h1;rw [decide_eq_true h1,Bool.not_true,Cq0,if_pos h1];obtain⟨b,g0⟩:=ZjC h hp h1;have h8:nn s <=8:=hS.p2;have hk8:=Zqm (p:=p) hS;have w1:=h.wf.st hp (2:Int) (B':=B) (by rw [h1];show B + 2 <=B + 11;omega);rw [XD,show Z5.mk (XZ s σ).s (Ze.mk (tab (nn s) (YE σ.st p 2)) (XZ s σ).w.qX (XZ s σ).w.qZ (XZ s σ).w.Zk (XZ s σ).w.Zt (XZ s σ).w.kQ (XZ s σ).w.kK) (XZ s σ).kU=XZ s {σ with st:=YE σ.st p 2} from rfl,Zbh (w1.few (by omega))];simp only [Bq0];rw [show(XZ s (tell 5 (p:Int) 0 0 {σ with st:=YE σ.st p 2})).s=s from rfl,ZuZ (by omega) hS];simp only [Bq0];have gt:∀ j,Gd s (B - 8 + ((K9 s p).take j).length) (((K9 s p).take j).foldl (Zaz s (Jg s d) p) (UC p σ)):=fun j=>ZC6 hS (fun k σ B hk hs h e=>Zir hS d k σ B hk hs h e) hp _ _ _ (fun k hk=>Zl1 hs (List.mem_of_mem_take hk)) g0
     refine Xr (fun j=>((j:Int),KO s (((K9 s p).take j).foldl (Zaz s (Jg s d) p) (UC p σ)))) rfl (n:= (K9 s p).length) (by omega) (fun j hj next=>?_) (fun next=>?_)
     ·have gk':=gt j;have hl:((K9 s p).take j).length <=8:=by rw [List.length_take];omega
      have hB':B - 8 + ((K9 s p).take j).length <=700000:=by omega
      rw [List.take_succ_eq_append_getElem hj,List.foldl_append];obtain⟨σk,hσ⟩:∃ σk,σk= ((K9 s p).take j).foldl (Zaz s (Jg s d) p) (UC p σ):= ⟨_,rfl⟩
      rw [<- hσ] at gk' |-;have fw:=gk'.wf.few (by omega);obtain⟨k,ek⟩:∃ k,k= (K9 s p)[j]:= ⟨_,rfl⟩
      have hkm:k ∈ K9 s p:=by rw [ek];exact List.getElem_mem hj
      obtain⟨hk,hsk⟩:=Zl1 hs hkm;rw [<- ek];show _=next (((j + 1:Nat):Int),KO s (Zaz s (Jg s d) p σk k));unfold Zn6;rw [show(KO s σk)= (s.qG,s.Zh,tab (nn s) σk.st,(tab (nn s) fun j=>tab (mm s * mm s) (σk.ma j)),tab (nn s) σk.kn,tab (nn s) σk.wa,tab (mm s) σk.be,tab (mm s * mm s) (Jc σk),σk.sd,σk.ev) from rfl];dsimp only
      have eg:((K9 s p).map Int.ofNat).getD j 0= (k:Int):=by
       rw [KE (by rw [List.length_map];exact hj),List.getElem_map,ek];rfl
      rw [List.length_map,Yv hj,Cq1,XY 0 (by rw [List.length_map];exact hj),eg];simp only [Bq0];rw [ZnI,Za7 hS hk,Za7 hS hp];simp only [Bq0];rw [WG];unfold Zaz;by_cases e1:pl s k=pl s p
      ·rw [decide_eq_true e1,Cq1,if_pos e1,<- hnx,ih k σk F' _ (by omega) hk hsk gk' hB'];simp only [Bq0];exact(ZsX (s:=s) (σ:=if σk.st k=1 then Jg s d k σk else σk) (j:Int) next).trans (by rw [X9 (by omega)])
      ·rw [decide_eq_false e1,Cq0,if_neg e1,Zl0 (by omega) hp (by have:=gk'.kn.len hS hp;omega)];simp only [Bq0];by_cases e2:(k:Int) ∈ σk.kn p
       ·rw [decide_eq_true e2,Bool.not_true,Cq0,if_pos e2];exact(ZsX (s:=s) (σ:=σk) (j:Int) next).trans (by rw [X9 (by omega)])
       ·rw [decide_eq_false e2,Bool.not_false,Cq1,if_neg e2];rw [ZcQ hS fw (hS.pl hp).2 (hS.pl hk).2];simp only [Bq0];exact(ZsX (s:=s) (σ:=send s (pl s p) (pl s k) ⟨3,(k:Int),0,0,[]⟩ σk) (j:Int) next).trans (by rw [X9 (by omega)])
     ·have gk':=gt (K9 s p).length;rw [List.take_length] at gk' |-;unfold Zn6 KO;dsimp only;rw [List.length_map,YI,Cq0,ZnI];exact ZDe hF hS hp gk' (by omega)
end
end
section
def drop1 (i:Nat) (σ:TS):TS:= {σ with ld:=YE σ.ld i (σ.ld i + 1)}
noncomputable def ZaZ (s:Zc) (k:Nat) (l:List Int) (σ:TS):TS:=Ww s (Zhc s (nn s)) k l σ
noncomputable def Zjt (s:Zc) (b:Nat) (x:Zd) (σ:TS):TS:=
 if x.kW=1 then see x.kX.toNat x.kV.toNat x.n σ
 else if x.kW=2 then note s x.kV.toNat x.kX.toNat σ
 else if x.kW=3 then(if σ.st x.kV.toNat=1 then Jg s (nn s) x.kV.toNat σ else σ)
 else if x.kW=4 then ZaZ s x.kV.toNat x.qX σ
 else wait b x σ
def hd (σ:TS) (i:Nat):Zd:= (σ.sn i).getD (σ.ld i) default
noncomputable def Zcx (s:Zc) (a b:Nat) (σ:TS):TS:=Zjt s b (hd σ (li s a b)) (drop1 (li s a b) σ)
def Zyj (s:Zc) (b:Nat) (x:Zd):Prop:=∃ p:Nat,x.kV= (p:Int)/\p < nn s/\
 ((x.kW=1/\∃ q:Nat,x.kX= (q:Int)/\q < nn s)\/(x.kW=2/\∃ q:Nat,x.kX= (q:Int)/\q < nn s)\/x.kW=3\/(x.kW=4/\0 <=inn s (p:Int)/\x.qX.length=mm s * mm s)\/(x.kW=5/\pl s p=b/\x.qX.length=mm s * mm s/\∃ q:Nat,x.kX= (q:Int)/\q < nn s))
def Zuq (s:Zc) (x:Zd) (σ:TS):Prop:=x.kW=4 ->σ.st x.kV.toNat=3/\x.kV ∉ σ.kn (inn s x.kV).toNat
section
variable {s:Zc} {σ:TS} {F B a b p q:Nat} {x:Zd} {l:List Int}
theorem Zvx (h:σ.ld p < (σ.sn p).length):fl σ p=hd σ p::(σ.sn p).drop (σ.ld p + 1):=by
 unfold fl hd;rw [List.drop_eq_getElem_cons h,KE h]
theorem ZAp (hp:p < mm s * mm s) (h:σ.ld p < (σ.sn p).length):Pot s (drop1 p σ) + ew (hd σ p)=Pot s σ:=by
 have e:=ZcN (f:=lw σ) (g:=lw (drop1 p σ)) hp fun j _ hj=>by
  unfold lw fl;show _ + (((σ.sn j).drop (YE σ.ld p _ j)).map ew).sum=_;rw [Xk hj];rfl
 have e1:lw (drop1 p σ) p + ew (hd σ p)=lw σ p:=by
  show(σ.sn p).length + (((σ.sn p).drop (YE σ.ld p _ p)).map ew).sum + _= (σ.sn p).length + ((fl σ p).map ew).sum;rw [Yg,Zvx h,List.map_cons,List.sum_cons];omega
 show σ.ev.length + QF (mm s * mm s) (lw (drop1 p σ)) + QF (mm s) (fun m=>(σ.be m).length) + QF (nn s) (fun q=>2 * (σ.wa q).length) + QF (nn s) (fun p=>sw (σ.st p)) + _=_;unfold Pot;omega
theorem ZnH (h:Gd s B σ) (hp:p < mm s * mm s) (hl:σ.ld p < (σ.sn p).length):ew (hd σ p) <=B/\Gd s (B - ew (hd σ p)) (drop1 p σ):=by
 have:=ZAp (s:=s) hp hl;have:=h.wf.pot;refine⟨by omega,⟨by omega,fun i hi=>?_,h.wf.ws⟩,⟨h.kn.srt,h.kn.rng⟩⟩;show YE σ.ld p _ i <=_;by_cases e:i=p
 ·subst e;rw [Yg];exact hl
 ·rw [Xk e];exact h.wf.ld i hi
theorem ZAP (hS:Qu s) (h:Gd s B σ) (hp:p < nn s) (h0:¬ inn s (p:Int) < 0) (h3:σ.st p=3) (hn:(p:Int) ∉ σ.kn (inn s (p:Int)).toNat):Gd s B (ZaZ s p l σ):=by
 obtain⟨eq,hq⟩:=Ju hS hp h0;have k3:=J3 hS h.kn hp h0 h3 hn l;unfold ZaZ Ww;by_cases c:(YF s p l σ).st (inn s (p:Int)).toNat=2/\Alo s (YF s p l σ) (inn s (p:Int)).toNat
 ·rw [Z9 c];exact ZDQ hS _ _ _ _ hq (ZdD hS hq) ⟨Kv h.wf,k3⟩ (by rw [c.1];decide)
 ·rw [Z7 c];exact⟨Kv h.wf,k3⟩
theorem Zzo (h:Gd s B σ) (p q:Nat) (n:Int):Gd s (B + 1) (see p q n σ):=by
 refine⟨h.wf.see p q n,?_⟩;unfold see;split <;> exact⟨h.kn.srt,h.kn.rng⟩
theorem ZHD (hS:Qu s) (h:Gd s B σ) (hp:p < nn s) (hq:q < nn s):Gd s (B + 2) (JM s p q σ):=by
 have e:=ZoS (s:=s) p q σ;exact⟨h.wf.JM hS hp hq,⟨fun j hj=>by rw [e.2.1];exact h.kn.srt j hj,fun j hj y hy=>by rw [e.2.1] at hy;rw [e.1];exact h.kn.rng j hj y hy⟩⟩
theorem ZuM (hS:Qu s) (h:Gd s B σ) (hp:p < nn s) (hq:q < nn s):Gd s (B + 2) (note s p q σ):=by
 refine⟨h.wf.note hS hp hq,?_⟩;unfold note;split
 ·exact(ZHD hS h hp hq).kn
 ·exact⟨h.kn.srt,h.kn.rng⟩
theorem ZFo (h:Gd s B σ) (ha:a < mm s) (x:Zd):Gd s (B + 1) (wait a x σ):= ⟨h.wf.wait ha x,⟨h.kn.srt,h.kn.rng⟩⟩
theorem ZfM (hp:x.kV= (p:Int)) (hd:Zuq s x σ) (h4:x.kW=4):σ.st p=3/\(p:Int) ∉ σ.kn (inn s (p:Int)).toNat:=by
 have:=hd h4;rw [hp,Int.toNat_natCast] at this;exact this
theorem ZAR (hS:Qu s) (h:Gd s B σ) (hb:b < mm s) (hx:Zyj s b x) (hd:Zuq s x σ):Gd s (B + ew x) (Zjt s b x σ):=by
 obtain⟨p,hp,hpn,c⟩:=hx;unfold Zjt;rw [hp,Int.toNat_natCast];rcases c with⟨k,q,hq,hqn⟩ | ⟨k,q,hq,hqn⟩ | k | ⟨k,h0,hl⟩ | ⟨k,e,hl,q,hq,hqn⟩
 ·rw [if_pos k,hq,Int.toNat_natCast];exact(Zzo h q p x.n).up (by unfold ew;rw [if_pos k];omega)
 ·rw [if_neg (by omega),if_pos k,hq,Int.toNat_natCast];exact(ZuM hS h hpn hqn).up (by unfold ew;rw [if_neg (by omega),if_pos k];omega)
 ·rw [if_neg (by omega),if_neg (by omega),if_pos k];split
  ·exact(Zir hS _ _ _ _ hpn (KU.all hS.inn) h (by assumption)).up (by omega)
  ·exact h.up (by omega)
 ·rw [if_neg (by omega),if_neg (by omega),if_neg (by omega),if_pos k];have:=ZfM hp hd k;exact(ZAP hS h hpn (by omega) this.1 this.2).up (by omega)
 ·rw [if_neg (by omega),if_neg (by omega),if_neg (by omega),if_neg (by omega)];exact(ZFo h hb x).up (by unfold ew;rw [if_neg (by omega),if_neg (by omega),if_pos k];omega)
theorem Zqk (hS:Qu s) (h:Gd s B σ) (ha:a < mm s) (hb:b < mm s) (hl:σ.ld (li s a b) < (σ.sn (li s a b)).length) (hx:Zyj s b (hd σ (li s a b))) (hd:Zuq s (hd σ (li s a b)) σ):Gd s B (Zcx s a b σ):=by
 obtain⟨h1,h2⟩:=ZnH h (KV ha hb) hl;exact(ZAR hS h2 hb hx hd).up (by omega)
theorem ZmE {xs ys:List Zd} (h:xs.length + ys.length <=1000000):app 56 xs ys=some (xs ++ ys):=Zub h (by decide)
theorem ZeC (h:Gd s B σ) (hB:B <=700000) (hp:p < mm s * mm s) (hl:σ.ld p < (σ.sn p).length):
 ZE (ZE (tab (mm s * mm s) (Jc σ)) (p:Int) ⟨(Jc σ p).Zu,(fl σ p).drop 1⟩) (p:Int) ⟨Yd ((Jc σ p).Zu + 1),(fl σ p).drop 1⟩=tab (mm s * mm s) (Jc (drop1 p σ)):=by
 have hs:= (h.wf.few (by omega)).sn p hp;rw [XD,XD,Zw4];refine WV fun j hj=>?_
 by_cases e:j=p
 ·subst e;rw [Yg];show _= (⟨((YE σ.ld j _ j:Nat):Int),(σ.sn j).drop (YE σ.ld j _ j)⟩:Zg);rw [Yg,show(Jc σ j).Zu= (σ.ld j:Int) from rfl,X9 (by omega)];unfold fl;rw [List.drop_drop]
 ·rw [Xk e];show _= (⟨((YE σ.ld p _ j:Nat):Int),(σ.sn j).drop (YE σ.ld p _ j)⟩:Zg);rw [Xk e];rfl
theorem ZzI (hl:σ.ld p < (σ.sn p).length):ZF (Jc σ p).kG 0=some (hd σ p):=by
 show ZF (fl σ p) 0=_;rw [Zvx hl];rfl
theorem ZzH (h:Gd s B σ) (hB:B <=700000) (hp:p < mm s * mm s) (hl:σ.ld p < (σ.sn p).length):slL (Jc σ p).kG 1 (((Jc σ p).kG.length:Nat):Int)=some ((fl σ p).drop 1)/\((fl σ p).drop 1).length <=800000:=by
 have hs:= (h.wf.few (by omega)).sn p hp;refine⟨?_,by unfold fl;rw [List.length_drop,List.length_drop];omega⟩;show slL (fl σ p) ((1:Nat):Int) (((fl σ p).length:Nat):Int)=_;exact Zie (by unfold fl;rw [List.length_drop];omega)
theorem Zra (hF:1000000 <=F) (hS:Qu s) (h:Gd s B σ) (hB:B <=700000) (hp:p < nn s) (h0:¬ inn s (p:Int) < 0) (h3:σ.st p=3) (hn:(p:Int) ∉ σ.kn (inn s (p:Int)).toNat) (hx:x.kV= (p:Int)) (hm:x.qX.length=mm s * mm s):
 Zrk F (hal s σ) x=some (hal s (ZaZ s p x.qX σ)):=by
 obtain⟨eq,hq⟩:=Ju hS hp h0;have k3:=J3 hS h.kn hp h0 h3 hn x.qX;have w3:Wf s B (YF s p x.qX σ):=Kv h.wf;have h16:=Zcv hS;unfold Zrk;rw [hx];show(ZF s.Zh (p:Int)).bind _=_;rw [Qb hp];simp only [Bq0];obtain⟨q,hqe⟩:∃ q,q= (inn s (p:Int)).toNat:= ⟨_,rfl⟩
 rw [<- hqe] at eq hq hn;rw [QN,eq];have hl:=h.kn.len hS hq;rw [show(hal s σ).Za.qZ=tab (nn s) σ.kn from rfl,Z4 hq];simp only [Bq0];rw [ZlC (by omega) (by omega) (h.kn.srt q hq) hn];simp only [Bq0,Bool.not_false,Cq1];rw [insert_eq (by omega)];simp only [Bq0];rw [XD];unfold ZfY;rw [QN,eq,show(hal s σ).Za.qX=Ut s σ.ma from rfl,Zbs hq];simp only [Bq0];rw [ZfQ (by omega) (by omega) hm];simp only [Bq0]
 have e4:tab (nn s) (YE σ.kn q (ins (p:Int) (σ.kn q)))=tab (nn s) (YF s p x.qX σ).kn:=by
  show _=tab (nn s) (YE σ.kn (inn s (p:Int)).toNat _);rw [<- hqe]
 have e3:Ut s (YE σ.ma q (mx (σ.ma q) x.qX))=tab (nn s) fun j=>tab (mm s * mm s) ((YF s p x.qX σ).ma j):=by
  show _=tab (nn s) fun j=>tab (mm s * mm s) (YE σ.ma (inn s (p:Int)).toNat _ j)
  rw [<- hqe];rfl
 rw [Zah,e3,e4,show(hal s σ).Za.qV=tab (nn s) σ.st from rfl,Z4 hq];simp only [Bq0];have e5:Z6.mk (Ze.mk (tab (nn s) σ.st) (tab (nn s) fun j=>tab (mm s * mm s) ((YF s p x.qX σ).ma j)) (tab (nn s) (YF s p x.qX σ).kn) (hal s σ).Za.Zk (hal s σ).Za.Zt (hal s σ).Za.kQ (hal s σ).Za.kK) (hal s σ).qK (hal s σ).kU=hal s (YF s p x.qX σ):=rfl;rw [e5,Xq];unfold ZaZ Ww;rw [<- hqe];have e6:(YF s p x.qX σ).st q=σ.st q:=rfl;have h8:nn s <=8:=hS.p2;by_cases h2:σ.st q=2
 ·rw [decide_eq_true h2,Qm,ZeT (by omega) hS hq (by have:=k3.len hS hq;omega)];by_cases hA:Alo s (YF s p x.qX σ) q
  ·rw [Z9 hA];simp only [Bq0,Bool.and_self,Cq1];unfold ZDh;rw [Zrz hF hS _ _ _ F (by omega) hq (ZdD hS hq) w3 hB k3 (by rw [e6,h2];decide),Z9 ⟨by rw [e6];exact h2,hA⟩];rfl
  ·rw [Z7 hA];simp only [Bq0,Bool.and_false,Cq0];rw [Z7 fun z=>hA z.2];rfl
 ·rw [decide_eq_false h2,QL];simp only [Bq0,Bool.false_and,Cq0];rw [Z7 fun z=>h2 (by rw [<- e6];exact z.1)];rfl
theorem ZwP (hF:1000000 <=F) (hS:Qu s) (h:Gd s B σ) (hB:B <=600000) (ha:a < mm s) (hb:b < mm s) (hl:σ.ld (li s a b) < (σ.sn (li s a b)).length) (hx:Zyj s b (hd σ (li s a b))) (hd:Zuq s (hd σ (li s a b)) σ):ZDp F (hal s σ) (a:Int) (b:Int)=some (hal s (Zcx s a b σ)):=by
 have hi:=KV ha hb;obtain⟨_,g'⟩:=ZnH h hi hl;have fw:=g'.wf.few (by omega);obtain⟨t1,t2⟩:=ZzH h (by omega) hi hl;unfold ZDp;show(ZF (tab (mm s * mm s) (Jc σ)) (Yd (Yd ((a:Int) * s.qG) + (b:Int)))).bind _=_;rw [UF hS ha hb,Z4 hi];simp only [Bq0];rw [ZzI hl];simp only [Bq0];rw [t1];simp only [Bq0];unfold ZvH;rw [ZmE (by rw [List.length_nil];omega)];simp only [Bq0,List.nil_append]
 have el:∀ (β:Type) (f:List Zg ->β),f (ZE (ZE (hal s σ).Za.kQ (Yd ((Yd ((a:Int) * (hal s σ).qK.qG)) + (b:Int))) (Zg.mk (Jc σ (li s a b)).Zu ((fl σ (li s a b)).drop 1))) (Yd ((Yd ((a:Int) * (hal s σ).qK.qG)) + (b:Int))) (Zg.mk (Yd ((Jc σ (li s a b)).Zu + 1)) ((fl σ (li s a b)).drop 1)))=f (tab (mm s * mm s) (Jc (drop1 (li s a b) σ))):=fun β f=>by
  rw [show(hal s σ).qK.qG=s.qG from rfl,UF hS ha hb,show(hal s σ).Za.kQ=tab (mm s * mm s) (Jc σ) from rfl,ZeC h (by omega) hi hl]
 have el:=el _ id;simp only [id] at el;rw [el];have e5:Z6.mk (Ze.mk (hal s σ).Za.qV (hal s σ).Za.qX (hal s σ).Za.qZ (hal s σ).Za.Zk (hal s σ).Za.Zt (tab (mm s * mm s) (Jc (drop1 (li s a b) σ))) (hal s σ).Za.kK) (hal s σ).qK (hal s σ).kU=hal s (drop1 (li s a b) σ):=rfl;rw [e5];unfold Zcx Zjt;obtain⟨y,hy⟩:∃ y,y=Proofs.YtcnahmgekicbdaaGreat.hd σ (li s a b):= ⟨_,rfl⟩
 rw [<- hy] at hx hd |-;obtain⟨p,hp,hpn,c⟩:=hx;simp only [Xq];rcases c with⟨k,q,hq,hqn⟩ | ⟨k,q,hq,hqn⟩ | k | ⟨k,h0,hm⟩ | ⟨k,e,hm,q,hq,hqn⟩
 ·rw [decide_eq_true k,Cq1,if_pos k,ZpO fw hq hqn,hp,hq,Int.toNat_natCast,Int.toNat_natCast]
  rfl
 ·rw [decide_eq_false (by omega),Cq0,decide_eq_true k,Cq1,if_neg (by omega),if_pos k,ZlZ hS fw hp hq hpn hqn,hp,hq,Int.toNat_natCast,Int.toNat_natCast]
  rfl
 ·rw [decide_eq_false (by omega),Cq0,decide_eq_false (by omega),Cq0,decide_eq_true k,Cq1,if_neg (by omega),if_neg (by omega),if_pos k,hp,Int.toNat_natCast];show(ZF (tab (nn s) σ.st) (p:Int)).bind _=_;rw [Z4 hpn];simp only [Bq0];by_cases e:σ.st p=1
  ·rw [decide_eq_true e,Cq1,if_pos (show(drop1 (li s a b) σ).st p=1 from e)];unfold ZDr;have h8:nn s <=8:=hS.p2;rw [Zmk hF hS (nn s) _ _ F _ (by omega) hpn (KU.all hS.inn) g' (by omega) e];rfl
  ·rw [decide_eq_false e,Cq0,if_neg (show ¬ (drop1 (li s a b) σ).st p=1 from e)];rfl
 ·have hD:=ZfM hp hd k;rw [decide_eq_false (by omega),Cq0,decide_eq_false (by omega),Cq0,decide_eq_false (by omega),Cq0,decide_eq_true k,Cq1,if_neg (by omega),if_neg (by omega),if_neg (by omega),if_pos k,Zra hF hS g' (by omega) hpn (by omega) hD.1 hD.2 hp hm,hp,Int.toNat_natCast];rfl
 ·rw [decide_eq_false (by omega),Cq0,decide_eq_false (by omega),Cq0,decide_eq_false (by omega),Cq0,decide_eq_false (by omega),Cq0,decide_eq_true k,Cq1,if_neg (by omega),if_neg (by omega),if_neg (by omega),if_neg (by omega)];unfold ZvG;rw [hp,WJ hS hpn,e];simp only [Bq0];rw [Zlw fw hb];rfl
end
end
section
section
variable {s:Zc} {σ:TS} {F B a b p q:Nat} {x:Zd} {l:List Int}
theorem Ztw (hF:1000000 <=F) (hS:Qu s) (h:Gd s B σ) (hi:li s a b < mm s * mm s) (ha:a < mm s) (hb:b < mm s) (hlt:σ.ld (li s a b) < (σ.sn (li s a b)).length) (hB:B <=600000) (hp:p < nn s) (h0:¬ inn s (p:Int) < 0) (h3:σ.st p=3) (hn:(p:Int) ∉ σ.kn (inn s (p:Int)).toNat) (hx:x.kV= (p:Int)) (hm:x.qX.length=mm s * mm s)
 (gd':Gd s B (drop1 (li s a b) σ)):
 loop F (Zj3 F (XZ s σ) (a:Int) (b:Int) (Jc σ (li s a b)) x ((fl σ (li s a b)).drop 1) (spt s p)) 0=some (XZ s (ZaZ s p x.qX (drop1 (li s a b) σ))):=by
 have h16:=Zcv hS;obtain⟨eq,hq⟩:=Ju hS hp h0;obtain⟨τ,hτ⟩:∃ τ,τ=drop1 (li s a b) σ:= ⟨_,rfl⟩
 have k3:Kn s (YF s p x.qX τ):=by rw [hτ];exact J3 hS gd'.kn hp h0 h3 hn x.qX
 have w3:Wf s B (YF s p x.qX τ):=by rw [hτ];exact Kv gd'.wf
 obtain⟨q,hqe⟩:∃ q,q= (inn s (p:Int)).toNat:= ⟨_,rfl⟩
 rw [<- hqe] at eq hq hn;have hl:=h.kn.len hS hq;obtain⟨c,hc⟩:∃ c,c= ((σ.kn q).takeWhile fun x=>decide (x < (p:Int))).length:= ⟨_,rfl⟩
 have hcl:c <= (σ.kn q).length:=by rw [hc];exact Zbg
 have eL:ZE (ZE (XZ s σ).w.kQ (Yd ((Yd ((a:Int) * (XZ s σ).s.qG)) + (b:Int))) (Zg.mk (Jc σ (li s a b)).Zu ((fl σ (li s a b)).drop 1))) (Yd ((Yd ((a:Int) * (XZ s σ).s.qG)) + (b:Int))) (Zg.mk (Yd ((Jc σ (li s a b)).Zu + 1)) ((fl σ (li s a b)).drop 1))=tab (mm s * mm s) (Jc τ):=by
  rw [show(XZ s σ).s.qG=s.qG from rfl,UF hS ha hb,show(XZ s σ).w.kQ=tab (mm s * mm s) (Jc σ) from rfl,ZeC h (by omega) hi hlt,hτ]
 have e4:tab (nn s) (YE σ.kn q (ins (p:Int) (σ.kn q)))=tab (nn s) (YF s p x.qX τ).kn:=by
  show _=tab (nn s) (YE τ.kn (inn s (p:Int)).toNat _);rw [<- hqe,hτ];rfl
 have e3:Ut s (YE σ.ma q (mx (σ.ma q) x.qX))=tab (nn s) fun j=>tab (mm s * mm s) ((YF s p x.qX τ).ma j):=by
  show _=tab (nn s) fun j=>tab (mm s * mm s) (YE τ.ma (inn s (p:Int)).toNat _ j)
  rw [<- hqe,hτ];rfl
 have e5:Z5.mk (XZ s σ).s (Ze.mk (tab (nn s) σ.st) (tab (nn s) fun j=>tab (mm s * mm s) ((YF s p x.qX τ).ma j)) (tab (nn s) (YF s p x.qX τ).kn) (XZ s σ).w.Zk (XZ s σ).w.Zt (tab (mm s * mm s) (Jc τ)) (XZ s σ).w.kK) (XZ s σ).kU=XZ s (YF s p x.qX τ):=by rw [hτ];rfl
 have e6:(YF s p x.qX τ).st q=σ.st q:=by rw [hτ];rfl
 have h8:nn s <=8:=hS.p2;have self:ZE (tab (nn s) σ.kn) (q:Int) (σ.kn q)=tab (nn s) σ.kn:=by rw [XD,ZgL]
 have eK:(XZ s σ).w.qZ=tab (nn s) σ.kn:=rfl;have eS:(XZ s σ).w.qV=tab (nn s) σ.st:=rfl;have eM:(XZ s σ).w.qX=Ut s σ.ma:=rfl
 have done:∀ (K:List Int ->Option Z5),K= (fun z222=>(ZF (Ut s σ.ma) (q:Int)).bind fun ZFh=>(ZeP F ZFh x.qX).bind fun ZkM=>(gd (σ.st q==2) (ZgQ F (Z5.mk (XZ s σ).s (Ze.mk (tab (nn s) σ.st) (ZE (Ut s σ.ma) (q:Int) ZkM) (ZE (tab (nn s) σ.kn) (q:Int) z222) (XZ s σ).w.Zk (XZ s σ).w.Zt (tab (mm s * mm s) (Jc τ)) (XZ s σ).w.kK) (XZ s σ).kU) (q:Int)) default).bind fun ZFg=>(bif((σ.st q==2) && ZFg) then(Zrd F (Z5.mk (XZ s σ).s (Ze.mk (tab (nn s) σ.st) (ZE (Ut s σ.ma) (q:Int) ZkM) (ZE (tab (nn s) σ.kn) (q:Int) z222) (XZ s σ).w.Zk (XZ s σ).w.Zt (tab (mm s * mm s) (Jc τ)) (XZ s σ).w.kK) (XZ s σ).kU) (q:Int)).bind fun KJ=>(Zdp) (KJ.s.qG,KJ.s.Zh,KJ.w.qV,KJ.w.qX,KJ.w.qZ,KJ.w.Zk,KJ.w.Zt,KJ.w.kQ,KJ.w.kK,KJ.kU) else(Zdp) ((XZ s σ).s.qG,(XZ s σ).s.Zh,tab (nn s) σ.st,ZE (Ut s σ.ma) (q:Int) ZkM,ZE (tab (nn s) σ.kn) (q:Int) z222,(XZ s σ).w.Zk,(XZ s σ).w.Zt,tab (mm s * mm s) (Jc τ),(XZ s σ).w.kK,(XZ s σ).kU))) ->K (ins (p:Int) (σ.kn q))=some (XZ s (ZaZ s p x.qX τ)):=by
  intro K hK;subst hK;dsimp only;rw [Zbs hq];simp only [Bq0];rw [ZsU (by omega) (by omega) hm];simp only [Bq0];rw [Zah,e3,XD,e4,e5,Xq];unfold ZaZ Ww;rw [<- hqe];by_cases h2:σ.st q=2
  ·rw [decide_eq_true h2,Qm,Zhp (by omega) hS hq (by have:=k3.len hS hq;omega)];by_cases hA:Alo s (YF s p x.qX τ) q
   ·rw [Z9 hA];simp only [Bq0,Bool.and_self,Cq1];unfold Zrd;rw [ZvR hF hS _ _ _ F (by omega) hq (ZdD hS hq) w3 (by omega) k3 (by rw [e6,h2];decide),Z9 ⟨by rw [e6];exact h2,hA⟩];rfl
   ·rw [Z7 hA];simp only [Bq0,Bool.and_false,Cq0];rw [Z7 fun z=>hA z.2,<- e5];rfl
  ·rw [decide_eq_false h2,QL];simp only [Bq0,Bool.false_and,Cq0];rw [Z7 fun z=>h2 (by rw [<- e6];exact z.1),<- e5];rfl
 rw [<- hτ];refine Xr (fun k=>(k:Int)) rfl (n:=c) (by omega) (fun k hk' next=>?_) (fun next=>?_)
 ·unfold Zj3;rw [QN,eq,hx,eK,Z4 hq];simp only [Bq0];have:=Zzc (l:=σ.kn q) (k:= (p:Int)) k (by omega);rw [Yv (show k < (σ.kn q).length by omega),Cq1,XY 0 (by omega)];simp only [Bq0];rw [decide_eq_true this,Cq1,X9 (by omega)]
 ·unfold Zj3;rw [QN,eq,hx,eK,Z4 hq];simp only [Bq0];by_cases hlt':c < (σ.kn q).length
  ·have:=Zzd (h.kn.srt q hq) (k:= (p:Int)) c (by omega) hlt';rw [Yv hlt',Cq1,XY 0 hlt'];simp only [Bq0];rw [decide_eq_false (by omega),Cq0];simp only [Z4 hq,Bq0,self,eL,eS,eM];exact(ZFG (by omega) hc _).trans (done _ rfl)
  ·have:c= (σ.kn q).length:=by omega
   rw [decide_eq_false (show ¬ ((c:Int) < ((σ.kn q).length:Int)) by omega),Cq0];simp only [Z4 hq,Bq0,self,eL,eS,eM];exact(ZFG (by omega) hc _).trans (done _ rfl)
theorem Zqj (hF:1000000 <=F) (hS:Qu s) (h:Gd s B σ) (hB:B <=600000) (ha:a < mm s) (hb:b < mm s) (hl:σ.ld (li s a b) < (σ.sn (li s a b)).length) (hx:Zyj s b (hd σ (li s a b))) (hd:Zuq s (hd σ (li s a b)) σ):Zxn F (XZ s σ) (a:Int) (b:Int)=some (XZ s (Zcx s a b σ)):=by
 have hi:=KV ha hb;obtain⟨_,g'⟩:=ZnH h hi hl;have fw:=g'.wf.few (by omega);obtain⟨t1,t2⟩:=ZzH h (by omega) hi hl;unfold Zxn
 have e0:ZF (XZ s σ).w.kQ (Yd ((Yd ((a:Int) * (XZ s σ).s.qG)) + (b:Int)))=some (Jc σ (li s a b)):=by
  rw [show(XZ s σ).s.qG=s.qG from rfl,UF hS ha hb,show(XZ s σ).w.kQ=tab (mm s * mm s) (Jc σ) from rfl,Z4 hi]
 rw [e0];simp only [Bq0];rw [ZzI hl];simp only [Bq0];rw [t1];simp only [Bq0];rw [ZmE (by rw [List.length_nil];omega)];simp only [Bq0,List.nil_append]
 have el:ZE (ZE (XZ s σ).w.kQ (Yd ((Yd ((a:Int) * (XZ s σ).s.qG)) + (b:Int))) (Zg.mk (Jc σ (li s a b)).Zu ((fl σ (li s a b)).drop 1))) (Yd ((Yd ((a:Int) * (XZ s σ).s.qG)) + (b:Int))) (Zg.mk (Yd ((Jc σ (li s a b)).Zu + 1)) ((fl σ (li s a b)).drop 1))=tab (mm s * mm s) (Jc (drop1 (li s a b) σ)):=by
  rw [show(XZ s σ).s.qG=s.qG from rfl,UF hS ha hb,show(XZ s σ).w.kQ=tab (mm s * mm s) (Jc σ) from rfl,ZeC h (by omega) hi hl]
 rw [el];have e5:Z5.mk (XZ s σ).s (Ze.mk (XZ s σ).w.qV (XZ s σ).w.qX (XZ s σ).w.qZ (XZ s σ).w.Zk (XZ s σ).w.Zt (tab (mm s * mm s) (Jc (drop1 (li s a b) σ))) (XZ s σ).w.kK) (XZ s σ).kU=XZ s (drop1 (li s a b) σ):=rfl;rw [e5];unfold Zcx Zjt;obtain⟨y,hy⟩:∃ y,y=Proofs.YtcnahmgekicbdaaGreat.hd σ (li s a b):= ⟨_,rfl⟩
 rw [<- hy] at hx hd |-;obtain⟨p,hp,hpn,c⟩:=hx;simp only [Xq];rcases c with⟨k,q,hq,hqn⟩ | ⟨k,q,hq,hqn⟩ | k | ⟨k,h0,hm⟩ | ⟨k,e,hm,q,hq,hqn⟩
 ·rw [decide_eq_true k,Cq1,if_pos k,hp,hq,Zux fw hqn hpn,Int.toNat_natCast,Int.toNat_natCast]
  rfl
 ·rw [decide_eq_false (by omega),Cq0,decide_eq_true k,Cq1,if_neg (by omega),if_pos k,hp,hq,Zqc hS fw hpn hqn,Int.toNat_natCast,Int.toNat_natCast]
  rfl
 ·rw [decide_eq_false (by omega),Cq0,decide_eq_false (by omega),Cq0,decide_eq_true k,Cq1,if_neg (by omega),if_neg (by omega),if_pos k,hp,Int.toNat_natCast];unfold ZDv;have h8:nn s <=8:=hS.p2;rw [Zrb hF hS (nn s) _ _ F _ (by omega) hpn (KU.all hS.inn) g' (by omega)];rfl
 ·have hD:=ZfM hp hd k;rw [decide_eq_false (by omega),Cq0,decide_eq_false (by omega),Cq0,decide_eq_false (by omega),Cq0,decide_eq_true k,Cq1,if_neg (by omega),if_neg (by omega),if_neg (by omega),if_pos k,hp,Int.toNat_natCast];rw [show ZF (XZ s σ).s.Zh (p:Int)=some (spt s p) from Qb hpn];simp only [Bq0];exact Ztw hF hS h hi ha hb hl hB hpn (by omega) hD.1 hD.2 hp hm (g'.up (by omega))
 ·rw [decide_eq_false (by omega),Cq0,decide_eq_false (by omega),Cq0,decide_eq_false (by omega),Cq0,decide_eq_false (by omega),Cq0,decide_eq_true k,Cq1,if_neg (by omega),if_neg (by omega),if_neg (by omega),if_neg (by omega)];rw [show ZF (XZ s σ).w.Zt (b:Int)=some (σ.be b) from Z4 hb];simp only [Bq0];have hbe:=fw.be b hb;rw [ZmE (by show(σ.be b).length + _ <=_;rw [List.length_singleton];have:((drop1 (li s a b) σ).be b)=σ.be b:=rfl;rw [this] at hbe;omega)];simp only [Bq0];rw [show ZE (XZ s σ).w.Zt (b:Int) (σ.be b ++ [y])=tab (mm s) (YE σ.be b (σ.be b ++ [y])) from XD]
  rfl
end
end
section
noncomputable section
def dep (s:Zc) (q:Nat):Nat:=@dite _ (∃ m,m <=nn s/\up s (m + 1) (q:Int) < 0/\∀ k,k < m ->¬ up s (k + 1) (q:Int) < 0) (Classical.propDecidable _) (fun h=>Classical.choose h) (fun _=>0)
def rdy (s:Zc) (ld:Nat ->Nat) (w:Nat) (x:Zd):Prop:=∀ b:Nat,b < mm s ->b ≠ w ->x.qX.getD (li s b w) 0 <= (ld (li s b w):Int)
def Zb4 (s:Zc) (x:Zd):Nat:=dep s x.kX.toNat
def UA (s:Zc) (ld:Nat ->Nat) (w:Nat) (l:List Zd):Nat ->Option Nat
 | 0=>none
 | k + 1=>ifc (rdy s ld w (l.getD k default)/\∀ j,UA s ld w l k=some j ->Zb4 s (l.getD j default) < Zb4 s (l.getD k default)) (some k) (UA s ld w l k)
def ZcE {α:Type} (l:List α) (i:Nat):List α:=l.take i ++ l.drop (i + 1)
def rung (s:Zc) (w i:Nat) (σ:TS):TS:=
 if σ.st ((σ.be w).getD i default).kV.toNat=1 then tell 4 ((σ.be w).getD i default).kV ((σ.be w).getD i default).kX 0 {σ with be:=YE σ.be w (ZcE (σ.be w) i)} else{σ with be:=YE σ.be w (ZcE (σ.be w) i)}
def Zbl (s:Zc) (w:Nat):Nat ->TS ->TS
 | 0,σ=>σ
 | n + 1,σ=>match UA s σ.ld w (σ.be w) (σ.be w).length with
   | none=>σ
   | some i=>Zbl s w n (rung s w i σ)
end
def BeS (s:Zc) (x:Zd):Prop:= (∃ p:Nat,x.kV= (p:Int)/\p < nn s)/\(∃ q:Nat,x.kX= (q:Int)/\q < nn s)/\x.qX.length=mm s * mm s
section
variable {s:Zc} {σ:TS} {F B a b p q w:Nat} {x:Zd} {l:List Zd}
theorem ZrB (hS:Qu s) (hq:q < nn s):dep s q <=nn s/\up s (dep s q + 1) (q:Int) < 0/\∀ k,k < dep s q ->¬ up s (k + 1) (q:Int) < 0:=by
 have h:∃ m,m <=nn s/\up s (m + 1) (q:Int) < 0/\∀ k,k < m ->¬ up s (k + 1) (q:Int) < 0:=
  ZbA (c:=fun k=>up s (k + 1) (q:Int) < 0) (n:=nn s) (Wo (hS.inn.acy q hq) (by unfold nn;omega))
 unfold dep;rw [dif_pos h];exact Classical.choose_spec h
theorem Zke {β:Type} (hF:1000 <=F) (hS:Qu s) (hq:q < nn s) {r:Int ->Option β} {body:Int×Int ->(Int×Int ->Option β) ->Option β}
 (hb:∀ v n next,body (v,n) next=bif decide (v >=0) then(ZF s.Zh v).bind fun x=>next (x.XA,Yd (n + 1)) else r n):loop F body (inn s (q:Int),0)=r (dep s q:Int):=by
 obtain⟨h1,h2,h3⟩:=ZrB hS hq;have h8:nn s <=8:=hS.p2;refine Xr (fun k=>(up s (k + 1) (q:Int),(k:Int))) (by show(up s (0 + 1) (q:Int),((0:Nat):Int))=_;rw [up1];rfl) (n:=dep s q) (by omega) (fun k hk next=>?_) (fun next=>?_)
 ·have h:=h3 k hk;obtain⟨j,e,hj⟩:=Zb2 (hS.inn.up (q:= (q:Int)) ⟨by omega,by unfold nn at hq;omega⟩ (k + 1)) h;rw [hb,Wn s (k + 1),if_neg h,e,ZdX,Cq1,Qb hj];simp only [Bq0];rw [QN,X9 (by omega)]
 ·rw [hb,decide_eq_false (by omega),Cq0]
theorem ZvT (hF:1000 <=F) (hS:Qu s) (hq:q < nn s):∃ L,Zxp F s (q:Int)=some L/\L.length=dep s q:=by
 obtain⟨h1,h2,h3⟩:=ZrB hS hq;have h8:nn s <=8:=hS.p2;refine⟨arK s q (dep s q),?_,ZvX _ _ _⟩;unfold Zxp;rw [Qb hq];simp only [Bq0];rw [QN];refine Xr (fun k=>(arK s q k,up s (k + 1) (q:Int))) (by show(arK s q 0,up s (0 + 1) (q:Int))=_;rw [up1];rfl) (n:=dep s q) (by omega) (fun k hk next=>?_) (fun next=>?_)
 ·have h:=h3 k hk;obtain⟨j,e,hj⟩:=Zb2 (hS.inn.up (q:= (q:Int)) ⟨by omega,by unfold nn at hq;omega⟩ (k + 1)) h;unfold Zoi;dsimp only;rw [Wn s (k + 1),if_neg h,ZEe,e,ZdX,Cq1,Zo6 (by rw [ZvX,List.length_singleton];omega),Qb hj];simp only [Bq0];rw [QN]
 ·unfold Zoi;dsimp only;rw [decide_eq_false (by omega),Cq0]
theorem Zsy (hF:1000 <=F) (hS:Qu s) (hw:w < mm s) (hx:x.qX.length=mm s * mm s):Zrj F (hal s σ) (w:Int) x=ifc (rdy s σ.ld w x) (some true) (some false):=by
 have h4:=hS.mm.2.2;unfold Zrj
 exact Wv (body:=ZfX (hal s σ) (w:Int) x) (r1:=some false) (r2:=some true) (s0:= (0:Int)) (fun k=>(k:Int)) rfl (fun k:Nat=>k ≠ w ->x.qX.getD (li s k w) 0 <= (σ.ld (li s k w):Int)) (n:=mm s) (F:=F) (by omega) (fun k hk next=>by
  unfold ZfX;rw [show(hal s σ).qK.qG=s.qG from rfl,Zbt hS hk,Cq1];by_cases e:k=w
  ·subst e;rw [show(((k:Int)) != ((k:Int)))=false by simp,Cq0,Z9 (fun z=>absurd rfl z),X9 (by omega)]
  ·have e1:(((k:Int)) != ((w:Int)))=true:=by rw [Zaa];exact decide_eq_true (by omega)
   have hi:=KV hk hw;rw [e1,Cq1,UF hS hk hw,show(hal s σ).Za.kQ=tab (mm s * mm s) (Jc σ) from rfl,Z4 hi];simp only [Bq0];rw [XY 0 (by rw [hx];exact hi)];simp only [Bq0];rw [show(Jc σ (li s k w)).Zu= (σ.ld (li s k w):Int) from rfl];by_cases c:x.qX.getD (li s k w) 0 <= (σ.ld (li s k w):Int)
   ·rw [decide_eq_false (by omega),Cq0,Z9 (fun _=>c),X9 (by omega)]
   ·rw [decide_eq_true (by omega),Cq1,Z7 (fun z=>c (z e))]) (fun next=>by
  unfold ZfX;rw [show(hal s σ).qK.qG=s.qG from rfl,ZfJ hS,Cq0])
theorem Zwr (hF:1000 <=F) (hS:Qu s) (hw:w < mm s) (hx:x.qX.length=mm s * mm s):ZDo F (XZ s σ) x (w:Int)=ifc (rdy s σ.ld w x) (some true) (some false):=by
 have h4:=hS.mm.2.2;unfold ZDo
 exact Wv (body:=ZjY (XZ s σ) x (w:Int)) (r1:=some false) (r2:=some true) (s0:= (0:Int)) (fun k=>(k:Int)) rfl (fun k:Nat=>k ≠ w ->x.qX.getD (li s k w) 0 <= (σ.ld (li s k w):Int)) (n:=mm s) (F:=F) (by omega) (fun k hk next=>by
  unfold ZjY;rw [show(XZ s σ).s.qG=s.qG from rfl,Zbt hS hk,Cq1];by_cases e:k=w
  ·subst e;rw [show(((k:Int)) != ((k:Int)))=false by simp,QL];simp only [Bq0];rw [QL];simp only [Bq0,Bool.false_and,Cq0];rw [Z9 (fun z=>absurd rfl z),X9 (by omega)]
  ·have e1:(((k:Int)) != ((w:Int)))=true:=by rw [Zaa];exact decide_eq_true (by omega)
   have hi:=KV hk hw;rw [e1,Qm,UF hS hk hw,show(XZ s σ).w.kQ=tab (mm s * mm s) (Jc σ) from rfl,Z4 hi];simp only [Bq0];rw [Qm,XY 0 (by rw [hx];exact hi)];simp only [Bq0,Bool.true_and];rw [show(Jc σ (li s k w)).Zu= (σ.ld (li s k w):Int) from rfl];by_cases c:x.qX.getD (li s k w) 0 <= (σ.ld (li s k w):Int)
   ·rw [decide_eq_false (by omega),Cq0,Z9 (fun _=>c),X9 (by omega)]
   ·rw [decide_eq_true (by omega),Cq1,Z7 (fun z=>c (z e))]) (fun next=>by
  unfold ZjY;rw [show(XZ s σ).s.qG=s.qG from rfl,ZfJ hS,Cq0])
theorem Zih {ld:Nat ->Nat}:∀ k j,UA s ld w l k=some j ->j < k:=by
 intro k
 induction k with
 | zero=>intro j h;cases h
 | succ k ih=>
   intro j h;rw [UA] at h;by_cases c:rdy s ld w (l.getD k default)/\∀ j,UA s ld w l k=some j ->Zb4 s (l.getD j default) < Zb4 s (l.getD k default)
   ·rw [Z9 c] at h;cases h;omega
   ·rw [Z7 c] at h;have:=ih j h;omega
def pI (o:Option Nat):Int:=match o with | none=>-1 | some j=>(j:Int)
noncomputable def pD (s:Zc) (l:List Zd) (o:Option Nat):Int:=match o with | none=>0 | some j=>(Zb4 s (l.getD j default):Int)
theorem ZlW (hF:1000000 <=F) (hS:Qu s) (hw:w < mm s) (hl:l.length <=700000) (hx:∀ x ∈ l,BeS s x):
 ZjZ F (w:Int) (tab (nn s) σ.st) (tab (nn s) fun p=>tab (mm s * mm s) (σ.ma p)) (tab (nn s) σ.kn) (tab (nn s) σ.wa) (tab (mm s) σ.be) (tab (mm s * mm s) (Jc σ)) σ.sd s.qG s.Zh σ.ev l=some (pI (UA s σ.ld w l l.length)):=by
 unfold ZjZ;refine Xr (fun k=>(pI (UA s σ.ld w l k),pD s l (UA s σ.ld w l k),(k:Int))) rfl (n:=l.length) (by omega) (fun k hk next=>?_) (fun next=>?_)
 ·unfold Zn3;dsimp only;rw [Yv hk,Cq1,XY default hk];simp only [Bq0];obtain⟨x,ex⟩:∃ x,x=l.getD k default:= ⟨_,rfl⟩
  obtain⟨_,⟨q,hq,hqn⟩,hm⟩:=hx _ (Qd (d:=default) hk);rw [<- ex] at hq hm |-;rw [Znz,Zsy (by omega) hS hw hm,hq];have ed:Zb4 s x=dep s q:=by unfold Zb4;rw [hq,Int.toNat_natCast]
  rw [UA,<- ex];have j0:∀ (a b:Int),Zdn (k:Int) next (a,b)=next (a,b,((k + 1:Nat):Int)):=fun a b=>by unfold Zdn;dsimp only;rw [X9 (by omega)]
  by_cases r:rdy s σ.ld w x
  ·rw [Z9 r];simp only [Bq0,Bool.true_and];cases hpk:UA s σ.ld w l k with
   | none=>
     rw [show decide (pI none < 0)=true from rfl,Bool.not_true,Cq0,Cq1];unfold Zn0;simp only [Bq0];rw [Qb hqn];simp only [Bq0];rw [QN,Zke (r:=fun n=>ZgR (k:Int) next n) (by omega) hS hqn (fun v n nx=>by unfold ZtA;dsimp only;rw [Bool.not_true,Cq0]),Z9 ⟨r,fun j z=>by cases z⟩];unfold ZgR;rw [j0];show _=next ((k:Int),(Zb4 s (l.getD k default):Int),_);rw [<- ex,ed]
   | some j=>
     rw [show decide (pI (some j) < 0)=false from decide_eq_false (by simp [pI]),Bool.not_false,Cq1];unfold Zn2;simp only [Bq0];rw [Qb hqn];simp only [Bq0];rw [QN,Zke (r:=fun n=>ZgT F s.Zh (pI (some j)) (pD s l (some j)) (k:Int) next x true n) (by omega) hS hqn (fun v n nx=>by unfold ZtB;dsimp only;rw [Bool.not_true,Cq0])];unfold ZgT;rw [Bool.true_and];by_cases c:Zb4 s (l.getD j default) < Zb4 s x
     ·rw [decide_eq_true (show(dep s q:Int) > pD s l (some j) by show(dep s q:Int) > (Zb4 s (l.getD j default):Int);omega),Cq1];unfold Zn1;simp only [Bq0];rw [hq,Qb hqn];simp only [Bq0];rw [QN,Zke (r:=fun n=>ZgS (k:Int) next n) (by omega) hS hqn (fun v n nx=>by unfold ZtC;dsimp only;rw [Bool.not_true,Cq0]),Z9 ⟨r,fun j' z=>by cases z;exact c⟩];unfold ZgS;rw [j0];show _=next ((k:Int),(Zb4 s (l.getD k default):Int),_);rw [<- ex,ed]
     ·rw [decide_eq_false (show ¬ (dep s q:Int) > pD s l (some j) by show ¬ (dep s q:Int) > (Zb4 s (l.getD j default):Int);omega),Cq0,Z7 (fun z=>c (z.2 j rfl)),j0]
  ·rw [Z7 r,Z7 (fun z=>r z.1)];simp only [Bq0,Bool.false_and,Cq0];rw [j0]
 ·unfold Zn3;dsimp only;rw [YI,Cq0]
end
end
section
noncomputable def rings (s:Zc):Nat ->TS ->TS
 | 0,σ=>σ
 | k + 1,σ=>Zbl s k ((rings s k σ).be k).length (rings s k σ)
def BeA (s:Zc) (σ:TS):Prop:=∀ w,w < mm s ->∀ x ∈ σ.be w,BeS s x
section
variable {s:Zc} {σ:TS} {F B a b p q w i n:Nat} {x:Zd} {l:List Zd}
theorem Zdt {α:Type} {l:List α} {i:Nat} (h:i < l.length):(ZcE l i).length + 1=l.length:=by
 unfold ZcE;rw [List.length_append,List.length_take,List.length_drop];omega
theorem ZrD {α:Type} {l:List α} {i:Nat} {x:α} (h:x ∈ ZcE l i):x ∈ l:=by
 unfold ZcE at h;rcases List.mem_append.1 h with h | h
 ·exact List.mem_of_mem_take h
 ·exact List.mem_of_mem_drop h
theorem K4 (s:Zc) (w i:Nat) (σ:TS):(rung s w i σ).be=YE σ.be w (ZcE (σ.be w) i)/\(rung s w i σ).ld=σ.ld/\(rung s w i σ).st=σ.st/\(rung s w i σ).kn=σ.kn/\(rung s w i σ).ma=σ.ma/\(rung s w i σ).sn=σ.sn/\(rung s w i σ).wa=σ.wa/\(rung s w i σ).sd=σ.sd:=by
 unfold rung;split <;> exact⟨rfl,rfl,rfl,rfl,rfl,rfl,rfl,rfl⟩
theorem Zm5 (h:Gd s B σ) (hw:w < mm s) (hi:i < (σ.be w).length):Gd s B (rung s w i σ):=by
 have hb:=h.wf.pot;have h1:(σ.be w).length <=Pot s σ:=by have:=Ue (f:=fun m=>(σ.be m).length) hw;unfold Pot;omega
 have hp:=Znc (s:=s) (σ:=σ) hw (ZcE (σ.be w) i);have hc:=Zdt hi;have w1:Wf s (B - 1) {σ with be:=YE σ.be w (ZcE (σ.be w) i)}:= ⟨by omega,h.wf.ld,h.wf.ws⟩
 unfold rung;split
 ·exact⟨(w1.tell _ _ _ _).up (by omega),⟨h.kn.srt,h.kn.rng⟩⟩
 ·exact⟨w1.up (by omega),⟨h.kn.srt,h.kn.rng⟩⟩
theorem Zi6 (h:BeA s σ):BeA s (rung s w i σ):=fun v hv x hx=>by
 rw [(K4 s w i σ).1] at hx;by_cases e:v=w
 ·subst e;rw [Yg] at hx;exact h v hv x (ZrD hx)
 ·rw [Xk e] at hx;exact h v hv x hx
theorem ZFH (hw:w < mm s):∀ (n:Nat) (σ:TS),Gd s B σ ->BeA s σ ->Gd s B (Zbl s w n σ)/\BeA s (Zbl s w n σ):=by
 intro n
 induction n with
 | zero=>intro σ h hb;exact⟨h,hb⟩
 | succ n ih=>
   intro σ h hb;rw [Zbl];cases hpk:UA s σ.ld w (σ.be w) (σ.be w).length with
   | none=>exact⟨h,hb⟩
   | some i=>exact ih _ (Zm5 h hw (Zih _ _ hpk)) (Zi6 hb)
theorem Zfj (h:Gd s B σ) (hb:BeA s σ):∀ k,k <=mm s ->Gd s B (rings s k σ)/\BeA s (rings s k σ):=by
 intro k
 induction k with
 | zero=>intro _;exact⟨h,hb⟩
 | succ k ih=>
   intro hk;obtain⟨h1,h2⟩:=ih (by omega);exact ZFH (by omega) _ _ h1 h2
theorem del_eq (hi:i < l.length) (hl:l.length <=700000):Zri l (i:Int) (Yd ((i:Int) + 1))=some (ZcE l i):=by
 unfold Zri;rw [X9 (by omega)]
 have e1:slL l (i:Int) ((i + 1:Nat):Int)=some ((l.take (i + 1)).drop i):=by
  unfold slL;rw [decide_eq_true (show(0:Int) <= (i:Int) by omega),decide_eq_true (show(i:Int) <= ((i + 1:Nat):Int) by omega),decide_eq_true (show((i + 1:Nat):Int) <= (l.length:Int) by omega)]
  rfl
 rw [e1];simp only [Bq0];rw [Xq,decide_eq_false (by omega),Cq0,Zm2 (by omega)];simp only [Bq0];rw [Zie (by omega)];simp only [Bq0];rw [ZmE (by rw [List.length_take,List.length_drop];omega)];rfl
theorem Zwn (hF:1000000 <=F) (hS:Qu s) (hB:B <=600000) (hw:w < mm s):∀ (n F':Nat) (σ:TS),n < F' ->(σ.be w).length <=n ->Gd s B σ ->BeA s σ ->loop F' (ZeJ F (w:Int)) (KD s σ)=some (hal s (Zbl s w n σ)):=by
 intro n
 induction n with
 | zero=>
   intro F' σ hn hl h hb;cases F' with
   | zero=>omega
   | succ F'=>
     rw [Jp];unfold ZeJ KD;dsimp only;rw [Z4 hw];simp only [Bq0];rw [ZlW hF hS hw (by omega) (hb w hw)];have:(σ.be w).length=0:=by omega
     simp only [Bq0];rw [this,show decide (pI (UA s σ.ld w (σ.be w) 0) < 0)=true from rfl,Cq1];rfl
 | succ n ih=>
   intro F' σ hn hl h hb;cases F' with
   | zero=>omega
   | succ F'=>
     rw [Jp];generalize hnx:loop F' (ZeJ F (w:Int))=nx;have hlen:= (h.wf.few (by omega)).be w hw;unfold ZeJ;rw [show KD s σ= (tab (nn s) σ.st,(tab (nn s) fun j=>tab (mm s * mm s) (σ.ma j)),tab (nn s) σ.kn,tab (nn s) σ.wa,tab (mm s) σ.be,tab (mm s * mm s) (Jc σ),σ.sd,s.qG,s.Zh,σ.ev) from rfl];dsimp only;have hl7:(σ.be w).length <=600000:=by have:=h.wf.pot;have:=Ue (f:=fun m=>(σ.be m).length) hw;unfold Pot at *;omega
     rw [Z4 hw];simp only [Bq0];rw [ZlW hF hS hw (by omega) (hb w hw),Zbl];simp only [Bq0];cases hpk:UA s σ.ld w (σ.be w) (σ.be w).length with
     | none=>rw [show decide (pI none < 0)=true from rfl,Cq1];rfl
     | some i=>
       have hi:=Zih _ _ hpk;rw [decide_eq_false (show ¬ pI (some i) < 0 by simp [pI]),Cq0,show pI (some i)= (i:Int) from rfl,XY default hi];simp only [Bq0];rw [del_eq hi (by omega)];simp only [Bq0];obtain⟨⟨p,hp,hpn⟩,_,_⟩:=hb w hw _ (Qd (d:=default) hi);rw [hp,Z4 hpn];simp only [Bq0];have gr:=Zm5 h hw hi;have br:=Zi6 (w:=w) (i:=i) hb;have lr:((rung s w i σ).be w).length <=n:=by rw [(K4 s w i σ).1,Yg];have:=Zdt hi;omega
       have hih:=ih F' (rung s w i σ) (by omega) lr gr br;rw [hnx] at hih;refine Eq.trans ?_ hih;unfold rung;rw [hp,Int.toNat_natCast,Xq,XD];by_cases e:σ.st p=1
       ·rw [decide_eq_true e,Cq1,if_pos e,show Z6.mk (Ze.mk (tab (nn s) σ.st) (tab (nn s) fun j=>tab (mm s * mm s) (σ.ma j)) (tab (nn s) σ.kn) (tab (nn s) σ.wa) (tab (mm s) (YE σ.be w (ZcE (σ.be w) i))) (tab (mm s * mm s) (Jc σ)) σ.sd) (Zc.mk s.qG s.Zh) σ.ev=hal s {σ with be:=YE σ.be w (ZcE (σ.be w) i)} from rfl];have hpb:=Znc (s:=s) (σ:=σ) hw (ZcE (σ.be w) i);have:=Zdt hi;have:=h.wf.pot;have w1:Wf s B {σ with be:=YE σ.be w (ZcE (σ.be w) i)}:= ⟨by omega,h.wf.ld,h.wf.ws⟩
        rw [Zae (w1.few (by omega))]
        rfl
       ·rw [decide_eq_false e,Cq0,if_neg e];rfl
theorem Zp9 (hF:1000000 <=F) (hS:Qu s) (hw:w < mm s) (hl:(σ.be w).length <=700000) (hx:∀ x ∈ σ.be w,BeS s x) (UE:Int×Int×List ZG×List Int×List (List Int)×List (List Int)×List (List Int)×List (List Zd)×List Zg×Int×List Zq ->Option Z5) (Zc7:Int×List ZG×List Int×List (List Int)×List (List Int)×List (List Int)×List (List Zd)×List Zg×Int×List Zq ->Option Z5) {r:Option Z5}
 (he:∀ nx,ZeM F (w:Int) UE s.qG s.Zh (tab (nn s) σ.st) (tab (nn s) fun p=>tab (mm s * mm s) (σ.ma p)) (tab (nn s) σ.kn) (tab (nn s) σ.wa) (tab (mm s) σ.be) (tab (mm s * mm s) (Jc σ)) σ.sd σ.ev Zc7 (σ.be w) (pI (UA s σ.ld w (σ.be w) (σ.be w).length),(((σ.be w).length:Nat):Int)) nx=r):
 loop F (ZeM F (w:Int) UE s.qG s.Zh (tab (nn s) σ.st) (tab (nn s) fun p=>tab (mm s * mm s) (σ.ma p)) (tab (nn s) σ.kn) (tab (nn s) σ.wa) (tab (mm s) σ.be) (tab (mm s * mm s) (Jc σ)) σ.sd σ.ev Zc7 (σ.be w)) ((-1),0)=r:=by
 refine Xr (fun k=>(pI (UA s σ.ld w (σ.be w) k),(k:Int))) rfl (n:= (σ.be w).length) (by omega) (fun k hk next=>?_) he;have j0:∀ (a:Int),Zdo (k:Int) next a=next (a,((k + 1:Nat):Int)):=fun a=>by unfold Zdo;rw [X9 (by omega)]
 unfold ZeM;dsimp only;rw [Yv hk,Cq1,XY default hk];simp only [Bq0];obtain⟨x,ex⟩:∃ x,x= (σ.be w).getD k default:= ⟨_,rfl⟩
 obtain⟨_,⟨q,hq,hqn⟩,hm⟩:=hx _ (Qd (d:=default) hk);rw [<- ex] at hq hm |-;rw [ZnI,Zwr (by omega) hS hw hm,hq];have ed:Zb4 s x=dep s q:=by unfold Zb4;rw [hq,Int.toNat_natCast]
 rw [UA,<- ex];by_cases r:rdy s σ.ld w x
 ·rw [Z9 r];simp only [Bq0,Bool.true_and];cases hpk:UA s σ.ld w (σ.be w) k with
  | none=>
    rw [show decide (pI none < 0)=true from rfl,Bool.not_true,Cq0,Cq1,Z9 ⟨r,fun j z=>by cases z⟩,j0];rfl
  | some j=>
    have hj:=Zih _ _ hpk;obtain⟨_,⟨q',hq',Z0t⟩,_⟩:=hx _ (Qd (d:=default) (show j < (σ.be w).length by omega));obtain⟨L,e1,e2⟩:=ZvT (F:=F) (by omega) hS hqn;obtain⟨L',e1',e2'⟩:=ZvT (F:=F) (by omega) hS Z0t;have ed':Zb4 s ((σ.be w).getD j default)=dep s q':=by unfold Zb4;rw [hq',Int.toNat_natCast]
    rw [show decide (pI (some j) < 0)=false from decide_eq_false (by simp [pI]),Bool.not_false,Cq1,show(Zc.mk s.qG s.Zh)=s from rfl,e1];simp only [Bq0];rw [Z4 hw];simp only [Bq0];rw [show pI (some j)= (j:Int) from rfl,XY default (by omega)];simp only [Bq0];rw [hq',e1'];simp only [Bq0];rw [e2,e2'];by_cases c:Zb4 s ((σ.be w).getD j default) < Zb4 s x
    ·rw [decide_eq_true (show(dep s q:Int) > (dep s q':Int) by omega),Cq1,Z9 ⟨r,fun j' z=>by cases z;exact c⟩,j0];rfl
    ·rw [decide_eq_false (show ¬ (dep s q:Int) > (dep s q':Int) by omega),Cq0,Z7 (fun z=>c (z.2 j rfl)),j0];rfl
 ·rw [Z7 r,Z7 (fun z=>r z.1)];simp only [Bq0,Bool.false_and,Cq0];rw [j0]
theorem Zwp (hF:1000000 <=F) (hS:Qu s) (hB:B <=600000) (hw:w < mm s) (UE:Int×Int×List ZG×List Int×List (List Int)×List (List Int)×List (List Int)×List (List Zd)×List Zg×Int×List Zq ->Option Z5):∀ (n F':Nat) (σ:TS),n < F' ->(σ.be w).length <=n ->Gd s B σ ->BeA s σ ->loop F' (ZgY F (w:Int) UE) (KO s σ)=UE (((w + 1:Nat):Int),KO s (Zbl s w n σ)):=by
 have h4:=hS.mm.2.2;intro n
 induction n with
 | zero=>
   intro F' σ hn hl h hb;cases F' with
   | zero=>omega
   | succ F'=>
     rw [Jp];unfold ZgY;rw [show KO s σ= (s.qG,s.Zh,tab (nn s) σ.st,(tab (nn s) fun j=>tab (mm s * mm s) (σ.ma j)),tab (nn s) σ.kn,tab (nn s) σ.wa,tab (mm s) σ.be,tab (mm s * mm s) (Jc σ),σ.sd,σ.ev) from rfl];dsimp only;rw [Z4 hw];simp only [Bq0];refine Zp9 hF hS hw (by omega) (hb w hw) _ _ (fun nx=>?_);unfold ZeM;dsimp only;have:(σ.be w).length=0:=by omega
     rw [YI,Cq0,this,show decide (pI (UA s σ.ld w (σ.be w) 0) < 0)=true from rfl,Cq1,X9 (by omega)];rfl
 | succ n ih=>
   intro F' σ hn hl h hb;cases F' with
   | zero=>omega
   | succ F'=>
     rw [Jp];generalize hnx:loop F' (ZgY F (w:Int) UE)=nx;have hl7:(σ.be w).length <=600000:=by have:=h.wf.pot;have:=Ue (f:=fun m=>(σ.be m).length) hw;unfold Pot at *;omega
     unfold ZgY;rw [show KO s σ= (s.qG,s.Zh,tab (nn s) σ.st,(tab (nn s) fun j=>tab (mm s * mm s) (σ.ma j)),tab (nn s) σ.kn,tab (nn s) σ.wa,tab (mm s) σ.be,tab (mm s * mm s) (Jc σ),σ.sd,σ.ev) from rfl];dsimp only;rw [Z4 hw];simp only [Bq0];refine Zp9 hF hS hw (by omega) (hb w hw) _ _ (fun nx'=>?_);unfold ZeM;dsimp only;rw [YI,Cq0,Zbl];cases hpk:UA s σ.ld w (σ.be w) (σ.be w).length with
     | none=>rw [show decide (pI none < 0)=true from rfl,Cq1,X9 (by omega)];rfl
     | some i=>
       have hi:=Zih _ _ hpk;have self:ZE (tab (mm s) σ.be) (w:Int) (σ.be w)=tab (mm s) σ.be:=by rw [XD,ZgL]
       rw [decide_eq_false (show ¬ pI (some i) < 0 by simp [pI]),Cq0,show pI (some i)= (i:Int) from rfl];simp only [Z4 hw,Bq0,self];rw [XY default hi];simp only [Bq0];rw [Zm2 (by omega)];simp only [Bq0];rw [ZmE (by rw [List.length_nil,List.length_take];omega)];simp only [Bq0,List.nil_append];rw [X9 (by omega),Zie (by omega)];simp only [Bq0];rw [ZmE (by rw [List.length_take,List.length_drop];omega)];simp only [Bq0];obtain⟨⟨p,hp,hpn⟩,_,_⟩:=hb w hw _ (Qd (d:=default) hi);have gr:=Zm5 h hw hi;have br:=Zi6 (w:=w) (i:=i) hb;have lr:((rung s w i σ).be w).length <=n:=by rw [(K4 s w i σ).1,Yg];have:=Zdt hi;omega
       have hih:=ih F' (rung s w i σ) (by omega) lr gr br;rw [hnx] at hih;refine Eq.trans ?_ hih;unfold rung;rw [hp,Int.toNat_natCast,XD,show Z5.mk (Zc.mk s.qG s.Zh) (Ze.mk (tab (nn s) σ.st) (tab (nn s) fun j=>tab (mm s * mm s) (σ.ma j)) (tab (nn s) σ.kn) (tab (nn s) σ.wa) (tab (mm s) (YE σ.be w (List.take i (σ.be w) ++ List.drop (i + 1) (σ.be w)))) (tab (mm s * mm s) (Jc σ)) σ.sd) σ.ev=XZ s {σ with be:=YE σ.be w (ZcE (σ.be w) i)} from rfl];unfold Zj2;rw [show(XZ s {σ with be:=YE σ.be w (ZcE (σ.be w) i)}).w.qV=tab (nn s) σ.st from rfl,Z4 hpn];simp only [Bq0];rw [Xq];by_cases e:σ.st p=1
       ·rw [decide_eq_true e,Cq1,if_pos e];have hpb:=Znc (s:=s) (σ:=σ) hw (ZcE (σ.be w) i);have:=Zdt hi;have:=h.wf.pot;have w1:Wf s B {σ with be:=YE σ.be w (ZcE (σ.be w) i)}:= ⟨by omega,h.wf.ld,h.wf.ws⟩
        rw [Zbh (w1.few (by omega))]
        rfl
       ·rw [decide_eq_false e,Cq0,if_neg e];rfl
theorem ZgB (hF:1000000 <=F) (hS:Qu s) (hB:B <=600000) (h:Gd s B σ) (hb:BeA s σ):ZtF F (XZ s σ)=some (XZ s (rings s (mm s) σ)):=by
 have h4:=hS.mm.2.2;unfold ZtF;refine Xr (fun k=>((k:Int),KO s (rings s k σ))) rfl (n:=mm s) (by omega) (fun k hk next=>?_) (fun next=>?_)
 ·obtain⟨g1,g2⟩:=Zfj h hb k (by omega);have hl7:((rings s k σ).be k).length <=600000:=by have:=g1.wf.pot;have:=Ue (f:=fun m=>((rings s k σ).be m).length) hk;unfold Pot at *;omega
  unfold Zoa;rw [show KO s (rings s k σ)= (s.qG,s.Zh,tab (nn s) (rings s k σ).st,(tab (nn s) fun j=>tab (mm s * mm s) ((rings s k σ).ma j)),tab (nn s) (rings s k σ).kn,tab (nn s) (rings s k σ).wa,tab (mm s) (rings s k σ).be,tab (mm s * mm s) (Jc (rings s k σ)),(rings s k σ).sd,(rings s k σ).ev) from rfl];dsimp only;rw [show(XZ s σ).w.Zt=tab (mm s) σ.be from rfl,Xt,Yv hk,Cq1];exact Zwp hF hS hB hk next _ F (rings s k σ) (by omega) (Nat.le_refl _) g1 g2
 ·unfold Zoa KO;dsimp only;rw [show(XZ s σ).w.Zt=tab (mm s) σ.be from rfl,Xt,YI,Cq0];rfl
end
end
section
noncomputable section
variable (s:Zc)
def Zhd (p:Nat) (σ:TS):TS:=
 if inn s (p:Int) < 0 then X5 s p σ
 else if pl s (inn s (p:Int)).toNat=pl s p then YF s p (Kc s (X5 s p σ) p) (X5 s p σ)
 else send s (pl s p) (pl s (inn s (p:Int)).toNat) ⟨4,(p:Int),0,0,Kc s (X5 s p σ) p⟩ (X5 s p σ)
def kK (p q:Nat) (σ:TS):TS:=tell 1 p q σ.sd {σ with sd:=σ.sd + 1}
inductive Act:TS ->TS ->Prop
 | fall {σ:TS} {p:Nat} (hp:p < nn s) (h:σ.st p=1):Act σ (UC p σ)
 | ZlB {σ:TS} {p k:Nat} (hp:p < nn s) (hk:k < nn s) (hi:inn s (k:Int)= (p:Int)) (h:σ.st p ≠ 1) (hr:pl s k ≠ pl s p) (hn:(k:Int) ∉ σ.kn p):Act σ (send s (pl s p) (pl s k) ⟨3,(k:Int),0,0,[]⟩ σ)
 | die {σ:TS} {p:Nat} (hp:p < nn s) (h:σ.st p=2) (ha:Alo s σ p):Act σ (Zhd s p σ)
 | Zwl {σ:TS} {p q:Nat} (hp:p < nn s) (hq:q < nn s) (h:σ.st p=1) (e:pl s p=pl s q):Act σ (see q p σ.sd (kK p q σ))
 | Zwk {σ:TS} {p q:Nat} (hp:p < nn s) (hq:q < nn s) (h:σ.st p=1) (e:pl s p ≠ pl s q):Act σ (send s (pl s p) (pl s q) ⟨1,(p:Int),(q:Int),σ.sd,[]⟩ (kK p q σ))
 | Zwc {σ:TS} {p q:Nat} (hp:p < nn s) (hq:q < nn s) (h:σ.st p=1) (e:pl s p=pl s q):Act σ (note s p q (tell 3 p q 0 σ))
 | Zwb {σ:TS} {p q:Nat} (hp:p < nn s) (hq:q < nn s) (h:σ.st p=1) (e:pl s p ≠ pl s q):Act σ (send s (pl s p) (pl s q) ⟨2,(p:Int),(q:Int),0,[]⟩ (tell 3 p q 0 σ))
 | ZwR {σ:TS} {a b p q:Nat} (ha:a < mm s) (hb:b < mm s) (hl:σ.ld (li s a b) < (σ.sn (li s a b)).length) (hk:(hd σ (li s a b)).kW=1) (hp:(hd σ (li s a b)).kV= (p:Int)) (hq:(hd σ (li s a b)).kX= (q:Int)) (hpn:p < nn s) (hqn:q < nn s):Act σ (see q p (hd σ (li s a b)).n (drop1 (li s a b) σ))
 | ZwU {σ:TS} {a b p q:Nat} (ha:a < mm s) (hb:b < mm s) (hl:σ.ld (li s a b) < (σ.sn (li s a b)).length) (hk:(hd σ (li s a b)).kW=2) (hp:(hd σ (li s a b)).kV= (p:Int)) (hq:(hd σ (li s a b)).kX= (q:Int)) (hpn:p < nn s) (hqn:q < nn s):Act σ (note s p q (drop1 (li s a b) σ))
 | ZwS {σ:TS} {a b p:Nat} (ha:a < mm s) (hb:b < mm s) (hl:σ.ld (li s a b) < (σ.sn (li s a b)).length) (hk:(hd σ (li s a b)).kW=3) (hp:(hd σ (li s a b)).kV= (p:Int)) (hpn:p < nn s):Act σ (drop1 (li s a b) σ)
 | Zql {σ:TS} {a b p:Nat} (ha:a < mm s) (hb:b < mm s) (hl:σ.ld (li s a b) < (σ.sn (li s a b)).length) (hk:(hd σ (li s a b)).kW=4) (hp:(hd σ (li s a b)).kV= (p:Int)) (hpn:p < nn s) (h0:0 <=inn s (p:Int)) (hm:(hd σ (li s a b)).qX.length=mm s * mm s) (h3:σ.st p=3) (hn:(p:Int) ∉ σ.kn (inn s (p:Int)).toNat):Act σ (YF s p (hd σ (li s a b)).qX (drop1 (li s a b) σ))
 | ZwT {σ:TS} {a b:Nat} (ha:a < mm s) (hb:b < mm s) (hl:σ.ld (li s a b) < (σ.sn (li s a b)).length) (hk:(hd σ (li s a b)).kW=5):Act σ (wait b (hd σ (li s a b)) (drop1 (li s a b) σ))
 | ring {σ:TS} {w i:Nat} (hw:w < mm s) (h:UA s σ.ld w (σ.be w) (σ.be w).length=some i):Act σ (rung s w i σ)
inductive Uz:TS ->TS ->Prop
 | refl {σ:TS}:Uz σ σ
 | tail {σ τ υ:TS}:Uz σ τ ->Act s τ υ ->Uz σ υ
def Zcs (x:YP) (σ:TS):Prop:=
 (x.act=1/\∃ p q:Nat,x.a= (p:Int)/\x.b= (q:Int)/\p < nn s/\q < nn s/\σ.st p=1)\/
 (x.act=2/\∃ p q:Nat,x.a= (p:Int)/\x.b= (q:Int)/\p < nn s/\q < nn s/\σ.st p=1)\/
 (x.act=3/\∃ p:Nat,x.a= (p:Int)/\p < nn s/\σ.st p=1)\/
 (x.act=4/\∃ a b:Nat,x.a= (a:Int)/\x.b= (b:Int)/\a < mm s/\b < mm s/\σ.ld (li s a b) < (σ.sn (li s a b)).length)
def WI (x:YP) (σ:TS):TS:=
 if x.act=1 then(if pl s x.a.toNat=pl s x.b.toNat then see x.b.toNat x.a.toNat σ.sd (kK x.a.toNat x.b.toNat σ) else send s (pl s x.a.toNat) (pl s x.b.toNat) ⟨1,x.a,x.b,σ.sd,[]⟩ (kK x.a.toNat x.b.toNat σ))
 else if x.act=2 then(if pl s x.a.toNat=pl s x.b.toNat then note s x.a.toNat x.b.toNat (tell 3 x.a x.b 0 σ) else send s (pl s x.a.toNat) (pl s x.b.toNat) ⟨2,x.a,x.b,0,[]⟩ (tell 3 x.a x.b 0 σ))
 else if x.act=3 then Jg s (nn s) x.a.toNat σ
 else Zcx s x.a.toNat x.b.toNat σ
def stepW (x:YP) (σ:TS):TS:=rings s (mm s) (WI s x σ)
end
section
variable {s:Zc} {σ τ υ:TS} {F B a b p q w i n d:Nat} {x:Zd}
theorem Uz.trans (h:Uz s σ τ) (h':Uz s τ υ):Uz s σ υ:=by
 induction h' with
 | refl=>exact h
 | tail _ a ih=>exact .tail ih a
theorem Uz.one (h:Act s σ τ):Uz s σ τ:= .tail .refl h
theorem Uz.keep {P:TS ->Prop} (hP:∀ σ τ,P σ ->Act s σ τ ->P τ) (h:Uz s σ τ) (h0:P σ):P τ:=by
 induction h with
 | refl=>exact h0
 | tail _ a ih=>exact hP _ _ ih a
theorem Zdl {α:Type} (f:TS ->α ->TS) (Q:TS ->Prop):∀ (l:List α) (σ:TS),Q σ ->(∀ σ x,x ∈ l ->Q σ ->Q (f σ x)) ->Q (l.foldl f σ):=by
 intro l
 induction l with
 | nil=>intro σ h _;exact h
 | cons x l ih=>intro σ h hf;exact ih _ (hf σ x (by simp) h) fun σ y hy=>hf σ y (by simp [hy])
theorem ZaX (p q:Nat) (n:Int) (σ:TS):(see p q n σ).st=σ.st/\(see p q n σ).kn=σ.kn/\(see p q n σ).ma=σ.ma/\(see p q n σ).ld=σ.ld/\(see p q n σ).sn=σ.sn/\(see p q n σ).be=σ.be/\(see p q n σ).wa=σ.wa/\(see p q n σ).sd=σ.sd:=by
 unfold see;split <;> exact⟨rfl,rfl,rfl,rfl,rfl,rfl,rfl,rfl⟩
theorem K6 (p q:Nat) (σ:TS):(note s p q σ).st=σ.st/\(note s p q σ).kn=σ.kn/\(note s p q σ).ma=σ.ma/\(note s p q σ).ld=σ.ld/\(note s p q σ).sd=σ.sd/\(note s p q σ).ev=σ.ev:=by
 unfold note;split
 ·have:=ZoS (s:=s) p q σ;exact⟨this.1,this.2.1,this.2.2.1,this.2.2.2.1,this.2.2.2.2.1,this.2.2.2.2.2.1⟩
 ·exact⟨rfl,rfl,rfl,rfl,rfl,rfl⟩
theorem ZHl (p:Nat) (σ:TS):(Zhd s p σ).st=YE σ.st p 3:=by
 have e:= (Ko (s:=s) p σ).1;unfold Zhd;split
 ·exact e
 ·split
  ·exact e
  ·exact e
theorem Zq2 {f:Nat ->Int} {k j:Nat} {v:Int} (hv:v ≠ 1) (h:f j ≠ 1):YE f k v j ≠ 1:=by
 unfold YE;by_cases e:j=k
 ·rw [if_pos e];exact hv
 ·rw [if_neg e];exact h
theorem ZOH (h:Act s σ τ) (hp:σ.st p ≠ 1):τ.st p ≠ 1:=by
 cases h with
 | fall hq h=>exact Zq2 (by decide) hp
 | ZlB=>exact hp
 | die hq h ha=>rw [ZHl];exact Zq2 (by decide) hp
 | Zwl=>rw [(ZaX _ _ _ _).1];exact hp
 | Zwk=>exact hp
 | Zwc=>rw [(K6 _ _ _).1];exact hp
 | Zwb=>exact hp
 | ZwR=>rw [(ZaX _ _ _ _).1];exact hp
 | ZwU=>rw [(K6 _ _ _).1];exact hp
 | ZwS=>exact hp
 | Zql=>exact hp
 | ZwT=>exact hp
 | ring=>rw [(K4 _ _ _ _).2.2.1];exact hp
theorem ZHP (h:Uz s σ τ) (hp:σ.st p ≠ 1):τ.st p ≠ 1:=h.keep (P:=fun σ=>σ.st p ≠ 1) (fun _ _ h a=>ZOH a h) hp
theorem ZrA (hS:Qu s):∀ (d p:Nat) (σ:TS),p < nn s ->up s d (p:Int) < 0 ->σ.st p=2 ->Alo s σ p ->Uz s σ (Zhc s d p σ):=by
 intro d
 induction d with
 | zero=>intro p σ hp hu _ _;exact absurd hu (by show ¬ ((p:Int)) < 0;omega)
 | succ d ih=>
   intro p σ hp hu h2 hA;have h1:Uz s σ (Zhd s p σ):= .one (.die hp h2 hA);show Uz s σ (Zkd s (Zhc s d) p (X5 s p σ));unfold Zkd;unfold Zhd at h1;by_cases h0:inn s (p:Int) < 0
   ·rw [if_pos h0] at h1 |-;exact h1
   ·rw [if_neg h0] at h1 |-;obtain⟨eq,hq⟩:=Ju hS hp h0;by_cases e:pl s (inn s (p:Int)).toNat=pl s p
    ·rw [if_pos e] at h1 |-;unfold Ww;by_cases c:(YF s p (Kc s (X5 s p σ) p) (X5 s p σ)).st (inn s (p:Int)).toNat=2/\Alo s (YF s p (Kc s (X5 s p σ) p) (X5 s p σ)) (inn s (p:Int)).toNat
     ·rw [Z9 c];exact h1.trans (ih _ _ hq (by rw [<- eq];exact Zy9 hp hu) c.1 c.2)
     ·rw [Z7 c];exact h1
    ·rw [if_neg e] at h1 |-;exact h1
theorem Zml (hS:Qu s):∀ (d p:Nat) (σ:TS),p < nn s ->KU s d p ->σ.st p=1 ->Uz s σ (Jg s d p σ):=by
 intro d
 induction d with
 | zero=>intro p σ hp hs _;exact absurd rfl (hs p hp 0 (Nat.le_refl _))
 | succ d ih=>
   intro p σ hp hs h1;have h0:Uz s σ (UC p σ):= .one (.fall hp h1);have hne:(UC p σ).st p ≠ 1:=by show YE σ.st p 2 p ≠ 1;rw [Yg];decide
   have hk:Uz s σ (fk s (Jg s d) p (nn s) (UC p σ))/\(fk s (Jg s d) p (nn s) (UC p σ)).st p ≠ 1:=by
    refine Zdl _ (fun τ=>Uz s σ τ/\τ.st p ≠ 1) _ _ ⟨h0,hne⟩ (fun τ k hk ⟨ha,hτ⟩=>?_);obtain⟨hkn,hki⟩:=Zdb.1 (show k ∈ K9 s p from hk)
    have:Uz s τ (Zaz s (Jg s d) p τ k):=by
     unfold Zaz;by_cases e:pl s k=pl s p
     ·rw [if_pos e];by_cases e1:τ.st k=1
      ·rw [if_pos e1];exact ih k τ hkn (hs.kid hki) e1
      ·rw [if_neg e1];exact .refl
     ·rw [if_neg e];by_cases e1:(k:Int) ∈ τ.kn p
      ·rw [if_pos e1];exact .refl
      ·rw [if_neg e1];exact .one (.ZlB hp hkn hki hτ e e1)
    exact⟨ha.trans this,ZHP this hτ⟩
   show Uz s σ (ZjK s p (fk s (Jg s d) p (nn s) (UC p σ)));unfold ZjK;by_cases c:(fk s (Jg s d) p (nn s) (UC p σ)).st p=2/\Alo s (fk s (Jg s d) p (nn s) (UC p σ)) p
   ·rw [Z9 c];exact hk.1.trans (ZrA hS _ _ _ hp (ZdD hS hp) c.1 c.2)
   ·rw [Z7 c];exact hk.1
theorem Zwo (hw:w < mm s):∀ (n:Nat) (σ:TS),Uz s σ (Zbl s w n σ):=by
 intro n
 induction n with
 | zero=>intro σ;exact .refl
 | succ n ih=>
   intro σ;rw [Zbl];cases hpk:UA s σ.ld w (σ.be w) (σ.be w).length with
   | none=>exact .refl
   | some i=>exact(Uz.one (.ring hw hpk)).trans (ih _)
theorem Zew:∀ k,k <=mm s ->Uz s σ (rings s k σ):=by
 intro k
 induction k with
 | zero=>intro _;exact .refl
 | succ k ih=>intro hk;exact(ih (by omega)).trans (Zwo (by omega) _ _)
theorem ZwQ (hS:Qu s) (ha:a < mm s) (hb:b < mm s) (hl:σ.ld (li s a b) < (σ.sn (li s a b)).length) (hx:Zyj s b (hd σ (li s a b))) (hD:Zuq s (hd σ (li s a b)) σ):Uz s σ (Zcx s a b σ):=by
 obtain⟨p,hp,hpn,c⟩:=hx;unfold Zcx Zjt;rcases c with⟨k,q,hq,hqn⟩ | ⟨k,q,hq,hqn⟩ | k | ⟨k,h0,hm⟩ | ⟨k,e,hm,q,hq,hqn⟩
 ·rw [if_pos k,hp,hq,Int.toNat_natCast,Int.toNat_natCast];exact .one (.ZwR ha hb hl k hp hq hpn hqn)
 ·rw [if_neg (by omega),if_pos k,hp,hq,Int.toNat_natCast,Int.toNat_natCast];exact .one (.ZwU ha hb hl k hp hq hpn hqn)
 ·rw [if_neg (by omega),if_neg (by omega),if_pos k,hp,Int.toNat_natCast];have h1:Uz s σ (drop1 (li s a b) σ):= .one (.ZwS ha hb hl k hp hpn);by_cases e:(drop1 (li s a b) σ).st p=1
  ·rw [if_pos e];exact h1.trans (Zml hS _ _ _ hpn (KU.all hS.inn) e)
  ·rw [if_neg e];exact h1
 ·rw [if_neg (by omega),if_neg (by omega),if_neg (by omega),if_pos k,hp,Int.toNat_natCast];obtain⟨h3,hn⟩:=ZfM hp hD k;obtain⟨eq,hq⟩:=Ju hS hpn (by omega);have h1:Uz s σ (YF s p (hd σ (li s a b)).qX (drop1 (li s a b) σ)):= .one (.Zql ha hb hl k hp hpn h0 hm h3 hn);unfold ZaZ Ww;by_cases c:(YF s p (hd σ (li s a b)).qX (drop1 (li s a b) σ)).st (inn s (p:Int)).toNat=2/\Alo s (YF s p (hd σ (li s a b)).qX (drop1 (li s a b) σ)) (inn s (p:Int)).toNat
  ·rw [Z9 c];exact h1.trans (ZrA hS _ _ _ hq (ZdD hS hq) c.1 c.2)
  ·rw [Z7 c];exact h1
 ·rw [if_neg (by omega),if_neg (by omega),if_neg (by omega),if_neg (by omega)];exact .one (.ZwT ha hb hl k)
end
end
end Go.Proofs.YtcnahmgekicbdaaGreat
end
