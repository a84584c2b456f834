/- Part 18. -/
import Derived.Test.YtbnepjakjmnadaaGreatSb17
set_option linter.all false
set_option maxHeartbeats 2000000
section
set_option maxRecDepth 100000
set_option maxHeartbeats 4000000
noncomputable section
namespace Go.Proofs.YtbnepjakjmnadaaGreat
open Go.ZU Go.Lf
def ZiW:(XX.fns.get 50).isSome=true:=Kq0
def ZH8{F V:Nat}{h:H}{r:Z}(ZG:V<=h.size)(p:ZnX F=some r):
 WR XX 14 #[] V h (CP (fun v (Gb:U (Ast V))=>v=.bool r/\Gb=[]) [] h):=by
 refine bg Tryz.ntmps14 ZG ZV.nil ?_;intro T X l;unfold ZnX at p;refine r6 ?_;refine r1 ?_;have⟨x1,hx1,p⟩:=bS p;refine Ve (ZX.fn ZiW Zd) l .n (fun D x t C=>ZdC (l.Vh x) hx1) ?_;rintro _ h11 _ ⟨a2,c4,a5,c7,a8,c10,rfl,rfl⟩ l;have⟨Jj,Zab,p⟩:=bS p;refine WO.cp gN rfl (ZX.fn ZTm (Zb lk Zd)) (ZOE (l.Kv k0) (l.Kv k1) (l.Kv k2) Zab)<|r8 ?_;refine r1 ?_;have⟨x14,Zyw,p⟩:=bS p;refine Ve (ZX.fn ZiW Zd) l .n (fun D x t C=>ZdC (l.Vh x) Zyw) ?_;rintro _ h24 _ ⟨a15,c17,a18,c20,a21,c23,rfl,rfl⟩ l;have⟨x26,ZmR,p⟩:=bS p;refine WO.cp gN rfl (ZX.fn ZTl (Zb lk Zd)) (ZOC (l.Kv k0) (l.Kv k1) (l.Kv k2) ZmR)<|r8 ?_;refine r1 ?_;have⟨x27,hx27,p⟩:=bS p;refine Ve (ZX.fn ZiW Zd) l .n (fun D x t C=>ZdC (l.Vh x) hx27) ?_;rintro _ h37 _ ⟨a28,c30,a31,c33,a34,c36,rfl,rfl⟩ l;have⟨x39,hx39,p⟩:=bS p;refine Ve (ZX.fn ZTj (Zb lk Zd)) l .n (fun D x t C=>ZOw (l.Vh x) ((l.Qw k0).mono t) ((l.Qw k1).mono t) ((l.Qw k2).mono t) hx39) ?_;rintro _ h43 _ ⟨a40,n41,c42,rfl,rfl⟩ l;obtain rfl:=l.on k0;refine r8 ?_;refine r1 ?_;have⟨x45,ZXP,p⟩:=bS p;refine Ve (ZX.fn ZiW Zd) l .n (fun D x t C=>ZdC (l.Vh x) ZXP) ?_;rintro _ h55 _ ⟨a46,c48,a49,c51,a52,c54,rfl,rfl⟩ l;have⟨x57,ZGE,p⟩:=bS p;refine Ve (ZX.fn ZTi (Zb lk Zd)) l .n (fun D x t C=>ZOv (l.Vh x) ((l.Qw k0).mono t) ((l.Qw k1).mono t) ((l.Qw k2).mono t) ZGE) ?_;rintro _ h64 _ ⟨a58,n59,c60,a61,n62,c63,rfl,rfl⟩ l;simp only[Gp,Jn]at l;obtain rfl:=l.on k0;obtain rfl:=l.on k1;refine r8 ?_;refine r2 ?_;refine WC.Zbm (r:=r) (fun(P:Z)(s:Fs)=>∃(ZNO:Fr) (L:H),s=⟨ZNO,[],L,none⟩/\Sp V T h [] L/\ZNO.at 73=.bool P) (Uz F) ?_ ?_
 .rintro P s p ⟨ZNO,L,rfl,l,e69⟩;refine cn p ?_ ?_;.intro W p;refine r6 ?_;refine r1 ?_;exact rt p X l
  intro W p;refine r4 ?_;have⟨x70,ZL5,p⟩:=bS p;refine Ve (ZX.fn ZiW Zd) l .n (fun D x t C=>ZdC (l.Vh x) ZL5) ?_;rintro _ h80 _ ⟨a71,c73,a74,c76,a77,c79,rfl,rfl⟩ l;have⟨x82,ZXL,p⟩:=bS p;refine Ve (ZX.fn ZKh (Zb lk Zd)) l .n (fun D x t C=>ZDy (l.Vh x) ZXL) ?_;rintro _ h86 _ ⟨a83,c85,rfl,rfl⟩ l;have⟨x88,ZL4,p⟩:=bS p;refine Ve (ZX.fn ZnG (Zb lk (Zb lk (Zb lk Zd)))) l .n (fun D x t C=>Zid (l.Vh x) ((l.Qw k1).mono t) ((l.Qw k2).mono t) ((l.Qw k3).mono t) ((l.Qw k0).mono t) ZL4) ?_;rintro _ h98 _ ⟨a89,c91,S,Q,a95,c97,rfl,rfl⟩ l;refine r4 ?_;rintro _ Z49 ⟨Z7c,Z15,rfl,l⟩;refine r1 ?_;rintro Z48 l;refine r4 ?_;refine r1 ?_;have⟨x103,ZR9,p⟩:=bS p;refine Ve (ZX.fn ZiW Zd) l .n (fun D x t C=>ZdC (l.Vh x) ZR9) ?_;rintro _ ZHl _ ⟨ZEX,Z6t,a107,c109,ZIY,Z6s,rfl,rfl⟩ l;refine Vd (YH Zhe (Zk lk (Zk lk Zz)) rfl (cs':=[V9 1,V9 2,.string (⟨#[]⟩:Y),V8]) rfl) ?_;have⟨x115,hx115,p⟩:=bS p;refine Ve (ZX.fn ZnG (Zb (Zu (Zj rfl fh) rfl) (Zb (JS rfl) (Zb (Zu fh rfl) Zd)))) l .n (fun D x t C=>Zid (p2:=(Zf.mk 1 2 (⟨#[]⟩:Y) [])) (l.Vh x) ((l.Qw k0).mono t) ((l.Qw k1).mono t) ((l.Qw k2).mono t) Sl.nil hx115) ?_;rintro _ ZZa _ ⟨a116,Z6r,a119,Z6q,ZVJ,c124,rfl,rfl⟩ l;refine r8 ?_;have⟨ZQJ,ZR7,p⟩:=bS p;refine Ve (ZX.fn ZiW Zd) l .n (fun D x t C=>ZdC (l.Vh x) ZR7) ?_;rintro _ ZY9 _ ⟨ZVH,c130,a131,Z6p,Z7i,ZPd,rfl,rfl⟩ l;simp only[Gp,Jn]at l;have⟨ZFI,ZR5,p⟩:=bS p;refine Ve (ZX.fn ZTd (Zb lk Zd)) l .n (fun D x t C=>ZOk (l.Vh x) ((l.Qw k0).mono t) ((l.Qw k1).mono t) ((l.Qw k2).mono t) ZR5) ?_;rintro _ Z4S _ ⟨ZEU,Z6o,a143,c145,a146,c148,rfl,rfl⟩ l;simp only[Gp,Jn]at l;refine r4 ?_;rintro _ ZHh ⟨Z63,Z1W,rfl,l⟩;refine r1 ?_;rintro ZY7 l;refine r4 ?_;refine r1 ?_;have⟨Zqx,Zwz,p⟩:=bS p;refine Ve (ZX.fn ZiW Zd) l .n (fun D x t C=>ZdC (l.Vh x) Zwz) ?_;rintro _ ZUC _ ⟨Z7h,c157,ZET,c160,Z0o,ZZ0,rfl,rfl⟩ l;simp only[Gp,Jn]at l;refine Vd (Zzd lk (v:=.slice Z0o Zqx.qQ.length ZZ0) Kq0) ?_;have⟨ZmE,ZJO,p⟩:=bS p;obtain⟨Z6Z,Z20,⟨⟨ZVF,ZVf⟩,⟨K,ZEk⟩,⟨I,ZVe⟩⟩,ZMU,ZNq,ZYH,Zk4⟩:=Sl.at_ (l.Qw k2) ZJO;replace Zk4:=Xa.1 Zk4;refine Vd (ZJ JV Yt lk lk rfl ZMU ZJO) ?_;have l:=l.add (A:=Z9 V (Yh Zi) (ZVF,ZVf) ZmE.args) Zk4.1 (fun _ z=>z);have l:=l.add (A:=Z9 V (Yh Zc) (K,ZEk) ZmE.qJ) Zk4.2.1 (fun _ z=>z);have l:=l.add (A:=Z9 V (Yh Zt) (I,ZVe) ZmE.qQ) Zk4.2.2 (fun _ z=>z);refine Vd (Yo Qy Yt (Zu fh rfl) ZNq (j:=0) rfl rfl (ws:=(q1W ZmE ZVF ZVf K ZEk I ZVe)) rfl) ?_;have⟨ZK1,ZR2,p⟩:=bS p;refine Ve (ZX.fn ZTg (Zb lk Zd)) l .n (fun D x t C=>ZOo (l.Vh x) ((l.Qw k2).mono t) ((l.Qw k1).mono t) ((l.Qw k0).mono t) ZR2) ?_;rintro _ Z4J _ ⟨Z7g,Zza,rfl,rfl⟩ l;simp only[Gp,Jn]at l;refine r16 ?_;refine r8 ?_;refine r2 ?_;refine WO.gv (Ze.no rfl rfl rfl (Zj rfl fh)) rfl (fun E=>(Z0 Zhl (XT fh rfl E) (l.Jo (.s (.s (.s (.s (.s k15)))))) (j:=3) rfl (v:=.slice S x88.1.qJ.length Q) rfl))<|r16 ?_;refine cn p ?_ ?_;.intro W p;refine r6 ?_;refine r1 ?_;exact rt p X l
  intro W p;refine r2 ?_;refine WC.Zbm (r:=r) (fun(G:Z)(s:Fs)=>∃(ZCM:Fr) (ZNH:H),s=⟨ZCM,[],ZNH,none⟩/\Sp V T h [] ZNH/\ZCM.at 0=.bool G) (Zeq) ?_ ?_;.rintro G s p ⟨ZCM,ZNH,rfl,l,ZZy⟩;refine r1 ?_;exact rt p X l
  skip;refine r2 ?_;refine Vd (Z0 Zhl (Zu fh rfl) (l.Jo (.s (.s (.s (.s (.s k15)))))) (j:=3) rfl (v:=.slice S x88.1.qJ.length Q) rfl) ?_;have⟨ZQI,ZR1,p⟩:=bS p;refine Ve (ZX.fn ZKg (Zb lk Zd)) l .n (fun D x t C=>ZDx (l.Vh x) ((l.Qw (.s (.s (.s (.s (.s (.s (.s k15)))))))).mono t) ZR1) ?_;rintro _ Z4G _ ⟨ZPH,Z6n,rfl,rfl⟩ l;simp only[Gp,Jn]at l;refine Vf (X0 (e:=ZH) l Xk Xo JA rfl rfl rfl (Zk lk (Zk lk (Zk lk Zz))) rfl [((),(⟨#[99]⟩:Y)),((),(⟨#[121]⟩:Y)),((),(⟨#[112]⟩:Y))] rfl (xs:=[(⟨#[99]⟩:Y),(⟨#[121]⟩:Y),(⟨#[112]⟩:Y)]) rfl (by intro q y;simp only[K2,KB,or_false]at y;rcases y with rfl|rfl|rfl<;>first|exact trivial) rfl) ?_;rintro _ ZY3 ⟨Z6U,Z1S,rfl,l⟩;have⟨ZQH,ZRZ,p⟩:=bS p;refine WO.cp gN rfl (ZX.fn Zgx (Zb (Zu (Zj rfl fh) rfl) (Zb (Zu fh rfl) Zd))) (ZbY (l.Kv k1) (l.ord k0) ZRZ)<|r3 ?_;refine WO.QX (Ze.yes rfl rfl rfl (Z5 rfl fh)) (fun Zcn=>?_) (fun Zcn=>?_)
  .replace p:=YS Zcn p;have⟨ZQG,ZRY,p⟩:=bS p;refine WO.cl (Ze.on (Ze.yes rfl rfl rfl (Z5 rfl fh)) Zcn) rfl (ZX.fn ZKg (Zb (XT fh rfl Zcn) Zd)) l .n (fun D x t C=>ZDx (l.Vh x) ((l.Qw k11).mono t) ZRY) ?_;rintro _ Z4A _ ⟨a196,c198,rfl,rfl⟩ l;simp only[Gp,Jn]at l;refine WO.hn (Ze.on (Ze.yes rfl rfl rfl (Z5 rfl (Zj rfl fh))) Zcn) rfl (X0 (e:=ZH) l Xk Xo JA rfl rfl rfl (Zk lk (Zk lk (Zk lk Zz))) rfl [((),(⟨#[97]⟩:Y)),((),(⟨#[99]⟩:Y)),((),(⟨#[100]⟩:Y))] rfl (xs:=[(⟨#[97]⟩:Y),(⟨#[99]⟩:Y),(⟨#[100]⟩:Y)]) rfl (by intro q y;simp only[K2,KB,or_false]at y;rcases y with rfl|rfl|rfl<;>first|exact trivial) rfl) ?_;rintro _ Z4y ⟨Z6S,Z1R,rfl,l⟩;have⟨ZFE,ZRX,p⟩:=bS p;refine WO.cp (Ze.on (Ze.yes rfl rfl rfl (Yy rfl fh)) Zcn) rfl (ZX.fn Zgx (Zb (Zu (Zj rfl fh) rfl) (Zb (Zu fh rfl) Zd))) (ZbY (l.Kv k1) (l.ord k0) ZRX)<|Vd (QZ lk Zcn lk)<|r1 ?_;have⟨ZK0,ZRW,p⟩:=Xd p;refine WO.gcp (Ze.yes rfl rfl rfl fh) rfl (fun E=>(ZX.fn Zdm (Zb lk Zd))) (fun E=>ZaF (ZRW E))<|r2 ?_;have⟨ZxM,ZBo,p⟩:=Xd p;refine WO.gcp (Ze.yes rfl rfl rfl fh) rfl (fun E=>(ZX.fn Zdm (Zb lk Zd))) (fun E=>ZaF (ZBo E))<|r3 ?_;refine WO.QX (Ze.yes rfl rfl rfl fh) (fun Zdl=>?_) (fun Zdl=>?_);.replace p:=YS Zdl p;refine WO.hn (Ze.on (Ze.yes rfl rfl rfl fh) Zdl) rfl (X0 (e:=ZH) l Xk Xo JA rfl rfl rfl (Zk lk (Zk lk Zz)) rfl [((),(⟨#[97]⟩:Y)),((),(⟨#[99]⟩:Y))] rfl (xs:=[(⟨#[97]⟩:Y),(⟨#[99]⟩:Y)]) rfl (by intro q y;simp only[K2,KB,or_false]at y;rcases y with rfl|rfl<;>first|exact trivial) rfl) ?_;rintro _ ZY1 ⟨ZVq,ZUR,rfl,l⟩;have⟨ZQF,ZRV,p⟩:=bS p;refine WO.cp (Ze.on (Ze.yes rfl rfl rfl (Zj rfl fh)) Zdl) rfl (ZX.fn ZKm (Zb (Zu fh rfl) Zd)) (ZDI (l.ord k0) ZRV)<|WO.w (Ze.on (Ze.yes rfl rfl rfl (Z5 rfl fh)) Zdl) rfl (YN (Zu fh rfl) (JS rfl) XL)<|Vd (QZ lk Zdl lk)<|r2 ?_;exact Y1.YC _ p ⟨_,_,rfl,l.only .n,fh⟩
   replace p:=YT Zdl p;refine WO.Xm (Ze.yes rfl rfl rfl fh) Zdl rfl<|WO.Xm (Ze.yes rfl rfl rfl (Zj rfl fh)) Zdl rfl<|WO.Xm (Ze.yes rfl rfl rfl (Z5 rfl fh)) Zdl rfl<|Vd (Qs lk Zdl lk)<|r2 ?_;exact Y1.YC _ p ⟨_,_,rfl,l.only .n,fh⟩
  replace p:=YT Zcn p;refine WO.Xm (Ze.yes rfl rfl rfl (Z5 rfl fh)) Zcn rfl<|WO.Xm (Ze.yes rfl rfl rfl (Z5 rfl (Zj rfl fh))) Zcn rfl<|WO.Xm (Ze.yes rfl rfl rfl (Yy rfl fh)) Zcn rfl<|Vd (Qs lk Zcn lk)<|r1 ?_;have⟨ZKZ,ZRU,p⟩:=Xd p;refine WO.gcp (Ze.yes rfl rfl rfl fh) rfl (fun E=>(ZX.fn Zdm (Zb lk Zd))) (fun E=>ZaF (ZRU E))<|r2 ?_;have⟨ZQE,ZRT,p⟩:=Xd p;refine WO.gcp (Ze.yes rfl rfl rfl fh) rfl (fun E=>(ZX.fn Zdm (Zb lk Zd))) (fun E=>ZaF (ZRT E))<|r3 ?_;refine WO.QX (Ze.yes rfl rfl rfl fh) (fun Zdk=>?_) (fun Zdk=>?_);.replace p:=YS Zdk p;refine WO.hn (Ze.on (Ze.yes rfl rfl rfl fh) Zdk) rfl (X0 (e:=ZH) l Xk Xo JA rfl rfl rfl (Zk lk (Zk lk Zz)) rfl [((),(⟨#[97]⟩:Y)),((),(⟨#[99]⟩:Y))] rfl (xs:=[(⟨#[97]⟩:Y),(⟨#[99]⟩:Y)]) rfl (by intro q y;simp only[K2,KB,or_false]at y;rcases y with rfl|rfl<;>first|exact trivial) rfl) ?_;rintro _ ZYY ⟨Z6P,Z1O,rfl,l⟩;have⟨ZQD,ZRS,p⟩:=bS p;refine WO.cp (Ze.on (Ze.yes rfl rfl rfl (Zj rfl fh)) Zdk) rfl (ZX.fn ZKm (Zb (Zu fh rfl) Zd)) (ZDI (l.ord k0) ZRS)<|WO.w (Ze.on (Ze.yes rfl rfl rfl (Z5 rfl fh)) Zdk) rfl (YN (Zu fh rfl) (JS rfl) XL)<|Vd (QZ lk Zdk lk)<|r2 ?_;exact Y1.YC _ p ⟨_,_,rfl,l.only .n,fh⟩
  replace p:=YT Zdk p;refine WO.Xm (Ze.yes rfl rfl rfl fh) Zdk rfl<|WO.Xm (Ze.yes rfl rfl rfl (Zj rfl fh)) Zdk rfl<|WO.Xm (Ze.yes rfl rfl rfl (Z5 rfl fh)) Zdk rfl<|Vd (Qs lk Zdk lk)<|r2 ?_;exact Y1.YC _ p ⟨_,_,rfl,l.only .n,fh⟩
 skip;refine r16 ?_;refine r8 ?_;refine r1 ?_;refine WO.QX (Ze.no rfl rfl rfl (Zj rfl fh)) (fun Zcm=>?_) (fun Zcm=>?_)
 .replace p:=YS Zcm p;refine WO.hn (Ze.on (Ze.no rfl rfl rfl (Zj rfl fh)) Zcm) rfl (X0 (e:=ZH) l Xk Xo JA rfl rfl rfl (Zk lk (Zk lk (Zk lk Zz))) rfl [((),(⟨#[98]⟩:Y)),((),(⟨#[113]⟩:Y)),((),(⟨#[122]⟩:Y))] rfl (xs:=[(⟨#[98]⟩:Y),(⟨#[113]⟩:Y),(⟨#[122]⟩:Y)]) rfl (by intro q y;simp only[K2,KB,or_false]at y;rcases y with rfl|rfl|rfl<;>first|exact trivial) rfl) ?_;rintro _ Z4s ⟨Z6N,Z1M,rfl,l⟩;have⟨ZQC,ZRQ,p⟩:=bS p;refine WO.cp (Ze.on (Ze.no rfl rfl rfl (Z5 rfl fh)) Zcm) rfl (ZX.fn Zgx (Zb (XT (Zj rfl fh) rfl Zcm) (Zb (Zu fh rfl) Zd))) (ZbY (l.ord k6) (l.ord k0) ZRQ)<|WO.w (Ze.on (Ze.no rfl rfl rfl (Z5 rfl (Zj rfl fh))) Zcm) rfl (Kc lk)<|Vd (Qs lk (Zfp Zcm) lk)<|r2 ?_;refine WO.QX (Ze.no rfl rfl rfl (Zj rfl fh)) (fun Zcl=>?_) (fun Zcl=>?_)
  .replace p:=YS Zcl p;refine WO.hn (Ze.on (Ze.no rfl rfl rfl (Zj rfl fh)) Zcl) rfl (X0 (e:=ZH) l Xk Xo JA rfl rfl rfl (Zk lk (Zk lk Zz)) rfl [((),(⟨#[120]⟩:Y)),((),(⟨#[121]⟩:Y))] rfl (xs:=[(⟨#[120]⟩:Y),(⟨#[121]⟩:Y)]) rfl (by intro q y;simp only[K2,KB,or_false]at y;rcases y with rfl|rfl<;>first|exact trivial) rfl) ?_;rintro _ Z4p ⟨Z6L,Z1K,rfl,l⟩;have⟨ZQB,ZRP,p⟩:=bS p;refine WO.cp (Ze.on (Ze.no rfl rfl rfl (Z5 rfl fh)) Zcl) rfl (ZX.fn Zgx (Zb (XT (Zj rfl fh) rfl Zcl) (Zb (Zu fh rfl) Zd))) (ZbY (l.ord k2) (l.ord k0) ZRP)<|WO.w (Ze.on (Ze.no rfl rfl rfl (Z5 rfl (Zj rfl fh))) Zcl) rfl (Kc lk)<|Vd (Qs lk (Zfp Zcl) lk)<|r2 ?_;refine WO.QX (Ze.no rfl rfl rfl (Zj rfl fh)) (fun Zck=>?_) (fun Zck=>?_);.replace p:=YS Zck p;refine WO.hn (Ze.on (Ze.no rfl rfl rfl (Zj rfl fh)) Zck) rfl (X0 (e:=ZH) l Xk Xo JA rfl rfl rfl (Zk lk Zz) rfl [((),(⟨#[112]⟩:Y))] rfl (xs:=[(⟨#[112]⟩:Y)]) rfl (by intro q y;simp only[K2,KB,or_false]at y;subst y;exact trivial) rfl) ?_;rintro _ ZYX ⟨Z6K,Z1J,rfl,l⟩;have⟨ZQA,ZRO,p⟩:=bS p;refine WO.cp (Ze.on (Ze.no rfl rfl rfl (Z5 rfl fh)) Zck) rfl (ZX.fn Zgx (Zb (XT (Zj rfl fh) rfl Zck) (Zb (Zu fh rfl) Zd))) (ZbY (l.ord k4) (l.ord k0) ZRO)<|WO.w (Ze.on (Ze.no rfl rfl rfl (Z5 rfl (Zj rfl fh))) Zck) rfl (Kc lk)<|Vd (Qs lk (Zfp Zck) lk)<|r1 ?_;exact Y1.YC _ p ⟨_,_,rfl,l.only .n,fh⟩
   replace p:=YT Zck p;refine WO.Xm (Ze.no rfl rfl rfl (Zj rfl fh)) Zck rfl<|WO.Xm (Ze.no rfl rfl rfl (Z5 rfl fh)) Zck rfl<|WO.Xm (Ze.no rfl rfl rfl (Z5 rfl (Zj rfl fh))) Zck rfl<|Vd (QZ lk (Zdf Zck) lk)<|r1 ?_;exact Y1.YC _ p ⟨_,_,rfl,l.only .n,fh⟩
  replace p:=YT Zcl p;refine WO.Xm (Ze.no rfl rfl rfl (Zj rfl fh)) Zcl rfl<|WO.Xm (Ze.no rfl rfl rfl (Z5 rfl fh)) Zcl rfl<|WO.Xm (Ze.no rfl rfl rfl (Z5 rfl (Zj rfl fh))) Zcl rfl<|Vd (QZ lk (Zdf Zcl) lk)<|r2 ?_;refine WO.QX (Ze.no rfl rfl rfl (Zj rfl fh)) (fun Zcj=>?_) (fun Zcj=>?_);.replace p:=YS Zcj p;refine WO.hn (Ze.on (Ze.no rfl rfl rfl (Zj rfl fh)) Zcj) rfl (X0 (e:=ZH) l Xk Xo JA rfl rfl rfl (Zk lk Zz) rfl [((),(⟨#[112]⟩:Y))] rfl (xs:=[(⟨#[112]⟩:Y)]) rfl (by intro q y;simp only[K2,KB,or_false]at y;subst y;exact trivial) rfl) ?_;rintro _ Z4l ⟨Z6J,Z1I,rfl,l⟩;have⟨ZQz,ZRN,p⟩:=bS p;refine WO.cp (Ze.on (Ze.no rfl rfl rfl (Z5 rfl fh)) Zcj) rfl (ZX.fn Zgx (Zb (XT (Zj rfl fh) rfl Zcj) (Zb (Zu fh rfl) Zd))) (ZbY (l.ord k3) (l.ord k0) ZRN)<|WO.w (Ze.on (Ze.no rfl rfl rfl (Z5 rfl (Zj rfl fh))) Zcj) rfl (Kc lk)<|Vd (Qs lk (Zfp Zcj) lk)<|r1 ?_;exact Y1.YC _ p ⟨_,_,rfl,l.only .n,fh⟩
  replace p:=YT Zcj p;refine WO.Xm (Ze.no rfl rfl rfl (Zj rfl fh)) Zcj rfl<|WO.Xm (Ze.no rfl rfl rfl (Z5 rfl fh)) Zcj rfl<|WO.Xm (Ze.no rfl rfl rfl (Z5 rfl (Zj rfl fh))) Zcj rfl<|Vd (QZ lk (Zdf Zcj) lk)<|r1 ?_;exact Y1.YC _ p ⟨_,_,rfl,l.only .n,fh⟩
 replace p:=YT Zcm p;refine WO.Xm (Ze.no rfl rfl rfl (Zj rfl fh)) Zcm rfl<|WO.Xm (Ze.no rfl rfl rfl (Z5 rfl fh)) Zcm rfl<|WO.Xm (Ze.no rfl rfl rfl (Z5 rfl (Zj rfl fh))) Zcm rfl<|Vd (QZ lk (Zdf Zcm) lk)<|r2 ?_;refine WO.QX (Ze.no rfl rfl rfl (Zj rfl fh)) (fun B=>?_) (fun B=>?_)
 .replace p:=YS B p;refine WO.hn (Ze.on (Ze.no rfl rfl rfl (Zj rfl fh)) B) rfl (X0 (e:=ZH) l Xk Xo JA rfl rfl rfl (Zk lk (Zk lk Zz)) rfl [((),(⟨#[120]⟩:Y)),((),(⟨#[121]⟩:Y))] rfl (xs:=[(⟨#[120]⟩:Y),(⟨#[121]⟩:Y)]) rfl (by intro q y;simp only[K2,KB,or_false]at y;rcases y with rfl|rfl<;>first|exact trivial) rfl) ?_;rintro _ Z4k ⟨Z6I,Z1H,rfl,l⟩;have⟨ZQy,ZRM,p⟩:=bS p;refine WO.cp (Ze.on (Ze.no rfl rfl rfl (Z5 rfl fh)) B) rfl (ZX.fn Zgx (Zb (XT (Zj rfl fh) rfl B) (Zb (Zu fh rfl) Zd))) (ZbY (l.ord k1) (l.ord k0) ZRM)<|WO.w (Ze.on (Ze.no rfl rfl rfl (Z5 rfl (Zj rfl fh))) B) rfl (Kc lk)<|Vd (Qs lk (Zfp B) lk)<|r2 ?_;refine WO.QX (Ze.no rfl rfl rfl (Zj rfl fh)) (fun Zci=>?_) (fun Zci=>?_);.replace p:=YS Zci p;refine WO.hn (Ze.on (Ze.no rfl rfl rfl (Zj rfl fh)) Zci) rfl (X0 (e:=ZH) l Xk Xo JA rfl rfl rfl (Zk lk Zz) rfl [((),(⟨#[112]⟩:Y))] rfl (xs:=[(⟨#[112]⟩:Y)]) rfl (by intro q y;simp only[K2,KB,or_false]at y;subst y;exact trivial) rfl) ?_;rintro _ Z4j ⟨Z6G,Z1G,rfl,l⟩;have⟨ZQx,ZRL,p⟩:=bS p;refine WO.cp (Ze.on (Ze.no rfl rfl rfl (Z5 rfl fh)) Zci) rfl (ZX.fn Zgx (Zb (XT (Zj rfl fh) rfl Zci) (Zb (Zu fh rfl) Zd))) (ZbY (l.ord k3) (l.ord k0) ZRL)<|WO.w (Ze.on (Ze.no rfl rfl rfl (Z5 rfl (Zj rfl fh))) Zci) rfl (Kc lk)<|Vd (Qs lk (Zfp Zci) lk)<|r1 ?_;exact Y1.YC _ p ⟨_,_,rfl,l.only .n,fh⟩
  replace p:=YT Zci p;refine WO.Xm (Ze.no rfl rfl rfl (Zj rfl fh)) Zci rfl<|WO.Xm (Ze.no rfl rfl rfl (Z5 rfl fh)) Zci rfl<|WO.Xm (Ze.no rfl rfl rfl (Z5 rfl (Zj rfl fh))) Zci rfl<|Vd (QZ lk (Zdf Zci) lk)<|r1 ?_;exact Y1.YC _ p ⟨_,_,rfl,l.only .n,fh⟩
 replace p:=YT B p;refine WO.Xm (Ze.no rfl rfl rfl (Zj rfl fh)) B rfl<|WO.Xm (Ze.no rfl rfl rfl (Z5 rfl fh)) B rfl<|WO.Xm (Ze.no rfl rfl rfl (Z5 rfl (Zj rfl fh))) B rfl<|Vd (QZ lk (Zdf B) lk)<|r1 ?_;refine WO.Xm (Ze.no rfl rfl rfl fh) B rfl<|WO.Xm (Ze.no rfl rfl rfl (Zj rfl fh)) B rfl<|WO.Xm (Ze.no rfl rfl rfl (Z5 rfl fh)) B rfl<|WO.Xm (Ze.no rfl rfl rfl (Z5 rfl (Zj rfl fh))) B rfl<|Vd (QZ lk (Zdf B) lk)<|r1 ?_;exact Y1.YC _ p ⟨_,_,rfl,l.only .n,fh⟩
def ZH9{F:Nat}{h:H}{r:Z}(l:ZnX F=some r):Pure XX 14 #[] h (.bool r):=
 WR.JC rfl (ZH8 Vc l)
end Go.Proofs.YtbnepjakjmnadaaGreat
end
end
section
namespace Go.Lf
def ZzX{k:Nat}(h:k<4611686018427387904):XD ((k:Int)+1)=((k+1:Nat):Int):=by rw[ZcN Vb Vb];rfl
def Zqz{k:Nat}(h:k<4611686018427387904)(l:0<k):XD ((k:Int)-1)=((k-1:Nat):Int):=by rw[ZcN Vb Vb];omega
def Wy{p:Type}{l:Nat}{xs ys:U p}(h:xs.length+ys.length<=1000000)(q:l<=1000):app l xs ys=some (xs++ys):=
 Zmi (KK (Nat.mul_le_mul (show 2*(xs.length+ys.length)+1000<=2001000 by omega) q) (by decide))
def iter{h β σ:Type}(g:Nat->h->σ->(σ->O β)->O β)(d:σ->O β):Nat->U h->σ->O β
 | _,[],s=>d s
 | i,x::l,s=>g i x s (fun p=>iter g d (i+1) l p)
end Go.Lf
end
section
set_option maxRecDepth 100000
noncomputable section
namespace Go.Proofs.YtbnepjakjmnadaaGreat
open Go.Lf
section
section
variable{β γ:Type}
def ZhS{body:γ->(γ->O β)->O β}{r:O β}(S:Nat->γ){n F:Nat}(l:n<F)(h:∀k,k<n->∀next,body (S k) next=next (S (k+1)))(he:∀next,body (S n) next=r):loop F body (S 0)=r:=by
 have:∀j F,j<=n->n-j<F->loop F body (S j)=r:=by
  intro j F p l;obtain⟨d,q⟩:∃d,d=n-j:=⟨_,rfl⟩;induction d generalizing j F with
  | zero=>
    have:j=n:=Vb;subst this;cases F with|zero=>omega|succ F=>rw[Z7];exact he _
  | succ d ih=>
    cases F with|zero=>omega|succ F=>rw[Z7,h j Vb];exact ih (j+1) F Vb Vb Vb
 exact this 0 F (GH _) Vb
def Zgr{body:γ->(γ->O β)->O β}{r1 r2:O β}(S:Nat->γ)(c:Nat->Z){n F:Nat}(A:n<F)(r:∀k,k<n->∀next,body (S k) next=bif c k then r1 else next (S (k+1)))(he:∀next,body (S n) next=r2):loop F body (S 0)=bif(List.range n).any c then r1 else r2:=by
 cases h:(List.range n).any c with
 | false=>
   rw[List.any_eq_false]at h;refine ZhS S A (fun k l next=>?_) he;have:=h k (GP.2 l);rw[r k l,GS.2 this];rfl
 | true=>
   have p:∃k,k<n/\c k=true:=by
    have⟨k,h1,h2⟩:=GF.1 h;exact⟨k,GP.1 h1,h2⟩
   have x:∃m,(m<n/\c m=true)/\∀k,k<m->c k=false:=by
    have⟨k,l⟩:=p
    induction k using Nat.strongRecOn with|_ k ih=>
      by_cases t:∃j,j<k/\c j=true;.have⟨j,h1,h2⟩:=t;exact ih j h1 ⟨by omega,h2⟩
      exact⟨k,l,fun j y=>GS.2 fun q=>t ⟨j,y,q⟩⟩
   have⟨m,⟨h1,h2⟩,h3⟩:=x;refine ZhS S (n:=m) Vb (fun k l next=>?_) (fun next=>?_);.rw[r k Vb,h3 k l];rfl
   rw[r m h1,h2];rfl
end
def Zi9{k:Nat}(h:k<4611686018427387904):XD ((k:Int)+1)=((k+1:Nat):Int):=ZzX h
def Ja{k:Nat}(h:k<9223372036854775807):XD ((k:Int)+1)=((k+1:Nat):Int):=by rw[ZcN Vb Vb];omega
def Yc{k n:Nat}(h:k<n):decide ((k:Int)<(n:Int))=true:=decide_eq_true Vb
def Yi(n:Nat):decide ((n:Int)<(n:Int))=false:=decide_eq_false Vb
def QN{p:Type}{l:U p}{k:Nat}(h:k<l.length):Yl l (k:Int)=some l[k]:=by rw[Zdq,Q4 h]
def app1{p:Type}{b:Nat}{l:U p}{x:p}(h:l.length<=900000)(q:b<=1000):app b l [x]=some (l++[x]):=Wy (by simp;omega) q
def Zgm{h:Type}[BEq h][LawfulBEq h](a:h):(a !=a)=false:=by simp
end
section
instance:LawfulBEq ByteArray where
 eq_of_beq {a b} h:=by
  cases a with|mk a=>cases b with|mk b=>
  have h:(a==b)=true:=h;rw[eq_of_beq h]
 rfl {a}:=by
  cases a with|mk a=>
  show(a==a)=true;simp
def kws:U Y:=[(⟨#[97,110,100]⟩:Y),(⟨#[100,101,102]⟩:Y),(⟨#[101,108,115,101]⟩:Y),(⟨#[103,111]⟩:Y),(⟨#[105,102]⟩:Y),(⟨#[105,110]⟩:Y),(⟨#[112,108,97,99,101]⟩:Y),(⟨#[115,116,111,112]⟩:Y),(⟨#[116,104,101,110]⟩:Y),(⟨#[119,97,116,99,104]⟩:Y)]
def Zhf(s:Y)(k:Nat):Z:=decide (((s.data.getD k 0).toNat:Int)<97)||decide (((s.data.getD k 0).toNat:Int)>122)
def Xt(s:Y):Z:=decide (0<s.size)&&decide (s.size<=8) && !((List.range s.size).any (Zhf s)) && !decide (s∈kws)
def ZvR{s:Y}{k:Nat}(h:k<s.size):ZiG s (k:Int)=some ((s.data.getD k 0).toNat:Int):=by
 have l:k<s.data.size:=h
 have e:s[((k:Int)).toNat]? =some (s.data[k]):=by
  rw[Int.toNat_natCast];show s.data[k]? =_;rw[GG l]
 unfold ZiG;rw[if_pos Vb,e,QP,GG l];rfl
def has_eq(F:Nat)(l:U Y)(s:Y)(h:l.length<F)(r:l.length<4000000000000000000):Zjj F l s=some (decide (s∈l)):=by
 have:=Zgr (body:=Zic l s) (r1:=some true) (r2:=some false) (fun k:Nat=>(k:Int)) (fun k=>decide (l[k]? =some s)) (n:=l.length) h
  (fun k p next=>by
    simp only[Zic,Yc p,Cq1,QN p,Bq0,Zi9 (show k<4611686018427387904 by omega)];rw[Q4 p];simp)
  (fun next=>by simp[Zic])
 rw[show Zjj F l s=loop F (Zic l s) 0 from rfl];rw[show(0:Int)=((0:Nat):Int) from rfl,this]
 have e:(List.range l.length).any (fun k=>decide (l[k]? =some s))=decide (s∈l):=by
  rw[Gt,GF,decide_eq_true_iff];constructor;.rintro⟨k,_,p⟩;rw[decide_eq_true_iff]at p;exact List.mem_of_getElem? p
  intro q;have⟨k,p,hs⟩:=List.getElem_of_mem q;exact⟨k,GP.2 p,by rw[decide_eq_true_iff,Q4 p,hs]⟩
 rw[e];cases decide (s∈l)<;>rfl
def setOf(l:U Y):U (Y×Z):=l.foldl (fun m s=>Yu m s true) []
def Zx3(l:U Y)(s:Y):(ZC (setOf l) s).getD false=decide (s∈l):=by
 have gen:∀(l:U Y)(m:U (Y×Z)),(ZC (l.foldl (fun m s=>Yu m s true) m) s).getD false=(decide (s∈l)||(ZC m s).getD false):=by
  intro l
  induction l with|nil=>intro m;simp|cons x l ih=>
    intro m;rw[Gm,ih,WZ];by_cases h:s=x;.subst h;simp
    rw[if_neg h];simp[h]
 have:=gen l [];unfold setOf;rw[this];simp[ZC,Yq]
def ZLQ(s:Y):(ZDw.bind fun m=>(ZeN m s false).bind fun x=>some (!x))=some (!decide (s∈kws)):=by have e:ZDw=some (setOf kws):=rfl;rw[e];show some (!((ZC (setOf kws) s).getD false))=_;rw[Zx3]
def Zrc(F:Nat)(s:Y)(h:s.size<F)(t:s.size<=9223372036854775807):ZcA F s=some (Xt s):=by
 have:=Zgr (body:=Zif s) (r1:=some false) (r2:=some (decide (0<s.size)&&decide (s.size<=8) && !decide (s∈kws))) (fun k:Nat=>(k:Int)) (Zhf s) (n:=s.size) h
  (fun k p next=>by
    simp only[Zif,Yc p,Cq1,ZvR p,Bq0,Ja (show k<9223372036854775807 by omega)];unfold Zhf;cases h1:decide (((s.data.getD k 0).toNat:Int)<97)<;>simp[gd])
  (fun next=>by
    simp only[Zif,Yi,Cq0];rw[ZLQ]
    have r:decide ((s.size:Int)>0)=decide (0<s.size):=by
     by_cases l:0<s.size;.rw[decide_eq_true l,decide_eq_true Vb]
     rw[decide_eq_false l,decide_eq_false Vb]
    have q:decide ((s.size:Int)<=8)=decide (s.size<=8):=by
     by_cases l:s.size<=8;.rw[decide_eq_true l,decide_eq_true Vb]
     rw[decide_eq_false l,decide_eq_false Vb]
    rw[r,q];cases (decide (0<s.size)&&decide (s.size<=8))<;>simp)
 show loop F (Zif s) ((0:Nat):Int)=_;rw[this];unfold Xt;cases (List.range s.size).any (Zhf s)<;>simp
def ZAX(F:Nat)(s:Y)(h:s.size<F)(h2:20<=F):ZuM F s=some (Xt s):=by
 unfold ZuM;by_cases q:0<s.size/\s.size<=8
 .have⟨l,z2⟩:=q;rw[decide_eq_false Vb,decide_eq_false Vb];simp only[Bool.or_false,Cq0]
  have:=Zgr (body:=Zie F s) (r1:=some false) (r2:=some (!decide (s∈kws))) (fun k:Nat=>(k:Int)) (Zhf s) (n:=s.size) h
   (fun k p next=>by
     simp only[Zie,Yc p,Cq1,ZvR p,Bq0,Zi9 (show k<4611686018427387904 by omega)];unfold Zhf;cases h1:decide (((s.data.getD k 0).toNat:Int)<97)<;>simp[gd])
   (fun next=>by
     simp only[Zie,Yi,Cq0];have e:=has_eq F kws s (by show 10<F;omega) (by decide);unfold kws at e;rw[e];rfl)
  show loop F (Zie F s) ((0:Nat):Int)=_;rw[this];unfold Xt;rw[decide_eq_true l,decide_eq_true z2];cases (List.range s.size).any (Zhf s)<;>simp
 have:Xt s=false:=by
  unfold Xt;by_cases l:0<s.size;.rw[decide_eq_false (show ¬ s.size<=8 by omega)];simp
  rw[decide_eq_false l];simp
 rw[this];by_cases l:s.size<1;.rw[decide_eq_true Vb];rfl
 rw[decide_eq_true (show(s.size:Int)>8 by omega)];simp
end
section
def ZP:Part->U Part
 | .pr t=>t.args.map .ex++t.qJ.map .cl++t.qQ.map .pr
 | .ex e=>e.qQ.map .ex
 | .cl c=>c.qJ.map .cl++c.qQ.map .pr
def pz:Part->Nat
 | .pr t=>SizeOf.sizeOf t
 | .ex e=>SizeOf.sizeOf e
 | .cl c=>SizeOf.sizeOf c
def Wq{k p:Part}(h:k∈ZP p):pz k<pz p:=by
 cases p with
 | pr t=>
   have⟨op,tx,ags,ds,ks⟩:=t;simp only[ZP,Q3,JT]at h;rcases h with(⟨x,l,rfl⟩|⟨x,l,rfl⟩) | ⟨x,l,rfl⟩<;>(have:=List.sizeOf_lt_of_mem l;simp only[pz,Term.mk.sizeOf_spec];omega)
 | ex e=>
   have⟨op,n,tx,ks⟩:=e;simp only[ZP,JT]at h;obtain⟨x,l,rfl⟩:=h;have:=List.sizeOf_lt_of_mem l;simp only[pz,Zf.mk.sizeOf_spec];omega
 | cl c=>
   have⟨fm,tx,js,ds,ks⟩:=c;simp only[ZP,Q3,JT]at h;rcases h with⟨x,l,rfl⟩|⟨x,l,rfl⟩<;>(have:=List.sizeOf_lt_of_mem l;simp only[pz,Za.mk.sizeOf_spec];omega)
def Wm{P:Part->Prop}(h:∀p,(∀k∈ZP p,P k)->P p)(p:Part):P p:=by
 have:∀n p,pz p<n->P p:=by
  intro n;induction n with|zero=>intro p l;omega|succ n ih=>intro p l;exact h p fun k q=>ih k (by have:=Wq q;omega)
 exact this _ p (Nat.lt_succ_self _)
def U3{h β:Type}(l:U h)(f:h->U β):(l.attach.flatMap fun k=>f k.1)=l.flatMap f:=by
 conv=>rhs;rw[<-List.attach_map_subtype_val l]
 rw[List.flatMap_map]
def attach_map{h β:Type}(l:U h)(f:h->β):(l.attach.map fun k=>f k.1)=l.map f:=by
 conv=>rhs;rw[<-List.attach_map_subtype_val l]
 rw[Gf];rfl
def pre(p:Part):U Part:=p::(ZP p).attach.flatMap fun k=>pre k.1
termination_by pz p
decreasing_by exact Wq k.2
def pre_eq(p:Part):pre p=p::(ZP p).flatMap pre:=by rw[pre,U3 (ZP p) pre]
def Zft(l:U Nat):Nat:=l.foldr max 0
def dep(p:Part):Nat:=Zft ((ZP p).attach.map fun k=>dep k.1)+1
termination_by pz p
decreasing_by exact Wq k.2
def ZpN(p:Part):dep p=Zft ((ZP p).map dep)+1:=by rw[dep,attach_map (ZP p) dep]
def Zel(x:Nat)(l:U Nat):Zft (x::l)=max x (Zft l):=rfl
def Jr(p:Part):(pre p).length=((ZP p).flatMap pre).length+1:=by rw[pre_eq];rfl
def Xb(p:Part):1<=(pre p).length:=by rw[Jr];omega
def Kw{k:Part}{l:U Part}(h:k∈l):(pre k).length<=(l.flatMap pre).length:=by
 induction l with|nil=>cases h|cons x l ih=>
   rw[Kf,Ks];rcases K2.1 h with rfl|h
   .omega
   have:=ih h;omega
def Yv{k p:Part}(h:k∈ZP p):(pre k).length<(pre p).length:=by have:=Kw h;rw[Jr p];omega
def ZaY(l:U Part):l.length<=(l.flatMap pre).length:=by induction l with|nil=>simp|cons x l ih=>rw[Kf,Ks,Kx];have:=Xb x;omega
def Wp(p:Part):(ZP p).length<(pre p).length:=by have:=ZaY (ZP p);rw[Jr p];omega
def ZO2(p:Part):dep p<=(pre p).length:=by
 induction p using Wm with|h p ih=>
   rw[ZpN,Jr]
   have:∀l:U Part,(∀k∈l,dep k<=(pre k).length)->Zft (l.map dep)<=(l.flatMap pre).length:=by
    intro l
    induction l with|nil=>intro _;simp[Zft]|cons x l q=>
      intro h;rw[G7,Zel,Kf,Ks];have h1:=h x (by simp);have h2:=q fun k r=>h k (Kd _ r);omega
   have:=this _ ih;omega
def Xi{x k p:Part}(l:k∈ZP p)(h:x∈pre k):x∈pre p:=by rw[pre_eq p];exact Kd _ (Q1.2 ⟨k,l,h⟩)
def Xl(p:Part):p∈pre p:=by rw[pre_eq];exact Gg
def Yw{B σ β A:Type}{body:A->(A->O β)->O β}(r:Nat->σ->A)(l:U B)(Pre:U B->σ->Prop)(h:U B->σ->O β)
 (K:∀s y,Pre [] s->body (r l.length s) y=h [] s)
 (h1:∀(k:Nat) x rest s y,x∈l->k<l.length->Yl l (k:Int)=some x->Pre (x::rest) s->(∀t,Pre rest t->y (r (k+1) t)=h rest t)->body (r k s) y=h (x::rest) s) {F:Nat} (E:l.length<F) (s:σ) (q:Pre l s):loop F body (r 0 s)=h l s:=by
 have C:∀(d j F:Nat)(s:σ),j+d=l.length->d<F->Pre (l.drop j) s->loop F body (r j s)=h (l.drop j) s:=by
  intro d;induction d with
  | zero=>
    intro j F s I E q;obtain⟨F,rfl⟩:∃G,F=G+1:=⟨F-1,by omega⟩;obtain rfl:j=l.length:=Vb;rw[List.drop_length]at q ⊢;rw[Z7,K _ _ q]
  | succ d ih=>
    intro j F s I E q;obtain⟨F,rfl⟩:∃G,F=G+1:=⟨F-1,by omega⟩;have p:j<l.length:=Vb;rw[List.drop_eq_getElem_cons p]at q ⊢;rw[Z7];exact h1 j _ _ s _ (GE p) p (QN p) q fun t D=>ih (j+1) F t Vb Vb D
 have:=C l.length 0 F s Vb E (by simpa using q);simpa using this
abbrev E0:Y:=⟨#[]⟩
def BB:Nat:=9223372036854775807
def Um(e:Zf):Z:=
 bif e.op==1 then decide (e.n >=-1000000000)&&decide (e.n<=1000000000)&&decide (e.qG=E0)&&(e.qQ.length==0)
 else bif e.op==2 then Xt e.qG&&(e.n==0)&&(e.qQ.length==0)
 else decide (e.op >=3)&&decide (e.op<=7)&&decide (e.qG=E0)&&(e.n==0)&&(e.qQ.length==2)
def szs(t:Term)(a d k:Nat):Z:=(t.args.length==a)&&(t.qJ.length==d)&&(t.qQ.length==k)
def ZeM(t:Term):Z:=
 (bif(t.op==1)||(t.op==7) then szs t 0 0 0
  else bif t.op==2 then decide (t.args.length<=3)&&szs t t.args.length 0 0
  else bif t.op==3 then szs t 0 0 2
  else bif t.op==4 then decide (0<t.qJ.length)&&decide (t.qJ.length<=5)&&szs t 0 t.qJ.length 1
  else bif t.op==5 then szs t 1 0 2
  else((t.op==6)||(t.op==8))&&szs t 0 0 1) &&
 (bif((t.op==2)||(t.op==6))||(t.op==8) then Xt t.qG else decide (t.qG=E0))
def nWb(hn:Y->Z):U Y->Z
 | []=>true
 | x::xs=>(Xt x && !hn x)&&nWb (fun s=>hn s||decide (s=x)) xs
def jW(h hn:Y->Z):U ZN->Z
 | []=>true
 | m::js=>(Xt m.qG && !h m.qG&&decide (m.names.length<=3))&&(nWb hn m.names&&jW (fun s=>h s||decide (s=m.qG)) (fun s=>hn s||decide (s∈m.names)) js)
def K7(c:Za):Z:=
 (c.qQ.length==1)&&(bif c.qX==2 then Xt c.qG&&(c.qV.length==0)&&decide (c.qJ.length<=5)
 else(c.qX==1)&&decide (c.qG=E0)&&(c.qJ.length==0)&&decide (0<c.qV.length)&&decide (c.qV.length<=3)&&jW (fun _=>false) (fun _=>false) c.qV)
def Q6:Part->Z
 | .pr t=>ZeM t
 | .ex e=>Um e
 | .cl c=>K7 c
def Loc:Part->Prop
 | .pr t=>t.qG.size<=BB/\t.args.length<=BB/\t.qJ.length<=BB/\t.qQ.length<=BB
 | .ex e=>e.qG.size<=BB/\e.qQ.length<=BB
 | .cl c=>c.qG.size<=BB/\c.qV.length<=BB/\c.qJ.length<=BB/\c.qQ.length<=BB/\∀m∈c.qV,m.qG.size<=BB/\m.names.length<=BB/\∀s∈m.names,s.size<=BB
def BS:Nat:=1048576
def Lo(p:Part):Prop:=∀x∈pre p,Loc x
def Sm(p:Part):Prop:=(pre p).length<=BS/\Lo p
def Lo.kid{k p:Part}(h:Lo p)(q:k∈ZP p):Lo k:=fun x l=>h x (Xi q l)
def Lo.loc{p:Part}(h:Lo p):Loc p:=h p (Xl p)
def Sm.kid{k p:Part}(h:Sm p)(l:k∈ZP p):Sm k:=⟨by have:=Yv l;have:=h.1;omega,fun x q=>h.2 x (Xi l q)⟩
def Sm.loc{p:Part}(h:Sm p):Loc p:=h.2 p (Xl p)
def JL(b:Z):J7 b=some (bif b then .ok () else .Ym 2):=by cases b<;>rfl
def Zaf(a b:Nat):((a:Int)==(b:Int))=(a==b):=by rw[Gt,beq_iff_eq,beq_iff_eq];omega
def Zv7{h β:Type}{e:Int}{p:Int->O β}{k:h->O β}:JN (.Ym e) p k=p e:=rfl
def nameP{F:Nat}(l:10000000000000000000<=F){s:Y}(h:s.size<=BB):ZcA F s=some (Xt s):=Zrc F s (by unfold BB at h;omega) (by unfold BB at h;omega)
def ZRn{F:Nat}(l:10000000000000000000<=F){s:Y}(h:s.size<=BB):ZuM F s=some (Xt s):=ZAX F s (by unfold BB at h;omega) Vb
def ZLK{F:Nat}(l:10000000000000000000<=F){s:Y}(h:s.size<=BB)(b:Z):ZlT F s b=some (bif b then Xt s else decide (s=E0)):=by
 unfold ZlT;cases b;.simp[gd,E0]
 simp[gd,ZRn l h]
def ZqQ{F:Nat}(q:10000000000000000000<=F)(e:Zf)(h:Loc (.ex e)):Zn0 F e=some (bif Um e then .ok () else .Ym 2):=by
 have⟨op,n,tx,ks⟩:=e;have hn:=nameP q h.1;dsimp only at hn;have h2:((ks.length:Int)==2)=(ks.length==2):=Zaf _ 2;have p:((ks.length:Int)==0)=(ks.length==0):=Zaf _ 0;have l:op=1\/op=2\/op=3\/op=4\/op=5\/op=6\/op=7\/op<1\/7<op:=Vb;unfold Zn0 Um;dsimp only
 have j:∀op:Int,Zad ⟨op,n,tx,ks⟩ true=some (bif decide (tx=E0)&&(n==0)&&(ks.length==2) then .ok () else .Ym 2):=fun op=>by
  simp only[Zad,Cq1,JL,h2,Bq0];cases (decide (tx=E0)&&(n==0)&&(ks.length==2))<;>rfl
 rcases l with rfl|rfl|rfl|rfl|rfl|rfl|rfl|l
 .simp only[JL,p,Bq0];cases (decide (n >=-1000000000)&&decide (n<=1000000000)&&decide (tx=E0)&&(ks.length==0))<;>rfl
 .show(ZcA F tx).bind _=some (bif(Xt tx&&(n==0)&&(ks.length==0)) then _ else _);rw[hn];simp only[JL,p,Bq0];cases (Xt tx&&(n==0)&&(ks.length==0))<;>rfl
 .exact j 3
 .exact j 4
 .exact j 5
 .exact j 6
 .exact j 7
 have D:(op==1)=false:=by simp;omega
 have C:(op==2)=false:=by simp;omega
 have B:(op==3)=false:=by simp;omega
 have A:(op==4)=false:=by simp;omega
 have y:(op==5)=false:=by simp;omega
 have x:(op==6)=false:=by simp;omega
 have t:(op==7)=false:=by simp;omega
 have r:(decide (op >=3)&&decide (op<=7))=false:=by
  rcases l with l|l
  .rw[decide_eq_false (show ¬ op >=3 by omega)];rfl
  rw[decide_eq_false (show ¬ op<=7 by omega)];simp
 rw[D,C,B,A,y,x,t,r];rfl
def Zbl(t:Term)(a d k:Nat):K3 t (a:Int) (d:Int) (k:Int)=some (bif szs t a d k then .ok () else .Ym 2):=by unfold K3 szs;rw[JL,Zaf,Zaf,Zaf,Bq0];cases ((t.args.length==a)&&(t.qJ.length==d)&&(t.qQ.length==k))<;>rfl
def ZFO{F:Nat}(l:10000000000000000000<=F)(t:Term)(h:t.qG.size<=BB):(Ww F t) ()=some (bif(bif((t.op==2)||(t.op==6))||(t.op==8) then Xt t.qG else decide (t.qG=E0)) then .ok () else .Ym 2):=by unfold Ww Zes;rw[nameP l h];simp only[JL,Bq0,E0];cases t.op==2<;>cases t.op==6<;>cases t.op==8<;>cases Xt t.qG<;>cases decide (t.qG=(⟨#[]⟩:Y))<;>rfl
def seq2{a b:Z}:(JN (bif a then PR.ok () else PR.Ym 2) (fun e=>some (.Ym e)) (fun _=>some (bif b then PR.ok () else PR.Ym 2)):O (PR Unit))=some (bif a&&b then .ok () else .Ym 2):=by cases a<;>rfl
def ZQW{a b:Z}:(JN (bif a then PR.ok () else PR.Ym 2) (fun _=>some (.Ym 2)) (fun _=>some (bif b then PR.ok () else PR.Ym 2)):O (PR Unit))=some (bif a&&b then .ok () else .Ym 2):=by cases a<;>rfl
def Zjb{F:Nat}(B:10000000000000000000<=F)(t:Term)(h:Loc (.pr t)):Zn1 F t=some (bif ZeM t then .ok () else .Ym 2):=by
 have y:=ZFO B t h.1
 have A:decide ((t.args.length:Int)<=3)=decide (t.args.length<=3):=by
  by_cases z:t.args.length<=3;.rw[decide_eq_true z,decide_eq_true Vb]
  rw[decide_eq_false z,decide_eq_false Vb]
 have p:decide ((t.qJ.length:Int)>0)=decide (0<t.qJ.length):=by
  by_cases z:0<t.qJ.length;.rw[decide_eq_true z,decide_eq_true Vb]
  rw[decide_eq_false z,decide_eq_false Vb]
 have l:decide ((t.qJ.length:Int)<=5)=decide (t.qJ.length<=5):=by
  by_cases z:t.qJ.length<=5;.rw[decide_eq_true z,decide_eq_true Vb]
  rw[decide_eq_false z,decide_eq_false Vb]
 have ZW5:K3 t 0 0 0=_:=Zbl t 0 0 0;have ZW4:K3 t 0 0 1=_:=Zbl t 0 0 1;have ZW3:K3 t 0 0 2=_:=Zbl t 0 0 2;have ZW2:K3 t 1 0 2=_:=Zbl t 1 0 2;have x:K3 t t.args.length 0 0=_:=Zbl t t.args.length 0 0;have r:K3 t 0 t.qJ.length 1=_:=Zbl t 0 t.qJ.length 1
 have q:∀b,(Zer F t) b=some (bif(bif b then szs t 0 0 0
  else bif t.op==2 then decide (t.args.length<=3)&&szs t t.args.length 0 0
  else bif t.op==3 then szs t 0 0 2
  else bif t.op==4 then decide (0<t.qJ.length)&&decide (t.qJ.length<=5)&&szs t 0 t.qJ.length 1
  else bif t.op==5 then szs t 1 0 2
  else((t.op==6)||(t.op==8))&&szs t 0 0 1) &&
 (bif((t.op==2)||(t.op==6))||(t.op==8) then Xt t.qG else decide (t.qG=E0)) then .ok () else .Ym 2):=by
   intro b;unfold Zer ZgX;simp only[JL,ZW5,ZW4,ZW3,ZW2,x,r,Bq0,A,p,l,y,seq2,Zr9];cases b<;>cases t.op==2<;>cases t.op==3<;>cases t.op==4<;>cases t.op==5<;>cases t.op==6<;>cases t.op==8<;>simp only[Cq1,Cq0,Bool.true_or,Bool.or_true,Bool.or_false,GX,Gv,Bool.false_and,Zv7,seq2,ZQW,Bool.and_assoc]
 unfold Zn1 ZeM;rw[q,q];cases t.op==1<;>cases t.op==7<;>rfl
def has(m:U (Y×Z)):Y->Z:=fun s=>(ZC m s).getD false
def Zbw(m:U (Y×Z))(x:Y):has (Yu m x true)=fun s=>has m s||decide (s=x):=by
 funext s;unfold has;rw[WZ];by_cases h:s=x;.subst h;simp
 rw[if_neg h];simp[h]
def KN(m:U (Y×Z))(l:U Y):U (Y×Z):=l.foldl (fun m s=>Yu m s true) m
def ZkY(l:U Y):∀m,has (KN m l)=fun s=>has m s||decide (s∈l):=by
 induction l with|nil=>intro m;funext s;simp[KN]|cons x l ih=>
   intro m;have:KN m (x::l)=KN (Yu m x true) l:=rfl;rw[this,ih,Zbw];funext s;by_cases h1:s=x<;>by_cases h2:s∈l<;>simp[h1,h2]
def Zpe:has []=fun _=>false:=by funext s;rfl
def Zde(m:U (Y×Z))(x:Y):ZeN m x false=some (has m x):=rfl
def Zgd{β:Type}{b:Z}{p:Int->O β}{k:Unit->O β}:JN (bif b then PR.ok () else PR.Ym 2) p k=bif b then k () else p 2:=by cases b<;>rfl
def le3(n:Nat):decide ((n:Int)<=3)=decide (n<=3):=by
 by_cases z:n<=3;.rw[decide_eq_true z,decide_eq_true Vb]
 rw[decide_eq_false z,decide_eq_false Vb]
def gt0(n:Nat):decide ((n:Int)>0)=decide (0<n):=by
 by_cases z:0<n;.rw[decide_eq_true z,decide_eq_true Vb]
 rw[decide_eq_false z,decide_eq_false Vb]
def le5(n:Nat):decide ((n:Int)<=5)=decide (n<=5):=by
 by_cases z:n<=5;.rw[decide_eq_true z,decide_eq_true Vb]
 rw[decide_eq_false z,decide_eq_false Vb]
def Zt1{F:Nat}(C:10000000000000000000<=F)(k:Int)(p:U (Y×Z))(l:Int×(U (Y×Z))×(U (Y×Z))->O (PR Unit))(x:ZN)(q:x.names.length<=BB)(t:∀s∈x.names,s.size<=BB)(m:U (Y×Z)):
 loop F (ZgV F k p l x) (0,m)=bif nWb (has m) x.names then l (XD (k+1),Yu p x.qG true,KN m x.names) else some (.Ym 2):=by
 refine Yw (fun(k:Nat)(m:U (Y×Z))=>((k:Int),m)) x.names (fun _ _=>True) (fun rest m=>bif nWb (has m) rest then l (XD (k+1),Yu p x.qG true,KN m rest) else some (.Ym 2)) ?_ ?_ (by unfold BB at q;omega) m trivial;.intro s h _;simp only[ZgV,Yi,Cq0];rfl
 intro j y rest s h r A B _ ih;simp only[ZgV,Yc A,Cq1,B,Bq0,nameP C (t y r),JL,Zgd,Zde];rw[Ja (by unfold BB at q;omega)];simp only[ih _ trivial,nWb,Zbw];cases hn:Xt y;.simp[gd]
 .cases D:has s y;.simp only[ZjP,Bq0,GM,Gv,Cq1];rfl
  simp[gd]
 all_goals omega
def Zud{F:Nat}(q:10000000000000000000<=F)(c:Za)(h:Loc (.cl c)):(ZgU F c) ()=some (bif jW (fun _=>false) (fun _=>false) c.qV then .ok () else .Ym 2):=by
 have⟨h1,h2,h3,h4,h5⟩:=h;have:=Yw (body:=ZgW F c) (fun(k:Nat)(m:U (Y×Z)×U (Y×Z))=>((k:Int),m.1,m.2)) c.qV (fun _ _=>True) (fun rest m=>some (bif jW (has m.1) (has m.2) rest then PR.ok () else .Ym 2)) (F:=F) ?_ ?_ (by unfold BB at h2;omega) ([],[]) trivial;.rw[Zpe]at this;exact this
 .intro s p _;simp only[ZgW,Yi,Cq0];rfl
 intro j y rest s p r t x _ ih;have⟨q1,q2,q3⟩:=h5 y r;simp only[ZgW,Yc t,Cq1,x,Bq0,nameP q q1,JL,Zgd,Zde,le3,Zt1 q _ _ _ y q2 q3];rw[Ja (by unfold BB at h2;omega)];have l:=fun a b=>ih (a,b) trivial;simp only at l;simp only[l,jW,Zbw,ZkY];cases hn:Xt y.qG;.simp[gd]
 cases A:has s.1 y.qG;.simp only[ZjP,Bq0,GM,Gv,Cq1];cases decide (y.names.length<=3)<;>cases nWb (has s.2) y.names<;>rfl
 simp[gd]
def Zkm{F:Nat}(l:10000000000000000000<=F)(c:Za)(h:Loc (.cl c)):ZnZ F c=some (bif K7 c then .ok () else .Ym 2):=by
 have q:=Zud l c h;have⟨h1,h2,h3,h4,h5⟩:=h;have x:((c.qV.length:Int)==0)=(c.qV.length==0):=Zaf _ 0;have t:((c.qQ.length:Int)==1)=(c.qQ.length==1):=Zaf _ 1;have r:((c.qJ.length:Int)==0)=(c.qJ.length==0):=Zaf _ 0;unfold ZnZ K7;simp only[JL,Bq0,Zgd,q,nameP l h1,x,t,r,le5,le3,gt0,Zr9,Zv7];cases c.qQ.length==1;.rfl
 by_cases p:c.qX=2;.rw[p];simp only[Int.reduceBEq,Cq1,Gv];cases (Xt c.qG&&(c.qV.length==0)&&decide (c.qJ.length<=5))<;>rfl
 have:(c.qX==2)=false:=by simpa using p
 rw[this];cases c.qX==1<;>cases (decide (c.qG=E0))<;>cases (c.qJ.length==0)<;>cases (decide (0<c.qV.length))<;>cases (decide (c.qV.length<=3))<;>cases (jW (fun _=>false) (fun _=>false) c.qV)<;>rfl
def ZAl{F:Nat}(l:10000000000000000000<=F)(p:Part)(h:Loc p):Zso F p=some (bif Q6 p then .ok () else .Ym 2):=by
 unfold Zso;cases p with
 | pr t=>
   show(Zn1 F t).bind _=_;rw[Zjb l t h];show JN _ _ _=some (bif ZeM t then _ else _);cases ZeM t<;>rfl
 | ex e=>
   show(Zn0 F e).bind _=_;rw[ZqQ l e h];show JN _ _ _=some (bif Um e then _ else _);cases Um e<;>rfl
 | cl c=>
   show(ZnZ F c).bind _=_;rw[Zkm l c h];show JN _ _ _=some (bif K7 c then _ else _);cases K7 c<;>rfl
abbrev NDB:=Nat×Nat×Z
def Zcd(s:Z×Nat×Nat)(r:NDB):Z×Nat×Nat:=(s.1&&r.2.2,s.2.1+r.1,max s.2.2 r.2.1)
def ZuB(s:Z×Nat×Nat):NDB:=(s.2.1,s.2.2+1,s.1)
def R(p:Part):NDB:=bif Q6 p then ZuB (((ZP p).attach.map fun k=>R k.1).foldl Zcd (true,1,0)) else(1,1,false)
termination_by pz p
decreasing_by exact Wq k.2
def ZVQ(p:Part):R p=bif Q6 p then ZuB (((ZP p).map R).foldl Zcd (true,1,0)) else(1,1,false):=by rw[R,attach_map (ZP p) R]
def ZNP(l:U NDB):∀s,l.foldl Zcd s=(s.1&&l.all (·.2.2),s.2.1+(l.map (·.1)).sum,max s.2.2 (Zft (l.map (·.2.1)))):=by
 induction l with|nil=>intro s;simp[Zft]|cons x l ih=>
   intro s;rw[Gm,ih];simp only[Zcd,List.all_cons,G7,List.sum_cons,Zel,Bool.and_assoc,GO,Nat.max_assoc]
def ZKI(p:Part):(R p).2.2=(pre p).all Q6/\((pre p).all Q6=true->(R p).1=(pre p).length/\(R p).2.1=dep p)/\(R p).1<=(pre p).length/\(R p).2.1<=(pre p).length:=by
 induction p using Wm with|h p ih=>
   have r:∀l:U Part,(∀k∈l,(R k).2.2=(pre k).all Q6/\((pre k).all Q6=true->(R k).1=(pre k).length/\(R k).2.1=dep k)/\(R k).1<=(pre k).length/\(R k).2.1<=(pre k).length) ->
    (l.map R).all (·.2.2)=(l.flatMap pre).all Q6/\((l.flatMap pre).all Q6=true->((l.map R).map (·.1)).sum=(l.flatMap pre).length/\Zft ((l.map R).map (·.2.1))=Zft (l.map dep))/\((l.map R).map (·.1)).sum<=(l.flatMap pre).length/\Zft ((l.map R).map (·.2.1))<=(l.flatMap pre).length:=by
    intro l
    induction l with|nil=>intro _;simp[Zft]|cons x l t=>
      intro h;have⟨a1,a2,a3,a4⟩:=h x (by simp);have⟨b1,b2,b3,b4⟩:=t fun k y=>h k (Kd _ y);simp only[G7,List.all_cons,Kf,List.all_append,List.sum_cons,Zel,Ks,a1,b1];refine⟨trivial,fun q=>?_,by omega,by omega⟩;rw[Ba0]at q;have⟨c1,c2⟩:=a2 q.1;have⟨d1,d2⟩:=b2 q.2;exact⟨by rw[c1,d1],by rw[c2,d2]⟩
   have⟨k1,k2,k3,k4⟩:=r (ZP p) ih;rw[ZVQ,ZNP,pre_eq p];simp only[List.all_cons,Kx];cases A:Q6 p;.simp
   simp only[Cq1,ZuB,Gv,k1,Nat.zero_max];refine⟨trivial,fun q=>?_,by omega,by omega⟩;have⟨c1,c2⟩:=k2 q;exact⟨by rw[c1];omega,by rw[c2,ZpN]⟩
def Zdc{x p:Part}(h:x∈pre p):(pre x).length<=(pre p).length:=by
 induction p using Wm with|h p ih=>
   rw[pre_eq p]at h;rcases K2.1 h with rfl|h
   .exact K1 _
   have⟨k,hk,hx⟩:=Q1.1 h;have:=ih k hk hx;have:=Yv hk;omega
def Za5{x y p:Part}(h:x∈pre y)(l:y∈pre p):x∈pre p:=by
 induction p using Wm with|h p ih=>
   rw[pre_eq p]at l;rcases K2.1 l with rfl|l
   .exact h
   have⟨k,hk,hyk⟩:=Q1.1 l;exact Xi hk (ih k hk hyk)
def out(r:NDB):Int×Int×Z:=((r.1:Int),(r.2.1:Int),r.2.2)
def Zwq(a b:Nat){i:Decidable ((b:Int)>(a:Int))}:@ite Int ((b:Int)>(a:Int)) i (b:Int) (a:Int)=((max a b:Nat):Int):=by
 by_cases h:b>a;·rw[if_pos Vb,Nat.max_eq_right Vb]
 rw[if_neg Vb,Nat.max_eq_left Vb]
def ZWQ{n:Nat}(h:n<=4000000000000000000):XD (n:Int)=(n:Int):=ZcN Vb Vb
def ZK5{a b:Nat}(h:a+b<=4000000000000000000):XD ((a:Int)+(b:Int))=((a+b:Nat):Int):=by rw[<-ZWQ h,Int.natCast_add]
def ZVR{h:Type}(c:h->Part)(l:Nat)(rest:U h)(s:Z×Nat×Nat):Prop:=s.2.1+((rest.map c).flatMap pre).length<=l/\s.2.2<=1000000000
def ZLO{r:Type}{body:Z×Int×Int×Int->(Z×Int×Int×Int->O (Int×Int×Z))->O (Int×Int×Z)}(l:U r)(c:r->Part)(g:r->O (Int×Int×Z))(fin:Z×Nat×Nat->O (Int×Int×Z))(C:l.length<=BB){q:Nat}(K:q<=1000000000)
 (E:∀x∈l,g x=some (out (R (c x))))
 (G:∀b (n d i:Int) h,body (b,n,d,i) h=bif decide (i<(l.length:Int)) then(Yl l i).bind fun x=>(g x).bind fun y=>h ((b&&y.2.2),XD (n+y.1),(if y.2.1>d then y.2.1 else d),XD (i+1)) else body (b,n,d,(l.length:Int)) h)
 (he:∀s h,s.2.1<=q->s.2.2<=1000000000->body (s.1,(s.2.1:Int),(s.2.2:Int),(l.length:Int)) h=fin s) {F:Nat} (I:10000000000000000000<=F) (s:Z×Nat×Nat) (p:ZVR c q l s) (t:∀x∈l,(pre (c x)).length<=BS):loop F body (s.1,(s.2.1:Int),(s.2.2:Int),0)=fin ((l.map fun x=>R (c x)).foldl Zcd s):=by
 refine Yw (fun(k:Nat)(s:Z×Nat×Nat)=>(s.1,(s.2.1:Int),(s.2.2:Int),(k:Int))) l (ZVR c q) (fun rest s=>fin ((rest.map fun x=>R (c x)).foldl Zcd s)) ?_ ?_ (by unfold BB at C;omega) s p;.intro s h p;exact he s h (by have:=p.1;omega) p.2
 intro k x rest s h B D A p ih;have⟨p1,p2⟩:=p;simp only[G7,Kf,Ks]at p1;have⟨_,_,r1,r2⟩:=ZKI (c x);have h2:=t x B;unfold BS at h2;unfold BB at C;show body (s.1,(s.2.1:Int),(s.2.2:Int),(k:Int)) h=_;rw[G,Yc D,Cq1,A,Bq0,E x B,Bq0];show h (s.1&&(R (c x)).2.2,XD ((s.2.1:Int)+((R (c x)).1:Int)),(if((R (c x)).2.1:Int)>(s.2.2:Int) then((R (c x)).2.1:Int) else(s.2.2:Int)),XD ((k:Int)+1))=_;rw[ZK5 Vb,Zwq,Ja Vb];have:=ih (Zcd s (R (c x))) ⟨by simp only[Zcd];omega,by simp only[Zcd];omega⟩;simp only[Zcd]at this;rw[this];rfl
def nmW(g b:Z)(s:Y):Z:=g&&(bif b then Xt s else decide (s=E0))
def ZNN{F:Nat}(l:10000000000000000000<=F){s:Y}(h:s.size<=BB)(g b:Z):gd g (ZlT F s b) default=some (nmW g b s):=by rw[ZLK l h];cases g<;>rfl
def ZOK(e:Zf)(v:Nat)(hv:v=(if 3<=e.op/\e.op<=7 then 2 else 0)):(((((((decide (e.op >=1))&&(decide (e.op<=7)))&&nmW ((decide (e.op >=1))&&(decide (e.op<=7))) (e.op==2) e.qG)&&((e.qQ.length:Int)==(v:Int)))&&((e.op==1)||(e.n==0)))&&(decide (e.n >=(-1000000000))))&&(decide (e.n<=1000000000)))=Um e:=by
 have⟨op,n,tx,ks⟩:=e;dsimp only at hv ⊢;rw[Zaf];have l:op=1\/op=2\/op=3\/op=4\/op=5\/op=6\/op=7\/op<1\/7<op:=Vb
 have r:∀X:Z,((X&&(n==0))&&decide (n >=-1000000000)&&decide (n<=1000000000))=(X&&(n==0)):=fun X=>by
  by_cases h:n=0;.subst h;simp
  have:(n==0)=false:=by simpa using h
  rw[this];simp
 rcases l with rfl|rfl|rfl|rfl|rfl|rfl|rfl|l
 .rw[if_neg Vb]at hv;subst hv;unfold Um nmW;simp only[Int.reduceBEq,Cq1,Cq0,Bool.true_or,Bool.and_true];have p:(decide ((1:Int) >=1)&&decide ((1:Int)<=7))=true:=by decide
  rw[p];cases decide (n >=-1000000000)<;>cases decide (n<=1000000000)<;>cases decide (tx=E0)<;>cases ks.length==0<;>rfl
 .rw[if_neg Vb]at hv;subst hv;unfold Um nmW;simp only[Int.reduceBEq,Cq1,Cq0,GX];have p:(decide ((2:Int) >=1)&&decide ((2:Int)<=7))=true:=by decide
  rw[p,r];cases Xt tx<;>cases n==0<;>cases ks.length==0<;>rfl
 all_goals first
  | (rw[if_pos Vb]at hv;subst hv
     unfold Um nmW;simp only[Int.reduceBEq,Cq1,Cq0,GX];rw[r];simp only[ge_iff_le,Int.reduceLE,decide_true,Bool.and_self,Gv];cases decide (tx=E0)<;>cases n==0<;>cases ks.length==2<;>rfl)
  | (have q:(decide (op >=1)&&decide (op<=7))=false:=by
      rcases l with l|l
      .rw[decide_eq_false (show ¬ op >=1 by omega)];rfl
      rw[decide_eq_false (show ¬ op<=7 by omega)];simp
     have y:(op==1)=false:=by simp;omega
     have x:(op==2)=false:=by simp;omega
     have t:(decide (op >=3)&&decide (op<=7))=false:=by
      rcases l with l|l
      .rw[decide_eq_false (show ¬ op >=3 by omega)];rfl
      rw[decide_eq_false (show ¬ op<=7 by omega)];simp
     unfold Um;rw[q,y,x,t];rfl)
def YP{e x:Zf}(h:x∈e.qQ):Part.ex x∈ZP (.ex e):=Gs h
def JE{t:Term}{x:Zf}(h:x∈t.args):Part.ex x∈ZP (.pr t):=GC _ (GC _ (Gs h))
def XR{t:Term}{x:Za}(h:x∈t.qJ):Part.cl x∈ZP (.pr t):=GC _ (Gu _ (Gs h))
def XB{t x:Term}(h:x∈t.qQ):Part.pr x∈ZP (.pr t):=Gu _ (Gs h)
def Xn{c x:Za}(h:x∈c.qJ):Part.cl x∈ZP (.cl c):=GC _ (Gs h)
def YU{c:Za}{x:Term}(h:x∈c.qQ):Part.pr x∈ZP (.cl c):=Gu _ (Gs h)
def ZHC(s:Z×Nat×Nat)(h:s.2.2<=1000000000):(some ((s.2.1:Int),XD ((s.2.2:Int)+1),s.1):O (Int×Int×Z))=some (out (ZuB s)):=by rw[Ja Vb];rfl
def ZIl{F:Nat}(y:10000000000000000000<=F):∀n e,Sm (.ex e)->(pre (.ex e)).length<=n->∀Fr,n<=Fr->loop Fr (ZgQ F) e=some (out (R (.ex e))):=by
 intro n
 induction n with|zero=>intro e l hn;have:=Xb (.ex e);omega|succ n ih=>
   intro e l hn Fr C;obtain⟨G,rfl⟩:∃G,Fr=G+1:=⟨Fr-1,by omega⟩;rw[Z7];have t:=l.loc;have r:=Jr (.ex e);have q:=l.1
   have j:∀v:Nat,v=(if 3<=e.op/\e.op<=7 then 2 else 0)->(Zh8 F e (loop G (ZgQ F))) (v:Int)=some (out (R (.ex e))):=by
    intro v hv;unfold Zh8;rw[ZNN y t.1,Bq0,ZOK e v hv,ZVQ];show _=some (out (bif Um e then _ else _));cases B:Um e;.rfl
    simp only[J0,Cq0,Cq1]
    have:=ZLO (body:=Zh9 e (loop G (ZgQ F))) e.qQ .ex (loop G (ZgQ F)) (fun s=>some (out (ZuB s))) t.2 Vc (fun x p=>ih x (l.kid (YP p)) (by have:=Yv (YP p);omega) G Vb)
     (fun b n d i A=>by simp only[Zh9,Yi,Cq0]) (fun s A _ h2=>by simp only[Zh9,Yi,Cq0];exact ZHC s h2) y (true,1,0) ⟨by show 1+((ZP (.ex e)).flatMap pre).length<=_;unfold BS at q;omega,GH _⟩ (fun x p=>(l.kid (YP p)).1)
    show loop F (Zh9 e (loop G (ZgQ F))) (true,((1:Nat):Int),((0:Nat):Int),0)=_;rw[this];show some (out (ZuB ((e.qQ.map fun x=>R (.ex x)).foldl Zcd (true,1,0))))=some (out (ZuB (((e.qQ.map .ex).map R).foldl Zcd (true,1,0))));rw[Gf];rfl
   unfold ZgQ;by_cases h:3<=e.op/\e.op<=7;.rw[decide_eq_true (show e.op >=3 from h.1),decide_eq_true h.2];exact j 2 (by rw[if_pos h])
   have:(decide (e.op >=3)&&decide (e.op<=7))=false:=by
    rw[GS,Ne,Ba0,decide_eq_true_iff,decide_eq_true_iff];exact h
   rw[this];exact j 0 (by rw[if_neg h])
def ZVt{p:Type}{b:Nat}{l:U p}{x:p}(h:l.length<=4000000)(q:b<=1000):app b l [x]=some (l++[x]):=by
 refine Zmi ?_;have:(2*(l.length + [x].length)+1000)*b<=8001002*1000:=Nat.mul_le_mul (by simp;omega) q;have e:(2:Nat) ^ 47=140737488355328:=by decide
 rw[e];omega
def Zgs{r p:Type}{body:U p×Int->(U p×Int->O (U p))->O (U p)}(l:U r)(c:r->p)(fin:U p->O (U p))(A:l.length<=BS)(b:Nat)(D:b<=1000)
 (h:∀s (k:Int) q,body (s,k) q=bif decide (k<(l.length:Int)) then(Yl l k).bind fun x=>(app b s [c x]).bind fun z=>q (z,XD (k+1)) else fin s) {F:Nat} (I:10000000000000000000<=F) (s:U p) (G:s.length<=2500000):loop F body (s,0)=fin (s++l.map c):=by
 unfold BS at A;refine Yw (fun(k:Nat)(s:U p)=>(s,(k:Int))) l (fun rest s=>s.length+rest.length<=3600000) (fun rest s=>fin (s++rest.map c)) ?_ ?_ Vb s Vb;.intro s q _;rw[h,Yi,Cq0];simp
 intro k x rest s q E B C y ih;have t:s.length+rest.length+1<=3600000:=by have:=y;simp only[Kx]at this;omega
 show body (s,(k:Int)) q=_;rw[h,Yc B,Cq1,C,Bq0,ZVt Vb D,Bq0,Ja Vb,ih _ (by simp;omega)];simp
def Zoa{F:Nat}(q:10000000000000000000<=F)(s:U Part)(h:s.length<=2500000)(l:U Za)(p:l.length<=BS):ZnU F s l=some (s++l.map .cl):=
 Zgs (body:=Zpx l) l .cl some p 16 Vb (fun s k r=>rfl) q s h
def ZsQ{F:Nat}(q:10000000000000000000<=F)(s:U Part)(h:s.length<=2500000)(l:U Term)(p:l.length<=BS):ZnV F s l=some (s++l.map .pr):=
 Zgs (body:=Zpy l) l .pr some p 16 Vb (fun s k r=>rfl) q s h
def parts_eq{F:Nat}(l:10000000000000000000<=F)(p:Part)(h:(ZP p).length<=BS):WW F p=some (ZP p):=by
 unfold WW;cases p with
 | pr t=>
   simp only[ZP,Ks,G5]at h;have A:t.args.length<=BS:=Vb;have q:t.qJ.length<=BS:=Vb;have r:t.qQ.length<=BS:=Vb;have C:=Zoa l (t.args.map Part.ex) (by unfold BS at A;simp;omega) t.qJ q;have B:=ZsQ l (t.args.map Part.ex++t.qJ.map Part.cl) (by unfold BS at A q;simp;omega) t.qQ r;have:=Zgs (body:=Zpz F ⟨t⟩) t.args .ex (fun s=>(ZnU F s t.qJ).bind fun x=>(ZnV F x t.qQ).bind fun y=>some y) A 16 Vb (fun s k D=>rfl) l [] (by simp);show Zsi F ⟨t⟩=_;unfold Zsi;rw[this,Jn,C,Bq0,B];rfl
 | ex e=>
   exact Zgs (body:=Zpw ⟨e⟩) e.qQ .ex some (by simpa[ZP]using h) 16 Vb (fun s k D=>rfl) l [] (by simp)
 | cl c=>
   simp only[ZP,Ks,G5]at h;have q:c.qJ.length<=BS:=Vb;have r:c.qQ.length<=BS:=Vb;have C:=Zoa l [] (by simp) c.qJ q;have B:=ZsQ l ([]++c.qJ.map Part.cl) (by unfold BS at q;simp;omega) c.qQ r;show Zsh F ⟨c⟩=_;unfold Zsh;rw[C,Bq0,B];rfl
def Zwu{p:Part}(h:Sm p):(ZP p).length<=BS:=by have:=Wp p;have:=h.1;omega
def ZAk{p:Part}(h:Q6 p=true)(B:Loc p):(ZP p).length<=100:=by
 cases p with
 | pr t=>
   have h:ZeM t=true:=h;have e:(ZP (.pr t)).length=t.args.length+t.qJ.length+t.qQ.length:=by simp[ZP,GO]
   rw[e];unfold ZeM at h;rw[Ba0]at h;replace h:=h.1
   have sz:∀{a d k:Nat},szs t a d k=true->t.args.length=a/\t.qJ.length=d/\t.qQ.length=k:=fun h=>by
    unfold szs at h;simp only[Ba0,beq_iff_eq]at h;exact⟨h.1.1,h.1.2,h.2⟩
   cases l:(t.op==1||t.op==7)<;>rw[l]at h;case true=>have:=sz h;omega
   cases r:t.op==2<;>rw[r]at h;case true=>simp only[Cq1,Cq0,Ba0,decide_eq_true_eq]at h;have:=sz h.2;omega
   cases A:t.op==3<;>rw[A]at h;case true=>have:=sz h;omega
   cases y:t.op==4<;>rw[y]at h;case true=>simp only[Cq1,Cq0,Ba0,decide_eq_true_eq]at h;have:=sz h.2;omega
   cases x:t.op==5<;>rw[x]at h;case true=>have:=sz h;omega
   simp only[Cq0,Ba0]at h;have:=sz h.2;omega
 | ex e=>
   have h:Um e=true:=h;have q:(ZP (.ex e)).length=e.qQ.length:=by simp[ZP]
   rw[q];unfold Um at h;cases l:e.op==1<;>rw[l]at h;case true=>simp only[Cq1,Ba0,beq_iff_eq]at h;omega
   cases r:e.op==2<;>rw[r]at h;case true=>simp only[Cq1,Cq0,Ba0,beq_iff_eq]at h;omega
   simp only[Cq0,Ba0,beq_iff_eq]at h;omega
 | cl c=>
   have h:K7 c=true:=h;have q:(ZP (.cl c)).length=c.qJ.length+c.qQ.length:=by simp[ZP]
   rw[q];unfold K7 at h;rw[Ba0,beq_iff_eq]at h;have⟨h1,h⟩:=h;cases l:c.qX==2<;>rw[l]at h;.simp only[Cq0,Ba0,beq_iff_eq,decide_eq_true_eq]at h;omega
   simp only[Cq1,Ba0,beq_iff_eq,decide_eq_true_eq]at h;omega
def ZIC{F:Nat}(E:10000000000000000000<=F):∀n p,Sm p->(pre p).length<=n->∀Fr,n<=Fr->loop Fr (ZlC F) p=some (dep p:Int):=by
 intro n
 induction n with|zero=>intro p q hn;have:=Xb p;omega|succ n ih=>
   intro p q hn Fr D;obtain⟨G,rfl⟩:∃G,Fr=G+1:=⟨Fr-1,by omega⟩;rw[Z7];have A:=Zwu q;have l:∀k∈ZP p,loop G (ZlC F) k=some (dep k:Int):=fun k r=>ih k (q.kid r) (by have:=Yv r;omega) G Vb;generalize loop G (ZlC F)=nx1 at l;unfold ZlC;rw[parts_eq E p A,Bq0];unfold BS at A;have:=Yw (body:=ZlD nx1 (ZP p)) (fun(k:Nat)(s:Nat)=>((s:Int),(k:Int))) (ZP p) (fun _ s=>s<=BS) (fun rest s=>some (((max s (Zft (rest.map dep))+1:Nat)):Int)) (F:=F) ?_ ?_ Vb 0 (GH _);.rw[ZpN];rw[Nat.zero_max]at this;exact this
   .intro s B h;unfold BS at h;simp only[ZlD,Yi,Cq0];rw[Ja Vb];simp[Zft]
   intro k x rest s B y r C h ih;unfold BS at h;simp only[ZlD,Yc r,Cq1,C,Bq0,l x y];rw[Zwq,Ja Vb];have I:=ZO2 x;have t:=(q.kid y).1;have:=ih (max s (dep x)) (by unfold BS at t ⊢;omega);rw[this,G7,Zel,Nat.max_assoc]
def V1(m:Nat)(l:U Part):PR (Z×Int):=bif decide (m+l.length<=60)&&l.all Q6 then .ok (true,((m+l.length:Nat):Int)) else .Ym 2
def ZXq(n:Nat):decide ((n:Int)<=60)=decide (n<=60):=by
 by_cases z:n<=60;.rw[decide_eq_true z,decide_eq_true Vb]
 rw[decide_eq_false z,decide_eq_false Vb]
def ZRc{F:Nat}(I:10000000000000000000<=F):∀n p,Lo p->(pre p).length<=n->∀Fr,n<=Fr->∀m:Nat,m<=60->loop Fr (ZdB F) (p,(m:Int))=some (V1 m (pre p)):=by
 intro n
 induction n with|zero=>intro p y hn;have:=Xb p;omega|succ n ih=>
   intro p y hn Fr P m Q;obtain⟨G,rfl⟩:∃G,Fr=G+1:=⟨Fr-1,by omega⟩;rw[Z7];have r:∀k∈ZP p,∀m:Nat,m<=60->loop G (ZdB F) (k,(m:Int))=some (V1 m (pre k)):=fun k A=>ih k (y.kid A) (by have:=Yv A;omega) G Vb;generalize loop G (ZdB F)=nx1 at r;unfold ZdB;dsimp only;rw[Ja Vb,ZXq,JL,Bq0,Zgd,ZAl I p y.loc,Bq0,Zgd];by_cases q:m+1<=60
   .rw[decide_eq_true q,Cq1];cases h:Q6 p;.show some (PR.Ym 2)=_;rw[pre_eq];unfold V1;simp[h]
    simp only[Cq1,J0,Cq0];have S:=ZAk h y.loc;rw[parts_eq I p (by unfold BS;omega),Bq0];have:=Yw (body:=ZlA nx1 (ZP p)) (fun(k:Nat)(s:Nat)=>((k:Int),(s:Int))) (ZP p) (fun _ s=>s<=60) (fun rest s=>some (V1 s (rest.flatMap pre))) (F:=F) ?_ ?_ Vb (m+1) q
    .have e:V1 (m+1) ((ZP p).flatMap pre)=V1 m (pre p):=by
      rw[pre_eq p];unfold V1;simp only[Kx,List.all_cons,h,Gv];rw[show m+1+((ZP p).flatMap pre).length=m+(((ZP p).flatMap pre).length+1) by omega]
     rw[<-e];exact this
    .intro s E l;simp only[ZlA,Yi,Cq0];unfold V1;rw[decide_eq_true (show s+(([]:U Part).flatMap pre).length<=60 by simpa using l)];simp
    intro k x rest s E K A L l ih;simp only[ZlA,Yc A,Cq1,L,Bq0,r x K s l];rw[Ja Vb,Kf];by_cases C:s+(pre x).length<=60
    .cases B:(pre x).all Q6
     .have t:V1 s (pre x)=.Ym 2:=by unfold V1;rw[B,Bool.and_false];rfl
      have D:V1 s (pre x++rest.flatMap pre)=.Ym 2:=by unfold V1;rw[List.all_append,B,Bool.false_and,Bool.and_false];rfl
      rw[t,D,Zv7]
     have t:V1 s (pre x)=.ok (true,((s+(pre x).length:Nat):Int)):=by unfold V1;rw[B,decide_eq_true C];rfl
     rw[t];show E (((k+1:Nat):Int),((s+(pre x).length:Nat):Int))=_;rw[ih (s+(pre x).length) C];unfold V1;rw[List.all_append,B,Ks,Gv,GO]
    have t:V1 s (pre x)=.Ym 2:=by unfold V1;rw[decide_eq_false C];rfl
    have D:V1 s (pre x++rest.flatMap pre)=.Ym 2:=by unfold V1;rw[Ks,decide_eq_false Vb];rfl
    rw[t,D,Zv7]
   rw[decide_eq_false q,Cq0,pre_eq];unfold V1;rw[Kx,decide_eq_false Vb];rfl
def Zjp(A:U Za->Z):Part->Z
 | .pr t=>!(t.op==4)||A t.qJ
 | _=>true
def ZRb{F:Nat}(P:10000000000000000000<=F)(A:U Za->Z):∀n p,Sm p->(∀t,Part.pr t∈pre p->t.op=4->ZdH F t.qJ=some (bif A t.qJ then .ok () else .Ym 2))->(pre p).length<=n->∀Fr,n<=Fr->loop Fr (ZfD F) p=some (bif(pre p).all (Zjp A) then .ok true else .Ym 2):=by
 intro n
 induction n with|zero=>intro p y B hn;have:=Xb p;omega|succ n ih=>
   intro p y B hn Fr L;obtain⟨G,rfl⟩:∃G,Fr=G+1:=⟨Fr-1,by omega⟩;rw[Z7];have C:=Zwu y;have l:∀k∈ZP p,loop G (ZfD F) k=some (bif(pre k).all (Zjp A) then .ok true else .Ym 2):=fun k h=>ih k (y.kid h) (fun t I=>B t (Xi h I)) (by have:=Yv h;omega) G Vb;generalize loop G (ZfD F)=nx1 at l
   have q:(ZaE F p nx1) ()=some (bif((ZP p).flatMap pre).all (Zjp A) then .ok true else .Ym 2):=by
    unfold ZaE;simp only[J0,Cq0];rw[parts_eq P p C,Bq0];unfold BS at C;refine Yw (body:=ZlB nx1 (ZP p)) (fun(k:Nat)(_:Unit)=>(k:Int)) (ZP p) (fun _ _=>True) (fun rest _=>some (bif(rest.flatMap pre).all (Zjp A) then .ok true else .Ym 2)) (F:=F) ?_ ?_ Vb () trivial;.intro s D _;simp only[ZlB,Yi,Cq0];rfl
    intro k x rest s D E h K _ ih;simp only[ZlB,Yc h,Cq1,K,Bq0,l x E];rw[Ja Vb,Kf,List.all_append];cases (pre x).all (Zjp A);.rfl
    exact ih () trivial
   rw[pre_eq p,List.all_cons];unfold ZfD;cases p with
   | pr t=>
     show(bif(true&&(t.op==4)) then _ else _)=_;rw[Gv];by_cases r:t.op=4
     .rw[B t (Xl _) r,r];simp only[Int.reduceBEq,Cq1,Bq0,Zjp,r,J0,GX];cases A t.qJ;.rfl
      show(ZaE F (.pr t) nx1) ()=_;rw[q];rfl
     have:(t.op==4)=false:=by simpa using r
     simp only[this,Cq0,Zjp,GM,Bool.true_or,Gv];exact q
   | ex e=>exact q
   | cl c=>exact q
def XK(A:U Za->Z)(p:Part):Z:=decide ((pre p).length<=60)&&(pre p).all Q6&&decide (dep p<=12)&&(pre p).all (Zjp A)
def ZXr(n:Nat):decide ((n:Int)<=12)=decide (n<=12):=by
 by_cases z:n<=12;.rw[decide_eq_true z,decide_eq_true Vb]
 rw[decide_eq_false z,decide_eq_false Vb]
def ZnR{F:Nat}(q:10000000000000000000<=F)(A:U Za->Z)(p:Part)(h:Lo p)(y:(pre p).length<=F)(B:(pre p).length<=60->(pre p).all Q6=true->∀t,Part.pr t∈pre p->t.op=4->ZdH F t.qJ=some (bif A t.qJ then .ok () else .Ym 2)):ZyQ F p=some (bif XK A p then .ok () else .Ym 2):=by
 unfold ZyQ XK;have h1:=ZRc q _ p h Vc F Vb 0 Vb;have r:loop F (ZdB F) (p,0)=some (V1 0 (pre p)):=h1;rw[r,Bq0];unfold V1;rw[Gc];by_cases l:(pre p).length<=60
 .cases x:(pre p).all Q6;.rw[Bool.and_false];simp[JN]
  rw[decide_eq_true l];have h:Sm p:=⟨by unfold BS;omega,h⟩;show(Zlz F p) ((pre p).length:Int)=_;unfold Zlz;rw[show ZDu F p=some (dep p:Int) from ZIC q _ p h Vc F Vb,Bq0,ZXr,JL,Bq0,Zgd,ZRb q A _ p h (B l x) Vc F Vb,Bq0];cases decide (dep p<=12)<;>cases (pre p).all (Zjp A)<;>rfl
 rw[decide_eq_false l];simp[JN]
def Zu1{F:Nat}(p:10000000000000000000<=F)(A:U Za->Z)(t:Term)(l:Lo (.pr t))(h:(pre (.pr t)).length<=F)(q:(pre (.pr t)).length<=60->(pre (.pr t)).all Q6=true->∀x,Part.pr x∈pre (.pr t)->x.op=4->ZdH F x.qJ=some (bif A x.qJ then .ok () else .Ym 2)):Zcz F t=some (bif XK A (.pr t) then 0 else 2):=by unfold Zcz;rw[ZnR p A _ l h q,Bq0];cases XK A (.pr t)<;>rfl
def Zm1{F:Nat}(p:10000000000000000000<=F)(A:U Za->Z)(e:Zf)(l:Lo (.ex e))(h:(pre (.ex e)).length<=F)(q:(pre (.ex e)).length<=60->(pre (.ex e)).all Q6=true->∀x,Part.pr x∈pre (.ex e)->x.op=4->ZdH F x.qJ=some (bif A x.qJ then .ok () else .Ym 2)):ZuJ F e=some (bif XK A (.ex e) then 0 else 2):=by unfold ZuJ;rw[ZnR p A _ l h q,Bq0];cases XK A (.ex e)<;>rfl
def Zfn:O Nat->Int
 | some a=>a
 | none=>-1
def dec(o:O Nat)(n:Nat):O Nat:=match o with|some a=>if n<=a then some (a-n) else none|none=>none
def ZD8(o:O Nat):dec o 0=o:=by cases o<;>simp[dec]
def Zxp(o:O Nat)(a b:Nat):dec (dec o a) b=dec o (a+b):=by
 cases o with|none=>rfl|some x=>
   show dec (if a<=x then some (x-a) else none) b=(if a+b<=x then some (x-(a+b)) else none);by_cases h:a<=x
   .rw[if_pos h];show(if b<=x-a then some (x-a-b) else none)=_;by_cases h2:b<=x-a;.rw[if_pos h2,if_pos Vb,Nat.sub_sub]
    rw[if_neg h2,if_neg Vb]
   rw[if_neg h,if_neg Vb];rfl
def ZGh(o:O Nat):decide (Zfn o >=0)=o.isSome:=by cases o with|none=>rfl|some a=>exact decide_eq_true (by show(a:Int) >=0;omega)
def ZZN(a:Nat)(h:a<=1000):XD ((a:Int)-1)=Zfn (dec (some a) 1):=by
 by_cases l:1<=a;.rw[ZcN Vb Vb];simp only[dec,if_pos l,Zfn];omega
 obtain rfl:a=0:=Vb;rw[ZcN Vb Vb];rfl
def ZD9{o:O Nat}{n a:Nat}(h:dec o n=some a){b:Nat}(p:∀x,o=some x->x<=b):a<=b:=by
 cases o with|none=>cases h|some x=>
   have l:(if n<=x then some (x-n) else none)=some a:=h;have:=p x rfl;by_cases hn:n<=x;.rw[if_pos hn]at l;cases l;omega
   rw[if_neg hn]at l;cases l
def ZA4{p β:Type}{body:Int×Int->(Int×Int->O β)->O β}(l:U p)(c:p->Part)(g:p->Int->O Int)(fin:O Nat->O β)(C:l.length<=BB)
 (E:∀x∈l,∀a:Nat,a<=1000->g x (a:Int)=some (Zfn (dec (some a) (pre (c x)).length)))
 (G:∀(i v:Int) h,body (i,v) h=bif(decide (i<(l.length:Int))&&decide (v >=0)) then(Yl l i).bind fun x=>(g x v).bind fun y=>h (XD (i+1),y) else body ((l.length:Int),v) h)
 (he:∀o h,body ((l.length:Int),Zfn o) h=fin o) {F:Nat} (I:10000000000000000000<=F) (o:O Nat) (B:∀x,o=some x->x<=1000):loop F body (0,Zfn o)=fin (dec o ((l.map c).flatMap pre).length):=by
 unfold BB at C;refine Yw (fun(k:Nat)(o:O Nat)=>((k:Int),Zfn o)) l (fun _ o=>∀x,o=some x->x<=1000) (fun rest o=>fin (dec o ((rest.map c).flatMap pre).length)) ?_ ?_ Vb o B;.intro s h _;rw[he];simp[ZD8]
 intro k x rest s h A D q r ih;show body ((k:Int),Zfn s) h=_;rw[G,Yc D,ZGh,Gv];cases s with
 | none=>
   show body ((l.length:Int),Zfn none) h=_;rw[he];rfl
 | some a=>
   show((Yl l (k:Int)).bind fun x=>_)=_;rw[q,Bq0];show(g x (a:Int)).bind _=_;rw[E x A a (r a rfl),Bq0,Ja Vb,ih _ (fun y t=>ZD9 t r),Zxp];simp
def ZqN{F:Nat}(B:10000000000000000000<=F):∀n e,Lo (.ex e)->(pre (.ex e)).length<=n->∀Fr,n<=Fr->∀a:Nat,a<=1000->loop Fr (Zlx F) (e,(a:Int))=some (Zfn (dec (some a) (pre (.ex e)).length)):=by
 intro n
 induction n with|zero=>intro e q hn;have:=Xb (.ex e);omega|succ n ih=>
   intro e q hn Fr A a p;obtain⟨G,rfl⟩:∃G,Fr=G+1:=⟨Fr-1,by omega⟩;rw[Z7];have h:∀x∈e.qQ,∀a:Nat,a<=1000->(fun x v=>loop G (Zlx F) (x,v)) x (a:Int)=some (Zfn (dec (some a) (pre (.ex x)).length)):=fun x l a p=>ih x (q.kid (YP l)) (by have:=Yv (YP l);omega) G Vb a p;generalize loop G (Zlx F)=nx1 at h;unfold Zlx;dsimp only
   rw[ZZN a p,ZA4 (body:=Zly e nx1) e.qQ .ex (fun x v=>nx1 (x,v)) (fun o=>some (Zfn o)) q.loc.2 h
    (fun i v r=>by simp only[Zly,Yi,Bool.false_and,Cq0]) (fun o r=>by simp only[Zly,Yi,Bool.false_and,Cq0]) B _ (fun x l=>ZD9 l (fun y t=>by cases t;exact p)),Zxp]
   rw[Jr];show some (Zfn (dec (some a) (1+((ZP (.ex e)).flatMap pre).length)))=_;rw[Nat.add_comm]
def ZZe(n:Nat):decide ((n:Int)>12)= !decide (n<=12):=by
 by_cases z:n<=12;.rw[decide_eq_true z,decide_eq_false Vb];rfl
 rw[decide_eq_false z,decide_eq_true Vb];rfl
def ZpQ{F:Nat}(C:10000000000000000000<=F)(A:U Za->Z)(e:Zf)(B:Lo (.ex e))(E:(pre (.ex e)).length<=F):Zsg F e=some (bif XK A (.ex e) then 0 else 2):=by
 unfold Zsg;have h1:ZOd F e 60=_:=ZqN C _ e B Vc F Vb 60 Vb
 have t:(pre (.ex e)).all (Zjp A)=true:=by
  have:∀p:Part,∀e,p=.ex e->(pre p).all (Zjp A)=true:=by
   intro p
   induction p using Wm with|h p q=>
     rintro e rfl;rw[pre_eq,List.all_cons,Ba0];refine⟨rfl,?_⟩;rw[Q2];intro y r;have⟨k,hk,r⟩:=Q1.1 r;obtain⟨x,G,rfl⟩:=JT.1 hk;exact Q2.1 (q _ hk x rfl) y r
  exact this _ e rfl
 rw[h1,Bq0];unfold XK;rw[t,Bool.and_true];by_cases l:(pre (.ex e)).length<=60
 .have:decide (Zfn (dec (some 60) (pre (.ex e)).length)<0)=false:=by
   have:dec (some 60) (pre (.ex e)).length=some (60-(pre (.ex e)).length):=by show(if _ then _ else _)=_;rw[if_pos l]
   rw[this];exact decide_eq_false (by show ¬ ((60-(pre (.ex e)).length:Nat):Int)<0;omega)
  have h2:ZHP F e=_:=ZIl C _ e (⟨by unfold BS;omega,B⟩:Sm (.ex e)) Vc F Vb;rw[this,Cq0,h2,Bq0,decide_eq_true l];have⟨r1,r2,_,_⟩:=ZKI (.ex e);simp only[out,r1];cases D:(pre (.ex e)).all Q6;.rfl
  have⟨_,r3⟩:=r2 D;rw[r3,ZZe];cases decide (dep (.ex e)<=12)<;>rfl
 have:decide (Zfn (dec (some 60) (pre (.ex e)).length)<0)=true:=by
  have:dec (some 60) (pre (.ex e)).length=none:=by show(if _ then _ else _)=_;rw[if_neg l]
  rw[this];rfl
 rw[this,decide_eq_false l];rfl
abbrev Spt:=Y×U Za
def Qa(c:Za):U Spt:=bif c.qX==2 then(c.qG,c.qJ)::c.qJ.attach.flatMap (fun d=>Qa d.1) else []
termination_by SizeOf.sizeOf c
decreasing_by
 have⟨fm,tx,js,ds,ks⟩:=c;have:=List.sizeOf_lt_of_mem d.2;simp only[Za.mk.sizeOf_spec]at this ⊢;omega
def Wj(c:Za):Qa c=bif c.qX==2 then(c.qG,c.qJ)::c.qJ.flatMap Qa else []:=by rw[Qa,U3 c.qJ Qa]
def ZaT(l:U Za):U Y:=(l.flatMap Qa).map (·.1)
def ev(a:Nat)(m:ZN):Y×Z4:=(m.qG,Z4.mk (a:Int) (m.names.length:Int))
def jns(l:U Za):U ZN:=l.flatMap (·.qV)
def evJ:Nat->U Spt->U (Y×Z4)
 | _,[]=>[]
 | a,sp::r=>(jns sp.2).map (ev a)++evJ (a+1) r
def upd(f:Y->O Z4)(e:Y×Z4):Y->O Z4:=fun x=>if x=e.1 then some e.2 else f x
def okE(f:Y->O Z4)(e:Y×Z4):Z:= !(f e.1).isSome||KA ((f e.1).getD ⟨0,0⟩) e.2
def JW(f:Y->O Z4):U (Y×Z4)->Z
 | []=>true
 | e::r=>okE f e&&JW (upd f e) r
def ZoN(h:Y->Z):U Y->Z
 | []=>true
 | x::xs=>!h x&&ZoN (fun s=>h s||decide (s=x)) xs
def Zoh(a b:U (Y×Z4)):∀f,JW f (a++b)=(JW f a&&JW (a.foldl upd f) b):=by induction a with|nil=>intro f;simp[JW]|cons e a ih=>intro f;simp only[Gp,JW,ih,Gm,Bool.and_assoc]
def eqS(x y:Z4):KA x y=true↔x=y:=by have⟨a,b⟩:=x;have⟨c,d⟩:=y;simp[KA]
def AgW(l:U Za):Z:=ZoN (fun _=>false) (ZaT l)&&JW (fun _=>none) (evJ 0 ((E0,l)::l.flatMap Qa)) && !((evJ 0 ((E0,l)::l.flatMap Qa)).any fun e=>decide (e.1∈ZaT l))
def OkC(c:Za):Prop:=c.qV.length<=3/\(c.qX=1\/c.qX=2/\c.qV=[])
def OkS(sp:Spt):Prop:=sp.2.length<=60/\∀c∈sp.2,OkC c
def Zay{c:Za}(h:K7 c=true):OkC c:=by
 unfold K7 at h;rw[Ba0]at h;have⟨_,h⟩:=h;by_cases l:c.qX=2;.rw[l]at h;simp only[Int.reduceBEq,Cq1,Ba0,beq_iff_eq,decide_eq_true_eq]at h;have:c.qV=[]:=G8 h.1.2;exact⟨by rw[this];simp,.inr ⟨l,this⟩⟩
 have:(c.qX==2)=false:=by simpa using l
 rw[this]at h;simp only[Cq0,Ba0,beq_iff_eq,decide_eq_true_eq]at h;exact⟨h.1.2,.inl h.1.1.1.1.1⟩
def ZGe:∀n (c:Za),(pre (.cl c)).length<=n->(Qa c).length<=(pre (.cl c)).length:=by
 intro n
 induction n with|zero=>intro c h;have:=Xb (.cl c);omega|succ n ih=>
   intro c hn;rw[Wj];have t:=Jr (.cl c)
   have h1:((ZP (.cl c)).flatMap pre).length=((c.qJ.map Part.cl).flatMap pre).length+((c.qQ.map Part.pr).flatMap pre).length:=by
    show((c.qJ.map Part.cl++c.qQ.map Part.pr).flatMap pre).length=_;rw[Gk,Ks]
   have:∀l:U Za,(∀d∈l,(Qa d).length<=(pre (.cl d)).length)->(l.flatMap Qa).length<=((l.map Part.cl).flatMap pre).length:=by
    intro l
    induction l with|nil=>simp|cons d l p=>
      intro h;have a:=h d (by simp);have b:=p fun x q=>h x (Kd _ q);simp only[Kf,G7,Ks];omega
   have h2:=this c.qJ fun d r=>ih d (by have:=Yv (Xn r);omega);cases c.qX==2;.show 0<=_;omega
   show(c.qJ.flatMap Qa).length+1<=_;omega
def ZAy(l:U Za):(l.flatMap Qa).length<=((l.map Part.cl).flatMap pre).length:=by induction l with|nil=>simp|cons d l h=>simp only[Kf,G7,Ks];have:=ZGe _ d Vc;omega
def Zkv{c:Za}{l:U Za}(h:c∈l):(Qa c).length<=(l.flatMap Qa).length:=by
 induction l with|nil=>cases h|cons x l ih=>
   rw[Kf,Ks];rcases K2.1 h with rfl|h
   .omega
   have:=ih h;omega
def Zi4(l:U Za):l.length<=((l.map Part.cl).flatMap pre).length:=by have:=ZaY (l.map Part.cl);simpa using this
def ZGk:∀n (c:Za),(pre (.cl c)).length<=n->n<=60->(pre (.cl c)).all Q6=true->∀sp∈Qa c,OkS sp:=by
 intro n
 induction n with|zero=>intro c h;have:=Xb (.cl c);omega|succ n ih=>
   intro c hn A r sp l;rw[Wj]at l;cases t:c.qX==2;.rw[t]at l;cases l
   rw[t]at l;simp only[Cq1]at l
   have q:∀d∈c.qJ,(pre (.cl d)).all Q6=true:=fun d q=>by
    rw[Q2]at r ⊢;exact fun y x=>r y (Xi (Xn q) x)
   rcases K2.1 l with rfl|l
   .refine⟨?_,fun d p=>Zay ?_⟩;.have:=Wp (.cl c);simp only[ZP,Ks,G5]at this;show c.qJ.length<=60;omega
    exact Q2.1 (q d p) _ (Xl _)
   have⟨d,p,l⟩:=Q1.1 l;exact ih d (by have:=Yv (Xn p);omega) Vb (q d p) sp l
def Zt5{B σ β A:Type}{body:A->(A->O β)->O β}(r:Nat->σ->A)(l:U B)(Pre:Nat->U B->σ->Prop)(h:Nat->U B->σ->O β)
 (K:∀s y,Pre l.length [] s->body (r l.length s) y=h l.length [] s)
 (h1:∀(k:Nat) x rest s y,x∈l->k<l.length->Yl l (k:Int)=some x->Pre k (x::rest) s->(∀t,Pre (k+1) rest t->y (r (k+1) t)=h (k+1) rest t)->body (r k s) y=h k (x::rest) s) {F:Nat} (E:l.length<F) (s:σ) (q:Pre 0 l s):loop F body (r 0 s)=h 0 l s:=by
 have C:∀(d j F:Nat)(s:σ),j+d=l.length->d<F->Pre j (l.drop j) s->loop F body (r j s)=h j (l.drop j) s:=by
  intro d;induction d with
  | zero=>
    intro j F s I E q;obtain⟨F,rfl⟩:∃G,F=G+1:=⟨F-1,by omega⟩;obtain rfl:j=l.length:=Vb;rw[List.drop_length]at q ⊢;rw[Z7,K _ _ q]
  | succ d ih=>
    intro j F s I E q;obtain⟨F,rfl⟩:∃G,F=G+1:=⟨F-1,by omega⟩;have p:j<l.length:=Vb;rw[List.drop_eq_getElem_cons p]at q ⊢;rw[Z7];exact h1 j _ _ s _ (GE p) p (QN p) q fun t D=>ih (j+1) F t Vb Vb D
 have:=C l.length 0 F s Vb E (by simpa using q);simpa using this
abbrev MM:=U (Y×Z4)
abbrev MN:=U (Y×Z)
abbrev SS:=Nat×MM×MN
def Zcw:MM->U (Y×Z4)->O MM
 | m,[]=>some m
 | m,e::r=>bif okE (ZC m) e then Zcw (Yu m e.1 e.2) r else none
def Zrk(a b:U (Y×Z4)):∀m,Zcw m (a++b)=(Zcw m a).bind fun x=>Zcw x b:=by
 induction a with|nil=>intro m;rfl|cons e a ih=>
   intro m;simp only[Gp,Zcw];cases okE (ZC m) e;.rfl
   exact ih _
def ZeU(s:SS)(sp:Spt):O SS:=bif decide (0<s.1)&&has s.2.2 sp.1 then none else(Zcw s.2.1 ((jns sp.2).map (ev s.1))).map fun m=>(s.1+1,m,bif decide (0<s.1) then Yu s.2.2 sp.1 true else s.2.2)
def Zfm:SS->U Spt->O SS
 | s,[]=>some s
 | s,x::r=>(ZeU s x).bind fun s=>Zfm s r
def ZqR(a b:U Spt):∀s,Zfm s (a++b)=(Zfm s a).bind fun x=>Zfm x b:=by
 induction a with|nil=>intro m;rfl|cons e a ih=>
   intro s;simp only[Gp,Zfm];cases ZeU s e with|none=>rfl|some h=>exact ih _
def ZAd{s l:SS}{x:Spt}(h:ZeU s x=some l):l.1=s.1+1:=by
 unfold ZeU at h;cases p:(decide (0<s.1)&&has s.2.2 x.1) with|true=>rw[p]at h;cases h|false=>
   rw[p]at h;simp only[Cq0,Option.map_eq_some_iff]at h;obtain⟨m,_,rfl⟩:=h;rfl
def Zv0:∀{l:U Spt}{s p:SS},Zfm s l=some p->p.1=s.1+l.length
 | [],s,p,h=>by cases h;rfl
 | x::r,s,p,h=>by
   obtain⟨s1,h1,h2⟩:=bS (by exact h);have:=ZAd h1;have:=Zv0 h2;simp only[Kx];omega
def Zvq:O SS->PR (Z×Int×MM×MN)
 | some s=>.ok (true,(s.1:Int),s.2.1,s.2.2)
 | none=>.Ym 2
def Zue{F:Nat}(A:10000000000000000000<=F)(a:Nat)(i:Int)(l:Int×MM->O (PR (Z×Int×MM×MN)))(x:Za)(p:x.qV.length<=BB)(m:MM):
 loop F (Zg3 (a:Int) i l x) (0,m)=opt (Zcw m (x.qV.map (ev a))) (some (.Ym 2)) fun m=>l (XD (i+1),m):=by
 unfold BB at p;refine Yw (fun(k:Nat)(m:MM)=>((k:Int),m)) x.qV (fun _ _=>True) (fun rest m=>opt (Zcw m (rest.map (ev a))) (some (.Ym 2)) fun m=>l (XD (i+1),m)) ?_ ?_ Vb m trivial;.intro s h _;simp only[Zg3,Yi,Cq0];rfl
 intro j y rest s h t q r _ ih;simp only[Zg3,Yc q,Cq1,r,Bq0,ZAB,JL,Zgd];rw[Ja Vb];simp only[ih _ trivial,G7,Zcw,okE,ev];cases (!(ZC s y.qG).isSome||KA ((ZC s y.qG).getD ⟨0,0⟩) ⟨(a:Int),(y.names.length:Int)⟩)<;>rfl
def ZtO{F:Nat}(E:10000000000000000000<=F)(l h:U Za)(a:Nat)(G:a<=2000)(r:Y×(U Za)×Int×MM×MN->O (PR (Z×Int×MM×MN)))(q:MN)(B:h.length<=BB)(A:∀x∈h,x.qV.length<=BB)(m:MM):
 loop F (Zg4 F l (a:Int) r h q) (0,m)=opt (Zcw m ((jns h).map (ev a))) (some (.Ym 2)) fun m=>loop F (Zb0 l r) (0,((a+1:Nat):Int),m,q):=by
 unfold BB at B;refine Yw (fun(k:Nat)(m:MM)=>((k:Int),m)) h (fun _ _=>True) (fun rest m=>opt (Zcw m ((jns rest).map (ev a))) (some (.Ym 2)) fun m=>loop F (Zb0 l r) (0,((a+1:Nat):Int),m,q)) ?_ ?_ Vb m trivial;.intro s p _;simp only[Zg4,Yi,Cq0,J0];rw[Ja Vb];rfl
 intro j y rest s p t C D _ ih;simp only[Zg4,Yc C,Cq1,D,Bq0,Zue E a _ _ y (A y t)];rw[Ja Vb];simp only[ih _ trivial,jns,Kf,List.map_append,Zrk];cases Zcw s (y.qV.map (ev a))<;>rfl
def ZkR{l:U Za}(h:∀c∈l,OkC c):jns (l.filter fun c=>c.qX==1)=jns l:=by
 induction l with|nil=>rfl|cons c l ih=>
   have i:=ih fun d p=>h d (Kd _ p);obtain⟨_,h1|⟨h2,q⟩⟩:=h c (by simp);.rw[List.filter_cons_of_pos (by simp[h1])];unfold jns at i ⊢;rw[Kf,Kf,i]
   rw[List.filter_cons_of_neg (by simp[h2]),i];unfold jns;rw[Kf,q,Jn]
def Zzk{F:Nat}(hF:10000000000000000000<=F):∀n (q:Y) (l:U Za) (s:SS),(l.flatMap Qa).length<=n->OkS (q,l)->(∀sp∈l.flatMap Qa,OkS sp)->s.1+(l.flatMap Qa).length<=1000->∀Fr,n<Fr ->
 loop Fr (Za0 F) (q,l,(s.1:Int),s.2.1,s.2.2)=some (Zvq (Zfm s ((q,l)::l.flatMap Qa))):=by
 intro n
 induction n using Nat.strongRecOn with|_ n ih=>
   intro q l s hn K ZGN hs1 Fr hFr;obtain⟨G,rfl⟩:∃G,Fr=G+1:=⟨Fr-1,by omega⟩;rw[Z7]
   have C:∀c∈l,c.qX=2->∀s:SS,s.1+(Qa c).length<=1001->loop G (Za0 F) (c.qG,c.qJ,(s.1:Int),s.2.1,s.2.2)=some (Zvq (Zfm s (Qa c))):=fun c t E s D=>by
    have e:Qa c=(c.qG,c.qJ)::c.qJ.flatMap Qa:=by rw[Wj,E];rfl
    have B:(Qa c).length<=(l.flatMap Qa).length:=Zkv t;have L:∀sp∈Qa c,OkS sp:=fun sp r=>ZGN sp (Q1.2 ⟨c,t,r⟩);rw[e]at B L D ⊢;simp only[Kx]at B D;exact ih (n-1) Vb c.qG c.qJ s Vb (L _ (by simp)) (fun sp r=>L sp (by simp[r])) Vb G Vb
   generalize loop G (Za0 F)=n1 at C;have⟨hl,hoc⟩:=K;dsimp only at hl hoc
   have T:∀s:SS,s.1+(l.flatMap Qa).length<=1001->0<s.1->loop F (Zb0 l n1) (0,(s.1:Int),s.2.1,s.2.2)=some (Zvq (Zfm s (l.flatMap Qa))):=fun s D h0=>by
    refine Yw (fun(k:Nat)(s:SS)=>((k:Int),(s.1:Int),s.2.1,s.2.2)) l (fun rest s=>s.1+(rest.flatMap Qa).length<=1001) (fun rest s=>some (Zvq (Zfm s (rest.flatMap Qa)))) ?_ ?_ Vb s D;.intro s I _;simp only[Zb0,Yi,Cq0];rfl
    intro k c rest s I t P S A h;simp only[Zb0,Yc P,Cq1,S,Bq0];rw[Ja Vb];rw[Kf,Ks]at A;rw[Kf,ZqR];rcases(hoc c t).2 with h1|⟨h2,_⟩
    .rw[h1];have e:Qa c=[]:=by rw[Wj,h1];rfl
     rw[e]at A ⊢;exact h s (by simpa using A)
    rw[h2];have V:1<=(Qa c).length:=by rw[Wj,h2];simp
    simp only[Int.reduceBEq,Cq1];rw[C c t h2 s Vb,Bq0];cases hr:Zfm s (Qa c) with|none=>rfl|some X=>
      have:=Zv0 hr;exact h X Vb
   have Q:∀y,(Za1 F l (s.1:Int) s.2.1 n1 (l.filter fun c=>c.qX==1)) y=some (Zvq ((Zcw s.2.1 ((jns l).map (ev s.1))).bind fun m=>Zfm (s.1+1,m,y) (l.flatMap Qa))):=fun y=>by
    unfold Za1;have hfl:(l.filter fun c=>c.qX==1).length<=l.length:=List.length_filter_le _ _;rw[ZtO hF l _ s.1 Vb n1 y (by unfold BB;omega) (fun x hx=>by have:=(hoc x (List.mem_filter.1 hx).1).1;unfold BB;omega) s.2.1,ZkR hoc];cases Zcw s.2.1 ((jns l).map (ev s.1)) with|none=>rfl|some m=>exact T (s.1+1,m,y) (by show s.1+1+_<=1001;omega) (Nat.succ_pos _)
   unfold Za0;dsimp only;have:=Yw (body:=Zg5 F q l (s.1:Int) s.2.1 s.2.2 n1) (fun(k:Nat)(a:U Za)=>((k:Int),a)) l (fun rest a=>a.length+rest.length<=60) (fun rest a=>(bif decide ((s.1:Int)>0) then(ZeN s.2.2 q false).bind fun ZzT=>(J7 (!ZzT)).bind fun ZzS=>JN ZzS (fun W=>some (.Ym 2)) (fun ZQu=>(Za1 F l (s.1:Int) s.2.1 n1 (a++rest.filter fun c=>c.qX==1)) (Yu s.2.2 q true)) else(Za1 F l (s.1:Int) s.2.1 n1 (a++rest.filter fun c=>c.qX==1)) s.2.2)) (F:=F) ?_ ?_ Vb [] (by simpa using hl)
   .refine this.trans ?_;simp only[Jn,Zde,Bq0,JL,Zgd,Q,gt0];show _=some (Zvq ((ZeU s (q,l)).bind fun s=>Zfm s (l.flatMap Qa)));unfold ZeU;cases decide (0<s.1);.simp only[Cq0,Bool.false_and];cases Zcw s.2.1 ((jns l).map (ev s.1))<;>rfl
    simp only[Cq1,Gv];cases has s.2.2 q;.simp only[GM,Cq1,Cq0];cases Zcw s.2.1 ((jns l).map (ev s.1))<;>rfl
    rfl
   .intro a I _;simp only[Zg5,Yi,Cq0,List.filter_nil,Ge]
   intro k c rest a I t P S A h;simp only[Kx]at A;simp only[Zg5,Yc P,Cq1,S,Bq0,Zg2];rw[Ja Vb];cases E:c.qX==1;.rw[List.filter_cons_of_neg (by simp[E])];exact h a Vb
   rw[List.filter_cons_of_pos (p:=fun c:Za=>c.qX==1) E];simp only[Cq1];rw[app1 Vb Vb,Bq0,h _ (by simp;omega),G9];rfl
def ZmI(m:MM)(l:U (Y×Z4)):MM:=l.foldl (fun m e=>Yu m e.1 e.2) m
def ZeX(m:MM)(e:Y×Z4):ZC (Yu m e.1 e.2)=upd (ZC m) e:=by funext x;rw[WZ];rfl
def ZhO(l:U (Y×Z4)):∀m,ZC (ZmI m l)=l.foldl upd (ZC m):=by
 induction l with|nil=>intro m;rfl|cons e l ih=>
   intro m;show ZC (ZmI (Yu m e.1 e.2) l)=_;rw[ih,ZeX];rfl
def Zwv(l:U (Y×Z4)):∀m,Zcw m l=bif JW (ZC m) l then some (ZmI m l) else none:=by
 induction l with|nil=>intro m;rfl|cons e l ih=>
   intro m;simp only[Zcw,JW,ih,ZeX];cases okE (ZC m) e<;>rfl
def ZiI(a b:U (Y×Z4))(m:MM):ZmI m (a++b)=ZmI (ZmI m a) b:=List.foldl_append
def ZF6(l:U Spt):∀a,0<a->∀m h,Zfm (a,m,h) l=bif ZoN (has h) (l.map (·.1))&&JW (ZC m) (evJ a l) then some (a+l.length,ZmI m (evJ a l),KN h (l.map (·.1))) else none:=by
 induction l with|nil=>intro a p m h;rfl|cons x l ih=>
   intro a p m h;show(ZeU (a,m,h) x).bind _=_;unfold ZeU;simp only[decide_eq_true p,Gv,G7,ZoN,evJ,Zoh,Zwv,<-ZhO,Cq1];cases has h x.1
   .simp only[Cq0,GM,Gv];cases JW (ZC m) ((jns x.2).map (ev a));.simp
    simp only[Cq1,GY,Bq0,Gv];rw[ih (a+1) Vb,Zbw,ZiI];have:KN h (x.1::l.map (·.1))=KN (Yu h x.1 true) (l.map (·.1)):=rfl;rw[this,Kx,show a+1+l.length=a+(l.length+1) by omega]
   rfl
def ZIQ{r:Type}(m:U (Y×r))(g:Y->Z):(m.any fun e=>g e.1)=true↔∃k,(ZC m k).isSome=true/\g k=true:=by
 rw[GF];constructor
 .rintro⟨e,he,p⟩;refine⟨e.1,?_,p⟩;cases h:ZC m e.1 with|some v=>rfl|none=>
    unfold ZC at h;have:Yq m e.1=none:=by cases t:Yq m e.1 with|none=>rfl|some q=>rw[t]at h;cases h
    exact absurd rfl (Zfr.1 this e he)
 rintro⟨k,l,p⟩;cases h:Yq m k with|none=>unfold ZC at l;rw[h]at l;cases l|some q=>exact⟨(k,q.2),List.mem_of_getElem? (ZaC h),p⟩
def Zz5(l:U (Y×Z4)):∀f x,(l.foldl upd f x).isSome=((f x).isSome||l.any fun e=>decide (x=e.1)):=by
 induction l with|nil=>intro f x;simp|cons e l ih=>
   intro f x;rw[Gm,ih,List.any_cons];unfold upd;by_cases h:x=e.1;.simp[h]
   simp[h]
def ZEA(l:U (Y×Z4))(g:Y->Z):((ZmI [] l).any fun e=>g e.1)=l.any fun e=>g e.1:=by
 rw[Gt,ZIQ];simp only[ZhO,Zz5];rw[GF];constructor
 .rintro⟨k,h,p⟩;have:(l.any fun e=>decide (k=e.1))=true:=by simpa[ZC,Yq]using h
  have⟨e,he,hk⟩:=GF.1 this;rw[decide_eq_true_eq]at hk;exact⟨e,he,by rw[<-hk];exact p⟩
 rintro⟨e,he,p⟩;refine⟨e.1,?_,p⟩;rw[Bool.or_eq_true];right;exact GF.2 ⟨e,he,by simp⟩
def Zyh{p:Type}(b:Y->p->O Z)(g:Y->Z)(h:∀k v,b k v=some (g k))(l:U (Y×p)):Zns b l=some (l.any fun e=>g e.1):=by induction l with|nil=>rfl|cons e l ih=>simp only[Zns,h,ih,Bq0,List.any_cons]
def Zml{F:Nat}(hF:10000000000000000000<=F)(l:U Za)(hl:OkS (E0,l))(hs:∀sp∈l.flatMap Qa,OkS sp)(hn:(l.flatMap Qa).length<=60):ZdH F l=some (bif AgW l then .ok () else .Ym 2):=by
 unfold ZdH;have:=Zzk hF _ E0 l (0,[],[]) Vc hl hs (by show 0+_<=1000;omega) F Vb;have e:loop F (Za0 F) (E0,l,0,[],[])=_:=this;rw[e,Bq0]
 have e2:Zfm (0,[],[]) ((E0,l)::l.flatMap Qa)=bif JW (fun _=>none) (evJ 0 ((E0,l)::l.flatMap Qa))&&ZoN (fun _=>false) (ZaT l) then some (1+(l.flatMap Qa).length,ZmI [] (evJ 0 ((E0,l)::l.flatMap Qa)),KN [] (ZaT l)) else none:=by
  show(ZeU (0,[],[]) (E0,l)).bind _=_;unfold ZeU;have h0:(ZC ([]:MM))=fun _=>none:=by funext x;rfl
  simp only[Nat.lt_irrefl,decide_false,Bool.false_and,Cq0,evJ,Zoh,Zwv,h0];have hm:JW ((List.map (ev 0) (jns l)).foldl upd fun _=>none) (evJ (0+1) (l.flatMap Qa))=JW (ZC (ZmI [] ((jns l).map (ev 0)))) (evJ (0+1) (l.flatMap Qa)):=by rw[ZhO,h0]
  rw[hm];cases JW (fun _=>none) ((jns l).map (ev 0));·simp
  simp only[Cq1,GY,Bq0,Gv];rw[ZF6 _ (0+1) Vb,Zpe,ZiI,Bool.and_comm];rfl
 rw[e2];unfold AgW;rw[Bool.and_comm (JW _ _)];cases ZoN (fun _=>false) (ZaT l)&&JW (fun _=>none) (evJ 0 ((E0,l)::l.flatMap Qa));·rfl
 simp only[Cq1,Gv,Zvq,JN];unfold ZjV;dsimp only
 rw[Zyh _ (has (KN [] (ZaT l))) (fun k v=>by
  simp only[ZpC,Zde,Bq0,JL,Zgd];cases has (KN [] (ZaT l)) k<;>rfl),Bq0,ZEA,ZkY,Zpe]
 simp only[GX];cases ((evJ 0 ((E0,l)::l.flatMap Qa)).any fun e=>decide (e.1∈ZaT l))<;>rfl
def ZjB{p:Part}(D:(pre p).length<=60)(t:(pre p).all Q6=true){x:Term}(r:Part.pr x∈pre p):OkS (E0,x.qJ)/\(∀sp∈x.qJ.flatMap Qa,OkS sp)/\(x.qJ.flatMap Qa).length<=60:=by
 have C:=Zdc r
 have A:((x.qJ.map Part.cl).flatMap pre).length<=(pre (.pr x)).length:=by
  rw[Jr];show _<=((x.args.map Part.ex++x.qJ.map Part.cl++x.qQ.map Part.pr).flatMap pre).length+1;rw[Gk,Gk,Ks,Ks];omega
 have q:∀c∈x.qJ,(pre (.cl c)).all Q6=true:=fun c q=>by
  rw[Q2]at t ⊢;exact fun y B=>t y (Za5 (Xi (XR q) B) r)
 have h1:=Zi4 x.qJ;have h2:=ZAy x.qJ;refine⟨⟨by show x.qJ.length<=60;omega,fun c h=>Zay (Q2.1 (q c h) _ (Xl _))⟩,fun sp l=>?_,by omega⟩;have⟨c,h,l⟩:=Q1.1 l;exact ZGk 60 c (by have:=Yv (XR h);omega) Vb (q c h) sp l
def ZjX{F:Nat}(q:10000000000000000000<=F)(t:Term)(y:Lo (.pr t))(l:(pre (.pr t)).length<=F):Zcz F t=some (bif XK AgW (.pr t) then 0 else 2):=
 Zu1 q AgW t y l fun p h x r _=>by have⟨a,b,c⟩:=ZjB p h r;exact Zml q x.qJ a b c
def ZEe{F:Nat}(q:10000000000000000000<=F)(e:Zf)(t:Lo (.ex e))(l:(pre (.ex e)).length<=F):ZuJ F e=some (bif XK AgW (.ex e) then 0 else 2):=
 Zm1 q AgW e t l fun p h x r _=>by have⟨a,b,c⟩:=ZjB p h r;exact Zml q x.qJ a b c
def ZsE{F:Nat}(p:10000000000000000000<=F)(e:Zf)(l:Lo (.ex e))(h:(pre (.ex e)).length<=F):Zsg F e=some (bif XK AgW (.ex e) then 0 else 2):=ZpQ p AgW e l h
def Xu{p:Part}(h:XK AgW p=true):(pre p).all Q6=true/\(pre p).length<=60:=by unfold XK at h;simp only[Ba0,decide_eq_true_eq]at h;exact⟨h.1.1.2,h.1.1.1⟩
abbrev CH:=U Y×MN
def dj(s:CH)(t:Y):CH:=bif has s.2 t then s else(s.1++[t],Yu s.2 t true)
def ZOZ(s:CH)(t:Y):(dj s t).1.length<=s.1.length+1:=by unfold dj;cases has s.2 t<;>simp
def ZpM(l:U Y):∀s:CH,(l.foldl dj s).1.length<=s.1.length+l.length:=by induction l with|nil=>intro s;simp|cons t l ih=>intro s;rw[Gm];have:=ih (dj s t);have:=ZOZ s t;simp only[Kx];omega
structure DS where
 c:CH
 pl:List ByteArray
 at_:Nat
def Uk(s:DS)(sp:Spt):DS:=⟨((jns sp.2).map (·.qG)).foldl dj s.c,bif decide (0<s.at_) then s.pl++[sp.1] else s.pl,s.at_+1⟩
abbrev RD:=Z×(U Y)×(U Y)×Int×MN
def Zye(s:DS):RD:=(true,s.c.1,s.pl,(s.at_:Int),s.c.2)
def ZsA{F:Nat}(D:10000000000000000000<=F)(i:Int)(h:Int×(U Y)×MN->O RD)(x:Za)(B:x.qV.length<=3)(s:CH)(C:s.1.length<=100000):
 loop F (Zh6 i h x) (0,s.1,s.2)=h (XD (i+1),((x.qV.map (·.qG)).foldl dj s).1,((x.qV.map (·.qG)).foldl dj s).2):=by
 refine Yw (body:=Zh6 i h x) (fun(k:Nat)(s:CH)=>((k:Int),s.1,s.2)) x.qV (fun rest s=>s.1.length+rest.length<=200000) (fun rest s=>h (XD (i+1),((rest.map (·.qG)).foldl dj s).1,((rest.map (·.qG)).foldl dj s).2)) (F:=F) ?_ ?_ Vb s Vb;.intro s l _;simp only[Zh6,Yi,Cq0];rfl
 intro j y rest s l A r t q ih;simp only[Kx]at q;simp only[Zh6,Zlt,Yc r,Cq1,t,Bq0,Zde];rw[Ja Vb,app1 Vb Vb];simp only[Bq0,G7,Gm];cases p:has s.2 y.qG
 .have e:dj s y.qG=(s.1++[y.qG],Yu s.2 y.qG true):=by unfold dj;rw[p];rfl
  rw[e];exact ih (s.1++[y.qG],Yu s.2 y.qG true) (by simp;omega)
 have e:dj s y.qG=s:=by unfold dj;rw[p];rfl
 rw[e];exact ih s Vb
def Zsy{F:Nat}(E:10000000000000000000<=F)(l h:U Za)(a:Nat)(L:a<=2000)(q:Y×(U Za)×(U Y)×(U Y)×Int×MN->O RD)(p:U Y)(K:h.length<=60)(A:∀x∈h,x.qV.length<=3)(s:CH)(I:s.1.length<=50000):
 loop F (Zh7 F l (a:Int) q h p) (0,s.1,s.2)=loop F (ZdA l q) (0,((a+1:Nat):Int),(((jns h).map (·.qG)).foldl dj s).1,p,(((jns h).map (·.qG)).foldl dj s).2):=by
 refine Yw (body:=Zh7 F l (a:Int) q h p) (fun(k:Nat)(s:CH)=>((k:Int),s.1,s.2)) h (fun rest s=>s.1.length+3*rest.length<=60000) (fun rest s=>loop F (ZdA l q) (0,((a+1:Nat):Int),(((jns rest).map (·.qG)).foldl dj s).1,p,(((jns rest).map (·.qG)).foldl dj s).2)) (F:=F) ?_ ?_ Vb s Vb;.intro s r _;simp only[Zh7,Yi,Cq0,J0];rw[Ja Vb];rfl
 intro j y rest s r t C D B ih;simp only[Kx]at B;have G:=A y t;simp only[Zh7,Yc C,Cq1,D,Bq0];rw[ZsA E _ _ y G s Vb,Ja Vb];refine(ih ((y.qV.map (·.qG)).foldl dj s) ?_).trans ?_;.have:=ZpM (y.qV.map (·.qG)) s;rw[G5]at this;omega
 unfold jns;rw[Kf,List.map_append,List.foldl_append]
def Zww{l:U Za}(h:∀c∈l,OkC c):(jns l).length<=3*l.length:=by
 induction l with|nil=>simp[jns]|cons c l ih=>
   have a:=ih fun d p=>h d (Kd _ p);have b:=(h c (by simp)).1;unfold jns at a ⊢;rw[Kf,Ks,Kx];omega
def ZxZ(s:DS){sp:Spt}(h:OkS sp):(Uk s sp).c.1.length<=s.c.1.length+180/\(Uk s sp).pl.length<=s.pl.length+1/\(Uk s sp).at_=s.at_+1:=by
 have⟨h1,h2⟩:=h;refine⟨?_,?_,rfl⟩;.have:=ZpM ((jns sp.2).map (·.qG)) s.c;have:=Zww h2;rw[G5]at *;show((jns sp.2).map (·.qG) |>.foldl dj s.c).1.length<=_;omega
 unfold Uk;dsimp only;cases decide (0<s.at_)<;>simp
def Zh0:∀(l:U Spt)(s:DS),(∀sp∈l,OkS sp)->(l.foldl Uk s).c.1.length<=s.c.1.length+180*l.length/\(l.foldl Uk s).pl.length<=s.pl.length+l.length/\(l.foldl Uk s).at_=s.at_+l.length
 | [],s,_=>by simp
 | sp::l,s,h=>by
   have a:=ZxZ s (h sp (by simp));have b:=Zh0 l (Uk s sp) fun x p=>h x (Kd _ p)
   rw[Gm];simp only[Kx];omega
def ZxG(s:DS)(n:Nat):Prop:=s.c.1.length+180*n<=20000/\s.pl.length+n<=1000/\s.at_+n<=1000
def ZIB{F:Nat}(hF:10000000000000000000<=F):∀n (r:Y) (l:U Za) (s:DS),(l.flatMap Qa).length<=n->OkS (r,l)->(∀sp∈l.flatMap Qa,OkS sp)->ZxG s ((l.flatMap Qa).length+1)->∀Fr,n<Fr ->
 loop Fr (Zdy F) (r,l,s.c.1,s.pl,(s.at_:Int),s.c.2)=some (Zye (((r,l)::l.flatMap Qa).foldl Uk s)):=by
 intro n
 induction n using Nat.strongRecOn with|_ n ih=>
   intro r l s hn B ZGN P Fr hFr;obtain⟨G,rfl⟩:∃G,Fr=G+1:=⟨Fr-1,by omega⟩;rw[Z7]
   have E:∀c∈l,c.qX=2->∀s:DS,ZxG s (Qa c).length->loop G (Zdy F) (c.qG,c.qJ,s.c.1,s.pl,(s.at_:Int),s.c.2)=some (Zye ((Qa c).foldl Uk s)):=fun c t K s A=>by
    have e:Qa c=(c.qG,c.qJ)::c.qJ.flatMap Qa:=by rw[Wj,K];rfl
    have C:(Qa c).length<=(l.flatMap Qa).length:=Zkv t;have Q:∀sp∈Qa c,OkS sp:=fun sp q=>ZGN sp (Q1.2 ⟨c,t,q⟩);rw[e]at C Q A ⊢;simp only[Kx]at C A;exact ih (n-1) Vb c.qG c.qJ s Vb (Q _ (by simp)) (fun sp q=>Q sp (by simp[q])) A G Vb
   generalize loop G (Zdy F)=n1 at E;have X:=B;have⟨hl,hoc⟩:=B;dsimp only at hl hoc;have⟨r1,r2,r3⟩:=P
   have W:∀s:DS,ZxG s (l.flatMap Qa).length->loop F (ZdA l n1) (0,(s.at_:Int),s.c.1,s.pl,s.c.2)=some (Zye ((l.flatMap Qa).foldl Uk s)):=fun s A=>by
    refine Yw (body:=ZdA l n1) (fun(k:Nat)(s:DS)=>((k:Int),(s.at_:Int),s.c.1,s.pl,s.c.2)) l (fun rest s=>ZxG s (rest.flatMap Qa).length) (fun rest s=>some (Zye ((rest.flatMap Qa).foldl Uk s))) (F:=F) ?_ ?_ Vb s A;.intro s L _;simp only[ZdA,Yi,Cq0];rfl
    intro k c rest s L t S T I h;simp only[ZdA,Yc S,Cq1,T,Bq0];rw[Ja Vb];rw[Kf,Ks]at I;rw[Kf,List.foldl_append];have⟨p1,p2,p3⟩:=I;rcases(hoc c t).2 with h1|⟨h2,_⟩
    .have e:Qa c=[]:=by rw[Wj,h1];rfl
     rw[h1];rw[e]at p1 p2 p3 ⊢;simp only[GK,Gc]at p1 p2 p3;exact h s ⟨p1,p2,p3⟩
    rw[h2];simp only[Int.reduceBEq,Cq1];rw[E c t h2 s ⟨by omega,by omega,by omega⟩,Bq0];have V:=Zh0 (Qa c) s fun sp q=>ZGN sp (Q1.2 ⟨c,t,q⟩);exact h ((Qa c).foldl Uk s) ⟨by omega,by omega,by omega⟩
   have D:∀y:U Y,y.length+(l.flatMap Qa).length<=1000->(Zdz F l s.c.1 (s.at_:Int) s.c.2 n1 (l.filter fun c=>c.qX==1)) y=some (Zye ((l.flatMap Qa).foldl Uk ⟨((jns l).map (·.qG)).foldl dj s.c,y,s.at_+1⟩)):=fun y hpl=>by
    unfold Zdz;have V:(l.filter fun c=>c.qX==1).length<=l.length:=List.length_filter_le _ _;rw[Zsy hF l _ s.at_ Vb n1 y Vb (fun x hx=>(hoc x (List.mem_filter.1 hx).1).1) s.c Vb,ZkR hoc];have h1:=ZpM ((jns l).map (·.qG)) s.c;have h2:=Zww hoc;rw[G5]at h1;exact W ⟨((jns l).map (·.qG)).foldl dj s.c,y,s.at_+1⟩ ⟨by dsimp only;omega,by dsimp only;omega,by dsimp only;omega⟩
   unfold Zdy;dsimp only;have:=Yw (body:=Zlv F r l s.c.1 s.pl (s.at_:Int) s.c.2 n1) (fun(k:Nat)(a:U Za)=>((k:Int),a)) l (fun rest a=>a.length+rest.length<=60) (fun rest a=>(bif decide ((s.at_:Int)>0) then(app 16 s.pl [r]).bind fun ZzQ=>(Zdz F l s.c.1 (s.at_:Int) s.c.2 n1 (a++rest.filter fun c=>c.qX==1)) ZzQ else(Zdz F l s.c.1 (s.at_:Int) s.c.2 n1 (a++rest.filter fun c=>c.qX==1)) s.pl)) (F:=F) ?_ ?_ Vb [] (by simpa using hl);.refine this.trans ?_;rw[app1 (l:=s.pl) (x:=r) Vb Vb];simp only[Jn,Bq0,gt0];rw[D s.pl Vb,D (s.pl++[r]) (by simp only[Ks,List.length_singleton];omega)];show _=some (Zye ((l.flatMap Qa).foldl Uk (Uk s (r,l))));unfold Uk;cases decide (0<s.at_)<;>rfl
   .intro a L _;simp only[Zlv,Yi,Cq0,List.filter_nil,Ge]
   intro k c rest a L t S T I h;simp only[Kx]at I;simp only[Zlv,Yc S,Cq1,T,Bq0,Zlu];rw[Ja Vb];cases K:c.qX==1;.rw[List.filter_cons_of_neg (by simp[K])];exact h a Vb
   rw[List.filter_cons_of_pos (p:=fun c:Za=>c.qX==1) K];simp only[Cq1];rw[app1 Vb Vb,Bq0,h _ (by simp;omega),G9];rfl
def Zpn:∀(l:U Spt)(s:DS),(l.foldl Uk s).c=(l.flatMap fun sp=>(jns sp.2).map (·.qG)).foldl dj s.c
 | [],_=>rfl
 | sp::l,s=>by rw[Gm,Zpn l,Kf,List.foldl_append];rfl
def ZrY:∀(l:U Spt)(s:DS),0<s.at_->(l.foldl Uk s).pl=s.pl++l.map (·.1)
 | [],s,_=>by simp
 | sp::l,s,h=>by
   rw[Gm,ZrY l _ (by unfold Uk;dsimp only;omega)];unfold Uk;rw[decide_eq_true h];simp
def ZeP(l:U Za):U Y×U Y:=(((((E0,l)::l.flatMap Qa).flatMap fun sp=>(jns sp.2).map (·.qG)).foldl dj ([],[])).1,ZaT l)
def ZD7{F:Nat}(r:10000000000000000000<=F)(l:List Za)(q:OkS (E0,l))(p:∀sp∈l.flatMap Qa,OkS sp)(hn:(l.flatMap Qa).length<=60):Zsb F l=some (ZeP l):=by unfold Zsb;have h:=ZIB r _ E0 l ⟨([],[]),[],0⟩ Vc q p ⟨by dsimp only[List.length_nil];omega,by dsimp only[List.length_nil];omega,by dsimp only;omega⟩ F Vb;have e:loop F (Zdy F) (E0,l,[],[],0,[])=_:=h;rw[e,Bq0];show some (_,_)=some (ZeP l);unfold ZeP;rw[Zpn,List.foldl_cons,ZrY _ _ (Nat.succ_pos _)];rfl
def ZeO:U Y->Y->U Y
 | [],s=>[s]
 | x::l,s=>bif ZeT x s then x::ZeO l s else s::x::l
def Zgb(out B:U Y)(s:Y):U Y:=if s∈B\/s∈out then out else ZeO out s
def ZvT{l:U Y}{a b:Nat}(h:a<=b)(p:b<=l.length):slL l (a:Int) (b:Int)=some ((l.take b).drop a):=by unfold slL;rw[decide_eq_true Vb,decide_eq_true Vb,decide_eq_true Vb];simp
def ZkH{l:U Y}{s x:Y}:x∈ZeO l s↔x=s\/x∈l:=by
 induction l with|nil=>simp[ZeO]|cons y l ih=>
   unfold ZeO;cases ZeT y s;.simp
   simp only[Cq1,K2,ih];constructor;.rintro(h|h|h)<;>simp[h]
   rintro(h|h|h)<;>simp[h]
def ZBg(l:U Y)(s:Y):(ZeO l s).length=l.length+1:=by
 induction l with|nil=>rfl|cons y l ih=>
   unfold ZeO;cases ZeT y s;.rfl
   simp only[Cq1,Kx,ih]
def put_eq{F:Nat}(S:10000000000000000000<=F)(out B:U Y)(s:Y)(P:out.length<=100000)(T:B.length<=800000):Zsl F out B s=some (Zgb out B s):=by
 unfold Zsl Zgb;rw[has_eq F B s Vb Vb,Bq0];by_cases h1:s∈B;.rw[decide_eq_true h1,if_pos (.inl h1)];rfl
 rw[decide_eq_false h1];simp only[GM,ZjP];rw[has_eq F out s Vb Vb,Bq0];by_cases h2:s∈out;.rw[decide_eq_true h2,if_pos (.inr h2)];rfl
 rw[decide_eq_false h2,if_neg (by simp[h1,h2])];simp only[Bool.or_false,Cq0]
 have fin:∀k:Nat,k<=out.length->((slL out (k:Int) (out.length:Int)).bind fun t=>(app 16 [s] t).bind fun r=>(slL out 0 (k:Int)).bind fun q=>(app 16 ([]:U Y) q).bind fun p=>(app 16 p r).bind fun l=>some l)=some (out.take k++s::out.drop k):=fun k h=>by
  have E:slL out 0 (k:Int)=some ((out.take k).drop 0):=ZvT (a:=0) (GH _) h;rw[ZvT h Vc,E];simp only[Bq0,List.take_length,List.drop_zero];have K:app 16 [s] (out.drop k)=some ([s]++out.drop k):=Wy (by simp;omega) Vb;have I:app 16 ([]:U Y) (out.take k)=some ([]++out.take k):=Wy (by simp;omega) Vb;rw[K,I];simp only[Bq0,Jn];have G:app 16 (out.take k) ([s]++out.drop k)=some (out.take k++([s]++out.drop k)):=Wy (by simp;omega) Vb;rw[G];rfl
 have:=Zt5 (body:=ZgZ out s) (fun(k:Nat)(_:Unit)=>(k:Int)) out (fun k rest _=>rest=out.drop k) (fun k rest _=>some (out.take k++ZeO rest s)) (F:=F) ?_ ?_ Vb () (by simp);.simpa using this
 .intro _ C _;simp only[ZgZ,Yi,ZCG,Bq0,Bool.false_and,Cq0];rw[fin _ Vc];simp[ZeO]
 intro k x rest _ C L h D y ih;simp only[ZgZ,Yc h,ZjP,D,Bq0,Gv];have A:out.drop k=out[k]::out.drop (k+1):=List.drop_eq_getElem_cons h;rw[A]at y;obtain⟨rfl,rfl⟩:=List.cons.inj y;rw[Ja Vb];unfold ZeO;cases Q:ZeT out[k] s;.simp only[Cq0];rw[fin k Vb,A]
 simp only[Cq1];rw[ih () rfl,List.take_succ_eq_append_getElem h,G9];rfl
def nm1:Part->U Y
 | .ex e=>bif e.op==2 then [e.qG] else []
 | _=>[]
def Qk(e:Zf):U Y:=(pre (.ex e)).flatMap nm1
def ZhK(e:Zf):Qk e=(bif e.op==2 then [e.qG] else [])++e.qQ.flatMap Qk:=by unfold Qk;rw[pre_eq,Kf];show nm1 (.ex e)++_=nm1 (.ex e)++_;congr 1;show((e.qQ.map Part.ex).flatMap pre).flatMap nm1=_;rw[List.flatMap_assoc,List.flatMap_map]
def puts(B:U Y)(l:U Y)(out:U Y):U Y:=l.foldl (fun o s=>Zgb o B s) out
def Zq0(o B:U Y)(s:Y):(Zgb o B s).length<=o.length+1:=by
 unfold Zgb;split;.omega
 rw[ZBg];omega
def Zks(B:U Y):∀(l o:U Y),(puts B l o).length<=o.length+l.length
 | [],o=>by simp[puts]
 | s::l,o=>by
   have:=Zks B l (Zgb o B s);have:=Zq0 o B s;show(puts B l (Zgb o B s)).length<=_;simp only[Kx];omega
def ZiL(B a b o:U Y):puts B (a++b) o=puts B b (puts B a o):=List.foldl_append
def Zgk(e:Zf):(Qk e).length<=(pre (.ex e)).length:=by
 unfold Qk;generalize pre (.ex e)=l
 induction l with|nil=>simp|cons p l ih=>
   rw[Kf,Ks,Kx]
   have:(nm1 p).length<=1:=by
    cases p with|ex e=>show(bif e.op==2 then [e.qG] else []).length<=1;cases e.op==2<;>simp|_=>exact GH _
   omega
def Zuw{F:Nat}(I:10000000000000000000<=F)(B:U Y)(K:B.length<=800000):∀n e (out:U Y),(pre (.ex e)).length<=n->n<=60->out.length+(Qk e).length<=20000->∀Fr,n<=Fr->loop Fr (Zlm F) (out,B,e)=some (puts B (Qk e) out):=by
 intro n
 induction n with|zero=>intro e out hn;have:=Xb (.ex e);omega|succ n ih=>
   intro e out hn L h Fr E;obtain⟨G,rfl⟩:∃G,Fr=G+1:=⟨Fr-1,by omega⟩;rw[Z7];have l:∀x∈e.qQ,∀o:U Y,o.length+(Qk x).length<=20000->loop G (Zlm F) (o,B,x)=some (puts B (Qk x) o):=fun x q o h=>ih x o (by have:=Yv (YP q);omega) Vb h G Vb;have A:e.qQ.length<(pre (.ex e)).length:=by have:=Wp (.ex e);simpa[ZP]using this
   generalize loop G (Zlm F)=n1 at l
   have r:∀o:U Y,o.length+(e.qQ.flatMap Qk).length<=20000->Zh2 F B e n1 o=some (puts B (e.qQ.flatMap Qk) o):=fun o h=>by
    unfold Zh2;refine Yw (body:=Zln B e n1) (fun(k:Nat)(o:U Y)=>(o,(k:Int))) e.qQ (fun rest o=>o.length+(rest.flatMap Qk).length<=20000) (fun rest o=>some (puts B (rest.flatMap Qk) o)) (F:=F) ?_ ?_ Vb o h;.intro o t _;simp only[Zln,Yi,Cq0];rfl
    intro k x rest o t q C D y p;rw[Kf,Ks]at y;simp only[Zln,Yc C,Cq1,D,Bq0,l x q o Vb];rw[Ja Vb,Kf,ZiL];exact p _ (by have:=Zks B (Qk x) o;omega)
   rw[ZhK,ZiL];rw[ZhK,Ks]at h;unfold Zlm;dsimp only;cases h2:e.op==2<;>rw[h2]at h;.exact r out Vb
   simp only[Cq1,List.length_singleton]at h ⊢;rw[put_eq I out B e.qG Vb K,Bq0];exact r _ (by have:=Zq0 out B e.qG;omega)
def ZA(h:U ZN):U Y:=h.flatMap (·.names)
def bnd(t:Term)(B:U Y):U Y:=bif t.op==4 then B++((ZeP t.qJ).1++(ZeP t.qJ).2) else B
abbrev Evt:=Y×U Y
def WB(p:Part)(B:U Y):U Evt:=
 match p with
 | .ex e=>(Qk e).map fun s=>(s,B)
 | .pr t=>(if t.qG=E0 then [] else [(t.qG,B)])++((t.args.flatMap Qk).map fun s=>(s,B))++(t.qJ.attach.flatMap (fun c=>WB (.cl c.1) (bnd t B))++t.qQ.attach.flatMap (fun k=>WB (.pr k.1) (bnd t B)))
 | .cl c=>c.qJ.attach.flatMap (fun d=>WB (.cl d.1) B)++c.qQ.attach.flatMap (fun k=>WB (.pr k.1) (B++ZA c.qV))
termination_by pz p
decreasing_by
 .exact Wq (XR c.2)
 .exact Wq (XB k.2)
 .exact Wq (Xn d.2)
 exact Wq (YU k.2)
def ZuS(t:Term)(B:U Y):WB (.pr t) B=(if t.qG=E0 then [] else [(t.qG,B)])++((t.args.flatMap Qk).map fun s=>(s,B))++(t.qJ.flatMap (fun c=>WB (.cl c) (bnd t B))++t.qQ.flatMap (fun k=>WB (.pr k) (bnd t B))):=by rw[WB,U3 t.qJ fun c=>WB (.cl c) (bnd t B),U3 t.qQ fun k=>WB (.pr k) (bnd t B)]
def ZpG(c:Za)(B:U Y):WB (.cl c) B=c.qJ.flatMap (fun d=>WB (.cl d) B)++c.qQ.flatMap (fun k=>WB (.pr k) (B++ZA c.qV)):=by rw[WB,U3 c.qJ fun d=>WB (.cl d) B,U3 c.qQ fun k=>WB (.pr k) (B++ZA c.qV)]
def Zcf(l:U Evt)(out:U Y):U Y:=l.foldl (fun o e=>Zgb o e.2 e.1) out
def Zya(B:U Y)(l:U Y)(o:U Y):Zcf (l.map fun s=>(s,B)) o=puts B l o:=by unfold Zcf puts;rw[List.foldl_map]
def ZA1{o B:U Y}{s x:Y}:x∈Zgb o B s↔x∈o\/(x=s/\s∉B):=by
 unfold Zgb;by_cases h:s∈B\/s∈o
 .rw[if_pos h];constructor;.exact .inl
  rintro(h1|⟨rfl,h1⟩);.exact h1
  rcases h with h|h
  .exact absurd h h1
  exact h
 rw[if_neg h,ZkH];have h1:s∉B:=fun z=>h (.inl z);constructor
 .rintro(h2|h2);.exact .inr ⟨h2,h1⟩
  exact .inl h2
 rintro(h2|⟨h2,_⟩);.exact .inr h2
 exact .inl h2
def Zej:∀(l:U Evt)(o:U Y)(x:Y),x∈Zcf l o↔x∈o\/∃e∈l,x=e.1/\e.1∉e.2
 | [],o,x=>by simp[Zcf]
 | e::l,o,x=>by
   show x∈Zcf l (Zgb o e.2 e.1)↔_;rw[Zej l,ZA1]
   constructor
   .rintro((h|h) | ⟨p,he,h⟩)
    .exact .inl h
    .exact .inr ⟨e,by simp,h⟩
    exact .inr ⟨p,by simp[he],h⟩
   rintro(h|⟨p,he,h⟩)
   .exact .inl (.inl h)
   rcases K2.1 he with rfl|he
   .exact .inl (.inr h)
   exact .inr ⟨p,he,h⟩
def ZsB{l:U Za}(t:OkS (E0,l))(r:∀sp∈l.flatMap Qa,OkS sp)(hn:(l.flatMap Qa).length<=60):(ZeP l).1.length<=10980/\(ZeP l).2.length<=60:=by
 have q:∀sp∈(E0,l)::l.flatMap Qa,OkS sp:=fun sp p=>by
  rcases K2.1 p with rfl|h
  .exact t
  exact r sp h
 have h:=Zh0 _ ⟨([],[]),[],0⟩ q;rw[Zpn]at h;simp only[Kx,GK]at h;refine⟨?_,by unfold ZeP ZaT;rw[G5];exact hn⟩;exact KK h.1 Vb
def ZIx(p:Part):∀B,(WB p B).length<=(pre p).length:=by
 induction p using Wm with|h p ih=>
   intro B
   have q:∀{C:Type}(l:U C)(c:C->Part)(B:U Y),(∀x∈l,c x∈ZP p)->(l.flatMap fun x=>WB (c x) B).length<=((l.map c).flatMap pre).length:=by
    intro C l c B
    induction l with|nil=>intro _;simp|cons x l A=>
      intro h;have a:=ih (c x) (h x (by simp)) B;have b:=A fun y D=>h y (Kd _ D);simp only[Kf,G7,Ks];omega
   cases p with
   | ex e=>rw[WB,G5];exact Zgk e
   | pr t=>
     rw[ZuS,Jr];have h1:=q t.qJ .cl (bnd t B) fun x r=>XR r;have h2:=q t.qQ .pr (bnd t B) fun x r=>XB r
     have F:(t.args.flatMap Qk).length<=((t.args.map Part.ex).flatMap pre).length:=by
      generalize t.args=l;induction l with|nil=>simp|cons x l A=>have:=Zgk x;simp only[Kf,G7,Ks];omega
     show _<=((t.args.map Part.ex++t.qJ.map Part.cl++t.qQ.map Part.pr).flatMap pre).length+1;rw[Gk,Gk];have E:(if t.qG=E0 then([]:U Evt) else [(t.qG,B)]).length<=1:=by split<;>simp
     simp only[Ks,G5];omega
   | cl c=>
     rw[ZpG,Jr];have h1:=q c.qJ .cl B fun x r=>Xn r;have h2:=q c.qQ .pr (B++ZA c.qV) fun x r=>YU r;show _<=((c.qJ.map Part.cl++c.qQ.map Part.pr).flatMap pre).length+1;rw[Gk];simp only[Ks];omega
def Zrl:∀(l:U ZN)(p hn:Y->Z),jW p hn l=true->∀m∈l,m.names.length<=3
 | [],_,_,_,m,h=>by cases h
 | j::l,p,hn,hw,m,h=>by
   unfold jW at hw;simp only[Ba0,decide_eq_true_eq]at hw;rcases K2.1 h with rfl|h
   .exact hw.1.2
   exact Zrl l _ _ hw.2.2 m h
def JY{c:Za}(h:K7 c=true):c.qV.length<=3/\(∀m∈c.qV,m.names.length<=3)/\∃k,c.qQ=[k]:=by
 have ok:=Zay h;unfold K7 at h;rw[Ba0,beq_iff_eq]at h;refine⟨ok.1,?_,?_⟩
 .rcases ok.2 with h1|⟨_,h2⟩
  .have:(c.qX==2)=false:=by rw[h1];rfl
   rw[this]at h;simp only[Cq0,Ba0]at h;exact Zrl _ _ _ h.2.2
  rw[h2];intro m l;cases l
 match hk:c.qQ,h.1 with|[k],_=>exact⟨k,rfl⟩
def JR(x:Y):Zf:=⟨2,0,x,[]⟩
def note(fr:MB)(B:U Y)(x:Y):MB:=if x∈B then fr else Yu fr x true
def bindM(l:U Y)(m:NM):NM:=l.foldl (fun m x=>Yu m x (JR x)) m
def Ziq:∀(l:U Y)(m:NM)(x:Y),ZC (bindM l m) x=if x∈l then some (JR x) else ZC m x
 | [],m,x=>by simp[bindM]
 | y::l,m,x=>by
   show ZC (bindM l (Yu m y (JR y))) x=_;rw[Ziq l,WZ];by_cases h1:x∈l
   .simp[h1]
   by_cases h2:x=y
   .subst h2;simp[h1]
   simp[h1,h2]
def bind_eq{F:Nat}(y:10000000000000000000<=F)(l:U Y)(t:l.length<=100000):ZlM F l=some (bindM l []):=by
 unfold ZlM;refine Yw (body:=ZaG l l) (fun(k:Nat)(m:NM)=>((k:Int),m)) l (fun _ _=>True) (fun rest m=>some (bindM rest m)) (F:=F) ?_ ?_ Vb [] trivial;.intro m h _;simp only[ZaG,Yi,Cq0];rfl
 intro k x rest m h r p q _ ih;simp only[ZaG,Yc p,Cq1,q,Bq0,Zsj];rw[Ja Vb];exact ih _ trivial
def notes(B:U Y)(l:U Y)(fr:MB):MB:=l.foldl (fun fr x=>note fr B x) fr
def Zgj(B a b:U Y)(fr:MB):notes B (a++b) fr=notes B b (notes B a fr):=List.foldl_append
def Zwo:∀(l:U Y)(s:CH),(∀x,has s.2 x=decide (x∈s.1))->∀x,x∈(l.foldl dj s).1↔x∈s.1\/x∈l
 | [],s,_,x=>by simp
 | y::l,s,h,x=>by
   rw[Gm]
   have r:∀z,has (dj s y).2 z=decide (z∈(dj s y).1):=fun z=>by
    unfold dj;cases t:has s.2 y
    .simp only[Cq0];rw[Zbw];show(has s.2 z||decide (z=y))=decide (z∈s.1++[y]);rw[h z];by_cases h1:z∈s.1<;>by_cases h2:z=y<;>simp[h1,h2]
    exact h z
   rw[Zwo l _ r x];have q:has s.2 y=decide (y∈s.1):=h y
   have e:x∈(dj s y).1↔x∈s.1\/x=y:=by
    unfold dj;by_cases p:y∈s.1;.rw[q,decide_eq_true p];exact⟨.inl,fun z=>z.elim id fun e=>e▸p⟩
    rw[q,decide_eq_false p];simp
   rw[e];simp only[K2];constructor;.rintro((h1|h1) | h1)<;>simp[h1]
   rintro(h1|h1|h1)<;>simp[h1]
def ZAb{l:U Za}{sp:Spt}(h:sp∈(E0,l)::l.flatMap Qa){c:Za}(q:c∈sp.2){m:ZN}(p:m∈c.qV):m.qG∈(ZeP l).1:=by unfold ZeP;rw[Zwo _ ([],[]) (fun x=>rfl)];exact .inr (Q1.2 ⟨sp,h,JT.2 ⟨m,Q1.2 ⟨c,q,p⟩,rfl⟩⟩)
def Zyd{l:U Za}{sp:Spt}(h:sp∈l.flatMap Qa):sp.1∈(ZeP l).2:=Gs (f:=(·.1)) h
def ext(env:NM)(l to:U Y):NM:=((l.zip to).map fun p=>(p.1,JR p.2)).reverse++env
def Q5(env:NM)(x:Y):Y:=match ZC env x with|some e=>e.qG|none=>x
def tx0(env:NM)(x:Y):Y:=if x=E0 then E0 else Q5 env x
mutual
def QK (env:NM):Zf->Zf
 | .mk p n h ks=>bif p==2 then(ZC env h).getD (.mk p n h ks) else .mk p n h (ZIv env ks)
def ZIv (env:NM):U Zf->U Zf
 | []=>[]
 | k::l=>QK env k::ZIv env l
end
def ZD1(env:NM)(l:U Zf):ZIv env l=l.map (QK env):=by induction l with|nil=>rfl|cons k l ih=>rw[ZIv,ih];rfl
def ZfH(env:NM)(e:Zf):QK env e=bif e.op==2 then(ZC env e.qG).getD e else .mk e.op e.n e.qG (e.qQ.map (QK env)):=by cases e;rw[QK,ZD1]
abbrev BF(σ:Type):=σ->NM->U Y->Part->σ×U Y
def XQ(l:U Za):U Y:=(ZeP l).1++(ZeP l).2
def Zaa(env en:NM)(m:ZN):ZN:=⟨Q5 env m.qG,m.names.map (Q5 en)⟩
section
variable{σ:Type}
mutual
def Wt (bd:BF σ) (s:σ) (env:NM):Term->σ×Term
 | .mk op tx ar ds ks=>bif op==4 then
     ((Wts bd (Wcs bd (bd s env (XQ ds) (.pr (.mk op tx ar ds ks))).1 (ext env (XQ ds) (bd s env (XQ ds) (.pr (.mk op tx ar ds ks))).2) ds).1 (ext env (XQ ds) (bd s env (XQ ds) (.pr (.mk op tx ar ds ks))).2) ks).1,
      .mk op (tx0 env tx) (ar.map (QK env)) (Wcs bd (bd s env (XQ ds) (.pr (.mk op tx ar ds ks))).1 (ext env (XQ ds) (bd s env (XQ ds) (.pr (.mk op tx ar ds ks))).2) ds).2
       (Wts bd (Wcs bd (bd s env (XQ ds) (.pr (.mk op tx ar ds ks))).1 (ext env (XQ ds) (bd s env (XQ ds) (.pr (.mk op tx ar ds ks))).2) ds).1 (ext env (XQ ds) (bd s env (XQ ds) (.pr (.mk op tx ar ds ks))).2) ks).2)
   else((Wts bd s env ks).1,.mk op (tx0 env tx) (ar.map (QK env)) [] (Wts bd s env ks).2)
def Wts (bd:BF σ) (s:σ) (env:NM):U Term->σ×U Term
 | []=>(s,[])
 | t::l=>((Wts bd (Wt bd s env t).1 env l).1,(Wt bd s env t).2::(Wts bd (Wt bd s env t).1 env l).2)
def Wc (bd:BF σ) (s:σ) (env:NM):Za->σ×Za
 | .mk f tx js ds ks=>bif f==2 then
     ((Wts bd (Wcs bd s env ds).1 env ks).1,.mk f (Q5 env tx) [] (Wcs bd s env ds).2 (Wts bd (Wcs bd s env ds).1 env ks).2)
   else
    ((Wts bd (bd s env (ZA js) (.cl (.mk f tx js ds ks))).1 (ext env (ZA js) (bd s env (ZA js) (.cl (.mk f tx js ds ks))).2) ks).1,
     .mk f E0 (js.map (Zaa env (ext env (ZA js) (bd s env (ZA js) (.cl (.mk f tx js ds ks))).2))) []
      (Wts bd (bd s env (ZA js) (.cl (.mk f tx js ds ks))).1 (ext env (ZA js) (bd s env (ZA js) (.cl (.mk f tx js ds ks))).2) ks).2)
def Wcs (bd:BF σ) (s:σ) (env:NM):U Za->σ×U Za
 | []=>(s,[])
 | c::l=>((Wcs bd (Wc bd s env c).1 env l).1,(Wc bd s env c).2::(Wcs bd (Wc bd s env c).1 env l).2)
end
def inT(h:BF σ)(s:σ)(env:NM)(t:Term):σ×NM:=bif t.op==4 then((h s env (XQ t.qJ) (.pr t)).1,ext env (XQ t.qJ) (h s env (XQ t.qJ) (.pr t)).2) else(s,env)
def inC(h:BF σ)(s:σ)(env:NM)(c:Za):σ×NM:=bif c.qX==2 then(s,env) else((h s env (ZA c.qV) (.cl c)).1,ext env (ZA c.qV) (h s env (ZA c.qV) (.cl c)).2)
theorem ZiB{l:BF σ}{s:σ}{env:NM}{t:Term}(h:t.op=4):Wt l s env t=((Wts l (Wcs l (inT l s env t).1 (inT l s env t).2 t.qJ).1 (inT l s env t).2 t.qQ).1,.mk t.op (tx0 env t.qG) (t.args.map (QK env)) (Wcs l (inT l s env t).1 (inT l s env t).2 t.qJ).2 (Wts l (Wcs l (inT l s env t).1 (inT l s env t).2 t.qJ).1 (inT l s env t).2 t.qQ).2):=by cases t;simp only at h;subst h;rw[Wt];rfl
theorem ZeD{l:BF σ}{s:σ}{env:NM}{t:Term}(h:t.op≠4):Wt l s env t=((Wts l s env t.qQ).1,.mk t.op (tx0 env t.qG) (t.args.map (QK env)) [] (Wts l s env t.qQ).2):=by
 cases t with|mk op tx ar ds ks=>
 simp only at h;have:(op==4)=false:=by simpa using h
 rw[Wt,this];rfl
theorem ZbJ{l:BF σ}{s:σ}{env:NM}{c:Za}(h:c.qX=2):Wc l s env c=((Wts l (Wcs l s env c.qJ).1 env c.qQ).1,.mk c.qX (Q5 env c.qG) [] (Wcs l s env c.qJ).2 (Wts l (Wcs l s env c.qJ).1 env c.qQ).2):=by cases c;simp only at h;subst h;rw[Wc];rfl
theorem ZeE{l:BF σ}{s:σ}{env:NM}{c:Za}(h:c.qX≠2):Wc l s env c=((Wts l (inC l s env c).1 (inC l s env c).2 c.qQ).1,.mk c.qX E0 (c.qV.map (Zaa env (inC l s env c).2)) [] (Wts l (inC l s env c).1 (inC l s env c).2 c.qQ).2):=by
 cases c with|mk f tx js ds ks=>
 simp only at h;have:(f==2)=false:=by simpa using h
 unfold inC;rw[Wc,this];simp only[this,Cq0]
theorem Za3(h:BF σ)(s:σ)(env:NM):Wts h s env []=(s,[]):=by rw[Wts]
theorem KH(h:BF σ)(s:σ)(env:NM)(t:Term)(l:U Term):Wts h s env (t::l)=((Wts h (Wt h s env t).1 env l).1,(Wt h s env t).2::(Wts h (Wt h s env t).1 env l).2):=by rw[Wts]
theorem Zcb(h:BF σ)(s:σ)(env:NM):Wcs h s env []=(s,[]):=by rw[Wcs]
theorem ZbI(h:BF σ)(s:σ)(env:NM)(c:Za)(l:U Za):Wcs h s env (c::l)=((Wcs h (Wc h s env c).1 env l).1,(Wc h s env c).2::(Wcs h (Wc h s env c).1 env l).2):=by rw[Wcs]
end
def Zjk:U NM->Y->O Zf
 | [],_=>none
 | m::c,x=>match ZC m x with|some v=>some v|none=>Zjk c x
def find_eq(x:Y):∀(c:U NM)(F:Nat),c.length<F->Zi1 F c x=some (match Zjk c x with|some v=>(v,true) | none=>(⟨0,0,E0,[]⟩,false)):=by
 intro c;induction c with
 | nil=>
   intro F h;obtain⟨G,rfl⟩:∃G,F=G+1:=⟨F-1,by omega⟩;unfold Zi1;rw[Z7];simp[ZlP,Zjk]
 | cons m c ih=>
   intro F h;obtain⟨G,rfl⟩:∃G,F=G+1:=⟨F-1,by omega⟩
   unfold Zi1;rw[Z7];show(bif(ZC m x).isSome then some ((ZC m x).getD ⟨0,0,⟨#[]⟩,[]⟩,true) else loop G (ZlP x) c)=_;unfold Zjk;cases l:ZC m x with|some v=>rfl|none=>
     have:=ih G (by simp only[Kx]at h;omega);unfold Zi1 at this;simp only[Option.isSome_none,Cq0];rw[this]
def Jc(h:Y->Z)(l:U Y):Y->Z:=fun x=>h x && !decide (x∈l)
mutual
def bT (h:Y->Z):Term->Z
 | .mk q p ar ds ks=>(!decide (p=E0)&&h p)||bif q==4 then bCs (Jc h (XQ ds)) ds||bTs (Jc h (XQ ds)) ks else bTs h ks
def bTs (h:Y->Z):U Term->Z
 | []=>false
 | t::l=>bT h t||bTs h l
def bC (h:Y->Z):Za->Z
 | .mk f p r ds ks=>bif f==2 then bCs h ds||bTs h ks else bTs (Jc h (ZA r)) ks
def bCs (h:Y->Z):U Za->Z
 | []=>false
 | c::l=>bC h c||bCs h l
end
def Zxy(h:Y->Z)(t:Term):bT h t=((!decide (t.qG=E0)&&h t.qG)||bif t.op==4 then bCs (Jc h (XQ t.qJ)) t.qJ||bTs (Jc h (XQ t.qJ)) t.qQ else bTs h t.qQ):=by cases t;rw[bT]
def ZsR(h:Y->Z)(c:Za):bC h c=bif c.qX==2 then bCs h c.qJ||bTs h c.qQ else bTs (Jc h (ZA c.qV)) c.qQ:=by cases c;rw[bC]
def ZdN(h:Y->Z)(t:Term)(l:U Term):bTs h (t::l)=(bT h t||bTs h l):=by rw[bTs]
def ZjZ(h:Y->Z):bTs h []=false:=by rw[bTs]
def Zmc(h:Y->Z)(t:Za)(l:U Za):bCs h (t::l)=(bC h t||bCs h l):=by rw[bCs]
def Zp2(h:Y->Z):bCs h []=false:=by rw[bCs]
structure CE(R:List NM->NM->Prop)(c:List NM)(env:NM)(B Bn:List ByteArray)(bad:ByteArray->Bool):Prop where
 get:∀x,Zjk c x=ZC env x
 sz:∀x e,ZC env x=some e->(pre (.ex e)).length<=60
 b:∀x,x∈B↔(ZC env x).isSome=true
 bd:∀x,bad x=true↔∃e,ZC env x=some e/\e.op≠2
 nb:∀x,x∈Bn->x∈B/\bad x=false
 r:R c env
variable{R:U NM->NM->Prop}
def ZqF{F:Nat}{B C:U Y}{p:Y->Z}{env:NM}(x:Y)(fr:MB)(c:U NM)(y:c.length<F)(h:CE R c env B C p):ZnY F fr c x=some (bif p x then .Ym 7 else .ok (note fr B x,Q5 env x)):=by
 unfold ZnY note Q5;rw[find_eq x c F y,Bq0,h.get x];have r:=h.b x;have q:=h.bd x;cases t:ZC env x with
 | none=>
   rw[t]at r q
   have l:p x=false:=by
    cases e:p x;.rfl
    have⟨_,z,_⟩:=q.1 e;cases z
   rw[if_neg (by simpa using r),l];rfl
 | some e=>
   rw[t]at r q;rw[if_pos (r.2 rfl)];by_cases h2:e.op=2
   .have l:p x=false:=by
     cases A:p x;.rfl
     have⟨_,z,z2⟩:=q.1 A;cases z;exact absurd h2 z2
    rw[l];simp[h2]
   have l:p x=true:=q.2 ⟨e,rfl,h2⟩;have:(e.op !=2)=true:=by simpa using h2
   rw[l];show(bif(e.op !=2) then some (PR.Ym 7) else some (PR.ok (fr,e.qG)))=_;rw[this];rfl
def Zkh{F:Nat}{B p:U Y}{l:Y->Z}{env:NM}(x:Y)(fr:MB)(c:U NM)(r:c.length<F)(h:CE R c env B p l)(q:x∈p):ZlO F fr c x=some (fr,Q5 env x):=by have⟨h1,h2⟩:=h.nb x q;unfold ZlO;rw[ZqF x fr c r h,h2];show some (id (note fr B x,Q5 env x))=_;unfold note;rw[if_pos h1];rfl
def ZpP{F:Nat}(I:10000000000000000000<=F):∀n e,(pre (.ex e)).length<=n->n<=60->∀Fr,n<=Fr->loop Fr (ZfF F) e=some e:=by
 intro n
 induction n with|zero=>intro e hn;have:=Xb (.ex e);omega|succ n ih=>
   intro e hn D Fr C;obtain⟨G,rfl⟩:∃G,Fr=G+1:=⟨Fr-1,by omega⟩;rw[Z7];have l:∀x∈e.qQ,loop G (ZfF F) x=some x:=fun x q=>ih x (by have:=Yv (YP q);omega) Vb G Vb;have y:e.qQ.length<(pre (.ex e)).length:=by have:=Wp (.ex e);simpa[ZP]using this
   generalize loop G (ZfF F)=n1 at l;unfold ZfF;have:=Yw (body:=ZgT e n1) (fun(k:Nat)(h:U Zf)=>((k:Int),h)) e.qQ (fun rest h=>h.length+rest.length<=1000) (fun rest h=>some (Zf.mk e.op e.n e.qG (h++rest))) (F:=F) ?_ ?_ Vb [] (by simp;omega);.refine this.trans ?_;rw[Jn];cases e;rfl
   .intro h r _;simp only[ZgT,Yi,Cq0,Ge]
   intro k x rest h r q A B t p;simp only[Kx]at t;have E:app 56 h [x]=some (h++[x]):=Wy (by simp;omega) Vb;simp only[ZgT,Yc A,Cq1,B,Bq0,l x q,E];rw[Ja Vb,p _ (by simp;omega),G9];rfl
def ZKv{F:Nat}(W:10000000000000000000<=F){B Bn:U Y}{L:Y->Z}{env:NM}{c:U NM}(I:CE R c env B Bn L)(E:c.length<F):∀n e (fr:MB),(pre (.ex e)).all Q6=true->(pre (.ex e)).length<=n->n<=60->∀Fr,n<=Fr->loop Fr (ZfG F c) (fr,e)=some (notes B (Qk e) fr,QK env e):=by
 intro n
 induction n with|zero=>intro e fr _ hn;have:=Xb (.ex e);omega|succ n ih=>
   intro e fr C hn X Fr V;obtain⟨G,rfl⟩:∃G,Fr=G+1:=⟨Fr-1,by omega⟩;rw[Z7];have l:∀x∈e.qQ,∀fr:MB,loop G (ZfG F c) (fr,x)=some (notes B (Qk x) fr,QK env x):=fun x q fr=>ih x fr (by rw[Q2]at C ⊢;exact fun y A=>C y (Xi (YP q) A)) (by have:=Yv (YP q);omega) Vb G Vb;have T:e.qQ.length<(pre (.ex e)).length:=by have:=Wp (.ex e);simpa[ZP]using this
   have h:Um e=true:=Q2.1 C _ (Xl _);generalize loop G (ZfG F c)=n1 at l;rw[ZhK,ZfH];unfold ZfG;dsimp only;cases h2:e.op==2
   .simp only[Cq0,Jn]
    have Q:e.qG=E0:=by
     unfold Um at h;rw[h2]at h;cases h1:e.op==1<;>rw[h1]at h<;>simp only[Cq1,Cq0,Ba0,decide_eq_true_eq]at h;.exact h.1.1.2
     exact h.1.2
    have:=Yw (body:=ZlS e n1) (fun(k:Nat)(s:MB×U Zf)=>((k:Int),s.1,s.2)) e.qQ (fun rest s=>s.2.length+rest.length<=1000) (fun rest s=>some (notes B (rest.flatMap Qk) s.1,Zf.mk e.op e.n E0 (s.2++rest.map (QK env)))) (F:=F) ?_ ?_ Vb (fr,[]) (by simp;omega);.refine this.trans ?_;rw[Q];rfl
    .intro s P _;simp only[ZlS,Yi,Cq0,List.map_nil,Ge];rfl
    intro k x rest s P q D p S t;simp only[Kx]at S;simp only[ZlS,Yc D,Cq1,p,Bq0,l x q];have a1:app 56 s.2 [QK env x]=some (s.2++[QK env x]):=Wy (by simp;omega) Vb;rw[a1,Bq0,Ja Vb];refine(t (notes B (Qk x) s.1,s.2++[QK env x]) (by simp;omega)).trans ?_;rw[Kf,Zgj,G9];rfl
   have D:e.qQ=[]:=by
    have K:e.op=2:=by simpa using h2
    unfold Um at h;rw[K]at h;simp only[Int.reduceBEq,Cq1,Cq0,Ba0,beq_iff_eq]at h;exact G8 h.2
   rw[D];simp only[Cq1,GQ,Ge];rw[find_eq e.qG c F E,Bq0,I.get];have r:=I.b e.qG;cases p:ZC env e.qG with
   | none=>
     rw[p]at r;show some (Yu fr e.qG true,e)=some (note fr B e.qG,e);unfold note;rw[if_neg (by simpa using r)]
   | some y=>
     rw[p]at r;have A:=ZpP W 60 y (I.sz _ _ p) Vc F Vb;show((Zw0 F y).bind fun z=>some (fr,z))=some (note fr B e.qG,y);unfold note Zw0;rw[if_pos (r.2 rfl),A];rfl
end
section
structure BE(F:Nat)(I:Nat->MB->Prop)(R:List NM->NM->Prop)(Yr:WA)(Ko:Za->List ByteArray->Option MB)(frL:Term->Option MB)(bd:BF MB):Prop where
 mono:∀k j tk,I (k+j) tk->I k tk
 t:∀tk c env B Bn bad t k,CE R c env B Bn bad->c.length+2*(pre (.pr t)).length<F->B.length+12000*(pre (.pr t)).length<=750000->(pre (.pr t)).all Q6=true->(pre (.pr t)).length<=60->t.op=4->(XQ t.qJ).length<=11040->I (k+(XQ t.qJ).length) tk ->
  ∃m,Yr tk c (XQ t.qJ) (frL t)=some ((bd tk env (XQ t.qJ) (.pr t)).1,m)/\CE R (m::c) (ext env (XQ t.qJ) (bd tk env (XQ t.qJ) (.pr t)).2) (B++XQ t.qJ) (Bn++XQ t.qJ) (Jc bad (XQ t.qJ))/\I k (bd tk env (XQ t.qJ) (.pr t)).1
 r:∀tk c env B Bn bad p k,CE R c env B Bn bad->c.length+2*(pre (.cl p)).length<F->B.length+12000*(pre (.cl p)).length<=750000->(pre (.cl p)).all Q6=true->(pre (.cl p)).length<=60->p.qX=1->(ZA p.qV).length<=9->I (k+(ZA p.qV).length) tk ->
  ∃m,Yr tk c (ZA p.qV) (Ko p (ZA p.qV))=some ((bd tk env (ZA p.qV) (.cl p)).1,m)/\CE R (m::c) (ext env (ZA p.qV) (bd tk env (ZA p.qV) (.cl p)).2) (B++ZA p.qV) (Bn++ZA p.qV) (Jc bad (ZA p.qV))/\I k (bd tk env (ZA p.qV) (.cl p)).1
def YZ(l:U Evt)(fr:MB):MB:=l.foldl (fun fr e=>note fr e.2 e.1) fr
def Uo(a b:U Evt)(fr:MB):YZ (a++b) fr=YZ b (YZ a fr):=List.foldl_append
def ZtW(B:U Y)(l:U Y)(fr:MB):YZ (l.map fun s=>(s,B)) fr=notes B l fr:=by unfold YZ notes;rw[List.foldl_map]
def TXg(F:Nat)(I:Nat->MB->Prop)(R:U NM->NM->Prop)(p:BF MB)(q:WS×U NM×Term->O (PR (WS×Term)))(t:Term):Prop:=∀fr l c env B r h k,CE R c env B r h->c.length+2*(pre (.pr t)).length<F->B.length+12000*(pre (.pr t)).length<=750000->I (k+12000*(pre (.pr t)).length) l ->
 q ((fr,l),c,t)=some (bif bT h t then .Ym 7 else .ok ((YZ (WB (.pr t) B) fr,(Wt p l env t).1),(Wt p l env t).2))/\(bT h t=false->I k (Wt p l env t).1)
def ZkS{c:Za}(r:K7 c=true):(ZA c.qV).length<=9:=by
 have⟨h3,hn3,k,hk⟩:=JY r
 have:∀l:U ZN,(∀m∈l,m.names.length<=3)->(ZA l).length<=3*l.length:=by
  intro l
  induction l with|nil=>intro _;simp[ZA]|cons m l p=>
    intro h;have a:=h m (by simp);have b:=p fun x q=>h x (Kd _ q);unfold ZA at b ⊢;rw[Kf,Ks,Kx];omega
 have:=this c.qV hn3;omega
def Zd9{c:Za}(h:K7 c=true)(l:c.qX=1):c.qG=E0/\c.qJ=[]:=by unfold K7 at h;rw[l]at h;simp only[Int.reduceBEq,Cq0,Ba0,decide_eq_true_eq,beq_iff_eq]at h;exact⟨h.2.1.1.1.1.2,G8 h.2.1.1.1.2⟩
def ZLy{R:U NM->NM->Prop}{F:Nat}(hF:10000000000000000000<=F){I:Nat->MB->Prop}{Yr:WA}{rl:Za->U Y->O MB}{fl:Term->O MB}{t:BF MB}(hE:BE F I R Yr rl fl t){B X:U Y}{l:Y->Z}{c:U NM}{env:NM}(hc:CE R c env B X l)(G:WS×U NM×Term->O (PR (WS×Term)))(p0:Za)(hs:(pre (.cl p0)).all Q6=true)(h60:(pre (.cl p0)).length<=60)(W:p0.qX=1)(hcl:c.length+2*(pre (.cl p0)).length<F)(hB:B.length+12000*(pre (.cl p0)).length<=750000)(hj:∀m∈p0.qV,m.qG∈X)(hnx:∀k∈p0.qQ,TXg F I R t G k)(fr y:MB)(V:Nat)(hI:I (V+12000*(pre (.cl p0)).length) y):
 ZnW F Yr rl G (fr,y) c p0=some (bif bC l p0 then .Ym 7 else .ok ((YZ (WB (.cl p0) B) fr,(Wc t y env p0).1),(Wc t y env p0).2))/\(bC l p0=false->I V (Wc t y env p0).1):=by
 have D:K7 p0=true:=Q2.1 hs _ (Xl _);have⟨h3,hn3,k,hk⟩:=JY D;have hd:=Zd9 D W;have hkl:=Yv (YU (c:=p0) (x:=k) (by rw[hk];simp));have Q:=ZkS D;have⟨K,hb,hci,hIb⟩:=hE.r y c env B X l p0 (V+12000*(pre (.pr k)).length) hc hcl hB hs h60 W Q (hE.mono _ (12000*(pre (.cl p0)).length-12000*(pre (.pr k)).length-(ZA p0.qV).length) _ (by refine(congrArg (fun z=>I z y) ?_).mp hI;omega));have he:WB (.cl p0) B=WB (.pr k) (B++ZA p0.qV):=by rw[ZpG,hd.2,hk];simp
 have hne:p0.qX≠2:=Vb
 have hbc:bC l p0=bT (Jc l (ZA p0.qV)) k:=by
  rw[ZsR,W,hk];show bTs _ [k]=_;rw[ZdN,ZjZ,Bool.or_false]
 have hin:inC t y env p0=((t y env (ZA p0.qV) (.cl p0)).1,ext env (ZA p0.qV) (t y env (ZA p0.qV) (.cl p0)).2):=by
  unfold inC;rw[W];rfl
 rw[ZeE hne,hin,hk,KH,Za3,he,hbc];dsimp only;generalize t y env (ZA p0.qV) (.cl p0)=bv at hb hci hIb;have⟨tk1,to⟩:=bv;dsimp only at hb hci hIb ⊢;generalize hen:ext env (ZA p0.qV) to=en at hci ⊢;have P:=fun fr=>hnx k (by rw[hk];simp) fr tk1 _ _ _ _ _ V hci (by simp only[Kx];omega) (by rw[Ks];omega) hIb;refine⟨?_,(P fr).2⟩
 have hb2:∀(i:Int) next p (m:ZN) fr,m∈p0.qV->p.length<=10->loop F (Zeo F (K::c) i next p m (Q5 env m.qG)) (0,fr,[])=next (XD (i+1),fr,p++[Zaa env en m]):=fun i next p m fr E hjs=>by
  have hmn:=hn3 m E;have:=Yw (body:=Zeo F (K::c) i next p m (Q5 env m.qG)) (fun(q:Nat)(h:U Y)=>((q:Int),fr,h)) m.names (fun rest h=>h.length+rest.length<=10) (fun rest h=>next (XD (i+1),fr,p++[ZN.mk (Q5 env m.qG) (h++rest.map (Q5 en))])) (F:=F) ?_ ?_ Vb [] (by simp;omega);.refine this.trans ?_;rw[Jn];rfl
  .intro h A C;have T:app 40 p [ZN.mk (Q5 env m.qG) h]=some (p++[ZN.mk (Q5 env m.qG) h]):=Wy (by simp;omega) Vb;simp only[Zeo,Yi,Cq0,T,Bq0,List.map_nil,Ge]
  intro q x rest h A hx L S C ih;simp only[Kx]at C;have hxb:x∈X++ZA p0.qV:=Gu _ (Q1.2 ⟨m,E,hx⟩);have ht:=Zkh (F:=F) x fr (K::c) (by simp only[Kx];omega) hci hxb;have T:app 16 h [Q5 en x]=some (h++[Q5 en x]):=Wy (by simp;omega) Vb;simp only[Zeo,Yc L,Cq1,S,Bq0,ht,T];rw[Ja Vb,ih _ (by simp;omega),G9];rfl
 have hb1:∀fr:MB,loop F (Zep F G c (K::c) tk1 p0) (0,fr,[])=some (bif bT (Jc l (ZA p0.qV)) k then .Ym 7 else .ok ((YZ (WB (.pr k) (B++ZA p0.qV)) fr,(Wt t tk1 en k).1),Za.mk p0.qX E0 (p0.qV.map (Zaa env en)) [] [(Wt t tk1 en k).2])):=fun fr=>by
  refine Yw (body:=Zep F G c (K::c) tk1 p0) (fun(q:Nat)(p:U ZN)=>((q:Int),fr,p)) p0.qV (fun rest p=>p.length+rest.length<=10) (fun rest p=>some (bif bT (Jc l (ZA p0.qV)) k then .Ym 7 else .ok ((YZ (WB (.pr k) (B++ZA p0.qV)) fr,(Wt t tk1 en k).1),Za.mk p0.qX E0 (p++rest.map (Zaa env en)) [] [(Wt t tk1 en k).2]))) (F:=F) ?_ ?_ Vb [] (by simp;omega)
  .intro p A C;have g0:Yl p0.qQ 0=some k:=by rw[hk];rfl
   simp only[Zep,Yi,Cq0,g0,Bq0];rw[(P fr).1,Bq0,List.map_nil,Ge];cases bT (Jc l (ZA p0.qV)) k<;>rfl
  intro q m rest p A E L S C ih;have ht:=Zkh (F:=F) m.qG fr c Vb hc (hj m E);simp only[Kx]at C;simp only[Zep,Yc L,Cq1,S,Bq0,ht];rw[hb2 _ _ p m fr E Vb,Ja Vb,ih _ (by simp;omega),G9];rfl
 unfold ZnW;have:=Yw (body:=ZgR F Yr rl G (fr,y) c p0) (fun(q:Nat)(h:U Y)=>((q:Int),h)) p0.qV (fun rest h=>h++ZA rest=ZA p0.qV/\h.length<=9) (fun _ _=>some (bif bT (Jc l (ZA p0.qV)) k then .Ym 7 else .ok ((YZ (WB (.pr k) (B++ZA p0.qV)) fr,(Wt t tk1 en k).1),Za.mk p0.qX E0 (p0.qV.map (Zaa env en)) [] [(Wt t tk1 en k).2]))) (F:=F) ?_ ?_ Vb [] ⟨rfl,GH _⟩;.exact this
 .intro h A C;have hns:h=ZA p0.qV:=by have:=C.1;simpa[ZA]using this
  subst hns;simp only[ZgR,Yi,Cq0];rw[hb,Bq0];exact hb1 fr
 intro q m rest h A E L S C ih;have hmn:=hn3 m E;have T:app 16 h m.names=some (h++m.names):=Wy Vb Vb;simp only[ZgR,Yc L,Cq1,S,Bq0,T];rw[Ja Vb];refine ih _ ⟨?_,?_⟩;.have:=C.1;unfold ZA at this ⊢;rw[Kf]at this;rw[G9];exact this
 have:=congrArg List.length C.1;unfold ZA at this;rw[Kf,Ks,Ks]at this;unfold ZA at Q;rw[Ks];omega
def Zec{h β:Type}(y:h)(p:Int->O β)(k:h->O β):JN (.ok y) p k=k y:=rfl
def ZkL{A σ β y:Type}{body:y->(y->O β)->O β}(q:Nat->σ->y)(l:U A)(Pre:U A->σ->Prop)(Q:U A->σ->O β->Prop)
 (I:∀s t,Pre [] s->Q [] s (body (q l.length s) t))
 (h1:∀(k:Nat) x rest s t,x∈l->k<l.length->Yl l (k:Int)=some x->Pre (x::rest) s->(∀r,Pre rest r->Q rest r (t (q (k+1) r)))->Q (x::rest) s (body (q k s) t)) {F:Nat} (D:l.length<F) (s:σ) (p:Pre l s):Q l s (loop F body (q 0 s)):=by
 have B:∀(d j F:Nat)(s:σ),j+d=l.length->d<F->Pre (l.drop j) s->Q (l.drop j) s (loop F body (q j s)):=by
  intro d;induction d with
  | zero=>
    intro j F s E D p;obtain⟨F,rfl⟩:∃G,F=G+1:=⟨F-1,by omega⟩;obtain rfl:j=l.length:=Vb;rw[List.drop_length]at p ⊢;rw[Z7];exact I _ _ p
  | succ d ih=>
    intro j F s E D p;obtain⟨F,rfl⟩:∃G,F=G+1:=⟨F-1,by omega⟩;have h:j<l.length:=Vb;rw[List.drop_eq_getElem_cons h]at p ⊢;rw[Z7];exact h1 j _ _ s _ (GE h) h (QN h) p fun r C=>ih (j+1) F r Vb Vb C
 have:=B l.length 0 F s Vb D (by simpa using p);simpa using this
def Zd7{t:Term}(h:ZeM t=true)(l:t.op≠4):t.qJ=[]:=by
 have p:(t.op==4)=false:=by simpa using l
 unfold ZeM szs at h;rw[p,Ba0]at h;have⟨h,_⟩:=h
 have z:t.qJ.length=0:=by
  cases a:(t.op==1)||(t.op==7)<;>rw[a]at h
  .cases b:t.op==2<;>rw[b]at h
   .cases c:t.op==3<;>rw[c]at h
    .cases d:t.op==5<;>rw[d]at h<;>simp only[Cq1,Cq0,Ba0,beq_iff_eq]at h;.exact h.2.1.2
     exact h.1.2
    simp only[Cq1,Cq0,Ba0,beq_iff_eq]at h;exact h.1.2
   simp only[Cq1,Cq0,Ba0,beq_iff_eq]at h;exact h.2.1.2
  simp only[Cq1,Cq0,Ba0,beq_iff_eq]at h;exact h.1.2
 exact G8 z
structure TB(B:List ByteArray)(l:List Za):Prop where
 j:∀sp∈(E0,l)::l.flatMap Qa,∀c∈sp.2,∀m∈c.qV,m.qG∈B
 p:∀sp∈l.flatMap Qa,sp.1∈B
def TB.sub{B:U Y}{l:U Za}(h:TB B l){c:Za}(y:c∈l)(h2:c.qX=2):TB B c.qJ:=by
 have e:Qa c=(c.qG,c.qJ)::c.qJ.flatMap Qa:=by rw[Wj,h2];rfl
 have r:∀sp,sp∈(c.qG,c.qJ)::c.qJ.flatMap Qa->sp∈l.flatMap Qa:=fun sp q=>Q1.2 ⟨c,y,by rw[e];exact q⟩;constructor
 .intro sp q d x m t;rcases K2.1 q with rfl|q
  .exact h.j (c.qG,c.qJ) (Kd _ (r _ Gg)) d x m t
  exact h.j sp (Kd _ (r _ (Kd _ q))) d x m t
 exact fun sp q=>h.p sp (r _ (Kd _ q))
def TB.qG{B:U Y}{l:U Za}(h:TB B l){c:Za}(q:c∈l)(h2:c.qX=2):c.qG∈B:=h.p (c.qG,c.qJ) (Q1.2 ⟨c,q,by rw[Wj,h2];exact Gg⟩)
def Zvm{l:U Za}(B:U Y):TB (B++XQ l) l:=
 ⟨fun sp h c q m p=>Gu _ (GC _ (ZAb h q p)),fun sp h=>Gu _ (Gu _ (Zyd h))⟩
section
variable{R:U NM->NM->Prop}{F:Nat}{I:Nat->MB->Prop}{Yr:WA}{rl:Za->U Y->O MB}{fl:Term->O MB}{bd:BF MB}
def Zta(p:BE F I R Yr rl fl bd){a b:Nat}{tk:MB}(h:b<=a)(l:I a tk):I b tk:=p.mono b (a-b) tk (by rw[show b+(a-b)=a by omega];exact l)
def Zy3(hF:10000000000000000000<=F)(hE:BE F I R Yr rl fl bd){B Bn:U Y}{p:Y->Z}{c:U NM}{env:NM}(hc:CE R c env B Bn p)(S:WS×U NM×Term->O (PR (WS×Term))):∀n (l:U Za),((l.map Part.cl).flatMap pre).length<=n->n<=60->(∀x∈(l.map Part.cl).flatMap pre,Q6 x=true)->(∀t,Part.pr t∈(l.map Part.cl).flatMap pre->TXg F I R bd S t)->TB Bn l ->
 ∀Fr,n<Fr->∀(fr A:MB)(C:Nat),c.length+2*((l.map Part.cl).flatMap pre).length<F->B.length+12000*((l.map Part.cl).flatMap pre).length<=750000->I (C+12000*((l.map Part.cl).flatMap pre).length) A ->
 loop Fr (ZdD F Yr rl S c) ((fr,A),l)=some (bif bCs p l then .Ym 7 else .ok ((YZ (l.flatMap fun d=>WB (.cl d) B) fr,(Wcs bd A env l).1),(Wcs bd A env l).2))/\(bCs p l=false->I C (Wcs bd A env l).1):=by
 intro n
 induction n with
 | zero=>
   intro l hl _ _ _ _ Fr hFr fr A C _ _ hI
   have:l=[]:=by
    cases l with|nil=>rfl|cons x l=>simp only[G7,Kf,Ks]at hl;have:=Xb (.cl x);omega
   subst this;obtain⟨G,rfl⟩:∃G,Fr=G+1:=⟨Fr-1,by omega⟩
   rw[Z7];rw[Zcb,Zp2];refine⟨?_,fun _=>Zta hE Vb hI⟩;unfold ZdD;dsimp only;cases F with|zero=>omega|succ F=>rw[Z7];rfl
 | succ n ih=>
   intro l hl h60 hs hnx X Fr hFr fr A C hcl hB hI;obtain⟨G,rfl⟩:∃G,Fr=G+1:=⟨Fr-1,by omega⟩
   rw[Z7];have hlen:=Zi4 l
   have hih:∀x∈l,x.qX=2->∀(fr A:MB)(C:Nat),I (C+12000*((x.qJ.map Part.cl).flatMap pre).length) A->loop G (ZdD F Yr rl S c) ((fr,A),x.qJ)=some (bif bCs p x.qJ then .Ym 7 else .ok ((YZ (x.qJ.flatMap fun d=>WB (.cl d) B) fr,(Wcs bd A env x.qJ).1),(Wcs bd A env x.qJ).2))/\(bCs p x.qJ=false->I C (Wcs bd A env x.qJ).1):=fun x P h2 fr A C hI=>by
    have T:∀y∈(x.qJ.map Part.cl).flatMap pre,y∈(l.map Part.cl).flatMap pre:=fun y L=>by
     obtain⟨z,hz,L⟩:=Q1.1 L;obtain⟨d,hd,rfl⟩:=JT.1 hz;exact Q1.2 ⟨_,Gs P,Xi (Xn hd) L⟩
    have h1:((x.qJ.map Part.cl).flatMap pre).length<(pre (.cl x)).length:=by
     rw[Jr (.cl x)];show _<((x.qJ.map Part.cl++x.qQ.map Part.pr).flatMap pre).length+1;rw[Gk,Ks];omega
    have h2':=Kw (Gs (f:=Part.cl) P);exact ih x.qJ Vb Vb (fun y L=>hs y (T y L)) (fun t ht=>hnx t (T _ ht)) (X.sub P h2) G Vb fr A C Vb Vb hI
   generalize loop G (ZdD F Yr rl S c)=n1 at hih;unfold ZdD;dsimp only
   have:=ZkL (body:=ZlL F Yr rl S c l n1) (fun(q:Nat)(s:MB×MB×U Za)=>((q:Int),(s.1,s.2.1),s.2.2)) l
    (fun rest s=>s.2.2.length+rest.length<=70/\I (C+12000*((rest.map Part.cl).flatMap pre).length) s.2.1)
    (fun rest s r=>r=some (bif bCs p rest then .Ym 7 else .ok ((YZ (rest.flatMap fun d=>WB (.cl d) B) s.1,(Wcs bd s.2.1 env rest).1),s.2.2++(Wcs bd s.2.1 env rest).2))/\(bCs p rest=false->I C (Wcs bd s.2.1 env rest).1)) (F:=F) ?_ ?_ Vb (fr,A,[]) ⟨by simp;omega,hI⟩
   ·obtain⟨e,hi⟩:=this;dsimp only at e hi;rw[Jn]at e;exact⟨e,hi⟩
   ·rintro⟨fr,A,E⟩ K ⟨Q,D⟩;dsimp only at Q D ⊢;rw[Zcb,Zp2];refine⟨?_,fun _=>Zta hE Vb D⟩;simp only[ZlL,Yi,Cq0,Ge];rfl
   rintro q x rest ⟨fr,A,E⟩ K P hq hg ⟨Q,D⟩ hr;dsimp only at Q D ⊢;rw[G7,Kf,Ks]at D;simp only[Kx]at Q;have ZGB:∀y∈pre (.cl x),y∈(l.map Part.cl).flatMap pre:=fun y L=>Q1.2 ⟨_,Gs P,L⟩
   have hxs:(pre (.cl x)).all Q6=true:=Q2.2 fun y L=>hs y (ZGB y L)
   have W:K7 x=true:=hs _ (ZGB _ (Xl _));have hxl:=Kw (Gs (f:=Part.cl) P)
   have hif:x.qX=1\/x.qX=2:=by
    rcases(Zay W).2 with h|h
    ·exact .inl h
    exact .inr h.1
   rw[Kf,ZbI,Zmc,Uo];dsimp only;have fin:∀y:Za,app 96 E [y]=some (E++[y]):=fun y=>Wy (by simp;omega) Vb
   have main:(bif x.qX==2 then(ZlO F fr c x.qG).bind fun y=>(n1 ((y.1,A),x.qJ)).bind fun d=>JN d (fun e=>some (.Ym e)) fun d=>(Yl x.qQ 0).bind fun k=>(S (d.1,c,k)).bind fun z=>JN z (fun e=>some (.Ym e)) fun z=>(app 96 E [Za.mk x.qX y.2 [] d.2 [z.2]]).bind fun a=>K (XD ((q:Int)+1),z.1,a) else(ZnW F Yr rl S (fr,A) c x).bind fun z=>JN z (fun e=>some (.Ym e)) fun z=>(app 96 E [z.2]).bind fun a=>K (XD ((q:Int)+1),z.1,a))=(bif bC p x then some (.Ym 7) else K (XD ((q:Int)+1),(YZ (WB (.cl x) B) fr,(Wc bd A env x).1),E++[(Wc bd A env x).2]))/\(bC p x=false->I (C+12000*((rest.map Part.cl).flatMap pre).length) (Wc bd A env x).1):=by
    rcases hif with h1|h2
    ·have hne:(x.qX==2)=false:=by rw[h1];rfl
     obtain⟨e,hi⟩:=ZLy hF hE hc S x hxs Vb h1 Vb Vb (fun m hm=>X.j (E0,l) Gg x P m hm) (fun k V=>hnx k (ZGB _ (Xi (YU V) (Xl _)))) fr A (C+12000*((rest.map Part.cl).flatMap pre).length) (Zta hE Vb D);rw[hne];simp only[Cq0];rw[e,Bq0];refine⟨?_,hi⟩;cases bC p x
     ·simp only[Cq0,Zec,fin,Bq0]
     rfl
    have he2:(x.qX==2)=true:=by rw[h2];rfl
    obtain⟨_,_,k,V⟩:=JY W
    have hj0:x.qV=[]:=by
     rcases(Zay W).2 with h|h
     ·omega
     exact h.2
    have hsz:(pre (.cl x)).length=((x.qJ.map Part.cl).flatMap pre).length+(pre (.pr k)).length+1:=by
     rw[Jr];show((x.qJ.map Part.cl++x.qQ.map Part.pr).flatMap pre).length+1=_;rw[V,Gk,Ks];simp
    have hbc:bC p x=(bCs p x.qJ||bT p k):=by
     rw[ZsR,h2,V];show(bCs p x.qJ||bTs p [k])=_;rw[ZdN,ZjZ,Bool.or_false]
    obtain⟨e1,i1⟩:=hih x P h2 fr A (C+12000*((rest.map Part.cl).flatMap pre).length+12000*(pre (.pr k)).length) (Zta hE Vb D);have hkm:k∈x.qQ:=by rw[V];simp
    have ht:=Zkh (F:=F) x.qG fr c Vb hc (X.qG P h2);have g0:Yl x.qQ 0=some k:=by rw[V];rfl
    rw[he2,hbc];simp only[Cq1];rw[ht,Bq0,e1,Bq0];cases hbd:bCs p x.qJ
    ·obtain⟨e2,i2⟩:=hnx k (ZGB _ (Xi (YU hkm) (Xl _))) (YZ (x.qJ.flatMap fun d=>WB (.cl d) B) fr) (Wcs bd A env x.qJ).1 c env B Bn p (C+12000*((rest.map Part.cl).flatMap pre).length) hc Vb Vb (i1 hbd);rw[ZbJ h2,V,KH,Za3,ZpG,hj0,V];refine⟨?_,i2⟩;simp only[Cq0,Zec,GX];rw[show Yl [k] 0=some k from rfl,Bq0,e2,Bq0];cases bT p k
     ·simp only[Cq0,Zec,fin,Bq0,ZA,GQ,Ge,Kf,Uo]
     rfl
    exact⟨rfl,fun z=>by cases z⟩
   obtain⟨m1,m2⟩:=main;simp only[ZlL,Yc hq,Cq1,hg,Bq0];rw[m1];cases hbx:bC p x
   ·have:=hr (YZ (WB (.cl x) B) fr,(Wc bd A env x).1,E++[(Wc bd A env x).2]) ⟨by simp;omega,m2 hbx⟩;rw[Ja Vb];obtain⟨r1,r2⟩:=this;dsimp only at r1 r2;refine⟨?_,r2⟩;rw[Cq0,r1,G9];rfl
   exact⟨rfl,fun z=>by cases z⟩
def ZtD(hF:10000000000000000000<=F)(hE:BE F I R Yr rl fl bd):∀n t,(pre (.pr t)).all Q6=true->(pre (.pr t)).length<=n->n<=60->∀Fr,n<=Fr->TXg F I R bd (loop Fr (ZdG F Yr rl fl)) t:=by
 intro n
 induction n with|zero=>intro t _ hn;have:=Xb (.pr t);omega|succ n ih=>
   intro t hs hn h60 Fr hFr fr tk c env B Bn bad kk hc hcl hB hI;obtain⟨G,rfl⟩:∃G,Fr=G+1:=⟨Fr-1,by omega⟩
   rw[Z7]
   have hsz:(pre (.pr t)).length=((t.args.map Part.ex).flatMap pre).length+(((t.qJ.map Part.cl).flatMap pre).length+((t.qQ.map Part.pr).flatMap pre).length)+1:=by
    rw[Jr];show((t.args.map Part.ex++t.qJ.map Part.cl++t.qQ.map Part.pr).flatMap pre).length+1=_;rw[Gk,Gk,Ks,Ks];omega
   have hall:∀{x},x∈pre (.pr t)->(pre x).all Q6=true:=fun hx=>by
    rw[Q2]at hs ⊢;exact fun y hy=>hs y (Za5 hy hx)
   have hnext:∀x,Part.pr x∈pre (.pr t)->(pre (.pr x)).length<=n->TXg F I R bd (loop G (ZdG F Yr rl fl)) x:=fun x hx hl=>ih x (hall hx) hl Vb G Vb
   generalize loop G (ZdG F Yr rl fl)=n1 at hnext;have hal:t.args.length<=((t.args.map Part.ex).flatMap pre).length:=by have:=ZaY (t.args.map Part.ex);simpa using this
   have hkl:t.qQ.length<=((t.qQ.map Part.pr).flatMap pre).length:=by have:=ZaY (t.qQ.map Part.pr);simpa using this
   have hk:∀(fr tk:MB)(c:U NM)(env:NM)(B Bn:U Y)(bad:Y->Z)(tx:Y)(args:U Zf)(ds:U Za),CE R c env B Bn bad->c.length+2*((t.qQ.map Part.pr).flatMap pre).length<F->B.length+12000*((t.qQ.map Part.pr).flatMap pre).length<=750000->I (kk+12000*((t.qQ.map Part.pr).flatMap pre).length) tk ->
    Kj F t n1 tx args ((fr,tk),c,ds)=some (bif bTs bad t.qQ then .Ym 7 else .ok ((YZ (t.qQ.flatMap fun k=>WB (.pr k) B) fr,(Wts bd tk env t.qQ).1),Term.mk t.op tx args ds (Wts bd tk env t.qQ).2))/\(bTs bad t.qQ=false->I kk (Wts bd tk env t.qQ).1):=fun fr tk c env B Bn bad tx args ds hc hcl hB hI=>by
    unfold Kj;dsimp only
    have:=ZkL (body:=Zg0 t n1 c tx args ds) (fun(q:Nat)(s:MB×MB×U Term)=>((q:Int),(s.1,s.2.1),s.2.2)) t.qQ
     (fun rest s=>s.2.2.length+rest.length<=70/\I (kk+12000*((rest.map Part.pr).flatMap pre).length) s.2.1)
     (fun rest s r=>r=some (bif bTs bad rest then .Ym 7 else .ok ((YZ (rest.flatMap fun k=>WB (.pr k) B) s.1,(Wts bd s.2.1 env rest).1),Term.mk t.op tx args ds (s.2.2++(Wts bd s.2.1 env rest).2)))/\(bTs bad rest=false->I kk (Wts bd s.2.1 env rest).1)) (F:=F) ?_ ?_ Vb (fr,tk,[]) ⟨by simp;omega,hI⟩
    ·obtain⟨e,hi⟩:=this;dsimp only at e hi;rw[Jn]at e;exact⟨e,hi⟩
    ·rintro⟨fr,tk,acc⟩ nx' ⟨hp1,hp2⟩;dsimp only at hp1 hp2 ⊢;rw[Za3,ZjZ];refine⟨?_,fun _=>Zta hE Vb hp2⟩;simp only[Zg0,Yi,Cq0,Ge];rfl
    rintro q x rest ⟨fr,tk,acc⟩ nx' hx hq hg ⟨hp1,hp2⟩ hr;dsimp only at hp1 hp2 ⊢;rw[G7,Kf,Ks]at hp2;simp only[Kx]at hp1;have hxl:=Kw (Gs (f:=Part.pr) hx);have hkx:=Yv (XB hx);obtain⟨e2,i2⟩:=hnext x (Xi (XB hx) (Xl _)) Vb fr tk c env B Bn bad (kk+12000*((rest.map Part.pr).flatMap pre).length) hc Vb Vb (Zta hE Vb hp2);have fin:app 96 acc [(Wt bd tk env x).2]=some (acc++[(Wt bd tk env x).2]):=Wy (by simp;omega) Vb;rw[Kf,KH,ZdN,Uo];dsimp only;simp only[Zg0,Yc hq,Cq1,hg,Bq0,e2];cases hbx:bT bad x
    ·have:=hr (YZ (WB (.pr x) B) fr,(Wt bd tk env x).1,acc++[(Wt bd tk env x).2]) ⟨by simp;omega,i2 hbx⟩;obtain⟨r1,r2⟩:=this;dsimp only at r1 r2;refine⟨?_,r2⟩;simp only[Cq0,Zec,fin,Bq0,GX];rw[Ja Vb,r1,G9];rfl
    exact⟨rfl,fun z=>by cases z⟩
   have ha:∀(fr:MB)(tx:Y),ZbZ F Yr rl fl t n1 tk c (fr,tx)=(bif t.op==4 then(Zsb F t.qJ).bind fun cp=>(app 16 cp.1 cp.2).bind fun names=>(Yr tk c names (fl t)).bind fun bd=>(ZwZ F Yr rl n1 (bd.2::c) (notes B (t.args.flatMap Qk) fr,bd.1) t.qJ).bind fun d=>JN d (fun e=>some (.Ym e)) fun d=>Kj F t n1 tx (t.args.map (QK env)) (d.1,bd.2::c,d.2) else Kj F t n1 tx (t.args.map (QK env)) ((notes B (t.args.flatMap Qk) fr,tk),c,[])):=fun fr tx=>by
    unfold ZbZ;dsimp only
    refine Yw (body:=Zg1 F Yr rl fl t n1 tk c tx) (fun(q:Nat)(s:MB×U Zf)=>((q:Int),s.1,s.2)) t.args (fun rest s=>s.2.length+rest.length<=70)
     (fun rest s=>(bif t.op==4 then(Zsb F t.qJ).bind fun cp=>(app 16 cp.1 cp.2).bind fun names=>(Yr tk c names (fl t)).bind fun bd=>(ZwZ F Yr rl n1 (bd.2::c) (notes B (rest.flatMap Qk) s.1,bd.1) t.qJ).bind fun d=>JN d (fun e=>some (.Ym e)) fun d=>Kj F t n1 tx (s.2++rest.map (QK env)) (d.1,bd.2::c,d.2) else Kj F t n1 tx (s.2++rest.map (QK env)) ((notes B (rest.flatMap Qk) s.1,tk),c,[]))) (F:=F) ?_ ?_ Vb (fr,[]) (by simp;omega)
    ·rintro⟨fr,acc⟩ nx' hp;simp only[Zg1,Yi,Cq0,List.map_nil,Ge,GQ];rfl
    rintro q x rest ⟨fr,acc⟩ nx' hx hq hg hp hr;simp only[Kx]at hp;have hkx:=Yv (JE hx);have he:Zxg F c fr x=some (notes B (Qk x) fr,QK env x):=ZKv hF hc Vb n x fr (hall (Xi (JE hx) (Xl _))) Vb Vb F Vb;have fin:app 56 acc [QK env x]=some (acc++[QK env x]):=Wy (by simp;omega) Vb;simp only[Zg1,Yc hq,Cq1,hg,Bq0,he,fin];rw[Ja Vb];refine(hr (notes B (Qk x) fr,acc++[QK env x]) (by simp;omega)).trans ?_;simp only[Kf,Zgj,G7,G9,List.singleton_append]
   have hb:∀(fr:MB)(tx:Y),tx=tx0 env t.qG->ZbZ F Yr rl fl t n1 tk c (fr,tx)=some (bif(bif t.op==4 then bCs (Jc bad (XQ t.qJ)) t.qJ||bTs (Jc bad (XQ t.qJ)) t.qQ else bTs bad t.qQ) then .Ym 7 else .ok ((YZ (((t.args.flatMap Qk).map fun s=>(s,B))++(t.qJ.flatMap (fun c=>WB (.cl c) (bnd t B))++t.qQ.flatMap (fun k=>WB (.pr k) (bnd t B)))) fr,(Wt bd tk env t).1),(Wt bd tk env t).2))/\((bif t.op==4 then bCs (Jc bad (XQ t.qJ)) t.qJ||bTs (Jc bad (XQ t.qJ)) t.qQ else bTs bad t.qQ)=false->I kk (Wt bd tk env t).1):=fun fr tx htx=>by
    rw[ha,Uo,Uo,ZtW];by_cases h4:t.op=4
    ·have e4:(t.op==4)=true:=by rw[h4];rfl
     obtain⟨a,b,c'⟩:=ZjB Vb hs (Xl (.pr t));obtain⟨n1',n2'⟩:=ZsB a b c';have hdl:(XQ t.qJ).length<=11040:=by unfold XQ;rw[Ks];omega
     have hbn:bnd t B=B++XQ t.qJ:=by unfold bnd;rw[e4];rfl
     have hin:inT bd tk env t=((bd tk env (XQ t.qJ) (.pr t)).1,ext env (XQ t.qJ) (bd tk env (XQ t.qJ) (.pr t)).2):=by unfold inT;rw[e4];rfl
     obtain⟨mb,hbb,hci,hIb⟩:=hE.t tk c env B Bn bad t (kk+12000*((t.qQ.map Part.pr).flatMap pre).length+12000*((t.qJ.map Part.cl).flatMap pre).length) hc hcl hB hs Vb h4 hdl (Zta hE Vb hI);rw[ZiB h4,hin,hbn,e4];simp only[Cq1];generalize bd tk env (XQ t.qJ) (.pr t)=bv at hbb hci hIb;obtain⟨tk1,to⟩:=bv;dsimp only at hbb hci hIb ⊢;generalize ext env (XQ t.qJ) to=en at hci ⊢;have a1:app 16 (ZeP t.qJ).1 (ZeP t.qJ).2=some (XQ t.qJ):=Wy Vb Vb;rw[ZD7 hF t.qJ a b c',Bq0,a1,Bq0,hbb,Bq0];dsimp only;have hBl:(B++XQ t.qJ).length<=B.length+11040:=by rw[Ks];omega
     obtain⟨e1,i1⟩:=Zy3 hF hE hci n1 n t.qJ Vb Vb (fun y hy=>Q2.1 hs y (by rw[pre_eq];refine Kd _ ?_;show y∈(t.args.map Part.ex++t.qJ.map Part.cl++t.qQ.map Part.pr).flatMap pre;rw[Gk,Gk];exact GC _ (Gu _ hy)))
      (fun y hy=>by
        have hym:Part.pr y∈pre (.pr t):=by rw[pre_eq];refine Kd _ ?_;show _∈(t.args.map Part.ex++t.qJ.map Part.cl++t.qQ.map Part.pr).flatMap pre;rw[Gk,Gk];exact GC _ (Gu _ hy)
        obtain⟨z,hz,hyz⟩:=Q1.1 hy;obtain⟨d,hd,rfl⟩:=JT.1 hz;have:=Zdc hyz;have:=Kw hz;exact hnext y hym Vb) (Zvm Bn) F Vb (notes B (t.args.flatMap Qk) fr) tk1 (kk+12000*((t.qQ.map Part.pr).flatMap pre).length) (by simp only[Kx];omega) Vb hIb
     unfold ZwZ;rw[e1,Bq0];cases hbd:bCs (Jc bad (XQ t.qJ)) t.qJ
     ·obtain⟨e2,i2⟩:=hk (YZ (t.qJ.flatMap fun d=>WB (.cl d) (B++XQ t.qJ)) (notes B (t.args.flatMap Qk) fr)) (Wcs bd tk1 en t.qJ).1 (mb::c) en (B++XQ t.qJ) (Bn++XQ t.qJ) (Jc bad (XQ t.qJ)) tx (t.args.map (QK env)) (Wcs bd tk1 en t.qJ).2 hci (by simp only[Kx];omega) Vb (i1 hbd);refine⟨?_,i2⟩;simp only[Cq0,Zec,GX];rw[e2,htx]
     exact⟨rfl,fun z=>by cases z⟩
    have e4:(t.op==4)=false:=by simpa using h4
    have hbn:bnd t B=B:=by unfold bnd;rw[e4];rfl
    have hd0:t.qJ=[]:=Zd7 (Q2.1 hs _ (Xl (.pr t))) h4;rw[ZeD h4,hbn,e4,hd0];simp only[Cq0,GQ];obtain⟨e2,i2⟩:=hk (notes B (t.args.flatMap Qk) fr) tk c env B Bn bad tx (t.args.map (QK env)) [] hc Vb Vb (Zta hE Vb hI);refine⟨?_,i2⟩;rw[e2,htx];rfl
   rw[ZuS,Zxy];unfold ZdG;dsimp only;by_cases ht:t.qG=E0
   ·have:decide (t.qG=(⟨#[]⟩:Y))=true:=decide_eq_true ht;rw[this,if_pos ht];simp only[J0,Cq0,Jn,Bool.false_and,GX];exact hb fr E0 (by unfold tx0;rw[if_pos ht])
   have:decide (t.qG=(⟨#[]⟩:Y))=false:=decide_eq_false ht;rw[this,if_neg ht];simp only[GM,Cq1,Gv];rw[ZqF t.qG fr c Vb hc,Bq0];cases hbx:bad t.qG
   ·simp only[GX];exact hb (note fr B t.qG) (Q5 env t.qG) (by unfold tx0;rw[if_neg ht])
   exact⟨rfl,fun z=>by cases z⟩
end
end
section
def Zbs{q r:Type}[DecidableEq q](p:q×r)(l:U (q×r))(k:q):ZC (p::l) k=if p.1=k then some p.2 else ZC l k:=by
 unfold ZC;rw[Yq];by_cases h:p.1=k;.rw[if_pos h,if_pos h];rfl
 rw[if_neg h,if_neg h];cases Yq l k<;>rfl
def Uq{p q:Type}[DecidableEq p](l r:U (p×q))(k:p):ZC (l++r) k=match ZC l k with|some v=>some v|none=>ZC r k:=by cases h:ZC l k with|some v=>exact ZhP h|none=>exact ZhQ h
def Zbr{q t:Type}[DecidableEq q]{l:U (q×t)}{k:q}{v:t}(h:ZC l k=some v):(k,v)∈l:=by
 induction l with|nil=>cases h|cons p l ih=>
   rw[Zbs]at h;by_cases r:p.1=k;.rw[if_pos r]at h;cases h;subst r;exact Gg
   rw[if_neg r]at h;exact Kd _ (ih h)
def Kt{q r:Type}[DecidableEq q]{l:U (q×r)}{k:q}:(ZC l k).isSome=true↔k∈l.map (·.1):=by
 induction l with|nil=>simp[ZC,Yq]|cons p l ih=>
   rw[Zbs];by_cases h:p.1=k;.rw[if_pos h];simp[h]
   rw[if_neg h,ih];simp[Ne.symm h]
def zip_fst{p β:Type}:∀(l:U p)(r:U β),l.length=r.length->(l.zip r).map (·.1)=l
 | [],_,_=>rfl
 | x::l,[],h=>by cases h
 | x::l,y::r,h=>by rw[GU,G7,zip_fst l r (by simpa using h)]
def Zv6(x:Y):(pre (.ex (JR x))).length=1:=by rw[Jr];rfl
def ext_get{l to:U Y}(t:l.length=to.length)(env:NM)(x:Y):(x∈l/\∃y∈to,ZC (ext env l to) x=some (JR y))\/(x∉l/\ZC (ext env l to) x=ZC env x):=by
 have h:(ZC ((l.zip to).map fun p=>(p.1,JR p.2)).reverse x).isSome=true↔x∈l:=by
  rw[Kt,List.map_reverse,List.mem_reverse,Gf];show x∈(l.zip to).map (·.1)↔_;rw[zip_fst l to t]
 unfold ext;rw[Uq];cases r:ZC ((l.zip to).map fun p=>(p.1,JR p.2)).reverse x with
 | none=>
   rw[r]at h;exact .inr ⟨by simpa using h,rfl⟩
 | some v=>
   rw[r]at h;have:=Zbr r;rw[List.mem_reverse,JT]at this;have⟨q,hq,e⟩:=this;cases e;exact .inl ⟨h.1 rfl,q.2,(List.of_mem_zip hq).2,rfl⟩
def Zvy{R:U NM->NM->Prop}{c:U NM}{env:NM}{B C:U Y}{r:Y->Z}(h:CE R c env B C r){l to:U Y}(t:l.length=to.length){m:NM}(E:∀x,ZC m x=ZC ((l.zip to).map fun p=>(p.1,JR p.2)).reverse x)(D:R (m::c) (ext env l to)):CE R (m::c) (ext env l to) (B++l) (C++l) (Jc r l):=by
 refine⟨fun x=>?_,fun x e he=>?_,fun x=>?_,fun x=>?_,fun x A=>?_,D⟩;.unfold ext Zjk;rw[Uq,E x,h.get x];cases ZC ((l.zip to).map fun p=>(p.1,JR p.2)).reverse x<;>rfl
 .rcases ext_get t env x with⟨_,y,_,q⟩|⟨_,q⟩
  .rw[q]at he;cases he;rw[Zv6];omega
  rw[q]at he;exact h.sz x e he
 .rw[Q3,h.b x];rcases ext_get t env x with⟨h1,y,_,q⟩|⟨h1,q⟩
  .rw[q];simp[h1]
  rw[q];simp[h1]
 .unfold Jc;rcases ext_get t env x with⟨h1,y,_,q⟩|⟨h1,q⟩
  .rw[q,decide_eq_true h1];constructor;.intro z;simp at z
   rintro⟨e,he,h2⟩;cases he;exact absurd rfl h2
  rw[q,decide_eq_false h1];simpa using h.bd x
 rw[Q3]at A ⊢;unfold Jc;by_cases h1:x∈l;.exact⟨.inr h1,by rw[decide_eq_true h1];simp⟩
 have⟨z1,z2⟩:=h.nb x (A.resolve_right h1);exact⟨.inl z1,by rw[z2];rfl⟩
def Zir(l:U Y)(x:Y):ZC (bindM l []) x=ZC ((l.zip l).map fun p=>(p.1,JR p.2)).reverse x:=by
 rw[Ziq]
 have:∀l:U Y,(l.zip l).map (fun p=>(p.1,JR p.2))=l.map fun y=>(y,JR y):=by
  intro l;induction l with|nil=>rfl|cons y l ih=>rw[GU,G7,ih];rfl
 rw[this];by_cases h:x∈l
 .rw[if_pos h]
  have:(ZC (l.map fun y=>(y,JR y)).reverse x).isSome=true:=by
   rw[Kt,List.map_reverse,List.mem_reverse,Gf];exact JT.2 ⟨x,h,rfl⟩
  cases r:ZC (l.map fun y=>(y,JR y)).reverse x with|none=>rw[r]at this;cases this|some v=>
    have:=Zbr r;rw[List.mem_reverse,JT]at this;have⟨q,_,e⟩:=this;cases e;rfl
 rw[if_neg h];cases r:ZC (l.map fun y=>(y,JR y)).reverse x with|none=>rfl|some v=>
   have:=Zbr r;rw[List.mem_reverse,JT]at this;have⟨q,hq,e⟩:=this;cases e;exact absurd hq h
def bdI{σ:Type}:BF σ:=fun s _ l _=>(s,l)
def ZV3{F:Nat}(q:10000000000000000000<=F)(y:Za->U Y->O MB)(C:Term->O MB):BE F (fun _ _=>True) (fun _ _=>True) (Zbh F) y C bdI where
 mono:=fun _ _ _ _=>trivial
 t:=fun x c env B D l t k h _ _ _ _ _ A _=>⟨bindM (XQ t.qJ) [],by unfold Zbh;rw[bind_eq q _ Vb];rfl,Zvy h rfl (Zir _) trivial,trivial⟩
 r:=fun x c env B D l p k h _ _ _ _ _ A _=>⟨bindM (ZA p.qV) [],by unfold Zbh;rw[bind_eq q _ Vb];rfl,Zvy h rfl (Zir _) trivial,trivial⟩
def IdE(env:NM):Prop:=∀x e,ZC env x=some e->e=JR x
def Zj4{env:NM}(h:IdE env)(l:U Y):IdE (ext env l l):=fun x e he=>by
 unfold ext at he;rw[Uq,<-Zir,Ziq]at he;by_cases p:x∈l
 .rw[if_pos p]at he;cases he;rfl
 rw[if_neg p]at he;simp only[ZC,Yq,Option.map_none]at he;exact h x e he
def Zqg:IdE []:=fun x e he=>by cases he
def Zov{env:NM}(h:IdE env)(x:Y):Q5 env x=x:=by unfold Q5;cases l:ZC env x with|none=>rfl|some e=>rw[h x e l];rfl
def Zz8{env:NM}(h:IdE env)(x:Y):tx0 env x=x:=by
 unfold tx0;split;next e=>exact e.symm
 exact Zov h x
def ZuP{env:NM}(h:IdE env):∀n e,(pre (.ex e)).all Q6=true->(pre (.ex e)).length<=n->QK env e=e:=by
 intro n
 induction n with|zero=>intro e _ hn;have:=Xb (.ex e);omega|succ n ih=>
   intro e q hn;have l:Um e=true:=Q2.1 q _ (Xl _);rw[ZfH];cases h2:e.op==2
   .have:e.qQ.map (QK env)=e.qQ:=by
     conv=>rhs;rw[<-List.map_id e.qQ]
     exact Gh fun x r=>ih x (by rw[Q2]at q ⊢;exact fun y A=>q y (Xi (YP r) A)) (by have:=Yv (YP r);omega)
    rw[this];show Zf.mk e.op e.n e.qG e.qQ=e;cases e;rfl
   cases B:ZC env e.qG with|none=>rfl|some y=>
     have p:e.op=2:=by simpa using h2
     have t:e.qQ=[]/\e.n=0:=by
      unfold Um at l;rw[p]at l;simp only[Int.reduceBEq,Cq1,Cq0,Ba0,beq_iff_eq]at l;exact⟨G8 l.2,l.1.2⟩
     rw[h _ _ B];have⟨op,nn,tx,ks⟩:=e;simp only at p t;obtain⟨rfl,rfl⟩:=t;subst p;rfl
def ZKy(t:Term):Term.mk t.op t.qG t.args t.qJ t.qQ=t:=by cases t;rfl
def ZKz(t:Za):Za.mk t.qX t.qG t.qV t.qJ t.qQ=t:=by cases t;rfl
def Z0v{σ:Type}:∀n,(∀t,(pre (.pr t)).all Q6=true->(pre (.pr t)).length<=n->∀(s:σ) env,IdE env->Wt bdI s env t=(s,t))/\(∀c,(pre (.cl c)).all Q6=true->(pre (.cl c)).length<=n->∀(s:σ) env,IdE env->Wc bdI s env c=(s,c)):=by
 intro n;induction n with
 | zero=>exact⟨fun t _ hn=>by have:=Xb (.pr t);omega,fun t _ hn=>by have:=Xb (.cl t);omega⟩
 | succ n ih=>
   have A:∀(l:U Term),(∀x∈l,(pre (.pr x)).all Q6=true/\(pre (.pr x)).length<=n)->∀(s:σ) env,IdE env->Wts bdI s env l=(s,l):=by
    intro l
    induction l with|nil=>intro _ s env _;rw[Za3]|cons x l B=>
      intro h s env he;have q:=h x (by simp);rw[KH,ih.1 x q.1 q.2 s env he,B (fun y D=>h y (Kd _ D)) s env he]
   have E:∀(l:U Za),(∀x∈l,(pre (.cl x)).all Q6=true/\(pre (.cl x)).length<=n)->∀(s:σ) env,IdE env->Wcs bdI s env l=(s,l):=by
    intro l
    induction l with|nil=>intro _ s env _;rw[Zcb]|cons x l B=>
      intro h s env he;have q:=h x (by simp);rw[ZbI,ih.2 x q.1 q.2 s env he,B (fun y D=>h y (Kd _ D)) s env he]
   have sub:∀{p k:Part},(pre p).all Q6=true->(pre p).length<=n+1->k∈ZP p->(pre k).all Q6=true/\(pre k).length<=n:=fun r hn L=>⟨by rw[Q2]at r ⊢;exact fun y D=>r y (Xi L D),by have:=Yv L;omega⟩;constructor
   .intro t r hn s env he
    have Q:t.args.map (QK env)=t.args:=by
     conv=>rhs;rw[<-List.map_id t.args]
     exact Gh fun x q=>ZuP he n x (sub r hn (JE q)).1 (sub r hn (JE q)).2
    by_cases F:t.op=4
    .have C:inT bdI s env t=(s,ext env (XQ t.qJ) (XQ t.qJ)):=by unfold inT;rw[F];rfl
     rw[ZiB F,C];dsimp only;rw[E t.qJ (fun x q=>sub r hn (XR q)) s _ (Zj4 he _)];dsimp only;rw[A t.qQ (fun x q=>sub r hn (XB q)) s _ (Zj4 he _),Q,Zz8 he,ZKy]
    have I:t.qJ=[]:=Zd7 (Q2.1 r _ (Xl (.pr t))) F;rw[ZeD F,A t.qQ (fun x q=>sub r hn (XB q)) s env he,Q,Zz8 he];dsimp only;rw[<-I,ZKy]
   intro c r hn s env he;have K:K7 c=true:=Q2.1 r _ (Xl _);by_cases h2:c.qX=2
   .rw[ZbJ h2,E c.qJ (fun x q=>sub r hn (Xn q)) s env he];dsimp only;rw[A c.qQ (fun x q=>sub r hn (YU q)) s env he,Zov he]
    have G:c.qV=[]:=by
     rcases(Zay K).2 with h|h
     .omega
     exact h.2
    dsimp only;rw[<-G,ZKz]
   have P:c.qX=1:=by
    rcases(Zay K).2 with h|h
    .exact h
    exact absurd h.1 h2
   have⟨ht,hd⟩:=Zd9 K P;have C:inC bdI s env c=(s,ext env (ZA c.qV) (ZA c.qV)):=by unfold inC;rw[P];rfl
   have S:c.qV.map (Zaa env (ext env (ZA c.qV) (ZA c.qV)))=c.qV:=by
    conv=>rhs;rw[<-List.map_id c.qV]
    refine Gh fun m T=>?_;unfold Zaa;rw[Zov he]
    have:m.names.map (Q5 (ext env (ZA c.qV) (ZA c.qV)))=m.names:=by
     conv=>rhs;rw[<-List.map_id m.names]
     exact Gh fun x _=>Zov (Zj4 he _) x
    rw[this];rfl
   rw[ZeE h2,C];dsimp only;rw[A c.qQ (fun x q=>sub r hn (YU q)) s _ (Zj4 he _),S];dsimp only;rw[<-ht,<-hd,ZKz]
def Zvx:CE (fun _ _=>True) [[]] [] [] [] (fun _=>false):=⟨fun x=>rfl,fun x e he=>(by cases he),fun x=>by simp[ZC,Yq],fun x=>⟨fun z=>(by cases z),fun⟨e,he,_⟩=>(by cases he)⟩,fun x h=>(by cases h),trivial⟩
def Zxx:∀n,(∀t,(pre (.pr t)).length<=n->∀p,(∀x,p x=false)->bT p t=false)/\(∀c,(pre (.cl c)).length<=n->∀p,(∀x,p x=false)->bC p c=false):=by
 intro n;induction n with
 | zero=>exact⟨fun t hn=>by have:=Xb (.pr t);omega,fun t hn=>by have:=Xb (.cl t);omega⟩
 | succ n ih=>
   have B:∀(l:U Term),(∀x∈l,(pre (.pr x)).length<=n)->∀p,(∀x,p x=false)->bTs p l=false:=by
    intro l;induction l with|nil=>intro _ p _;rw[ZjZ]|cons x l C=>intro h p r;rw[ZdN,ih.1 x (h x (by simp)) p r,C (fun y E=>h y (Kd _ E)) p r];rfl
   have D:∀(l:U Za),(∀x∈l,(pre (.cl x)).length<=n)->∀p,(∀x,p x=false)->bCs p l=false:=by
    intro l;induction l with|nil=>intro _ p _;rw[Zp2]|cons x l C=>intro h p r;rw[Zmc,ih.2 x (h x (by simp)) p r,C (fun y E=>h y (Kd _ E)) p r];rfl
   have q:∀(p:Y->Z) l,(∀x,p x=false)->∀x,Jc p l x=false:=fun p l h x=>by unfold Jc;rw[h x];rfl
   constructor;.intro t hn p r;rw[Zxy,r,D t.qJ (fun x A=>by have:=Yv (XR A);omega) _ (q p _ r),B t.qQ (fun x A=>by have:=Yv (XB A);omega) _ (q p _ r),B t.qQ (fun x A=>by have:=Yv (XB A);omega) _ r];simp
   intro c hn p r;rw[ZsR,D c.qJ (fun x A=>by have:=Yv (Xn A);omega) _ r,B c.qQ (fun x A=>by have:=Yv (YU A);omega) _ r,B c.qQ (fun x A=>by have:=Yv (YU A);omega) _ (q p _ r)];simp
def ZbW{F:Nat}(p:10000000000000000000<=F)(t:Term)(l:(pre (.pr t)).all Q6=true)(hn:(pre (.pr t)).length<=60):ZbB F t=some (YZ (WB (.pr t) []) [])/\ZuF F t=some t:=by have h:=(ZtD p (ZV3 p (fun _ _=>none) (fun _=>none)) 60 t l hn Vc F Vb [] [] [[]] [] [] [] _ 0 Zvx (by simp only[Kx,GK];omega) (by simp;omega) trivial).1;rw[(Z0v 60).1 t l hn [] [] Zqg,(Zxx 60).1 t hn _ fun _=>rfl]at h;have q:Ze8 F (Zbh F) (fun _ _=>none) (fun _=>none) (([],[]),[[]],t)=_:=h;unfold ZbB ZuF;rw[q];exact⟨rfl,rfl⟩
def Zen{p:Type}(m:U (Y×p))(x:Y)(v:p):(Yu m x v).map (·.1)=if x∈m.map (·.1) then m.map (·.1) else m.map (·.1)++[x]:=by
 have h:=Kt (l:=m) (k:=x);unfold ZC at h;unfold Yu;cases e:Yq m x with
 | none=>
   rw[e]at h;rw[if_neg (by rw[<-h];simp)];simp
 | some q=>
   rw[e]at h;rw[if_pos (h.1 rfl)];have t:=ZaC e;apply GL;intro i;simp only[GN,List.getElem?_modify];by_cases r:q.1=i;.subst r;rw[t];show Option.map _ (some (if q.1=q.1 then(x,v) else(x,q.2)))=_;rw[if_pos rfl];rfl
   cases m[i]?<;>simp[r]
def Zyp(fr:MB)(e:Evt):(note fr e.2 e.1).map (·.1)=if e.1∈e.2\/e.1∈fr.map (·.1) then fr.map (·.1) else fr.map (·.1)++[e.1]:=by
 unfold note;by_cases h1:e.1∈e.2;.rw[if_pos h1,if_pos (.inl h1)]
 rw[if_neg h1,Zen];by_cases h2:e.1∈fr.map (·.1);.rw[if_pos h2,if_pos (.inr h2)]
 rw[if_neg h2,if_neg (by simp[h1,h2])]
def UW:∀(l:U Evt)(fr:MB),(fr.map (·.1)).Nodup->((YZ l fr).map (·.1)).Nodup/\(∀x,x∈(YZ l fr).map (·.1)↔x∈fr.map (·.1)\/∃e∈l,x=e.1/\e.1∉e.2)/\(YZ l fr).length<=fr.length+l.length
 | [],fr,h=>⟨h,fun x=>by simp[YZ],K1 _⟩
 | e::l,fr,h=>by
   have q:=Zyp fr e
   have hn:((note fr e.2 e.1).map (·.1)).Nodup:=by
    rw[q];by_cases p:e.1∈e.2\/e.1∈fr.map (·.1);.rw[if_pos p];exact h
    rw[if_neg p,List.nodup_append];refine⟨h,by simp,fun a A b y=>?_⟩;rw[J1.1 y];exact fun e=>p (.inr (e▸A))
   have⟨i1,i2,i3⟩:=UW l (note fr e.2 e.1) hn;refine⟨i1,fun x=>(i2 x).trans ?_,?_⟩
   .have t:x∈(note fr e.2 e.1).map (·.1)↔x∈fr.map (·.1)\/(x=e.1/\e.1∉e.2):=by
     rw[q];by_cases p:e.1∈e.2\/e.1∈fr.map (·.1)
     .rw[if_pos p];refine⟨.inl,fun h=>h.elim id fun h=>?_⟩;rcases p with p|p
      .exact absurd p h.2
      exact h.1▸p
     rw[if_neg p,Q3,J1];exact⟨fun h=>h.imp id fun e=>⟨e,fun z=>p (.inl z)⟩,fun h=>h.imp id fun e=>e.1⟩
    rw[t];constructor
    .rintro((h|h) | ⟨r,he,h⟩);.exact .inl h
     .exact .inr ⟨e,by simp,h⟩
     exact .inr ⟨r,by simp[he],h⟩
    rintro(h|⟨r,he,h⟩);.exact .inl (.inl h)
    rcases K2.1 he with rfl|he
    .exact .inl (.inr h)
    exact .inr ⟨r,he,h⟩
   have:(note fr e.2 e.1).length<=fr.length+1:=by
    have:=congrArg List.length q;rw[G5]at this;rw[this];split<;>simp
   show(YZ l (note fr e.2 e.1)).length<=_;simp only[Kx];omega
def ZqI(a b:Y):ZeT a b=decide (a.data.toList<b.data.toList):=Go.Proofs.bytesLess_eq _ _
def leS(a b:Y):Prop:=a.data.toList<=b.data.toList
def ZA8{a b:Y}(h1:leS a b)(h2:leS b a):a=b:=by have:=List.le_antisymm h1 h2;cases a;cases b;exact congrArg _ (Array.toList_inj.1 this)
def ZiR{s:Y}:∀{l:U Y},l.Pairwise leS->(ZeO l s).Pairwise leS
 | [],_=>by simp[ZeO]
 | x::l,h=>by
   unfold ZeO;rw[GV]at h;cases r:ZeT x s
   .rw[ZqI,decide_eq_false_iff_not]at r;have q:leS s x:=List.not_lt.1 r;rw[Cq0,GV];refine⟨fun y p=>?_,GV.2 h⟩;rcases K2.1 p with rfl|p
    .exact q
    exact List.le_trans q (h.1 y p)
   rw[ZqI,decide_eq_true_eq]at r;rw[Cq1,GV];refine⟨fun y p=>?_,ZiR h.2⟩;rcases ZkH.1 p with rfl|p
   .exact List.le_of_lt r
   exact h.1 y p
def ZkT{s:Y}:∀{l:U Y},l.Nodup->s∉l->(ZeO l s).Nodup
 | [],_,_=>by simp[ZeO]
 | x::l,h,hs=>by
   unfold ZeO;rw[GA]at h;rw[K2,not_or]at hs;cases ZeT x s
   .rw[Cq0,GA,K2,not_or,GA];exact⟨hs,h⟩
   rw[Cq1,GA];exact⟨fun p=>(ZkH.1 p).elim (fun e=>hs.1 e.symm) h.1,ZkT h.2 hs.2⟩
def ZbP:∀(l:U Evt)(o:U Y),o.Pairwise leS->o.Nodup->(Zcf l o).Pairwise leS/\(Zcf l o).Nodup
 | [],o,h1,h2=>⟨h1,h2⟩
 | e::l,o,h1,h2=>by
   show(Zcf l (Zgb o e.2 e.1)).Pairwise leS/\(Zcf l (Zgb o e.2 e.1)).Nodup;unfold Zgb;by_cases h:e.1∈e.2\/e.1∈o
   .rw[if_pos h];exact ZbP l o h1 h2
   rw[if_neg h];exact ZbP l _ (ZiR h1) (ZkT h2 fun z=>h (.inr z))
def ZqK(m:MB):(Zcv m).Pairwise leS:=by unfold Zcv Zja;refine List.Pairwise.map _ (fun a b h=>?_) (List.pairwise_mergeSort Znx Zny _);simpa[leS]using h
def Zx0(m:MB):(Zcv m).Perm (m.map (·.1)):=by unfold Zcv Zja;refine((List.mergeSort_perm _ _).map _).trans ?_;unfold kbs;rw[Gf];refine List.Perm.of_eq (Gh fun p _=>?_);rfl
def ZtF(l:U Evt):Zcv (YZ l [])=Zcf l []:=by have⟨k1,k2,_⟩:=UW l [] List.nodup_nil;have⟨p1,p2⟩:=ZbP l [] List.Pairwise.nil List.nodup_nil;refine List.Perm.eq_of_pairwise (fun a b _ _ h1 h2=>ZA8 h1 h2) (ZqK _) p1 ?_;refine(Zx0 _).trans ((List.perm_ext_iff_of_nodup k1 p2).2 fun x=>?_);rw[k2,Zej];simp
def Zt2{s:Y}(h:Xt s=true):s.size<=8:=by unfold Xt at h;simp only[Ba0,decide_eq_true_eq]at h;exact h.1.1.2
def Ze1(t:Term):U Y:=Zcf (WB (.pr t) []) []
end
section
def FK:Nat:=10000000000000000000
def exT:Term:=(Zia FK).getD default
def ZD3:Zia FK=some exT:=Kq0
def evK:U Evt:=[((⟨#[122]⟩:Y),[]),((⟨#[98]⟩:Y),[]),((⟨#[113]⟩:Y),[])]
def ZDV:ZyV FK exT=some (13,0):=Kq0
def ZDX:ZyU FK exT=some (5,0):=Kq0
def ZDW:ZbB FK exT=some (YZ evK []):=Kq0
def ZDY:Zcz FK exT=some 0:=Kq0
def ZIs:Zo0 (YZ evK [])=true:=Kq0
def ZyX:Zcf evK []=[(⟨#[98]⟩:Y),(⟨#[113]⟩:Y),(⟨#[122]⟩:Y)]:=Kq0
def ZIt:ZyT FK exT=some ([(⟨#[98]⟩:Y),(⟨#[113]⟩:Y),(⟨#[122]⟩:Y)],0):=by unfold ZyT;rw[ZDY,ZDW,Bq0,Bq0,ZIs,ZtF,ZyX];rfl
def nxK:Zf:=Zf.mk 2 0 (⟨#[120]⟩:Y) []
def ZIu:ZDE FK exT=some ([(⟨#[120]⟩:Y),(⟨#[121]⟩:Y)],[(⟨#[112]⟩:Y)],0):=Kq0
def ZIr:ZDz (⟨#[120]⟩:Y)=some nxK:=Kq0
def pK:Term×Int:=(Zcy FK exT (⟨#[98]⟩:Y) nxK).getD default
def ZOL:Zcy FK exT (⟨#[98]⟩:Y) nxK=some pK:=Kq0
def qK:Term×Int:=(Zcy FK exT (⟨#[113]⟩:Y) (Zf.mk 1 2 (⟨#[]⟩:Y) [])).getD default
def ZIp:Zcy FK exT (⟨#[113]⟩:Y) (Zf.mk 1 2 (⟨#[]⟩:Y) [])=some qK:=Kq0
def cK:Term×Int:=(ZDB FK exT).getD default
def ZDZ:ZDB FK exT=some cK:=Kq0
def kK:Term:=(Yl exT.qQ 0).getD default
def ZOM:Yl exT.qQ 0=some kK:=Kq0
def mK:U Term×Int:=(ZDC FK kK).getD default
def ZDU:ZDC FK kK=some mK:=Kq0
def bK:U Y:=(Zsd FK pK.1.qJ).getD default
def ZD0:Zsd FK pK.1.qJ=some bK:=Kq0
def dK:U Y:=(Zsd FK cK.1.qJ).getD default
def ZyY:Zsd FK cK.1.qJ=some dK:=Kq0
def ZIq:(((((((pK.2 !=0)||(qK.2 !=7))||(cK.2 !=0))||(mK.2 !=0))||((pK.1.qJ.length:Int) !=2))||((cK.1.qJ.length:Int) !=2))||((mK.1.length:Int) !=2))=false:=Kq0
def ZOJ:Uz FK false=some true:=by unfold Uz;simp only[ZD3,ZIr,ZOL,ZIp,ZDZ,ZOM,ZDU,ZIq,ZD0,ZyY,Bq0,Cq0];kernel_rfl
def ZUI:ZbC FK [(⟨#[98]⟩:Y),(⟨#[113]⟩:Y),(⟨#[122]⟩:Y)] [(⟨#[98]⟩:Y),(⟨#[113]⟩:Y),(⟨#[122]⟩:Y)]=some true:=Kq0
def ZUH:ZbC FK [(⟨#[120]⟩:Y),(⟨#[121]⟩:Y)] [(⟨#[120]⟩:Y),(⟨#[121]⟩:Y)]=some true:=Kq0
def ZUG:ZbC FK [(⟨#[112]⟩:Y)] [(⟨#[112]⟩:Y)]=some true:=Kq0
def ZBa{F:Nat}{h:Term}(h1:Zia F=some h)(h2:ZyV F h=some (13,0))(y:ZyU F h=some (5,0))(x:ZyT F h=some ([(⟨#[98]⟩:Y),(⟨#[113]⟩:Y),(⟨#[122]⟩:Y)],0))
 (t:ZDE F h=some ([(⟨#[120]⟩:Y),(⟨#[121]⟩:Y)],[(⟨#[112]⟩:Y)],0)) (r:ZbC F [(⟨#[98]⟩:Y),(⟨#[113]⟩:Y),(⟨#[122]⟩:Y)] [(⟨#[98]⟩:Y),(⟨#[113]⟩:Y),(⟨#[122]⟩:Y)]=some true)
 (q:ZbC F [(⟨#[120]⟩:Y),(⟨#[121]⟩:Y)] [(⟨#[120]⟩:Y),(⟨#[121]⟩:Y)]=some true) (p:ZbC F [(⟨#[112]⟩:Y)] [(⟨#[112]⟩:Y)]=some true) (l:Uz F false=some true):ZnX F=some true:=by
 unfold ZnX;simp only[h1,h2,y,x,t,Bq0,r,q,p];exact l
def ZyW:ZnX FK=some true:=ZBa ZD3 ZDV ZDX ZIt ZIu ZUI ZUH ZUG ZOJ
end
section
open Go.ZU Go.Lf
def ZgS{h:H}{r:Z}(l:ZmY=some r):Pure XX 14 #[] h (.bool r):=by cases l;exact ZH9 ZyW
end
section
open Go.ZU Go.Lf
def ZUD{F V h}{p0:Term}{p1:Two}{Zh Zg Zo Zn Zr Zq Zx Zw YB YA}{r}(ZG:V<=h.size)(Zm:Sl Zi V h Zh Zg p0.args)(ZI:Sl Zc V h Zo Zn p0.qJ)(ZL:Sl Zt V h Zr Zq p0.qQ)(X:Sl Zi V h Zx Zw p1.e.qQ)(W:Sl Zi V h YB YA p1.f.qQ)(p:f9L F p0 p1=some r):
 WR XX 9 #[.agg (q1W p0 Zh Zg Zo Zn Zr Zq).toArray,.agg #[.string p1.x,.string p1.y,V9 p1.e.op,V9 p1.e.n,.string p1.e.qG,.slice Zx p1.e.qQ.length Zw,V9 p1.f.op,V9 p1.f.n,.string p1.f.qG,.slice YB p1.f.qQ.length YA]] V h (CP (fun v (Gb:U (Ast V))=>v=.bool r/\Gb=[]) [] h):=by
 refine bg Tryz.ntmps9 ZG ZV.nil ?_;intro T D l;unfold f9L at p;refine r3 ?_;rintro _ h2 ⟨b1,eb1,rfl,l⟩;refine r1 ?_;rintro _ h4 ⟨b3,eb3,rfl,l⟩;refine r5 ?_;refine WC.XU mixed Kq0<|r2 ?_;refine Vg (U2 ZeK lk)<|r4 ?_;refine WX.gv (Ze.no rfl rfl rfl (Z5 rfl fh)) rfl (fun t=>(U2 ZeK (XT fh rfl t))) ?_ rfl;refine r7 ?_;refine WX.gv (Ze.no rfl rfl rfl (Yy rfl fh)) rfl (fun t=>(YN (XT (Z5 rfl fh) rfl t) (XT fh rfl t) XL)) ?_ rfl;refine r4 ?_;have⟨x5,hx5,p⟩:=Xd p;refine WX.gcp (Ze.no rfl rfl rfl (Z5 rfl fh)) rfl (fun t=>(ZX.fn ZKl (Zb (XT fh rfl t) Zd))) (fun t=>ZDF (l.slu X) (hx5 t)) ?_ rfl rfl;refine r5 ?_;have⟨x6,hx6,p⟩:=Xd p;refine WX.gcp (Ze.no rfl rfl rfl (Z5 rfl fh)) rfl (fun t=>(ZX.fn ZKl (Zb (XT fh rfl t) Zd))) (fun t=>ZDF (l.slu W) (hx6 t)) ?_ rfl rfl;refine r5 ?_;refine WX.QX (Ze.no rfl rfl rfl (Z5 rfl fh)) (fun q=>?_) (fun q=>?_)
 .replace p:=YS q p;have⟨x8,hx8,p⟩:=bS p;refine WX.cl0 (Ze.on (Ze.no rfl rfl rfl (Z5 rfl fh)) q) rfl (ZX.fn ZTh (Zb (XT fh rfl q) Zd)) l .n (fun G B A E=>ZOp (l.Vh B) ((l.sl W).mono A) hx8) ?_ rfl rfl;rintro _ h12 _ ⟨a9,n10,c11,rfl,rfl⟩ l;obtain rfl:=l.on k0;refine WX.w (Ze.on (Ze.no rfl rfl rfl (Z5 rfl (Zj rfl fh))) q) rfl (Y3 ZwR lk) ?_ rfl;refine WX.w (Ze.on (Ze.no rfl rfl rfl (Yy rfl fh)) q) rfl (Z0 Uu (Zu fh rfl) (l.Jo k1) (j:=0) rfl (v:=.string p1.x) rfl) ?_ rfl;have⟨x14,Zyw,p⟩:=bS p;refine WX.cp (Ze.on (Ze.no rfl rfl rfl (Yy rfl (Zj rfl fh))) q) rfl (ZX.fn ZnF (Zb lk (Zb lk Zd))) (Zib (l.ord k0) Zyw) ?_ rfl rfl;refine Vg (Qs lk (Zfp q) lk)<|r2 ?_;refine cn p ?_ ?_;.intro C p;refine r2 ?_;have⟨x15,ZhV,p⟩:=bS p;refine WO.cp gN rfl (ZX.fn ZrF Zd) (ZgS ZhV)<|r5 ?_;exact rt p D l
  intro C p;refine r9 ?_;have⟨Km,hx16,p⟩:=bS p;refine Ve (ZX.fn ZnG (Zb lk (Zb lk (Zb lk Zd)))) l .n (fun G B A E=>Zid (l.Vh B) ((l.sl Zm).mono A) ((l.sl ZI).mono A) ((l.sl ZL).mono A) ((l.sl X).mono A) hx16) ?_;rintro _ h26 _ ⟨a17,c19,a20,c22,a23,c25,rfl,rfl⟩ l;refine r4 ?_;rintro _ h29 ⟨b28,ZZs,rfl,l⟩;refine r1 ?_;rintro h30 l;refine r10 ?_;have⟨x31,hx31,p⟩:=bS p;refine Ve (ZX.fn ZnG (Zb lk (Zb lk (Zb lk Zd)))) l .n (fun G B A E=>Zid (l.Vh B) ((l.sl Zm).mono A) ((l.sl ZI).mono A) ((l.sl ZL).mono A) ((l.sl W).mono A) hx31) ?_;rintro _ h41 _ ⟨a32,c34,a35,c37,a38,c40,rfl,rfl⟩ l;refine r4 ?_;rintro _ h44 ⟨b43,Z5y,rfl,l⟩;refine r1 ?_;rintro h45 l;refine r14 ?_;refine cn p ?_ ?_;.intro C p;refine r3 ?_;have⟨x46,ZGG,p⟩:=bS p;refine WO.cp gN rfl (ZX.fn ZKj (Zb lk Zd)) (ZDD (l.Kv k5) (l.Kv k6) (l.Kv k7) ZGG)<|r2 ?_;refine Vd (YN lk lk (Ziz ZLh))<|r2 ?_;have⟨x47,ZL9,p⟩:=Xd p;refine WO.gcp (Ze.yes rfl rfl rfl (Zj rfl fh)) rfl (fun t=>(ZX.fn ZKj (Zb (XT fh rfl t) Zd))) (fun t=>ZDD (l.Kv k1) (l.Kv k2) (l.Kv k3) (ZL9 t))<|r2 ?_;refine WO.gv (Ze.yes rfl rfl rfl (Yy rfl fh)) rfl (fun t=>(YN (XT (Z5 rfl fh) rfl t) (XT fh rfl t) (Ziz ZLh)))<|r2 ?_;have⟨x48,Zui,p⟩:=Xd p;refine WO.gcp (Ze.yes rfl rfl rfl fh) rfl (fun t=>(ZX.fn ZrF Zd)) (fun t=>ZgS (Zui t))<|r6 ?_;exact rt p D l
  intro C p;refine r9 ?_;have⟨x49,ZL8,p⟩:=bS p;refine Ve (ZX.fn ZnG (Zb lk (Zb lk (Zb lk Zd)))) l .n (fun G B A E=>Zid (l.Vh B) ((l.Qw k5).mono A) ((l.Qw k6).mono A) ((l.Qw k7).mono A) ((l.sl W).mono A) ZL8) ?_;rintro _ h59 _ ⟨a50,c52,a53,c55,a56,c58,rfl,rfl⟩ l;refine r4 ?_;rintro _ h62 ⟨b61,Z5q,rfl,l⟩;refine r1 ?_;rintro h63 l;refine r4 ?_;refine WC.XU mixed Kq0<|r9 ?_;have⟨x64,ZXM,p⟩:=bS p;refine WX.cl0 gN rfl (ZX.fn ZTf (Zb lk (Zb lk (Zb lk Zd)))) l .n (fun G B A E=>ZOn (l.Vh B) ((l.sl X).mono A) ((l.sl W).mono A) ZXM) ?_ rfl rfl;rintro _ h68 _ ⟨a65,c67,rfl,rfl⟩ l;simp only[Gp,Jn]at l;have⟨x70,ZL5,p⟩:=bS p;refine WX.cl0 gN rfl (ZX.fn ZnG (Zb lk (Zb lk (Zb lk Zd)))) l .n (fun G B A E=>Zid (l.Vh B) ((l.Qw k6).mono A) ((l.Qw k7).mono A) ((l.Qw k8).mono A) ((l.Qw k0).mono A) ZL5) ?_ rfl rfl;rintro _ h80 _ ⟨S,L,Q,K,P,I,rfl,rfl⟩ l;simp only[Gp,Jn]at l;refine r3 ?_;refine WX.hn gN rfl (ZeV l U9 (vs:=[V9 0,.string (⟨#[]⟩:Y),V8,V8,V8]) rfl) ?_ rfl;rintro _ h83 ⟨b82,Z5k,rfl,l⟩;refine WX.hu gN (WG l k0 Yt lk lk (vs:=(q1W x70.1 S L Q K P I)) rfl rfl rfl rfl (cs':=(q1W x70.1 S L Q K P I)) rfl) ?_ rfl rfl [] Kq0 Y2.e;rintro h84 l;refine WX.w gN rfl (YE lk) ?_ Kq0;refine r13 ?_;refine cn p ?_ ?_;.intro C p;refine r2 ?_;have⟨x85,ZXK,p⟩:=bS p;refine WO.cp gN rfl (ZX.fn ZrF Zd) (ZgS ZXK)<|r5 ?_;exact rt p D l
  intro C p;refine r6 ?_;have⟨x86,ZXJ,p⟩:=bS p;refine WO.cp gN rfl (ZX.fn ZTe (Zb lk (Zb lk Zd))) (ZOm (l.Kv k6) (l.Kv k7) (l.Kv k8) (l.Kv k1) (l.Kv k2) (l.Kv k3) ZXJ)<|r15 ?_;have⟨x87,ZXI,p⟩:=Xd p;refine WO.gcp (Ze.yes rfl rfl rfl fh) rfl (fun t=>(ZX.fn ZrF Zd)) (fun t=>ZgS (ZXI t))<|r5 ?_;exact rt p D l
 replace p:=YT q p;refine WX.Xm (Ze.no rfl rfl rfl (Z5 rfl fh)) q rfl ?_ rfl;refine WX.Xm (Ze.no rfl rfl rfl (Z5 rfl (Zj rfl fh))) q rfl ?_ rfl;refine WX.Xm (Ze.no rfl rfl rfl (Yy rfl fh)) q rfl ?_ rfl;refine WX.Xm (Ze.no rfl rfl rfl (Yy rfl (Zj rfl fh))) q rfl ?_ rfl;refine Vg (QZ lk (Zdf q) lk)<|r2 ?_;refine WC.Zbg lk rfl<|r2 ?_;have⟨x88,ZL4,p⟩:=bS p;refine WO.cp gN rfl (ZX.fn ZrF Zd) (ZgS ZL4)<|r5 ?_;exact rt p D l
def ZUE{F h}{p0:Term}{p1:Two}{Zh Zg Zo Zn Zr Zq Zx Zw YB YA}{r}(p:Sl Zi h.size h Zh Zg p0.args)(t:Sl Zc h.size h Zo Zn p0.qJ)(q:Sl Zt h.size h Zr Zq p0.qQ)(A:Sl Zi h.size h Zx Zw p1.e.qQ)(B:Sl Zi h.size h YB YA p1.f.qQ)(l:f9L F p0 p1=some r):Pure XX 9 #[.agg (q1W p0 Zh Zg Zo Zn Zr Zq).toArray,.agg #[.string p1.x,.string p1.y,V9 p1.e.op,V9 p1.e.n,.string p1.e.qG,.slice Zx p1.e.qQ.length Zw,V9 p1.f.op,V9 p1.f.n,.string p1.f.qG,.slice YB p1.f.qQ.length YA]] h (.bool r):=
 WR.JC rfl (ZUD Vc p t q A B l)
end
section
def ZxY(xs:U Int):Y:=⟨(xs.map fun n=>UInt8.ofNat n.toNat).toArray⟩
def ZhC(xs:U Int):(ZxY xs).size=xs.length:=by show((xs.map fun n=>UInt8.ofNat n.toNat).toArray).size=_;simp
def ZQ7{v:Nat}(l:0<v)(h:v<=1000000):Zx6 (XD ((v:Int)-1)) 26=some (((v-1) % 26:Nat):Int):=by rw[Zqz Vb l];unfold Zx6;simp only[show((26:Int)==0)=false from rfl,Cq0];rw[show(26:Int)=((26:Nat):Int) from rfl,Int.ofNat_tmod]
def ZQ8{v:Nat}(l:0<v)(h:v<=1000000):Zx9 (XD ((v:Int)-1)) 26=some (((v-1) / 26:Nat):Int):=by rw[Zqz Vb l];unfold Zx9;simp only[show((26:Int)==0)=false from rfl,Cq0];rw[show(26:Int)=((26:Nat):Int) from rfl,<-Int.ofNat_tdiv,ZcN Vb Vb]
def ZQK{m:Nat}(h:m<26):IntKind.wrap .u8 (XD (97+(m:Int)))=((97+m:Nat):Int):=by
 rw[ZcN Vb Vb];unfold IntKind.wrap;have p:(2 ^ IntKind.u8.bits:Int)=256:=by decide
 have l:IntKind.u8.signed=false:=rfl;simp only[p,l];simp;omega
def ZNM{v:Nat}(h:0<v):decide ((v:Int)>0)=true:=decide_eq_true Vb
def bs(n:Nat):U Int:=if n<=26 then [((97+(n-1) % 26:Nat):Int)] else [((97+((n-1) / 26-1) % 26:Nat):Int),((97+(n-1) % 26:Nat):Int)]
def ZJy(n:Nat):n % 26<26:=Nat.mod_lt _ (by decide)
def ZGf:∀(n:Nat)(f:Nat->Nat),(∀i,i<=n->f i<n)->∃i j,i<j/\j<=n/\f i=f j:=by
 intro n
 induction n with|zero=>intro f h;exact absurd (h 0 Vc) (Nat.not_lt_zero _)|succ n ih=>
   intro f h;by_cases x:∃i,i<=n/\f i=f (n+1);.have⟨i,h1,h2⟩:=x;exact⟨i,n+1,by omega,K1 _,h2⟩
   have l:∀i,i<=n->f i≠f (n+1):=fun i t q=>x ⟨i,t,q⟩;have y:=h (n+1) Vc
   have⟨i,j,h1,h2,h3⟩:=ih (fun i=>if f i<f (n+1) then f i else f i-1) (fun i t=>by
    have:=h i Vb;have:=l i t;by_cases q:f i<f (n+1);.rw[if_pos q];omega
    rw[if_neg q];omega)
   refine⟨i,j,h1,by omega,?_⟩;have B:=l i Vb;have A:=l j h2;by_cases r:f i<f (n+1)<;>by_cases p:f j<f (n+1);.rwa[if_pos r,if_pos p]at h3
   .rw[if_pos r,if_neg p]at h3;omega
   .rw[if_neg r,if_pos p]at h3;omega
   rw[if_neg r,if_neg p]at h3;omega
def wl(n:Nat):U Int:=if h:n=0 then [] else wl ((n-1) / 26)++[((97+(n-1) % 26:Nat):Int)]
termination_by n
decreasing_by omega
def Zf2:wl 0=[]:=by rw[wl,dif_pos rfl]
def Zka{n:Nat}(h:0<n):wl n=wl ((n-1) / 26)++[((97+(n-1) % 26:Nat):Int)]:=by rw[wl,dif_neg Vb]
def Ztx:∀(k n:Nat),n<26 ^ k->(wl n).length<=k:=by
 intro k;induction k with
 | zero=>intro n h;have:n=0:=by simpa using h
         subst this;rw[Zf2];exact K1 _
 | succ k ih=>
   intro n h;by_cases l:n=0;.subst l;rw[Zf2];exact GH _
   rw[Zka Vb,Ks,List.length_singleton];have:=ih ((n-1) / 26) (by rw[Nat.pow_succ]at h;omega);omega
def ZI6{n:Nat}(h:0<n):wl n≠[]:=by rw[Zka h];simp
def Ztw:∀(n:Nat),∀x∈wl n,∃d:Nat,d<26/\x=((97+d:Nat):Int):=by
 intro n
 induction n using Nat.strongRecOn with|_ n ih=>
   intro x h;by_cases l:n=0;.subst l;rw[Zf2]at h;cases h
   rw[Zka Vb,Q3,J1]at h;rcases h with h|h
   .exact ih ((n-1) / 26) Vb x h
   exact⟨_,ZJy _,h⟩
def ZK8(s:Y):Nat:=s.data.toList.foldl (fun v c=>26*v+(c.toNat-96)) 0
def Zne(l:U Int)(h:∀x∈l,∃d:Nat,d<26/\x=((97+d:Nat):Int)):ZK8 (ZxY l)=l.foldl (fun v x=>26*v+(x.toNat-96)) 0:=by
 unfold ZK8 ZxY;show((l.map fun n=>UInt8.ofNat n.toNat).toArray.toList).foldl _ 0=_;rw[List.foldl_map]
 have:∀(l:U Int)(v:Nat),(∀x∈l,∃d:Nat,d<26/\x=((97+d:Nat):Int))->l.foldl (fun v x=>26*v+((UInt8.ofNat x.toNat).toNat-96)) v=l.foldl (fun v x=>26*v+(x.toNat-96)) v:=by
  intro l
  induction l with|nil=>intro _ _;rfl|cons x l ih=>
    intro v h;obtain⟨d,q,rfl⟩:=h x (by simp)
    have e:(UInt8.ofNat (((97+d:Nat):Int).toNat)).toNat=(((97+d:Nat):Int).toNat):=by
     rw[Int.toNat_natCast];simp only[UInt8.toNat_ofNat'];omega
    rw[Gm,Gm,e];exact ih _ fun y p=>h y (Kd _ p)
 exact this l 0 h
def ZzZ(n:Nat):(wl n).foldl (fun v x=>26*v+(x.toNat-96)) 0=n:=by
 induction n using Nat.strongRecOn with|_ n ih=>
   by_cases h:n=0;.subst h;rw[Zf2];rfl
   rw[Zka Vb,List.foldl_append,ih ((n-1) / 26) Vb,Gm,List.foldl_nil,Int.toNat_natCast];omega
def Wn(k:Nat):Y:=ZxY (wl (k+1))
def ZPK{a b:Nat}(h:Wn a=Wn b):a=b:=by have e:=congrArg ZK8 h;unfold Wn at e;rw[Zne _ (Ztw _),Zne _ (Ztw _),ZzZ,ZzZ]at e;omega
def ZxE{k:Nat}(h:k<1000000):(Wn k).size<=5:=by unfold Wn;rw[ZhC];exact Ztx 5 _ Vb
def ZPJ(k:Nat):0<(Wn k).size:=by unfold Wn;rw[ZhC];exact List.length_pos_iff.2 (ZI6 Vb)
def ZPL(k:Nat):((List.range (Wn k).size).any (Zhf (Wn k)))=false:=by
 rw[List.any_eq_false];intro i h;have h:=GP.1 h;unfold Wn at h;rw[ZhC]at h;have l:(wl (k+1))[i]∈wl (k+1):=GE h;have⟨d,hd,e⟩:=Ztw _ _ l
 have q:(Wn k).data.getD i 0=UInt8.ofNat ((wl (k+1))[i]).toNat:=by
  unfold Wn ZxY;show(((wl (k+1)).map fun n=>UInt8.ofNat n.toNat).toArray).getD i 0=_;rw[QP,List.getElem?_toArray,GN,Q4 h];rfl
 unfold Zhf;rw[q,e,Int.toNat_natCast];have p:(UInt8.ofNat (97+d)).toNat=97+d:=by simp only[UInt8.toNat_ofNat'];omega
 rw[p,decide_eq_false Vb,decide_eq_false Vb];simp
def ZAV{k:Nat}(h:k<1000000):Xt (Wn k)= !decide (Wn k∈kws):=by unfold Xt;rw[ZPL,decide_eq_true (ZPJ k),decide_eq_true (by have:=ZxE h;omega)];simp
def ZgE(l:U Y)(k:Nat):Z:=Xt (Wn k) && !decide (Wn k∈l)
def ZGx:kws.length=10:=rfl
def ZpE{l:U Y}(D:l.length<=900000):∃k,k<l.length+11/\ZgE l k=true:=by
 apply Classical.byContradiction;intro r
 have q:∀k,k<l.length+11->Wn k∈kws++l:=by
  intro k t;rw[Q3];by_cases h1:Wn k∈kws;.exact .inl h1
  refine .inr (Classical.byContradiction fun B=>r ⟨k,t,?_⟩);unfold ZgE;rw[ZAV Vb,decide_eq_false h1,decide_eq_false B];rfl
 have E:(kws++l).length=l.length+10:=by rw[Ks,ZGx];omega
 have p:∀k,k<l.length+11->∃i,i<l.length+10/\(kws++l)[i]? =some (Wn k):=fun k t=>by
  have⟨i,h1,h2⟩:=List.getElem_of_mem (q k t);exact⟨i,by omega,by rw[Q4 h1,h2]⟩
 have⟨i,j,h1,h2,h3⟩:=ZGf (l.length+10) (fun k=>if h:k<l.length+11 then(p k h).choose else 0) (fun i x=>by
  have h:i<l.length+11:=Vb;show(if h:i<l.length+11 then(p i h).choose else 0)<_;rw[dif_pos h];exact(p i h).choose_spec.1)
 have x:i<l.length+11:=Vb;have y:j<l.length+11:=Vb;simp only[dif_pos x,dif_pos y]at h3;have A:=(p i x).choose_spec.2;have C:=(p j y).choose_spec.2;rw[h3,C]at A;have:=ZPK (Oi0 A);omega
def Qq(l:U Y):Y:=Wn (((List.range (l.length+11)).find? (ZgE l)).getD 0)
def ZiY{l:U Y}(p:l.length<=900000):∃m,m<l.length+11/\ZgE l m=true/\(∀k,k<m->ZgE l k=false)/\Qq l=Wn m:=by
 have⟨k,hk,hf⟩:=ZpE p;cases e:(List.range (l.length+11)).find? (ZgE l) with
 | none=>
   rw[List.find?_eq_none]at e;exact absurd hf (e k (GP.2 hk))
 | some m=>
   have h:=e;rw[List.find?_range_eq_some]at h;have⟨h1,h2,h3⟩:=h;exact⟨m,GP.1 h2,h1,fun j q=>by have:=h3 j q;simpa using this,by unfold Qq;rw[e];rfl⟩
def ZiZ{l:U Y}(p:l.length<=900000):Xt (Qq l)=true/\Qq l∉l:=by have⟨m,_,h,_,e⟩:=ZiY p;rw[e];unfold ZgE at h;rw[Ba0,Bool.not_eq_true',decide_eq_false_iff_not]at h;exact h
def ZA7{β:Type}{body:U Int×Int->(U Int×Int->O β)->O β}{r:O β}{n:Nat}(h2:n<=1000000)
 (q:∀(b:U Int)(v:Nat),b.length<=5->0<v->v<=1000000->∀next,body (b,(v:Int)) next=next (((97+(v-1) % 26:Nat):Int)::b,(((v-1) / 26:Nat):Int)))
 (he:∀next,body (wl n,0) next=r) {F:Nat} (y:6<=F):loop F body ([],(n:Int))=r:=by
 have l:∀(F v:Nat)(b:U Int),v<=1000000->wl v++b=wl n->(wl v).length<F->loop F body (b,(v:Int))=r:=by
  intro F
  induction F with|zero=>intro v b _ _ h;omega|succ F ih=>
    intro v b hv hw p;rw[Z7];by_cases x:v=0;.subst x;rw[Zf2,Jn]at hw;subst hw;exact he _
    have t:b.length<=5:=by
     have:=congrArg List.length hw;rw[Ks]at this;have:=Ztx 5 n Vb;omega
    rw[q b v t Vb hv];rw[Zka Vb]at hw p;rw[Ks,List.length_singleton]at p;exact ih _ _ Vb (by rw[<-hw];simp) Vb
 exact l F n [] h2 (by simp) (by have:=Ztx 5 n Vb;omega)
def ZFS{n:Nat}(h:0<n):ZLk (wl n)=some (ZxY (wl n)):=by cases e:wl n with|nil=>exact absurd e (ZI6 h)|cons x l=>rfl
def Zku{F:Nat}{l:U Y}{m:U (Y×Z)}(q:∀x,(ZC m x).getD false=decide (x∈l))(A:1000<=F)(k:Nat)(t:k<999000)(next:Int×Y×Z->O Y):
 Zpt F m (((k+1:Nat):Int),⟨#[]⟩,false) next=bif ZgE l k then some (Wn k) else next (((k+2:Nat):Int),⟨#[]⟩,false):=by
 have r:=ZxE (k:=k) Vb;show loop F (ZlE F m ((k+1:Nat):Int) ⟨#[]⟩ false next) ([],((k+1:Nat):Int))=_;refine ZA7 Vb (fun b v y h h1 p=>?_) (fun p=>?_) Vb;.simp only[ZlE,ZNM h,Cq1,ZQ7 h Vb,ZQ8 h Vb,Bq0,ZQK (ZJy _)];rw[Zmi (by simp;omega)];rfl
 simp only[ZlE];rw[show decide ((0:Int)>0)=false from rfl,Cq0,ZFS Vb,Bq0,Cq0];show(ZcA F (Wn k)).bind _=_;rw[Zrc F (Wn k) Vb Vb,Bq0];show(gd (Xt (Wn k)) (some ((ZC m (Wn k)).getD false)) default).bind _=_;rw[q,Zi9 Vb];unfold ZgE;cases Xt (Wn k);.rfl
 cases decide (Wn k∈l)<;>rfl
def ZC6{F:Nat}{l:U Y}{m:U (Y×Z)}(h:∀x,(ZC m x).getD false=decide (x∈l))(r:1000000<=F)(p:l.length<=900000):Zsc F m=some (Qq l):=by
 have⟨j,h1,h2,h3,e⟩:=ZiY p;rw[e];refine ZhS (body:=Zpt F m) (S:=fun k=>(((k+1:Nat):Int),(⟨#[]⟩:Y),false)) (n:=j) Vb (fun k q next=>?_) (fun next=>?_);.rw[Zku h Vb k Vb,h3 k q];rfl
 rw[Zku h Vb j Vb,h2];rfl
end
end Go.Proofs.YtbnepjakjmnadaaGreat
end
end
section
noncomputable section
namespace Go.ZU
variable{P:V2}{W:V4}{E:Type}
def Zpg(P:V2)(T:U J)(t:J):Z:=
 match P.underlying t with
 | some .bool=>true
 | some (.int _)=>true
 | some .string=>true
 | some (.slice e)=>T.contains e&&Nat.ble 1 (P.cellsOf e)
 | some (.struct fs)=>fs.toList.all (fun x=>T.contains x.type)&&Zb3 P fs.toList 0 (P.cellsOf t)
 | _=>false
def ZUK{enc:J×N->E}{T:U J}(hT:T.all (Zpg P T)=true):∀(C:Nat)(t:J)(cs:U N)(d:DataW E)(ps:U MemPlace),T.contains t=true->DataW.trod enc P W 0 (fun _=>true) true C t cs=some (d,ps)->Zoj P W t cs d:=by
 intro C
 induction C with|zero=>intro t cs d ps _ h;unfold DataW.trod at h;cases h|succ C ih=>
   intro t cs d ps S h;have S:Zpg P T t=true:=(Q2.1 hT) t (List.contains_iff_mem.1 S);unfold Zpg at S;unfold DataW.trod at h;cases hu:P.underlying t with|none=>rw[hu]at S;cases S|some u=>
     rw[hu]at S h;cases u with
     | bool=>
       split at h<;>try (first | (cases h;done) | (have r:=‹some TypeDesc.bool=some _›;cases r;done))
       cases h;exact Zev rfl fun h=>.bool hu
     | int k=>
       split at h<;>try (first | (cases h;done) | (have r:=‹some (TypeDesc.int k)=some _›;cases r;done))
       rename_i hk;cases hk;split at h
       ·rename_i hw;cases h;obtain⟨rfl,hw⟩:=hw;exact Zev rfl fun h=>.int hu hw
       cases h
     | string=>
       split at h<;>try (first | (cases h;done) | (have r:=‹some TypeDesc.string=some _›;cases r;done))
       split at h
       ·rename_i hw;cases h;exact Zev rfl fun h=>.string hu hw
       cases h
     | slice e=>
       rw[Ba0]at S;have hsz:=Nl0 S.2;split at h<;>try (first | (cases h;done) | (have r:=‹some (TypeDesc.slice e)=some _›;cases r;done))
       ·cases h;exact Zev rfl fun h=>.nil hu
       rename_i e' a len cap he;cases he;dsimp only at h;split at h
       ·rename_i hc;obtain⟨-,hlc,hcm⟩:=hc;rw[Option.bind_eq_some_iff]at h;obtain⟨p,e1,h⟩:=h;rw[if_pos rfl,Option.map_eq_some_iff]at h;obtain⟨rest,e2,h⟩:=h;cases h;obtain⟨l1,g1⟩:=Zgq e1;obtain⟨l2,g2⟩:=Zgq e2;rw[List.length_range]at l1 l2;by_cases hcap:cap=0
        ·subst hcap;have L:len=0:=Vb
         subst L;cases p with|cons _ _=>simp at l1|nil=>
           cases rest with|cons _ _=>simp at l2|nil=>
             intro ρ h hr hn;exact⟨ρ,h,_,Ren.le_refl ρ,Grow.refl h,hr,hn,LR.single (.Wh a),.empty hu⟩
        have hel:∀i,i<len->∃cs x,W.cells? 0 (a.add (i*P.cellsOf e)) (P.cellsOf e)=some cs/\DataW.trod enc P W 0 (fun _=>true) true C e cs=some x/\p[i]? =some x:=by
         intro i F;have r:i<p.length:=Vb
         have:=g1 i i p[i] (by simp[F]) (by simp[r]);rw[Option.bind_eq_some_iff]at this;obtain⟨cs,X,I⟩:=this;exact⟨cs,_,X,I,by simp[r]⟩
        have h0:∃cs,W.cells? 0 a (P.cellsOf e)=some cs:=by
         have ha:a.add (0*P.cellsOf e)=a:=by rw[Nat.zero_mul];unfold Addr.add;rw[if_pos rfl]
         rcases Nat.eq_zero_or_pos len with hl|hl
         ·subst hl;have r:0<rest.length:=Vb
          have:=g2 0 0 rest[0] (by rw[List.getElem?_range Vb]) (by simp[r]);rw[Option.bind_eq_some_iff]at this;obtain⟨cs,X,I⟩:=this;rw[Nat.add_zero,ha]at X;exact⟨cs,X⟩
         obtain⟨cs,_,q,_⟩:=hel 0 hl;rw[ha]at q;exact⟨cs,q⟩
        have hcs:∀i,i<len->W.cells? 0 (a.add (i*P.cellsOf e)) (P.cellsOf e)=some ((W.cells? 0 (a.add (i*P.cellsOf e)) (P.cellsOf e)).getD []):=by
         intro i F;obtain⟨cs,_,q,_⟩:=hel i F;rw[q];rfl
        generalize ZYj:(fun i=>(W.cells? 0 (a.add (i*P.cellsOf e)) (P.cellsOf e)).getD [])=css;have hcs:∀i,i<len->W.cells? 0 (a.add (i*P.cellsOf e)) (P.cellsOf e)=some (css i):=fun i F=>by rw[<-ZYj];exact hcs i F
        obtain⟨hsp,c,el,fz,hb,hlim,hcell⟩:=ZuT hsz h0 hcs
        have V:∀i y,((List.range len).map fun i=>(e,css i,((p[i]?).map (·.1)).getD .nil))[i]? =some y->i<len/\y=(e,css i,((p[i]?).map (·.1)).getD .nil):=by
         intro i y K;rw[GN]at K;rcases Gq i len with q|q
         ·rw[List.getElem?_range q]at K;exact⟨q,(Oi0 K).symm⟩
         rw[G0 (by simpa using q)]at K;cases K
        generalize hl:(List.range len).map (fun i=>(e,css i,((p[i]?).map (·.1)).getD .nil))=l at V;have hll:l.length=len:=by rw[<-hl];simp
        have hm:l.map (·.2.2)=p.map (·.1):=by
         apply GL;intro i;rw[<-hl,Gf,GN,GN];rcases Gq i len with q|q
         ·rw[List.getElem?_range q];obtain⟨_,x,_,_,I⟩:=hel i q;simp[I]
         rw[G0 (by simpa using q),G0 Vb];rfl
        have hlE:∀x∈l,Zoj P W x.1 x.2.1 x.2.2:=by
         intro x r;obtain⟨i,F⟩:=GI r;obtain⟨hi2,rfl⟩:=V i x F;obtain⟨cs,y,X,I,q3⟩:=hel i hi2;rw[hcs i hi2]at X;cases X;rw[q3];exact ih e _ _ y.2 S.1 I
        intro ρ h hr hn;obtain⟨ρ1,h1,A,p1,p2,p3,p4,p5,p6,p7⟩:=ZpK l hlE ρ h hr hn
        have hec:∀(i:Nat)(x:U N×DataW E),A[i]? =some x->i<len/\LR ρ1 x.1 (css i)/\x.1.length=P.cellsOf e/\AR P h1 e x.1 x.2:=by
         intro i x r;have F:i<A.length:=(Li0 r).1;have hi2:i<l.length:=Vb
         obtain⟨q,K⟩:=V i l[i] (by simp[hi2]);have:=p7 i x l[i] r (by simp[hi2]);rw[K]at this;refine⟨q,this.1,?_,this.2⟩;rw[this.1.1];exact(Zil (hcs i q) hsz).1
        have D:∀x∈A,x.1.length=P.cellsOf e:=fun x r=>by
         obtain⟨i,F⟩:=GI r;exact(hec i x F).2.2.1
        obtain⟨r1,r2,r3,r4⟩:=ZF8 (cs:=A.flatMap (·.1)) p3 p4 hb (by rw[ZgN A D,p6,hll];exact hlim) (by
         intro k v v' k1 k2
         have hk:k<A.length*P.cellsOf e:=by
          rw[<-ZgN A D];exact(Li0 k1).1
         have hd:k / P.cellsOf e*P.cellsOf e+k % P.cellsOf e=k:=by rw[Nat.mul_comm];exact Nat.div_add_mod _ _
         have hj:k % P.cellsOf e<P.cellsOf e:=Nat.mod_lt _ hsz;rw[<-hd,flat_get A D _ _ hj,Option.bind_eq_some_iff]at k1;obtain⟨x,x1,x2⟩:=k1;obtain⟨y1,y2,_,_⟩:=hec _ x x1;obtain⟨u,z1,z2⟩:=hcell _ _ y1 hj;rw[hd,k2]at z1;cases z1;exact y2.2 _ _ _ x2 z2)
        refine⟨_,_,[.slice (some ⟨h1.size,0,none⟩) A.length (2*cap)],Ren.le_trans p1 r1,p2.trans r2,r3,r4,LR.single ?_,?_⟩
        ·obtain⟨blk,off,spot⟩:=a;dsimp only at hsp;subst hsp;have ZX9:A.length=len:=Vb
         rw[ZX9];exact VR.slice 0 len (2*cap) cap (Ren.add_same _ _ _ _) ⟨KK hcm (by decide),by rw[if_pos Vb];omega⟩
        rw[<-hm,<-p5]
        exact .slice hu Vb hcm (by rw[H.Qu,if_pos rfl]) D fun x r=>by
         obtain⟨i,F⟩:=GI r;exact((hec i x F).2.2.2).grow r2
       cases h
     | struct G=>
       rw[Ba0]at S;dsimp only at h;split at h
       ·rename_i L;rw[Option.map_eq_some_iff]at h;obtain⟨xs,e1,h⟩:=h;cases h;obtain⟨l1,g1⟩:=Zgq e1
        have V:∀(i:Nat)(y:J×U N×DataW E),(List.zipWith (fun(f:Field)(x:DataW E×U MemPlace)=>(f.type,(cs.drop f.offset).take (P.cellsOf f.type),x.1)) G.toList xs)[i]? =some y ->
         ∃(f:Field) (x:DataW E×U MemPlace),G.toList[i]? =some f/\xs[i]? =some x/\y=(f.type,(cs.drop f.offset).take (P.cellsOf f.type),x.1):=by
         intro i y K;rw[List.getElem?_zipWith]at K;split at K
         ·rename_i f x B r;exact⟨f,x,B,r,(Oi0 K).symm⟩
         cases K
        generalize hl:List.zipWith (fun(f:Field)(x:DataW E×U MemPlace)=>(f.type,(cs.drop f.offset).take (P.cellsOf f.type),x.1)) G.toList xs=l at V;have hll:l.length=G.toList.length:=by rw[<-hl,List.length_zipWith,l1];exact Nat.min_self _
        have Q:∀(i:Nat)(f:Field),G.toList[i]? =some f->∃x,xs[i]? =some x/\l[i]? =some (f.type,(cs.drop f.offset).take (P.cellsOf f.type),x.1)/\DataW.trod enc P W 0 (fun _=>true) true C f.type ((cs.drop f.offset).take (P.cellsOf f.type))=some x:=by
         intro i f B;have F:i<xs.length:=by rw[l1];exact(Li0 B).1
         have r:xs[i]? =some xs[i]:=by simp[F]
         refine⟨xs[i],r,?_,g1 i f _ B r⟩;rw[<-hl,List.getElem?_zipWith,B,r]
        have hm:l.map (·.2.2)=xs.map (·.1):=by
         apply GL;intro i;rw[GN,GN];cases B:G.toList[i]? with
         | some f=>
           obtain⟨x,X,I,_⟩:=Q i f B;rw[X,I];rfl
         | none=>
           have:=List.getElem?_eq_none_iff.1 B;rw[G0 Vb,G0 Vb];rfl
        have hlE:∀x∈l,Zoj P W x.1 x.2.1 x.2.2:=by
         intro y K;obtain⟨i,F⟩:=GI K;obtain⟨f,x,B,r,rfl⟩:=V i y F;have hgf:=(Q2.1 S.1) f (List.mem_of_getElem? B);exact ih f.type _ _ x.2 hgf (g1 i f x B r)
        have hseg:cs=l.flatMap (·.2.1):=by
         have:=ZyM (P:=P) (cs:=cs) G.toList 0 (by rw[L];exact S.2);rw[List.drop_zero]at this
         have h3:l.map (·.2.1)=G.toList.map fun(f:Field)=>(cs.drop f.offset).take (P.cellsOf f.type):=by
          apply GL;intro i;rw[GN,GN];cases B:G.toList[i]? with
          | some f=>
            obtain⟨x,X,I,_⟩:=Q i f B;rw[I];rfl
          | none=>
            have:=List.getElem?_eq_none_iff.1 B;rw[G0 Vb];rfl
         rw[List.flatMap_def,h3,<-List.flatMap_def];exact this
        intro ρ h hr hn;obtain⟨ρ1,h1,A,p1,p2,p3,p4,p5,p6,p7⟩:=ZpK l hlE ρ h hr hn
        have hlr:LR ρ1 (A.flatMap (·.1)) cs:=by
         rw[hseg];exact LR.flat A l p6 fun i x y e1 e2=>(p7 i x y e1 e2).1
        refine⟨ρ1,h1,A.flatMap (·.1),p1,p2,p3,p4,hlr,?_⟩;rw[<-hm,<-p5];refine .struct hu Vb (fun i x f r B=>?_) fun i x f r B=>?_
        ·obtain⟨y,X,I,_⟩:=Q i f B;rw[(p7 i x _ r I).1.1];have hmem:Zb3 P G.toList 0 cs.length=true:=by rw[L];exact S.2
         obtain⟨c1,c2⟩:=Zu0 _ _ _ hmem;have c3:=c2 i f B;have F:=(Li0 B).1
         have c4:((G.toList.take i).map fun f=>P.cellsOf f.type).sum+P.cellsOf f.type+((G.toList.drop (i+1)).map fun f=>P.cellsOf f.type).sum=(G.toList.map fun f=>P.cellsOf f.type).sum:=by
          have:G.toList=G.toList.take i++f::G.toList.drop (i+1):=by
           have h5:G.toList[i]=f:=(Li0 B).2;rw[<-h5,List.getElem_cons_drop,List.take_append_drop]
          conv=>rhs;rw[this]
          simp only[List.map_append,G7,List.sum_append,List.sum_cons];omega
         dsimp only;rw[Gl,GD];omega
        obtain⟨y,X,I,_⟩:=Q i f B;exact(p7 i x _ r I).2
       cases h
     | _=>cases S
end Go.ZU
end
end
