/- Part 16. -/
import Derived.Test.YtbnepjakjmnadaaGreatFa15
set_option linter.all false
set_option maxHeartbeats 2000000
section
set_option maxRecDepth 20000
noncomputable section
namespace Go.Proofs.YtbnepjakjmnadaaGreat
open Go.Lf
section
def ZjR(Zq:(Part->O Int))(x2:(U Part)):Int×Int->(Int×Int->O Int)->O Int:=fun(v8,v12) ZiV=>
 (bif decide (v12<(x2.length:Int)) then(Yf x2 v12).bind fun x15=>(Zq x15).bind fun x19=>ZiV ((if x19>v8 then x19 else v8),Xa (v12+1)) else some (Xa (v8+1)))
def ZjQ(F:Nat):Part->(Part->O Int)->O Int:=fun p0 Zq=>
 (ZdS F p0).bind fun x2=>loop F (ZjR Zq x2) (0,0)
def ZDb(F:Nat)(p0:Part):O Int:=
 loop F (ZjQ F) p0
end
section
open Go.ZY Go.Lf
def ZDa{F wm:Nat}:∀(Fr:Nat)(p0:Part)(r:Int),loop Fr (ZjQ F) p0=some r->(∀{h:H}{Jt:PtP}(Zv:wm<=h.size)(Ze2:Ye.F wm h Jt p0),WR XX 59 #[ifV Jt p0] wm h (CP (fun v (Gb:U (Ast wm))=>v= GX r/\Gb=[]) [] h)):=by
 refine Xd _ ?_;rintro Zq YL p0 r hL h Jt Zv Ze2;refine bg Tryz.ntmps59 Zv Yb.nil ?_;intro T hT hS;refine r13 ?_;refine V2 (Ym (Zm (Ya rfl fh) Yt)) ?_;obtain⟨x2,hx2,hL⟩:=bS hL;refine WO.Zgp gN rfl (Zm fh Yt) hS (Ye.mono hS.fz Ze2) hx2 ?_;rintro h5 a3 c4 hS;refine r5 ?_;refine WC.loop (WL.lift hL (fun p s=>match p with | (v8,v12)=>∃fr7 h6,s=⟨fr7,[],h6,none⟩/\Sp wm T h [ow wm Ye a3 x2.length c4 x2] h6/\fr7.at 3= GX v8/\fr7.at 7=.slice a3 x2.length c4/\fr7.at 8= GX (x2.length:Int)/\fr7.at 9= GX v12) ⟨_,_,rfl,hS.only (.c k0 .n),Y0⟩ ?_);rintro ZiV ⟨v8,v12⟩ s Zni hL ⟨fr7,h6,rfl,hS,e9,e10,e11,e13⟩;refine r6 ?_;refine cn hL ?_ ?_
 ·intro hc hL;refine r6 ?_;obtain⟨x15,Zje,hL⟩:=bS hL;obtain⟨b16,o17,q18,ZyS,Zy6,ZpD⟩:=Src.at_ (hS.QF k0) Zje;refine V2 (ZF K5 KO lk lk rfl ZyS Zje) ?_;have hS:=hS.add (A:=YW wm Ye q18 x15) ZpD (fun _ z=>z);refine V2 (ZU Zha (Zm fh rfl) Zy6 (j:=0) rfl (v:=ifV q18 x15) rfl)<|V2 (Yy (Zm fh Yt))<|r4 ?_;refine V2 (Ym (Zm (Zg rfl fh) Yt)) ?_;obtain⟨x19,ZQB,hL⟩:=bS hL;refine V3 (Yi.fn ZFt (Zb (Zm fh Yt) Zd)) hS .n (fun g' hz hf hO=>(YL _ _ ZQB) (hS.V6 hz) (Ye.mono hf (hS.get k0))) ?_;rintro _ h20 _ ⟨rfl,rfl⟩ hS;refine V2 (Zet lk lk)<|r8 ?_;exact ZO.Yc (Zni _ _ hL ⟨_,_,rfl,hS.only (.c k1 .n),Y0⟩)
 ·intro hc hL;refine r13 ?_;exact rt hL hT hS
def ZIx{F wm h}{p0:Part}{Jt:PtP}{r}(Zv:wm<=h.size)(Ze2:Ye.F wm h Jt p0)(hL:ZDb F p0=some r):
 WR XX 59 #[ifV Jt p0] wm h (CP (fun v (Gb:U (Ast wm))=>v= GX r/\Gb=[]) [] h):=
 ZDa F p0 r hL Zv Ze2
def ZIy{F h}{p0:Part}{Jt:PtP}{r}(Ze2:Ye.F h.size h Jt p0)(hL:ZDb F p0=some r):Pure XX 59 #[ifV Jt p0] h (GX r):=
 WR.Zam rfl (ZIx V0 Ze2 hL)
end
section
def Zp8(F:Nat)(p0:Part):O (PR Unit):=
 ZlE p0 (fun v1=>(Zmd F v1).bind fun x18=>JR x18 (fun e20=>some (.Yd e20)) (fun y19=>some (.ok ()))) (fun v2=>(Zmc F v2).bind fun x36=>JR x36 (fun e38=>some (.Yd e38)) (fun y37=>some (.ok ()))) (fun v3=>(Zmb F v3).bind fun x56=>JR x56 (fun e58=>some (.Yd e58)) (fun y57=>some (.ok ())))
end
section
open Go.ZY Go.Lf
def Zud{F wm h}{p0:Part}{Jt:PtP}{r}(Zv:wm<=h.size)(Ze2:Ye.F wm h Jt p0)(hL:Zp8 F p0=some r):
 WF XX 105 #[ifV Jt p0] wm h (PQ 147 (fun(r:Unit) v (Gb:U (Ast wm))=>v=.tuple #[]/\Gb=[]) [] h r):=by
 refine WF.QJ (args:=[_]) (fn:=Tryz.f105) Kq0 (by exact rfl) Tryz.ntmps105 (by simp) ?_;simp only[ZE,ZJ,Nat.reduceAdd];obtain⟨T,hT,hS⟩:∃T,T=Ji (wm:=wm) []/\Sp wm T h [] h:=⟨_,rfl,Sp.start Zv Yb.nil⟩
 unfold Zp8 at hL;refine r2 ?_;refine V2 (Ym (Zm fh Yt))<|r5 ?_;rcases p0 with v1|v2|v3
 ·replace hL:=ZiL hL;obtain⟨⟨⟨a4,c5⟩,⟨a6,c7⟩,⟨a8,c9⟩⟩,⟨a10,c11⟩⟩:=Jt;obtain⟨ZLQ,ZLP,ZLO⟩:=ZeP Ze2;refine V2 (Zkn Tryz.underlying78 rfl (Zm fh rfl))<|r4 ?_;refine WC.ZgX (Zm (Zg rfl fh) rfl) rfl<|r3 ?_;rintro _ h16 ⟨b15,ZW3,rfl,hS⟩;refine r1 ?_;rintro h17 hS;refine r5 ?_;obtain⟨x18,Zd0,hL⟩:=bS hL;rcases x18 with y19|e20
  ·skip;replace hL:=Yv hL;refine V3 (Yi.fn ZyD (Zb (Zm fh rfl) Zd)) hS .n (fun g' hz hf hO=>(PQ.ok (Zt7 (hS.V6 hz) ((hS.sl ZLQ).mono hf) ((hS.sl ZLP).mono hf) ((hS.sl ZLO).mono hf) Zd0))) ?_;rintro _ h21 _ ⟨rfl,rfl⟩ hS;refine r2 ?_;refine Z6.Yc ?_;have hr:=Oi0 hL;subst hr;exact Z6.Ww rfl Zk rfl ⟨_,⟨rfl,rfl⟩,hT▸hS.only .n⟩
  ·skip;replace hL:=Z9 hL;refine WO.WI gN (Yi.fn ZyD (Zb (Zm fh rfl) Zd)) hS .n (fun g' hz hf hO=>Zt7 (hS.V6 hz) ((hS.sl ZLQ).mono hf) ((hS.sl ZLP).mono hf) ((hS.sl ZLO).mono hf) Zd0) ?_;rintro h23 hS;refine YG.panic<|Z6.KI<|Y7.Yd ?_;have hr:=Oi0 hL;subst hr;exact⟨rfl,hT▸hS.only .n⟩
 ·replace hL:=ZiM hL;obtain⟨⟨⟨a24,c25⟩,⟨a26,c27⟩,⟨a28,c29⟩⟩,⟨a30,c31⟩⟩:=Jt;have ZLN:=ZmU Ze2;refine V2 (Zko Tryz.underlying78 rfl ZaI Kq0 (Zm fh rfl))<|r4 ?_;refine WC.ZgY (Zm (Zg rfl fh) rfl) rfl<|r2 ?_;refine V2 (Zkn Tryz.underlying88 rfl (Zm (Ya rfl (Zg rfl fh)) rfl))<|r4 ?_;refine WC.ZgX (Zm (Zg rfl fh) rfl) rfl<|r3 ?_;rintro _ h34 ⟨b33,ZRI,rfl,hS⟩;refine r1 ?_;rintro h35 hS;refine r5 ?_;obtain⟨x36,Ze1,hL⟩:=bS hL;rcases x36 with y37|e38
  ·skip;replace hL:=Yv hL;refine V3 (Yi.fn ZyC (Zb (Zm fh rfl) Zd)) hS .n (fun g' hz hf hO=>(PQ.ok (Zt6 (hS.V6 hz) ((hS.sl ZLN).mono hf) Ze1))) ?_;rintro _ h39 _ ⟨rfl,rfl⟩ hS;refine r2 ?_;refine Z6.Yc ?_;have hr:=Oi0 hL;subst hr;exact Z6.Ww rfl Zk rfl ⟨_,⟨rfl,rfl⟩,hT▸hS.only .n⟩
  ·skip;replace hL:=Z9 hL;refine WO.WI gN (Yi.fn ZyC (Zb (Zm fh rfl) Zd)) hS .n (fun g' hz hf hO=>Zt6 (hS.V6 hz) ((hS.sl ZLN).mono hf) Ze1) ?_;rintro h41 hS;refine YG.panic<|Z6.KI<|Y7.Yd ?_;have hr:=Oi0 hL;subst hr;exact⟨rfl,hT▸hS.only .n⟩
 ·replace hL:=ZiN hL;obtain⟨⟨⟨a42,c43⟩,⟨a44,c45⟩,⟨a46,c47⟩⟩,⟨a48,c49⟩⟩:=Jt;obtain⟨ZLM,ZLL,ZLK⟩:=ZeQ Ze2;refine V2 (Zko Tryz.underlying78 rfl ZaI Kq0 (Zm fh rfl))<|r4 ?_;refine WC.ZgY (Zm (Zg rfl fh) rfl) rfl<|r2 ?_;refine V2 (Zko Tryz.underlying88 rfl Zq8 Kq0 (Zm (Ya rfl (Zg rfl fh)) rfl))<|r4 ?_;refine WC.ZgY (Zm (Zg rfl fh) rfl) rfl<|r2 ?_;refine V2 (Zkn Tryz.underlying166 rfl (Zm (YA rfl (Ya rfl fh)) rfl))<|r4 ?_;refine WC.ZgX (Zm (Zg rfl fh) rfl) rfl<|r3 ?_;rintro _ h54 ⟨b53,ZWW,rfl,hS⟩;refine r1 ?_;rintro h55 hS;refine r5 ?_;obtain⟨x56,ZxO,hL⟩:=bS hL;rcases x56 with y57|e58
  ·skip;replace hL:=Yv hL;refine V3 (Yi.fn ZyB (Zb (Zm fh rfl) Zd)) hS .n (fun g' hz hf hO=>(PQ.ok (Zt5 (hS.V6 hz) ((hS.sl ZLM).mono hf) ((hS.sl ZLL).mono hf) ((hS.sl ZLK).mono hf) ZxO))) ?_;rintro _ h59 _ ⟨rfl,rfl⟩ hS;refine r2 ?_;refine Z6.Yc ?_;have hr:=Oi0 hL;subst hr;exact Z6.Ww rfl Zk rfl ⟨_,⟨rfl,rfl⟩,hT▸hS.only .n⟩
  ·skip;replace hL:=Z9 hL;refine WO.WI gN (Yi.fn ZyB (Zb (Zm fh rfl) Zd)) hS .n (fun g' hz hf hO=>Zt5 (hS.V6 hz) ((hS.sl ZLM).mono hf) ((hS.sl ZLL).mono hf) ((hS.sl ZLK).mono hf) ZxO) ?_;rintro h61 hS;refine YG.panic<|Z6.KI<|Y7.Yd ?_;have hr:=Oi0 hL;subst hr;exact⟨rfl,hT▸hS.only .n⟩
end
section
def Znz(v21:(U (Y×Z))):Y->ZH->O Z:=fun ZF7 ZPx=>
 (ZkX v21 ZF7 false).bind fun x53=>(JH (!x53)).bind fun x54=>JR x54 (fun e56=>some true) (fun y55=>some false)
def Zh8:(U (Y×ZH))×(U (Y×Z))->O (PR Unit):=fun(v20,v21)=>
 (ZlM (Znz v21) v20).bind fun q29=>(bif q29 then some (.Yd 2) else some (.ok ()))
def Zfy(Zio:Int)(ZcS:(Int×(U Za)->O (PR (Z×Int×(U (Y×ZH))×(U (Y×Z)))))):(U Za)->O (PR (Z×Int×(U (Y×ZH))×(U (Y×Z)))):=fun v139=>
 ZcS (Xa (Zio+1),v139)
def Zfz(WT:Int)(ZmC:Int)(Zh0:(Int×(U (Y×ZH))->O (PR (Z×Int×(U (Y×ZH))×(U (Y×Z))))))(Zdl:Za):Int×(U (Y×ZH))->(Int×(U (Y×ZH))->O (PR (Z×Int×(U (Y×ZH))×(U (Y×Z)))))->O (PR (Z×Int×(U (Y×ZH))×(U (Y×Z)))):=fun(ZuK,ZmB) Ztw=>
 (bif decide (ZuK<(Zdl.joins.length:Int)) then(Yf Zdl.joins ZuK).bind fun Zdk=>(Zw0 ZmB Zdk.text (ZH.mk 0 0)).bind fun ZhM=>(JH ((!ZhM.2)||(Ua ZhM.1 (ZH.mk WT (Zdk.names.length:Int))))).bind fun ZGa=>JR ZGa (fun e223=>some (.Yd 2)) (fun ZPs=>Ztw (Xa (ZuK+1),Xx ZmB Zdk.text (ZH.mk WT (Zdk.names.length:Int)))) else Zh0 (Xa (ZmC+1),ZmB))
def Za2(v95:(U Za))(Ue:(Y×(U Za)×Int×(U (Y×ZH))×(U (Y×Z))->O (PR (Z×Int×(U (Y×ZH))×(U (Y×Z)))))):Int×Int×(U (Y×ZH))×(U (Y×Z))->(Int×Int×(U (Y×ZH))×(U (Y×Z))->O (PR (Z×Int×(U (Y×ZH))×(U (Y×Z)))))->O (PR (Z×Int×(U (Y×ZH))×(U (Y×Z)))):=fun(v234,v236,ZuI,ZuH) Zm1=>
 (bif decide (v234<(v95.length:Int)) then(Yf v95 v234).bind fun ZhK=>(bif(ZhK.form==2) then(Ue (ZhK.text,ZhK.defs,v236,ZuI,ZuH)).bind fun ZF3=>JR ZF3 (fun e254=>some (.Yd e254)) (fun(ZuG,ZGo,ZGn,ZGm)=>(bif(!ZuG) then some (.ok (false,ZGo,ZGn,ZGm)) else Zm1 (Xa (v234+1),ZGo,ZGn,ZGm))) else Zm1 (Xa (v234+1),v236,ZuI,ZuH)) else some (.ok (true,v236,ZuI,ZuH)))
def ZfA(F:Nat)(v95:(U Za))(WT:Int)(Ue:(Y×(U Za)×Int×(U (Y×ZH))×(U (Y×Z))->O (PR (Z×Int×(U (Y×ZH))×(U (Y×Z))))))(v124:(U Za))(ZmD:(U (Y×Z))):Int×(U (Y×ZH))->(Int×(U (Y×ZH))->O (PR (Z×Int×(U (Y×ZH))×(U (Y×Z)))))->O (PR (Z×Int×(U (Y×ZH))×(U (Y×Z)))):=fun(ZmC,Zga) Zh0=>
 (bif decide (ZmC<(v124.length:Int)) then(Yf v124 ZmC).bind fun Zdl=>loop F (Zfz WT ZmC Zh0 Zdl) (0,Zga) else(bif(!true) then some (.ok (false,Xa (WT+1),Zga,ZmD)) else loop F (Za2 v95 Ue) (0,Xa (WT+1),Zga,ZmD)))
def KX(F:Nat)(v95:(U Za))(WT:Int)(v99:(U (Y×ZH)))(Ue:(Y×(U Za)×Int×(U (Y×ZH))×(U (Y×Z))->O (PR (Z×Int×(U (Y×ZH))×(U (Y×Z))))))(v124:(U Za)):(U (Y×Z))->O (PR (Z×Int×(U (Y×ZH))×(U (Y×Z)))):=fun ZmD=>
 loop F (ZfA F v95 WT Ue v124 ZmD) (0,v99)
def ZfB(F:Nat)(v94:Y)(v95:(U Za))(WT:Int)(v99:(U (Y×ZH)))(Zgc:(U (Y×Z)))(Ue:(Y×(U Za)×Int×(U (Y×ZH))×(U (Y×Z))->O (PR (Z×Int×(U (Y×ZH))×(U (Y×Z)))))):Int×(U Za)->(Int×(U Za)->O (PR (Z×Int×(U (Y×ZH))×(U (Y×Z)))))->O (PR (Z×Int×(U (Y×ZH))×(U (Y×Z)))):=fun(Zio,v124) ZcS=>
 (bif decide (Zio<(v95.length:Int)) then(Yf v95 Zio).bind fun Zf9=>(bif(Zf9.form==1) then(app 96 v124 [Zf9]).bind fun z157=>(Zfy Zio ZcS) z157 else(Zfy Zio ZcS) v124) else(bif decide (WT>0) then(ZkX Zgc v94 false).bind fun Zwm=>(JH (!Zwm)).bind fun Zwl=>JR Zwl (fun e267=>some (.Yd 2)) (fun ZKg=>(KX F v95 WT v99 Ue v124) (Xx Zgc v94 true)) else(KX F v95 WT v99 Ue v124) Zgc))
def KW(F:Nat):Y×(U Za)×Int×(U (Y×ZH))×(U (Y×Z))->(Y×(U Za)×Int×(U (Y×ZH))×(U (Y×Z))->O (PR (Z×Int×(U (Y×ZH))×(U (Y×Z)))))->O (PR (Z×Int×(U (Y×ZH))×(U (Y×Z)))):=fun(v94,v95,WT,v99,Zgc) Ue=>
 loop F (ZfB F v94 v95 WT v99 Zgc Ue) (0,[])
def ZdF(F:Nat)(p0:(U Za)):O (PR Unit):=
 (loop F (KW F) ((⟨#[]⟩:Y),p0,0,[],[])).bind fun ZF2=>JR ZF2 (fun e273=>some (.Yd e273)) (fun(ZPH,ZPG,ZBF,Zwq)=>(Zh8) (ZBF,Zwq))
end
section
open Go.ZY Go.Lf
def Zc7{F wm h}{p0:(U Za)}{Zf Ze}{r}(Zv:wm<=h.size)(Zl:Sl Zc wm h Zf Ze p0)(hL:ZdF F p0=some r):
 WF XX 106 #[.slice Zf p0.length Ze] wm h (PQ 147 (fun(r:Unit) v (Gb:U (Ast wm))=>v=.tuple #[]/\Gb=[]) [] h r):=by
 refine WF.QJ (args:=[_]) (fn:=Tryz.f106) Kq0 (by exact rfl) Tryz.ntmps106 (by simp) ?_;simp only[ZE,ZJ,Nat.reduceAdd];obtain⟨T,hT,hS⟩:∃T,T=Ji (wm:=wm) []/\Sp wm T h [] h:=⟨_,rfl,Sp.start Zv Yb.nil⟩
 unfold ZdF at hL;refine r2 ?_;refine V4 (Zhn Value.string Qd hS) ?_;rintro _ h1 ⟨b2,eb2,rfl,hS⟩;refine V4 (Zhn Value.string Value.bool hS) ?_;rintro _ h3 ⟨b4,eb4,rfl,hS⟩;refine r1 ?_;rintro _ h6 ⟨b5,eb5,rfl,hS⟩;refine r1 ?_;rintro _ h8 ⟨b7,eb7,rfl,hS⟩;refine r1 ?_;rintro h9 hS;refine r1 ?_;rintro h10 hS;refine r6 ?_;refine WO.ZGV gN rfl (Yi.fn ZyG (Zb lk Zd)) (WF.QJ (args:=[_]) (fn:=Tryz.f113) Kq0 (by exact rfl) Tryz.ntmps113 (by simp) ?_);simp only[ZE,ZJ,Nat.reduceAdd];refine r3 ?_;rintro _ h12 ⟨b11,ZRN,rfl,hS⟩;refine r5 ?_;refine V2 (Zag (Zb lk Zd))<|r4 ?_;refine Z6.Zvn rfl (Zn lk Zk) rfl<|r3 ?_;refine WC.Zrr (first:=[]) (cap:=[(GY b11)]) hS lk Zyz ?_;intro h13 l14 ZRZ ZhW Zl0 hS;refine WF.ZxK (r:=r) (fun(p:(U (Y×ZH))×(U (Y×Z)))(v:N)(h18:H)=>match p with | (v20,v21)=>v=.tuple #[]/\Sp wm T h [bx wm b5 [.map (some b2)],bx wm b7 [.map (some b4)],bx wm b11 [.slice Zf p0.length Ze],mp wm Value.string Qd (some b2) v20,mp wm Value.string Value.bool (some b4) v21,ob wm l14 ZhW,ob wm ZRZ .deferred] h18) (Zh8) ?_ (WF.QJ (args:=[_,_]) (fn:=Tryz.f144) Kq0 (by exact rfl) Tryz.ntmps144 (by simp) ?_)
 ·rintro⟨v20,v21⟩ v h18 hL ⟨rfl,hS⟩;refine RgS.sp Zl0 hS k5 ?_;rintro h22 hS;refine r5 ?_;refine WO.rng gN rfl hS Zre lk (hS.get k3).at_ ?_;rintro h28 b23 ZXP ZTS hS ZQR ZQ0;refine r3 ?_;obtain⟨q29,ZQL,hL⟩:=bS hL;have ZP4:=(hS.mrd k4)
  have ZP3:=(hS.mrd k5)
  have ZSb:=hS.UL k1;have ZSa:=hS.UL k2;refine WC.loop (WL.ZKM [13,73,74,75,76,77,78,79,80,81] (pv 147 2) ZQL hS k0 fh ZQR ZQ0 rfl rfl rfl rfl rfl rfl rfl rfl ?_ ?_ ?_)
  ·rintro⟨ZF7,ZPx⟩ p36 hL h37 ZWN Zr4 ZCO hS ZQ8;have e42:=Zr4.at (t:=14) rfl (YA rfl (Ya rfl (Zg rfl fh)));have e43:=Zr4.at (t:=15) rfl (YA rfl (Ya rfl fh));have e44:=Zr4.at (t:=2) rfl (YA rfl (Zg rfl fh));have e45:=Zr4.at (t:=3) rfl (YA rfl fh);have e46:=Zr4.at (t:=17) rfl (Ya rfl fh);have e47:=Zr4.at (t:=71) rfl (Zg rfl fh);have e48:=Zr4.at (t:=72) rfl fh;have ZU7:=ZP4.rk ZCO;have ZP2:=ZP3.rk ZCO;have ZXQ:=ZSb.rk ZCO;have ZR9:=ZSa.rk ZCO;refine r4 ?_;refine WC.ZgX lk rfl<|r5 ?_;refine V2 (ZAz lk ZQ8)<|r5 ?_;refine V2 (ZU ZqL (Zm (YA rfl (Zg rfl e45)) rfl) ZR9 (j:=0) rfl (v:=.map (some b4)) rfl)<|r1 ?_;obtain⟨x53,ZG5,hL⟩:=bS hL;refine V2 (Zde (kv:=Value.string) (vv:=Value.bool) (k:=ZF7) (z:=false) U6 JQ Zij (Zm (Zg rfl fh) rfl) (Zm fh rfl) (hS.ms ZP2).at_ ZG5 (w:=.bool x53) rfl)<|r1 ?_;obtain⟨x54,ZrP,hL⟩:=bS hL;rcases x54 with y55|e56
   ·skip;replace hL:=Yv hL;refine V3 (Yi.fn Y3 (Zb lk Zd)) hS .n (fun g' hz hf hO=>(PQ.ok (YH (hS.V6 hz) ZrP))) ?_;rintro _ h57 _ ⟨rfl,rfl⟩ hS;refine r2 ?_;have hp:=Oi0 hL;subst hp;exact Zs1.Yc (.s rfl (.s rfl (.s rfl (.s rfl (.s rfl (.s rfl (.s rfl (.s rfl (.s rfl (.s rfl .z))))))))))
   ·skip;replace hL:=Z9 hL;obtain rfl:=XD ZrP;refine WO.WI gN (Yi.fn Y3 (Zb lk Zd)) hS .n (fun g' hz hf hO=>YH (hS.V6 hz) ZrP) ?_;rintro h59 hS;refine YG.panic ?_;have hp:=Oi0 hL;subst hp;exact Zs1.panic (.s rfl (.s rfl (.s rfl (.s rfl (.s rfl (.s rfl (.s rfl (.s rfl (.s rfl .z)))))))))
  ·intro ZQK h61 ZWM Zr3 hS;replace hL:=XJ ZQK hL;have e64:=Zr3.at (t:=14) rfl (YA rfl (Ya rfl (Zg rfl fh)));have e65:=Zr3.at (t:=15) rfl (YA rfl (Ya rfl fh));have e66:=Zr3.at (t:=2) rfl (YA rfl (Zg rfl fh));have e67:=Zr3.at (t:=3) rfl (YA rfl fh);have e68:=Zr3.at (t:=17) rfl (Ya rfl fh);have e69:=Zr3.at (t:=71) rfl (Zg rfl fh);have e70:=Zr3.at (t:=72) rfl fh;refine r4 ?_;refine WC.ZgY lk rfl<|r2 ?_;refine ZEb.exit<|r1 ?_;refine Z6.Yc<|Z6.Zke hS k5 ?_;rintro h71 hS;have hr:=Oi0 hL;subst hr;exact Z6.Ww rfl Zk rfl ⟨_,⟨rfl,rfl⟩,hT▸hS.only .n⟩
  ·intro ZQJ h73 ZWL Zr2 hS;replace hL:=XI ZQJ hL;have e76:=Zr2.at (t:=14) rfl (YA rfl (Ya rfl (Zg rfl fh)));have e77:=Zr2.at (t:=15) rfl (YA rfl (Ya rfl fh));have e78:=Zr2.at (t:=2) rfl (YA rfl (Zg rfl fh));have e79:=Zr2.at (t:=3) rfl (YA rfl fh);have e80:=Zr2.at (t:=17) rfl (Ya rfl fh);have e81:=Zr2.at (t:=71) rfl (Zg rfl fh);have e82:=Zr2.at (t:=72) rfl fh;refine YG.panic<|Z6.KI<|Y7.Zke hS k5 ?_;rintro h83 hS;refine Y7.Yd ?_;have hr:=Oi0 hL;subst hr;exact⟨rfl,hT▸hS.only .n⟩
 ·skip;simp only[ZE,ZJ,Nat.reduceAdd];refine r3 ?_;rintro _ h85 ⟨b84,ZWQ,rfl,hS⟩;refine r5 ?_;rintro _ h87 ⟨b86,ZRD,rfl,hS⟩;refine r1 ?_;rintro h88 hS;refine r5 ?_;rintro _ h90 ⟨b89,ZRC,rfl,hS⟩;refine r4 ?_;refine V2 (Zag (Zb lk (Zb lk (Zb lk Zd))))<|r1 ?_;rintro h91 hS;refine r5 ?_;have hS:=hS.add (A:=YW wm (Y8 Zc) (Zf,Ze) p0) (hS.sl Zl) (fun _ z=>z)
  have ZtO:∀(Fr:Nat)(x:Y×(U Za)×Int×(U (Y×ZH))×(U (Y×Z)))(r:(PR (Z×Int×(U (Y×ZH))×(U (Y×Z))))),loop Fr (KW F) x=some r->match x with | (v94,v95,WT,v99,Zgc)=>∀{h:H}(a96:O Addr)(c97:Nat),wm<=h.size->Yb (wm:=wm) [YW wm (Y8 Zc) (a96,c97) v95,bx wm b5 [.map (some b2)],bx wm b7 [.map (some b4)],bx wm b11 [.slice Zf p0.length Ze],bx wm b84 [.func (.yield l14) #[] #[]],bx wm b86 [GX WT],bx wm b89 [.func (.func 145) #[] #[(GY b86),(GY b84),(GY b89)]],mp wm Value.string Qd (some b2) v99,mp wm Value.string Value.bool (some b4) Zgc,YW wm (Y8 Zc) (Zf,Ze) p0,ob wm l14 ZhW] h->WF XX 145 #[.string v94,.slice a96 v95.length c97,(GY b86),(GY b84),(GY b89)] wm h (PQ 147 (fun(r:Z×Int×(U (Y×ZH))×(U (Y×Z)))(v:N)(Gb:U (Ast wm))=>match r with | (v105,ZPM,v107,ZPL)=>v=.bool v105/\Gb=[bx wm b5 [.map (some b2)],bx wm b7 [.map (some b4)],bx wm b11 [.slice Zf p0.length Ze],bx wm b84 [.func (.yield l14) #[] #[]],bx wm b86 [GX ZPM],bx wm b89 [.func (.func 145) #[] #[(GY b86),(GY b84),(GY b89)]],mp wm Value.string Qd (some b2) v107,mp wm Value.string Value.bool (some b4) ZPL,YW wm (Y8 Zc) (Zf,Ze) p0,ob wm l14 ZhW]) [YW wm (Y8 Zc) (a96,c97) v95,bx wm b5 [.map (some b2)],bx wm b7 [.map (some b4)],bx wm b11 [.slice Zf p0.length Ze],bx wm b84 [.func (.yield l14) #[] #[]],bx wm b86 [GX WT],bx wm b89 [.func (.func 145) #[] #[(GY b86),(GY b84),(GY b89)]],mp wm Value.string Qd (some b2) v99,mp wm Value.string Value.bool (some b4) Zgc,YW wm (Y8 Zc) (Zf,Ze) p0,ob wm l14 ZhW] h r):=by
   refine Xd _ ?_;rintro Ue Zpf ⟨v94,v95,WT,v99,Zgc⟩ r hL h a96 c97 Zv hO;obtain⟨T,hT,hS⟩:∃T,T=Ji (wm:=wm) [YW wm (Y8 Zc) (a96,c97) v95,bx wm b5 [.map (some b2)],bx wm b7 [.map (some b4)],bx wm b11 [.slice Zf p0.length Ze],bx wm b84 [.func (.yield l14) #[] #[]],bx wm b86 [GX WT],bx wm b89 [.func (.func 145) #[] #[(GY b86),(GY b84),(GY b89)]],mp wm Value.string Qd (some b2) v99,mp wm Value.string Value.bool (some b4) Zgc,YW wm (Y8 Zc) (Zf,Ze) p0,ob wm l14 ZhW]/\Sp wm T h [YW wm (Y8 Zc) (a96,c97) v95,bx wm b5 [.map (some b2)],bx wm b7 [.map (some b4)],bx wm b11 [.slice Zf p0.length Ze],bx wm b84 [.func (.yield l14) #[] #[]],bx wm b86 [GX WT],bx wm b89 [.func (.func 145) #[] #[(GY b86),(GY b84),(GY b89)]],mp wm Value.string Qd (some b2) v99,mp wm Value.string Value.bool (some b4) Zgc,YW wm (Y8 Zc) (Zf,Ze) p0,ob wm l14 ZhW] h:=⟨_,rfl,Sp.start Zv hO⟩
   refine WF.QJ (args:=[_,_,_,_,_]) (fn:=Tryz.f145) Kq0 (by exact rfl) Tryz.ntmps145 (by simp) ?_;simp only[ZE,ZJ,Nat.reduceAdd];refine r8 ?_;refine V2 (Qy ZAs (ZA lk Z0) rfl (cs':=[GW,GX WT]) rfl)<|r1 ?_;rintro _ ZWC ⟨ZsF,ZTM,rfl,hS⟩;refine r1 ?_;rintro ZRt hS;refine r7 ?_;rintro h112 hS;refine r11 ?_;have hS:=hS.nil (e:=Zc);refine WC.loop (WL.lift hL (fun p s=>match p with | (Zio,v124)=>∃ZdE ZIi ZeB Zen n127,s=⟨ZdE,[],ZIi,none⟩/\Sp wm T h [bx wm b84 [.func (.yield l14) #[] #[]],bx wm b89 [.func (.func 145) #[] #[(GY b86),(GY b84),(GY b89)]],bx wm b86 [GX (Xa (WT+1))],ow wm Zc ZeB n127 Zen v124,bx wm ZsF [.slice ZeB n127 Zen,GX WT],bx wm b5 [.map (some b2)],bx wm b7 [.map (some b4)],bx wm b11 [.slice Zf p0.length Ze],YW wm (Y8 Zc) (a96,c97) v95,mp wm Value.string Qd (some b2) v99,mp wm Value.string Value.bool (some b4) Zgc,YW wm (Y8 Zc) (Zf,Ze) p0,ob wm l14 ZhW] ZIi/\ZdE.at 0=.string v94/\ZdE.at 1=.slice a96 v95.length c97/\ZdE.at 3=(GY b84)/\ZdE.at 4=(GY b89)/\ZdE.at 8=(GY ZsF)/\ZdE.at 17=.slice a96 v95.length c97/\ZdE.at 18= GX (v95.length:Int)/\ZdE.at 19= GX Zio) ⟨_,_,none,0,0,rfl,hS.only (.c k7 (.c k7 (.c k1 (.c k0 (.c k0 (.c k1 (.c k1 (.c k1 (.c k0 (.c k0 (.c k0 (.c k0 (.c k0 .n))))))))))))),Y0⟩ ?_);rintro ZcS ⟨Zio,v124⟩ s Zye hL ⟨ZdE,ZIi,ZeB,Zen,n127,rfl,hS,e115,e116,e117,e118,e119,e120,ZXz,ZXy⟩;obtain rfl:=hS.on k3;refine r6 ?_;refine cn hL ?_ ?_
   ·intro hc hL;refine r2 ?_;refine WC.KJ (r:=r) (fun(v139:(U Za)) s=>∃ZdD ZCT ZD1 c141 n142,s=⟨ZdD,[],ZCT,none⟩/\Sp wm T h [bx wm b84 [.func (.yield l14) #[] #[]],bx wm b89 [.func (.func 145) #[] #[(GY b86),(GY b84),(GY b89)]],bx wm b86 [GX (Xa (WT+1))],ow wm Zc ZD1 n142 c141 v139,bx wm ZsF [.slice ZD1 n142 c141,GX WT],bx wm b5 [.map (some b2)],bx wm b7 [.map (some b4)],bx wm b11 [.slice Zf p0.length Ze],YW wm (Y8 Zc) (a96,c97) v95,mp wm Value.string Qd (some b2) v99,mp wm Value.string Value.bool (some b4) Zgc,YW wm (Y8 Zc) (Zf,Ze) p0,ob wm l14 ZhW] ZCT/\ZdD.at 0=.string v94/\ZdD.at 1=.slice a96 v95.length c97/\ZdD.at 3=(GY b84)/\ZdD.at 4=(GY b89)/\ZdD.at 8=(GY ZsF)/\ZdD.at 17=.slice a96 v95.length c97/\ZdD.at 18= GX (v95.length:Int)/\ZdD.at 19= GX Zio) (Zfy Zio ZcS) ?_ ?_
    ·rintro v139 s hL ⟨ZdD,ZCT,ZD1,c141,n142,rfl,hS,ZXx,ZRW,ZRV,ZRU,ZXw,ZXv,e137,e138⟩;obtain rfl:=hS.on k3;refine r4 ?_;exact ZO.Yc (Zye _ _ hL ⟨_,_,ZD1,c141,v139.length,rfl,hS.only (.c k0 (.c k0 (.c k0 (.c k0 (.c k0 (.c k0 (.c k0 (.c k0 (.c k0 (.c k0 (.c k0 (.c k0 (.c k0 .n))))))))))))),Y0⟩)
    ·skip;refine r3 ?_;obtain⟨Zf9,ZE4,hL⟩:=bS hL;obtain⟨ZYe,ZUY,⟨⟨a146,ZJc⟩,⟨a148,ZhT⟩,⟨ZJC,ZJb⟩⟩,ZHE,ZH0,ZRd,Zjr⟩:=Sl.at_ (hS.fsl k8) ZE4;replace Zjr:=ZC.1 Zjr;refine V2 (ZF Ql Z8 lk lk rfl ZHE ZE4) ?_;have hS:=hS.add (A:=YW wm (Y8 ZL) (a146,ZJc) Zf9.joins) Zjr.1 (fun _ z=>z);have hS:=hS.add (A:=YW wm (Y8 Zc) (a148,ZhT) Zf9.defs) Zjr.2.1 (fun _ z=>z);have hS:=hS.add (A:=YW wm (Y8 ZB) (ZJC,ZJb) Zf9.kids) Zjr.2.2 (fun _ z=>z);refine V2 (YB JM Z8 (Zm fh rfl) ZH0 (j:=0) rfl rfl (ws:=[GX Zf9.form,.string Zf9.text,.slice a146 Zf9.joins.length ZJc,.slice a148 Zf9.defs.length ZhT,.slice ZJC Zf9.kids.length ZJb]) rfl)<|r1 ?_;rintro _ ZWk ⟨ZYd,ZTF,rfl,hS⟩;refine r1 ?_;rintro ZWj hS;refine r9 ?_;refine cn hL ?_ ?_
     ·intro hc hL;refine r4 ?_;refine V4 (Uj (e:=Zc) hS Ql Z8 WQ rfl rfl rfl (ZA lk Z0) rfl [(((a146,ZJc),(a148,ZhT),(ZJC,ZJb)),Zf9)] rfl (xs:=[Zf9]) rfl (by intro q hq;simp only[Ks,Jx,or_false]at hq;subst hq;exact(ZC.2 ⟨(hS.fsl k3),(hS.fsl k2),(hS.fsl k1)⟩)) rfl) ?_;rintro _ ZWi ⟨ZYb,ZTE,rfl,hS⟩;obtain⟨z157,ZKT,hL⟩:=bS hL;refine WO.hv gN rfl (JY (e:=Zc) hS k8 ZfT lk lk (hS.QF k0) (hS.on k0) ZKT) ?_;rintro _ ZWf ⟨ZD0,c159,rfl,hS⟩;refine r2 ?_;rintro ZWe hS;refine r2 ?_;exact YJ.Yc _ hL ⟨_,_,ZD0,c159,z157.length,rfl,hS.only (.c k7 (.c k7 (.c k7 (.c k1 (.c k0 (.c k5 (.c k5 (.c k5 (.c k5 (.c k5 (.c k5 (.c k5 (.c k5 .n))))))))))))),Y0⟩
     ·intro hc hL;refine r2 ?_;exact YJ.Yc _ hL ⟨_,_,ZeB,Zen,v124.length,rfl,hS.only (.c k4 (.c k4 (.c k4 (.c k4 (.c k4 (.c k4 (.c k4 (.c k4 (.c k4 (.c k4 (.c k4 (.c k4 (.c k4 .n))))))))))))),Y0⟩
   ·intro hc hL;refine r11 ?_;refine WO.ZF0 gN rfl lk lks hS k12 Zl0 rfl rfl<|r7 ?_;rintro _ ZNI ⟨ZsE,ZNR,rfl,hS⟩;refine r1 ?_;rintro ZRs hS;refine r1 ?_;refine AsZ.sp Zl0 hS k13 ?_;rintro ZCR hS;refine r1 ?_;refine WC.KJ (r:=r) (fun(ZmD:(U (Y×Z))) s=>∃ZtT ZIe,s=⟨ZtT,[],ZIe,none⟩/\Sp wm T h [bx wm b5 [.map (some b2)],bx wm ZsE [.slice ZeB v124.length Zen,GX WT],bx wm b7 [.map (some b4)],bx wm b11 [.slice Zf p0.length Ze],bx wm b84 [.func (.yield l14) #[] #[]],bx wm b86 [GX (Xa (WT+1))],bx wm b89 [.func (.func 145) #[] #[(GY b86),(GY b84),(GY b89)]],bx wm ZsF [.slice ZeB v124.length Zen,GX WT],mp wm Value.string Qd (some b2) v99,ow wm Zc ZeB v124.length Zen v124,mp wm Value.string Value.bool (some b4) ZmD,YW wm (Y8 Zc) (Zf,Ze) p0,YW wm (Y8 Zc) (a96,c97) v95,ob wm l14 (bsy ZhW)] ZIe/\ZtT.at 2=(GY b5)/\ZtT.at 5=(GY ZsE)) (KX F v95 WT v99 Ue v124) ?_ ?_
    ·rintro ZmD s hL ⟨ZtT,ZIe,rfl,hS,e168,e169⟩;refine r9 ?_;refine WC.loop (WL.lift hL (fun p s=>match p with | (ZmC,Zga)=>∃Zjz ZId,s=⟨Zjz,[],ZId,none⟩/\Sp wm T h [bx wm b5 [.map (some b2)],bx wm ZsE [.slice ZeB v124.length Zen,GX WT],bx wm b7 [.map (some b4)],bx wm b11 [.slice Zf p0.length Ze],bx wm b84 [.func (.yield l14) #[] #[]],bx wm b86 [GX (Xa (WT+1))],bx wm b89 [.func (.func 145) #[] #[(GY b86),(GY b84),(GY b89)]],bx wm ZsF [.slice ZeB v124.length Zen,GX WT],ow wm Zc ZeB v124.length Zen v124,mp wm Value.string Qd (some b2) Zga,mp wm Value.string Value.bool (some b4) ZmD,YW wm (Y8 Zc) (Zf,Ze) p0,YW wm (Y8 Zc) (a96,c97) v95,ob wm l14 (bsy ZhW)] ZId/\Zjz.at 2=(GY b5)/\Zjz.at 5=(GY ZsE)/\Zjz.at 31=.slice ZeB v124.length Zen/\Zjz.at 32= GX (v124.length:Int)/\Zjz.at 33= GX ZmC) ⟨_,_,rfl,hS.only (.c k0 (.c k0 (.c k0 (.c k0 (.c k0 (.c k0 (.c k0 (.c k0 (.c k1 (.c k0 (.c k0 (.c k0 (.c k0 (.c k0 .n)))))))))))))),Y0⟩ ?_);rintro Zh0 ⟨ZmC,Zga⟩ s Zyb hL ⟨Zjz,ZId,rfl,hS,ZRS,ZXn,ZRR,ZI0,ZIZ⟩;refine r6 ?_;refine cn hL ?_ ?_
     ·intro hc hL;refine r6 ?_;obtain⟨Zdl,ZE2,hL⟩:=bS hL;obtain⟨ZX9,ZUT,⟨⟨ZDZ,ZDL⟩,⟨ZOH,ZOf⟩,⟨ZOG,ZOe⟩⟩,ZHB,ZHX,Zjp⟩:=Src.at_ (hS.QF k8) ZE2;replace Zjp:=ZC.1 Zjp;refine V2 (ZF Ql Z8 lk lk rfl ZHB ZE2) ?_;have hS:=hS.add (A:=YW wm (Y8 ZL) (ZDZ,ZDL) Zdl.joins) Zjp.1 (fun _ z=>z);have hS:=hS.add (A:=YW wm (Y8 Zc) (ZOH,ZOf) Zdl.defs) Zjp.2.1 (fun _ z=>z);have hS:=hS.add (A:=YW wm (Y8 ZB) (ZOG,ZOe) Zdl.kids) Zjp.2.2 (fun _ z=>z);refine V2 (YB JM Z8 (Zm fh rfl) ZHX (j:=0) rfl rfl (ws:=[GX Zdl.form,.string Zdl.text,.slice ZDZ Zdl.joins.length ZDL,.slice ZOH Zdl.defs.length ZOf,.slice ZOG Zdl.kids.length ZOe]) rfl)<|r1 ?_;rintro _ ZV9 ⟨ZX7,ZTD,rfl,hS⟩;refine r1 ?_;rintro ZV8 hS;refine r11 ?_;refine WC.loop (WL.lift hL (fun p s=>match p with | (ZuK,ZmB)=>∃ZdA ZIa,s=⟨ZdA,[],ZIa,none⟩/\Sp wm T h [bx wm b5 [.map (some b2)],bx wm ZsE [.slice ZeB v124.length Zen,GX WT],bx wm b7 [.map (some b4)],bx wm b11 [.slice Zf p0.length Ze],bx wm b84 [.func (.yield l14) #[] #[]],bx wm b86 [GX (Xa (WT+1))],bx wm b89 [.func (.func 145) #[] #[(GY b86),(GY b84),(GY b89)]],bx wm ZsF [.slice ZeB v124.length Zen,GX WT],ow wm Zc ZeB v124.length Zen v124,YW wm (Y8 ZL) (ZDZ,ZDL) Zdl.joins,mp wm Value.string Qd (some b2) ZmB,mp wm Value.string Value.bool (some b4) ZmD,YW wm (Y8 Zc) (Zf,Ze) p0,YW wm (Y8 Zc) (a96,c97) v95,ob wm l14 (bsy ZhW)] ZIa/\ZdA.at 2=(GY b5)/\ZdA.at 5=(GY ZsE)/\ZdA.at 31=.slice ZeB v124.length Zen/\ZdA.at 32= GX (v124.length:Int)/\ZdA.at 33= GX ZmC/\ZdA.at 38=.slice ZDZ Zdl.joins.length ZDL/\ZdA.at 39= GX (Zdl.joins.length:Int)/\ZdA.at 40= GX ZuK) ⟨_,_,rfl,hS.only (.c k4 (.c k4 (.c k4 (.c k4 (.c k4 (.c k4 (.c k4 (.c k4 (.c k4 (.c k3 (.c k3 (.c k3 (.c k3 (.c k3 (.c k3 .n))))))))))))))),Y0⟩ ?_);rintro Ztw ⟨ZuK,ZmB⟩ s Zx8 hL ⟨ZdA,ZIa,rfl,hS,e195,ZXj,e197,ZXi,e199,ZXh,ZXg,e203⟩;refine r6 ?_;refine cn hL ?_ ?_
      ·intro hc hL;refine r6 ?_;obtain⟨Zdk,ZEX,hL⟩:=bS hL;obtain⟨ZSg,ZUP,⟨ZOE,c210⟩,ZHy,ZHU,ZRb,ZHM⟩:=Sl.at_ (hS.fsl k9) ZEX;refine V2 (ZF Jg Xb lk lk rfl ZHy ZEX) ?_;have hS:=hS.add (A:=YW wm (Y8 Zx) (ZOE,c210) Zdk.names) ZHM (fun _ z=>z);refine V2 (YB Zcv Xb (Zm fh rfl) ZHU (j:=0) rfl rfl (ws:=[.string Zdk.text,.slice ZOE Zdk.names.length c210]) rfl)<|r1 ?_;rintro _ ZRq ⟨ZX4,ZTA,rfl,hS⟩;refine r1 ?_;rintro ZRp hS;refine r9 ?_;refine V2 (Qy ZJg (ZA lk (ZA lk Z0)) rfl (cs':=[GX WT,GX (Zdk.names.length:Int)]) rfl)<|r1 ?_;rintro _ ZCQ ⟨ZX3,ZTz,rfl,hS⟩;refine r1 ?_;rintro ZVX hS;refine r7 ?_;obtain⟨ZhM,ZLa,hL⟩:=bS hL;refine V2 (ZAy (kv:=Value.string) (vv:=Qd) (k:=Zdk.text) (z:=(ZH.mk 0 0)) U6 Zre Zmw (Zm (Ya rfl fh) rfl) (Zm fh rfl) (hS.get k13).at_ ZLa (w:=.agg #[GX ZhM.1.at_,GX ZhM.1.many]) rfl)<|r4 ?_;rintro _ ZVW ⟨ZX2,ZTy,rfl,hS⟩;refine r1 ?_;rintro ZVV hS;refine r10 ?_;refine WO.gv (Zh.no rfl rfl rfl (Ya rfl fh)) rfl (fun hg=>(Xo (X0 (Zg rfl fh) rfl hg) (X0 fh rfl hg) (ZA0 (xs:=[GX ZhM.1.at_,GX ZhM.1.many]) (ys:=[GX WT,GX (Zdk.names.length:Int)]) (ZIS ZhM.1 (ZH.mk WT (Zdk.names.length:Int))) rfl rfl)))<|r1 ?_;obtain⟨ZGa,ZxS,hL⟩:=bS hL;rcases ZGa with ZPs|e223
       ·skip;replace hL:=Yv hL;refine V3 (Yi.fn Y3 (Zb lk Zd)) hS .n (fun g' hz hf hO=>(PQ.ok (YH (p0:=((!ZhM.2)||(Ua ZhM.1 (ZH.mk WT (Zdk.names.length:Int))))) (hS.V6 hz) ZxS))) ?_;rintro _ ZVU _ ⟨rfl,rfl⟩ hS;simp only[GO,G5]at hS;refine r7 ?_;refine WO.hu gN (ZeJ (kv:=Value.string) (vv:=Qd) (k:=Zdk.text) (v:=(ZH.mk WT (Zdk.names.length:Int))) hS k14 U6 Zre (Zm (Ya rfl (Zg rfl fh)) rfl) (Zm (Zg rfl fh) rfl) (Zm fh rfl)) ?_;rintro ZVT hS;refine r7 ?_;exact ZO.Yc (Zx8 _ _ hL ⟨_,_,rfl,hS.only (.c k5 (.c k5 (.c k5 (.c k5 (.c k5 (.c k5 (.c k5 (.c k5 (.c k5 (.c k5 (.c k0 (.c k4 (.c k4 (.c k4 (.c k4 .n))))))))))))))),Y0⟩)
       ·skip;replace hL:=Z9 hL;obtain rfl:=XD ZxS;refine WO.WI gN (Yi.fn Y3 (Zb lk Zd)) hS .n (fun g' hz hf hO=>YH (p0:=((!ZhM.2)||(Ua ZhM.1 (ZH.mk WT (Zdk.names.length:Int))))) (hS.V6 hz) ZxS) ?_;rintro ZVS hS;refine ZP.panic<|YG.panic<|ZP.panic<|ZO.panic<|YG.panic<|YG.panic<|ZP.panic<|ZO.panic<|YG.panic<|YG.panic<|BdZ.Yd Zl0 hS (.s (.s (.s k15)))<|ZP.panic<|ZP.panic<|Z6.KI ?_;have hr:=Oi0 hL;subst hr;exact Y7.Yd ⟨rfl,hT▸hS.only .n⟩
      ·intro hc hL;refine r10 ?_;exact ZO.Yc (Zyb _ _ hL ⟨_,_,rfl,hS.only (.c k0 (.c k0 (.c k0 (.c k0 (.c k0 (.c k0 (.c k0 (.c k0 (.c k0 (.c k1 (.c k1 (.c k1 (.c k1 (.c k1 .n)))))))))))))),Y0⟩)
     ·intro hc hL;refine r5 ?_;refine BdZ.sp Zl0 hS k13 ?_;rintro ZVR hS;refine r3 ?_;refine cn hL ?_ ?_
      ·intro hc hL;refine r7 ?_;have hr:=Oi0 hL;subst hr;exact Z6.Ww rfl (Zn lk Zk) rfl ⟨_,⟨rfl,rfl⟩,hT▸hS.only (.c k1 (.c k2 (.c k2 (.c k2 (.c k2 (.c k2 (.c k4 (.c k4 (.c k4 (.c k0 .n))))))))))⟩
      ·intro hc hL;refine r11 ?_;refine WC.loop (WL.lift hL (fun p s=>match p with | (v234,v236,ZuI,ZuH)=>∃Zl4 ZH9,s=⟨Zl4,[],ZH9,none⟩/\Sp wm T h [bx wm b89 [.func (.func 145) #[] #[(GY b86),(GY b84),(GY b89)]],bx wm b86 [GX v236],bx wm b84 [.func (.yield l14) #[] #[]],bx wm b5 [.map (some b2)],bx wm b7 [.map (some b4)],bx wm b11 [.slice Zf p0.length Ze],YW wm (Y8 Zc) (a96,c97) v95,mp wm Value.string Qd (some b2) ZuI,mp wm Value.string Value.bool (some b4) ZuH,YW wm (Y8 Zc) (Zf,Ze) p0,ob wm l14 ZhW] ZH9/\Zl4.at 4=(GY b89)/\Zl4.at 38=.slice a96 v95.length c97/\Zl4.at 39= GX (v95.length:Int)/\Zl4.at 40= GX v234) ⟨_,_,rfl,hS.only (.c k7 (.c k6 (.c k5 (.c k1 (.c k2 (.c k2 (.c k7 (.c k4 (.c k4 (.c k4 (.c k0 .n))))))))))),Y0⟩ ?_);rintro Zm1 ⟨v234,v236,ZuI,ZuH⟩ s Zpc hL ⟨Zl4,ZH9,rfl,hS,e231,e232,e233,ZXe⟩;refine r6 ?_;refine cn hL ?_ ?_
       ·intro hc hL;refine r6 ?_;obtain⟨ZhK,ZEV,hL⟩:=bS hL;obtain⟨ZXY,ZUN,⟨⟨ZOC,ZOb⟩,⟨ZDY,ZDK⟩,⟨ZOB,ZOa⟩⟩,ZHw,ZHS,ZQ9,Zjn⟩:=Sl.at_ (hS.fsl k6) ZEV;replace Zjn:=ZC.1 Zjn;refine V2 (ZF Ql Z8 lk lk rfl ZHw ZEV) ?_;have hS:=hS.add (A:=YW wm (Y8 ZL) (ZOC,ZOb) ZhK.joins) Zjn.1 (fun _ z=>z);have hS:=hS.add (A:=YW wm (Y8 Zc) (ZDY,ZDK) ZhK.defs) Zjn.2.1 (fun _ z=>z);have hS:=hS.add (A:=YW wm (Y8 ZB) (ZOB,ZOa) ZhK.kids) Zjn.2.2 (fun _ z=>z);refine V2 (YB JM Z8 (Zm fh rfl) ZHS (j:=0) rfl rfl (ws:=[GX ZhK.form,.string ZhK.text,.slice ZOC ZhK.joins.length ZOb,.slice ZDY ZhK.defs.length ZDK,.slice ZOB ZhK.kids.length ZOa]) rfl)<|r1 ?_;rintro _ ZVO ⟨ZXW,ZTw,rfl,hS⟩;refine r1 ?_;rintro ZVN hS;refine r13 ?_;refine WO.Zjv (Zh.Zra rfl rfl rfl (YA rfl (Zg rfl fh)) (Ziv rfl (Ziw (YA rfl fh) (Zix rfl)))) (fun WG=>?_) (fun WG=>?_)
        ·replace hL:=XI WG hL;obtain⟨ZF3,hx255,hL⟩:=bS hL;rcases ZF3 with⟨ZuG,ZGo,ZGn,ZGm⟩|e254
         ·skip;replace hL:=Yv hL;dsimp only at hL;refine WO.cl (Zh.on (Zh.Zra rfl rfl rfl (YA rfl (Zg rfl fh)) (Ziv rfl (Ziw (YA rfl fh) (Zix rfl)))) WG) rfl (Yi.clo (first:=[]) (cap:=[(GY b86),(GY b84),(GY b89)]) (X0 (YA rfl fh) rfl WG) Zgs (Zb (X0 (Ya rfl fh) rfl WG) (Zb (X0 fh rfl WG) Zd)) rfl) hS (.c k2 (.c k6 (.c k6 (.c k6 (.c k5 (.c k4 (.c k3 (.c k4 (.c k4 (.c k4 (.c k4 .n))))))))))) (fun g' hz hf hO=>PQ.ok (Zpf _ _ hx255 ZDY ZDK (hS.V6 hz) hO)) ?_;rintro _ ZRo _ ⟨rfl,rfl⟩ hS;refine WO.w (Zh.on (Zh.yes rfl rfl rfl (YA rfl (Ya rfl fh))) WG) rfl (Zaf lk)<|V2 (Zkp lk WG lk)<|r2 ?_;refine cn hL ?_ ?_
          ·intro hc hL;refine r11 ?_;have hr:=Oi0 hL;subst hr;exact Z6.Ww rfl (Zn lk Zk) rfl ⟨_,⟨rfl,rfl⟩,hT▸hS.only (.c k0 (.c k0 (.c k0 (.c k0 (.c k0 (.c k0 (.c k0 (.c k0 (.c k0 (.c k0 .n))))))))))⟩
          ·intro hc hL;refine r7 ?_;exact ZO.Yc (Zpc _ _ hL ⟨_,_,rfl,hS.only (.c k5 (.c k4 (.c k3 (.c k0 (.c k0 (.c k0 (.c k7 (.c k0 (.c k0 (.c k0 (.c k0 .n))))))))))),Y0⟩)
         ·skip;replace hL:=Z9 hL;refine WO.WI (Zh.on (Zh.Zra rfl rfl rfl (YA rfl (Zg rfl fh)) (Ziv rfl (Ziw (YA rfl fh) (Zix rfl)))) WG) (Yi.clo (first:=[]) (cap:=[(GY b86),(GY b84),(GY b89)]) (X0 (YA rfl fh) rfl WG) Zgs (Zb (X0 (Ya rfl fh) rfl WG) (Zb (X0 fh rfl WG) Zd)) rfl) hS (.c k2 (.c k6 (.c k6 (.c k6 (.c k5 (.c k4 (.c k3 (.c k4 (.c k4 (.c k4 (.c k4 .n))))))))))) (fun g' hz hf hO=>Zpf _ _ hx255 ZDY ZDK (hS.V6 hz) hO) ?_;rintro ZVL hS;refine ZP.panic<|YG.panic<|ZP.panic<|ZO.panic<|YG.panic<|ZP.panic<|Z6.KI ?_;have hr:=Oi0 hL;subst hr;exact Y7.Yd ⟨rfl,hT▸hS.only .n⟩
        ·replace hL:=XJ WG hL;refine WO.Zgi (Zh.Zra rfl rfl rfl (YA rfl (Zg rfl fh)) (Ziv rfl (Ziw (YA rfl fh) (Zix rfl)))) WG rfl<|WO.Zgi (Zh.yes rfl rfl rfl (YA rfl (Ya rfl fh))) WG rfl<|V2 (Zkq lk WG lk)<|r2 ?_;refine WC.ZgY lk rfl<|r7 ?_;exact ZO.Yc (Zpc _ _ hL ⟨_,_,rfl,hS.only (.c k4 (.c k4 (.c k4 (.c k4 (.c k4 (.c k4 (.c k4 (.c k4 (.c k4 (.c k4 (.c k4 .n))))))))))),Y0⟩)
       ·intro hc hL;refine r11 ?_;have hr:=Oi0 hL;subst hr;exact Z6.Ww rfl (Zn lk Zk) rfl ⟨_,⟨rfl,rfl⟩,hT▸hS.only (.c k3 (.c k3 (.c k3 (.c k2 (.c k1 (.c k0 (.c k1 (.c k1 (.c k1 (.c k1 .n))))))))))⟩
    ·skip;refine r7 ?_;refine cn hL ?_ ?_
     ·intro hc hL;refine r4 ?_;obtain⟨Zwm,ZK7,hL⟩:=bS hL;refine V2 (Zde (kv:=Value.string) (vv:=Value.bool) (k:=v94) (z:=false) U6 JQ Zij (Zm (Zg rfl fh) rfl) (Zm fh rfl) (hS.get k12).at_ ZK7 (w:=.bool Zwm) rfl)<|r1 ?_;obtain⟨Zwl,ZxQ,hL⟩:=bS hL;rcases Zwl with ZKg|e267
      ·skip;replace hL:=Yv hL;refine V3 (Yi.fn Y3 (Zb lk Zd)) hS .n (fun g' hz hf hO=>(PQ.ok (YH (hS.V6 hz) ZxQ))) ?_;rintro _ ZVI _ ⟨rfl,rfl⟩ hS;refine r5 ?_;refine WO.hu gN (ZeJ (kv:=Value.string) (vv:=Value.bool) (k:=v94) (v:=true) hS k12 U6 JQ (Zm (Zg rfl fh) rfl) (Zm fh rfl) (UA rfl)) ?_;rintro ZVH hS;refine r1 ?_;exact YJ.Yc _ hL ⟨_,_,rfl,hS.only (.c k8 (.c k2 (.c k7 (.c k7 (.c k2 (.c k3 (.c k2 (.c k3 (.c k4 (.c k2 (.c k0 (.c k2 (.c k1 (.c k0 .n)))))))))))))),Y0⟩
      ·skip;replace hL:=Z9 hL;obtain rfl:=XD ZxQ;refine WO.WI gN (Yi.fn Y3 (Zb lk Zd)) hS .n (fun g' hz hf hO=>YH (hS.V6 hz) ZxQ) ?_;rintro ZVG hS;refine ZP.panic<|YJ.panic<|YG.panic<|BdZ.Yd Zl0 hS k0<|ZP.panic<|ZP.panic<|Z6.KI ?_;have hr:=Oi0 hL;subst hr;exact Y7.Yd ⟨rfl,hT▸hS.only .n⟩
     ·intro hc hL;refine r1 ?_;exact YJ.Yc _ hL ⟨_,_,rfl,hS.only (.c k7 (.c k1 (.c k6 (.c k6 (.c k1 (.c k2 (.c k1 (.c k2 (.c k3 (.c k1 (.c k2 (.c k2 (.c k1 (.c k0 .n)))))))))))))),Y0⟩
  have hS:=hS.add (A:=YW wm (Y8 Zc) (Zf,Ze) p0) (hS.get k0) (fun _ z=>z);obtain⟨ZF2,ZEU,hL⟩:=bS hL;rcases ZF2 with⟨ZPH,ZPG,ZBF,Zwq⟩|e273
  ·skip;replace hL:=Yv hL;dsimp only at hL;refine V3 (Yi.clo (first:=[]) (cap:=[(GY b86),(GY b84),(GY b89)]) lk Zgs lks rfl) hS (.c k1 (.c k8 (.c k7 (.c k6 (.c k3 (.c k2 (.c k1 (.c k4 (.c k3 (.c k0 (.c k0 .n))))))))))) (fun g' hz hf hO=>PQ.ok (ZtO _ _ _ ZEU Zf Ze (hS.V6 hz) hO)) ?_;rintro _ ZRn _ ⟨rfl,rfl⟩ hS;refine r1 ?_;exact Z6.Yc<|Z6.Zvn rfl Zk rfl ⟨_,hL,⟨rfl,hS.only (.c k0 (.c k0 (.c k0 (.c k3 (.c k3 (.c k4 (.c k4 .n)))))))⟩⟩
  ·skip;replace hL:=Z9 hL;refine WO.WI gN (Yi.clo (first:=[]) (cap:=[(GY b86),(GY b84),(GY b89)]) lk Zgs lks rfl) hS (.c k1 (.c k8 (.c k7 (.c k6 (.c k3 (.c k2 (.c k1 (.c k4 (.c k3 (.c k0 (.c k0 .n))))))))))) (fun g' hz hf hO=>ZtO _ _ _ ZEU Zf Ze (hS.V6 hz) hO) ?_;rintro ZVF hS;refine Z6.KI<|Y7.ZGI<|YG.panic<|ZP.panic<|Z6.KI<|Y7.Zke hS k0 ?_;rintro ZVE hS;refine Y7.Yd ?_;have hr:=Oi0 hL;subst hr;exact⟨rfl,hT▸hS.only .n⟩
end
section
def Zsl:Unit->O (PR Unit):=fun _=>
 some (.ok ())
def ZjP(Ws:(Part->O (PR Z)))(x51:(U Part)):Int->(Int->O (PR Z))->O (PR Z):=fun v60 Zxc=>
 (bif decide (v60<(x51.length:Int)) then(Yf x51 v60).bind fun x63=>(Ws x63).bind fun y67=>JR y67 (fun e68=>some (.Yd e68)) (fun v72=>(bif(!v72) then some (.ok false) else Zxc (Xa (v60+1)))) else some (.ok true))
def KF(F:Nat)(v40:Part)(Ws:(Part->O (PR Z))):Unit->O (PR Z):=fun _=>
 (bif(!true) then some (.ok false) else(ZdS F v40).bind fun x51=>loop F (ZjP Ws x51) 0)
def Zea(F:Nat):Part->(Part->O (PR Z))->O (PR Z):=fun v40 Ws=>
 ZlE v40 (fun v75=>(bif(true&&(v75.op==4)) then(ZdF F v75.defs).bind fun x89=>JR x89 (fun e91=>some (.Yd e91)) (fun y90=>(KF F v40 Ws) ()) else(KF F v40 Ws) ())) (fun v76=>(bif(false&&(0==4)) then(ZdF F []).bind fun ZGe=>JR ZGe (fun e108=>some (.Yd e108)) (fun ZPw=>(KF F v40 Ws) ()) else(KF F v40 Ws) ())) (fun v77=>(bif(false&&(0==4)) then(ZdF F []).bind fun ZkN=>JR ZkN (fun e125=>some (.Yd e125)) (fun ZPv=>(KF F v40 Ws) ()) else(KF F v40 Ws) ()))
def ZjN(F:Nat)(p0:Part):Int->O (PR Unit):=fun v13=>
 (ZDb F p0).bind fun x15=>(JH (decide (x15<=12))).bind fun x16=>JR x16 (fun e18=>some (.Yd 2)) (fun y17=>(loop F (Zea F) p0).bind fun ZF6=>JR ZF6 (fun ZNW=>some (.Yd ZNW)) (fun ZPK=>(Zsl) ()))
def ZjO(Zh2:(Part×Int->O (PR (Z×Int))))(Zmy:(U Part)):Int×Int->(Int×Int->O (PR (Z×Int)))->O (PR (Z×Int)):=fun(Zga,Zwt) Ztx=>
 (bif decide (Zga<(Zmy.length:Int)) then(Yf Zmy Zga).bind fun ZBB=>(Zh2 (ZBB,Zwt)).bind fun ZF5=>JR ZF5 (fun ZIX=>some (.Yd ZIX)) (fun(Zok,v193)=>(bif(!Zok) then some (.ok (false,v193)) else Ztx (Xa (Zga+1),v193))) else some (.ok (true,Zwt)))
def Zcj(F:Nat):Part×Int->(Part×Int->O (PR (Z×Int)))->O (PR (Z×Int)):=fun(v148,Zgb) Zh2=>
 (JH (decide ((Xa (Zgb+1))<=60))).bind fun x159=>JR x159 (fun ZRT=>some (.Yd 2)) (fun y160=>(Zp8 F v148).bind fun ZGc=>JR ZGc (fun e166=>some (.Yd e166)) (fun ZPu=>(bif(!true) then some (.ok (false,Xa (Zgb+1))) else(ZdS F v148).bind fun Zmy=>loop F (ZjO Zh2 Zmy) (0,Xa (Zgb+1)))))
def ZzJ(F:Nat)(p0:Part):O (PR Unit):=
 (loop F (Zcj F) (p0,0)).bind fun ZF4=>JR ZF4 (fun e199=>some (.Yd e199)) (fun(v203,ZmB)=>(ZjN F p0) ZmB)
end
section
open Go.ZY Go.Lf
def ZzI{F wm h}{p0:Part}{Jt:PtP}{r}(Zv:wm<=h.size)(Ze2:Ye.F wm h Jt p0)(hL:ZzJ F p0=some r):
 WF XX 61 #[ifV Jt p0] wm h (PQ 147 (fun(r:Unit) v (Gb:U (Ast wm))=>v=.tuple #[]/\Gb=[]) [] h r):=by
 refine WF.QJ (args:=[_]) (fn:=Tryz.f61) Kq0 (by exact rfl) Tryz.ntmps61 (by simp) ?_;simp only[ZE,ZJ,Nat.reduceAdd];obtain⟨T,hT,hS⟩:∃T,T=Ji (wm:=wm) []/\Sp wm T h [] h:=⟨_,rfl,Sp.start Zv Yb.nil⟩
 unfold ZzJ at hL;refine WC.seq<|WC.region<|V4 (KP hS Zs4 (vs:=[GX 0]) rfl) ?_;rintro _ h2 ⟨b1,eb1,rfl,hS⟩;refine WO.hu gN (Uy hS k0 Ziy (Zm fh rfl) (UA rfl) (vs:=[GX 0]) rfl rfl rfl rfl (cs':=[GX 0]) rfl) ?_;rintro h3 hS;refine WO.nil<|ZP.Yc<|WC.seq<|WC.seq<|WC.region<|V2 (Ym (Zm (Zg rfl fh) Yt))<|WO.ZGV gN rfl (Yi.fn ZFu (Zb (Zm fh Yt) Zd)) (WF.QJ (args:=[_]) (fn:=Tryz.f57) Kq0 (by exact rfl) Tryz.ntmps57 (by simp) ?_);simp only[ZE,ZJ,Nat.reduceAdd];refine WC.seq<|WC.region<|V4 (ZlB hS (Zm fh Yt) (vs:=[ifV Jt p0]) ZlW) ?_;rintro _ h5 ⟨b4,eb4,rfl,hS⟩;refine V2 (Yy (UA rfl))<|WO.nil<|ZP.Yc<|WC.seq<|WC.region<|V2 (Zag (Zb (Zm (Zg rfl fh) rfl) Zd))<|V2 (Yy (Zm fh rfl))<|WO.nil<|ZP.Yc<|WC.ret<|Z6.Zvn rfl (Zn (Zm fh rfl) Zk) rfl<|WO.nil<|ZP.Yc<|WC.block<|WC.Zrr (first:=[]) (cap:=[(GY b4)]) hS (Zm fh rfl) ZyL ?_;intro h6 l7 df8 LO9 Zl1 hS;refine WF.ZxK (r:=r) (fun(v13:Int)(v:N)(h11:H)=>v=.tuple #[]/\Sp wm T h [bx wm b1 [GX v13],bx wm b4 [ifV Jt p0],ob wm l7 LO9,ob wm df8 .deferred] h11) (ZjN F p0) ?_ (WF.QJ (args:=[_,_]) (fn:=Tryz.f100) Kq0 (by exact rfl) Tryz.ntmps100 (by simp) ?_)
 ·rintro v13 v h11 hL ⟨rfl,hS⟩;refine RgS.sp Zl1 hS k2 ?_;rintro h14 hS;refine YG.Yc<|ZP.Yc<|WC.seq<|WC.region<|V2 (Ym (Zm (Ya rfl (Zg rfl fh)) Yt)) ?_;obtain⟨x15,Zje,hL⟩:=bS hL;refine WO.cp gN rfl (Yi.fn ZFt (Zb (Zm fh Yt) Zd)) (ZIy (Jt:=Jt) (Ye.up hS.hw (Ye.mono hS.fz Ze2)) Zje)<|V2 (Xo (Zm fh rfl) (UA rfl) ZkA) ?_;obtain⟨x16,hx16,hL⟩:=bS hL;rcases x16 with y17|e18
  ·skip;replace hL:=Yv hL;refine V3 (Yi.fn Y3 (Zb (Zm fh rfl) Zd)) hS .n (fun g' hz hf hO=>(PQ.ok (YH (hS.V6 hz) hx16))) ?_;rintro _ h19 _ ⟨rfl,rfl⟩ hS;refine WO.nil<|ZP.Yc<|WC.seq<|WC.region<|V2 (Ym (Zm (YA rfl (Ya rfl (Zg rfl fh))) Yt))<|WO.ZGV gN rfl (Yi.fn ZFu (Zb (Zm fh Yt) Zd)) (WF.QJ (args:=[_]) (fn:=Tryz.f57) Kq0 (by exact rfl) Tryz.ntmps57 (by simp) ?_);simp only[ZE,ZJ,Nat.reduceAdd];refine WC.seq<|WC.region<|V4 (ZlB hS (Zm fh Yt) (vs:=[ifV Jt p0]) ZlW) ?_;rintro _ h22 ⟨b21,ZNQ,rfl,hS⟩;refine V2 (Yy (UA rfl))<|WO.nil<|ZP.Yc<|WC.seq<|WC.region<|V2 (Zag (Zb (Zm (Zg rfl fh) rfl) Zd))<|V2 (Yy (Zm fh rfl))<|WO.nil<|ZP.Yc<|WC.ret<|Z6.Zvn rfl (Zn (Zm fh rfl) Zk) rfl<|WO.nil<|ZP.Yc<|WC.block<|WC.Zrr (first:=[]) (cap:=[(GY b21)]) hS (Zm fh rfl) ZyL ?_;intro h23 l24 ZRY ZqX Zjm hS;refine WF.ZxK (r:=r) (fun(_:Unit)(v:N)(h28:H)=>v=.tuple #[]/\Sp wm T h [bx wm b1 [GX v13],bx wm b4 [ifV Jt p0],bx wm b21 [ifV Jt p0],ob wm l24 ZqX,ob wm ZRY .deferred,ob wm df8 .deferred] h28) (Zsl) ?_ (WF.QJ (args:=[_,_]) (fn:=Tryz.f100) Kq0 (by exact rfl) Tryz.ntmps100 (by simp) ?_)
   ·rintro _ v h28 hL ⟨rfl,hS⟩;refine RgS.sp Zjm hS k3 ?_;rintro h30 hS;refine YG.Yc<|Z6.Yc<|Z6.Zke hS k3 ?_;rintro h31 hS;refine Z6.Zke hS k3 ?_;rintro h32 hS;have hr:=Oi0 hL;subst hr;exact Z6.Ww rfl Zk rfl ⟨_,⟨rfl,rfl⟩,hT▸hS.only .n⟩
   ·skip;simp only[ZE,ZJ,Nat.reduceAdd];refine WC.seq<|WC.region<|V4 (ZlB hS (Zm (Zg rfl fh) rfl) (vs:=[.func (.yield l24) #[] #[]]) rfl) ?_;rintro _ h34 ⟨b33,ZRI,rfl,hS⟩;refine WO.nil<|ZP.Yc<|WC.seq<|WC.region<|V4 (KP hS Zmx (vs:=[.nilFunc]) rfl) ?_;rintro _ h36 ⟨b35,ZRH,rfl,hS⟩;refine WO.nil<|ZP.Yc<|WC.seq<|WC.region<|V2 (Zag (Zb (Zm (Zg rfl fh) rfl) (Zb (Zm fh rfl) Zd)))<|WO.hu gN (Uy hS k0 ZmN (Zm (Zg rfl fh) rfl) (Zm fh rfl) (vs:=[.func (.func 101) #[] #[(GY b33),(GY b35)]]) rfl rfl rfl rfl (cs':=[.func (.func 101) #[] #[(GY b33),(GY b35)]]) rfl) ?_;rintro h37 hS;refine WO.nil<|ZP.Yc<|WC.region<|V2 (ZU Zew (Zm (Zg rfl fh) rfl) (hS.UL k0) (j:=0) rfl (v:=.func (.func 101) #[] #[(GY b33),(GY b35)]) rfl)<|V2 (ZU Zha (Zm (YA rfl fh) rfl) (hS.UL k4) (j:=0) rfl (v:=ifV Jt p0) rfl) ?_;have hS:=hS.add (A:=YW wm Ye Jt p0) (Ye.mono hS.fz Ze2) (fun _ z=>z)
    have Zx2:∀(Fr:Nat)(v40:Part)(r:(PR Z)),loop Fr (Zea F) v40=some r->∀{h:H}(q41:PtP),wm<=h.size->Yb (wm:=wm) [YW wm Ye q41 v40,bx wm b1 [GX v13],bx wm b4 [ifV Jt p0],bx wm b21 [ifV Jt p0],bx wm b33 [.func (.yield l24) #[] #[]],bx wm b35 [.func (.func 101) #[] #[(GY b33),(GY b35)]],YW wm Ye Jt p0,ob wm l24 ZqX] h->WF XX 101 #[ifV q41 v40,(GY b33),(GY b35)] wm h (PQ 147 (fun(v46:Z) v (Gb:U (Ast wm))=>v=.bool v46/\Gb=[bx wm b1 [GX v13],bx wm b4 [ifV Jt p0],bx wm b21 [ifV Jt p0],bx wm b33 [.func (.yield l24) #[] #[]],bx wm b35 [.func (.func 101) #[] #[(GY b33),(GY b35)]],YW wm Ye Jt p0,ob wm l24 ZqX]) [YW wm Ye q41 v40,bx wm b1 [GX v13],bx wm b4 [ifV Jt p0],bx wm b21 [ifV Jt p0],bx wm b33 [.func (.yield l24) #[] #[]],bx wm b35 [.func (.func 101) #[] #[(GY b33),(GY b35)]],YW wm Ye Jt p0,ob wm l24 ZqX] h r):=by
     refine Xd _ ?_;rintro Ws ZtP v40 r hL h q41 Zv hO;obtain⟨T,hT,hS⟩:∃T,T=Ji (wm:=wm) [YW wm Ye q41 v40,bx wm b1 [GX v13],bx wm b4 [ifV Jt p0],bx wm b21 [ifV Jt p0],bx wm b33 [.func (.yield l24) #[] #[]],bx wm b35 [.func (.func 101) #[] #[(GY b33),(GY b35)]],YW wm Ye Jt p0,ob wm l24 ZqX]/\Sp wm T h [YW wm Ye q41 v40,bx wm b1 [GX v13],bx wm b4 [ifV Jt p0],bx wm b21 [ifV Jt p0],bx wm b33 [.func (.yield l24) #[] #[]],bx wm b35 [.func (.func 101) #[] #[(GY b33),(GY b35)]],YW wm Ye Jt p0,ob wm l24 ZqX] h:=⟨_,rfl,Sp.start Zv hO⟩
     refine WF.QJ (args:=[_,_,_]) (fn:=Tryz.f101) Kq0 (by exact rfl) Tryz.ntmps101 (by simp) ?_;simp only[ZE,ZJ,Nat.reduceAdd];refine WC.seq<|WC.region<|V2 (Yy (UA rfl))<|WO.nil<|ZP.Yc<|WC.seq<|WC.seq<|WC.region<|V2 (ZU Zew (Zm (Ya rfl fh) rfl) (hS.UL k4) (j:=0) rfl (v:=.func (.yield l24) #[] #[]) rfl)<|V2 (Ym (Zm (YA rfl fh) Yt))<|WO.ZF0 gN rfl (Zm (Zg rfl fh) rfl) (Zb (Zm fh Yt) Zd) hS k7 Zjm rfl rfl<|WC.region<|V2 (Yy (Zm fh Yt))<|WO.nil<|AsZ.sp Zjm hS k7 ?_;rintro h47 hS;refine WC.jnP (r:=r) (fun(_:Unit)(s:Fs)=>∃Znn h48,s=⟨Znn,[],h48,none⟩/\Sp wm T h [bx wm b1 [GX v13],bx wm b4 [ifV Jt p0],bx wm b21 [ifV Jt p0],bx wm b33 [.func (.yield l24) #[] #[]],bx wm b35 [.func (.func 101) #[] #[(GY b33),(GY b35)]],YW wm Ye Jt p0,YW wm Ye q41 v40,ob wm l24 (bsy ZqX)] h48) (KF F v40 Ws) ?_ ?_
     ·rintro _ s hL ⟨Znn,h48,rfl,hS⟩;refine BdZ.sp Zjm hS k7 ?_;rintro h50 hS;refine V2 (Zaf (Zm fh rfl))<|WO.nil<|ZP.Yc<|WC.U9 (Zm fh rfl) (fun hc=>?_) (fun hc=>?_)
      ·replace hL:=XI hc hL;refine WC.seq<|WC.region<|V2 (Yy (UA rfl))<|WO.nil<|ZP.Yc<|WC.ret<|ZP.ret ?_;have hr:=Oi0 hL;subst hr;exact Z6.Ww rfl (Zn (Zm fh rfl) Zk) rfl ⟨_,⟨rfl,rfl⟩,hT▸hS.only (.c k1 (.c k1 (.c k1 (.c k1 (.c k1 (.c k1 (.c k0 .n)))))))⟩
      ·replace hL:=XJ hc hL;refine WC.skip<|ZP.Yc<|WC.seq<|WC.seq<|WC.region<|V2 (Ym (Zm (YA rfl (Ya rfl (Zg rfl fh))) Yt)) ?_;obtain⟨x51,ZQz,hL⟩:=bS hL;refine WO.Zgp gN rfl (Zm fh Yt) hS (hS.get k7) ZQz ?_;rintro h54 a52 c53 hS;refine V2 (ZfR K5 (Zm fh rfl) rfl)<|V2 (Ym (UA rfl))<|WO.nil<|ZP.Yc<|WC.block<|WC.loop (WL.lift hL (fun v60 s=>∃Zvq h55,s=⟨Zvq,[],h55,none⟩/\Sp wm T h [bx wm b35 [.func (.func 101) #[] #[(GY b33),(GY b35)]],bx wm b33 [.func (.yield l24) #[] #[]],bx wm b1 [GX v13],bx wm b4 [ifV Jt p0],bx wm b21 [ifV Jt p0],ow wm Ye a52 x51.length c53 x51,YW wm Ye Jt p0,ob wm l24 ZqX] h55/\Zvq.at 2=(GY b35)/\Zvq.at 12=.slice a52 x51.length c53/\Zvq.at 13= GX (x51.length:Int)/\Zvq.at 14= GX v60) ⟨_,_,rfl,hS.only (.c k6 (.c k5 (.c k2 (.c k2 (.c k2 (.c k0 (.c k1 (.c k0 .n)))))))),(YM rfl (Zg rfl fh)),(Ya rfl fh),(Zg rfl fh),fh⟩ ?_);rintro Zxc v60 s ZCq hL ⟨Zvq,h55,rfl,hS,e57,e58,e59,e61⟩;refine WC.seq<|WC.region<|V2 (Xo (Zm e61 rfl) (Zm e59 rfl) ZfX)<|WO.nil<|ZP.Yc<|WC.seq<|WC.U9 (Zm fh rfl) (fun hc=>?_) (fun hc=>?_)
       ·replace hL:=XI hc hL;refine WC.skip<|ZP.Yc<|WC.seq<|WC.block<|WC.seq<|WC.region ?_;obtain⟨x63,ZxN,hL⟩:=bS hL;obtain⟨b64,o65,q66,ZyN,Zy1,ZyU⟩:=Src.at_ (hS.QF k5) ZxN;refine V2 (ZF K5 KO (Zm (Zg rfl e58) rfl) (Zm (Zg rfl e61) rfl) rfl ZyN ZxN) ?_;have hS:=hS.add (A:=YW wm Ye q66 x63) ZyU (fun _ z=>z);refine V2 (ZU Zha (Zm fh rfl) Zy1 (j:=0) rfl (v:=ifV q66 x63) rfl)<|V2 (Yy (Zm fh Yt))<|WO.nil<|ZP.Yc<|WC.seq<|WC.region<|V2 (ZU Zew (Zm (YA rfl e57) rfl) (hS.UL k1) (j:=0) rfl (v:=.func (.func 101) #[] #[(GY b33),(GY b35)]) rfl)<|V2 (Ym (Zm (Zg rfl fh) Yt)) ?_;obtain⟨y67,Zvi,hL⟩:=bS hL;rcases y67 with v72|e68
        ·skip;replace hL:=Yv hL;refine V3 (Yi.clo (first:=[]) (cap:=[(GY b33),(GY b35)]) (Zm (Zg rfl fh) rfl) Zb8 (Zb (Zm fh Yt) Zd) rfl) hS (.c k0 (.c k2 (.c k2 (.c k2 (.c k1 (.c k0 (.c k1 (.c k1 .n)))))))) (fun g' hz hf hO=>PQ.ok (ZtP _ _ Zvi q66 (hS.V6 hz) hO)) ?_;rintro _ h73 _ ⟨rfl,rfl⟩ hS;refine V2 (Zaf (Zm fh rfl))<|WO.nil<|ZP.Yc<|WC.U9 (Zm fh rfl) (fun hc=>?_) (fun hc=>?_)
         ·replace hL:=XI hc hL;refine WC.seq<|WC.region<|V2 (Yy (UA rfl))<|WO.nil<|ZP.Yc<|WC.ret<|YG.ret<|ZP.ret<|ZO.ret<|YG.ret<|ZP.ret ?_;have hr:=Oi0 hL;subst hr;exact Z6.Ww rfl (Zn (Zm fh rfl) Zk) rfl ⟨_,⟨rfl,rfl⟩,hT▸hS.only (.c k0 (.c k0 (.c k0 (.c k0 (.c k0 (.c k0 (.c k0 .n)))))))⟩
         ·replace hL:=XJ hc hL;exact WC.skip<|YG.Yc<|ZP.Yc<|WC.region<|V2 (Xo (Zm (YM rfl e61) rfl) (UA rfl) Km)<|V2 (Ym (Zm fh rfl))<|WO.nil<|ZO.Yc (ZCq _ _ hL ⟨_,_,rfl,hS.only (.c k4 (.c k3 (.c k0 (.c k0 (.c k0 (.c k2 (.c k0 (.c k0 .n)))))))),(YM rfl (Ya rfl e57)),(YM rfl (Ya rfl e58)),(YM rfl (Ya rfl e59)),fh⟩)
        ·skip;replace hL:=Z9 hL;refine WO.WI gN (Yi.clo (first:=[]) (cap:=[(GY b33),(GY b35)]) (Zm (Zg rfl fh) rfl) Zb8 (Zb (Zm fh Yt) Zd) rfl) hS (.c k0 (.c k2 (.c k2 (.c k2 (.c k1 (.c k0 (.c k1 (.c k1 .n)))))))) (fun g' hz hf hO=>ZtP _ _ Zvi q66 (hS.V6 hz) hO) ?_;rintro h74 hS;refine ZP.panic<|YG.panic<|ZP.panic<|ZO.panic<|YG.panic<|ZP.panic<|Z6.KI ?_;have hr:=Oi0 hL;subst hr;exact Y7.Yd ⟨rfl,hT▸hS.only .n⟩
       ·replace hL:=XJ hc hL;refine WC.exit<|ZP.exit<|ZO.exit<|YG.here<|ZP.Yc<|WC.seq<|WC.region<|V2 (Yy (UA rfl))<|WO.nil<|ZP.Yc<|WC.ret ?_;have hr:=Oi0 hL;subst hr;exact Z6.Ww rfl (Zn (Zm fh rfl) Zk) rfl ⟨_,⟨rfl,rfl⟩,hT▸hS.only (.c k2 (.c k2 (.c k2 (.c k1 (.c k0 (.c k1 (.c k1 .n)))))))⟩
     ·skip;refine WC.block<|WC.seq<|WC.region<|V2 (Ym (Zm fh Yt)) ?_;rcases v40 with v75|v76|v77
      ·replace hL:=ZiL hL;obtain⟨⟨⟨a78,c79⟩,⟨a80,c81⟩,⟨a82,c83⟩⟩,⟨a84,c85⟩⟩:=q41;have hS:=hS.add (A:=YW wm (Y8 Zj) (a78,c79) v75.args) (ZeP (hS.get k1)).1 (fun _ z=>z);have hS:=hS.add (A:=YW wm (Y8 Zc) (a80,c81) v75.defs) (ZeP (hS.get k2)).2.1 (fun _ z=>z);have hS:=hS.add (A:=YW wm (Y8 ZB) (a82,c83) v75.kids) (ZeP (hS.get k3)).2.2 (fun _ z=>z);refine V2 (Zkn Tryz.underlying78 rfl (Zm fh rfl))<|V2 (Ym (Zm fh rfl))<|V2 (Xk (Zm fh rfl) (v:=.agg #[GX v75.op,.string v75.text,.slice a78 v75.args.length c79,.slice a80 v75.defs.length c81,.slice a82 v75.kids.length c83]) rfl)<|V2 (Xk (Zm (Zg rfl fh) rfl) (v:=.bool true) rfl)<|V4 (KP hS ZaI (vs:=[GX 0,.string (⟨#[]⟩:Y),GW,GW,GW]) rfl) ?_;rintro _ h87 ⟨b86,ZRD,rfl,hS⟩;refine WO.hu gN (Uy hS k0 ZmL (Zm fh rfl) (Zm (Ya rfl fh) rfl) (vs:=[GX v75.op,.string v75.text,.slice a78 v75.args.length c79,.slice a80 v75.defs.length c81,.slice a82 v75.kids.length c83]) rfl rfl rfl rfl (cs':=[GX v75.op,.string v75.text,.slice a78 v75.args.length c79,.slice a80 v75.defs.length c81,.slice a82 v75.kids.length c83]) rfl) ?_;rintro h88 hS;refine V2 (Yy (Zm (Zg rfl fh) rfl))<|WO.nil<|ZP.Yc<|WC.seq<|WC.region<|V2 (Ym (Zm fh rfl))<|V2 (Ym (Zm fh rfl))<|WO.gv (Zh.yes rfl rfl rfl fh) rfl (fun hg=>(YT KT (Zm (Ya rfl (Zg rfl fh)) rfl)))<|WO.gv (Zh.yes rfl rfl rfl (Zg rfl fh)) rfl (fun hg=>(YT Zh7 (X0 fh rfl hg)))<|WO.gv (Zh.yes rfl rfl rfl (Ya rfl fh)) rfl (fun hg=>(ZU Zut (X0 fh rfl hg) (hS.UL k0) (j:=0) rfl (v:= GX v75.op) rfl))<|WO.gv (Zh.yes rfl rfl rfl (Ya rfl (Zg rfl fh))) rfl (fun hg=>(Xo (X0 fh rfl hg) (UA rfl) ZfY))<|V2 (Za6 (Zm (YA rfl fh) rfl) (Zz7 fh) (UA rfl))<|WO.nil<|ZP.Yc<|WC.U9 (Zm fh rfl) (fun hc=>?_) (fun hc=>?_)
       ·replace hL:=XI hc hL;refine WC.region<|V2 (YT KT (Zm (YM rfl fh) rfl))<|V2 (YT Zh6 (Zm fh rfl))<|V2 (ZU Zcu (Zm fh rfl) (hS.UL k0) (j:=3) rfl (v:=.slice a80 v75.defs.length c81) rfl) ?_;obtain⟨x89,ZKV,hL⟩:=bS hL;rcases x89 with y90|e91
        ·skip;replace hL:=Yv hL;refine V3 (Yi.fn Zgt (Zb (Zm fh rfl) Zd)) hS .n (fun g' hz hf hO=>(PQ.ok (Zc7 (hS.V6 hz) ((hS.fsl k2).mono hf) ZKV))) ?_;rintro _ h92 _ ⟨rfl,rfl⟩ hS;exact WO.nil<|YG.Yc<|JnP.Yc _ hL ⟨_,_,rfl,hS.only (.c k6 (.c k6 (.c k6 (.c k6 (.c k6 (.c k6 (.c k5 (.c k4 .n))))))))⟩
        ·skip;replace hL:=Z9 hL;refine WO.WI gN (Yi.fn Zgt (Zb (Zm fh rfl) Zd)) hS .n (fun g' hz hf hO=>Zc7 (hS.V6 hz) ((hS.fsl k2).mono hf) ZKV) ?_;rintro h94 hS;refine YG.panic<|JnP.pass (by intro e;cases e)<|BdZ.Yd Zjm hS k4<|ZP.panic<|ZP.panic<|Z6.KI ?_;have hr:=Oi0 hL;subst hr;exact Y7.Yd ⟨rfl,hT▸hS.only .n⟩
       ·replace hL:=XJ hc hL;exact WC.skip<|YG.Yc<|JnP.Yc _ hL ⟨_,_,rfl,hS.only (.c k6 (.c k6 (.c k6 (.c k6 (.c k6 (.c k6 (.c k5 (.c k4 .n))))))))⟩
      ·replace hL:=ZiM hL;obtain⟨⟨⟨a95,c96⟩,⟨a97,c98⟩,⟨a99,ZAp⟩⟩,⟨ZSt,ZJe⟩⟩:=q41;have hS:=hS.add (A:=YW wm (Y8 Zj) (ZSt,ZJe) v76.kids) (ZmU (hS.get k1)) (fun _ z=>z);refine V2 (Zko Tryz.underlying78 rfl ZaI Kq0 (Zm fh rfl))<|V2 (Ym (Zm fh rfl))<|V2 (Xk (Zm fh rfl) (v:=.agg #[GX 0,.string (⟨#[]⟩:Y),GW,GW,GW]) rfl)<|V2 (Xk (Zm (Zg rfl fh) rfl) (v:=.bool false) rfl)<|V4 (KP hS ZaI (vs:=[GX 0,.string (⟨#[]⟩:Y),GW,GW,GW]) rfl) ?_;rintro _ ZWH ⟨ZYl,ZTN,rfl,hS⟩;refine WO.hu gN (Uy hS k0 ZmL (Zm fh rfl) (Zm (Ya rfl fh) rfl) (vs:=[GX 0,.string (⟨#[]⟩:Y),GW,GW,GW]) rfl rfl rfl rfl (cs':=[GX 0,.string (⟨#[]⟩:Y),GW,GW,GW]) rfl) ?_;rintro ZWG hS;refine V2 (Yy (Zm (Zg rfl fh) rfl))<|WO.nil<|ZP.Yc<|WC.seq<|WC.region<|V2 (Ym (Zm fh rfl))<|V2 (Ym (Zm fh rfl))<|WO.gv (Zh.yes rfl rfl rfl fh) rfl (fun hg=>(YT KT (Zm (Ya rfl (Zg rfl fh)) rfl)))<|WO.gv (Zh.yes rfl rfl rfl (Zg rfl fh)) rfl (fun hg=>(YT Zh7 (X0 fh rfl hg)))<|WO.gv (Zh.yes rfl rfl rfl (Ya rfl fh)) rfl (fun hg=>(ZU Zut (X0 fh rfl hg) (hS.UL k0) (j:=0) rfl (v:= GX 0) rfl))<|WO.gv (Zh.yes rfl rfl rfl (Ya rfl (Zg rfl fh))) rfl (fun hg=>(Xo (X0 fh rfl hg) (UA rfl) ZfY))<|V2 (Za6 (Zm (YA rfl fh) rfl) (Zz7 fh) (UA rfl))<|WO.nil<|ZP.Yc<|WC.U9 (Zm fh rfl) (fun hc=>?_) (fun hc=>?_)
       ·replace hL:=XI hc hL;refine WC.region<|V2 (YT KT (Zm (YM rfl fh) rfl))<|V2 (YT Zh6 (Zm fh rfl))<|V2 (ZU Zcu (Zm fh rfl) (hS.UL k0) (j:=3) rfl (v:= GW) rfl) ?_;obtain⟨ZGe,ZFa,hL⟩:=bS hL;rcases ZGe with ZPw|e108
        ·skip;replace hL:=Yv hL;refine V3 (Yi.fn Zgt (Zb (Zm fh rfl) Zd)) hS .n (fun g' hz hf hO=>(PQ.ok (Zc7 (hS.V6 hz) Sl.nil ZFa))) ?_;rintro _ ZWD _ ⟨rfl,rfl⟩ hS;exact WO.nil<|YG.Yc<|JnP.Yc _ hL ⟨_,_,rfl,hS.only (.c k4 (.c k4 (.c k4 (.c k4 (.c k4 (.c k4 (.c k3 (.c k2 .n))))))))⟩
        ·skip;replace hL:=Z9 hL;refine WO.WI gN (Yi.fn Zgt (Zb (Zm fh rfl) Zd)) hS .n (fun g' hz hf hO=>Zc7 (hS.V6 hz) Sl.nil ZFa) ?_;rintro ZRt hS;refine YG.panic<|JnP.pass (by intro e;cases e)<|BdZ.Yd Zjm hS k2<|ZP.panic<|ZP.panic<|Z6.KI ?_;have hr:=Oi0 hL;subst hr;exact Y7.Yd ⟨rfl,hT▸hS.only .n⟩
       ·replace hL:=XJ hc hL;exact WC.skip<|YG.Yc<|JnP.Yc _ hL ⟨_,_,rfl,hS.only (.c k4 (.c k4 (.c k4 (.c k4 (.c k4 (.c k4 (.c k3 (.c k2 .n))))))))⟩
      ·replace hL:=ZiN hL;obtain⟨⟨⟨ZqR,Zll⟩,⟨ZsX,ZsD⟩,⟨a116,c117⟩⟩,⟨ZYp,c119⟩⟩:=q41;have hS:=hS.add (A:=YW wm (Y8 ZL) (ZqR,Zll) v77.joins) (ZeQ (hS.get k1)).1 (fun _ z=>z);have hS:=hS.add (A:=YW wm (Y8 Zc) (ZsX,ZsD) v77.defs) (ZeQ (hS.get k2)).2.1 (fun _ z=>z);have hS:=hS.add (A:=YW wm (Y8 ZB) (a116,c117) v77.kids) (ZeQ (hS.get k3)).2.2 (fun _ z=>z);refine V2 (Zko Tryz.underlying78 rfl ZaI Kq0 (Zm fh rfl))<|V2 (Ym (Zm fh rfl))<|V2 (Xk (Zm fh rfl) (v:=.agg #[GX 0,.string (⟨#[]⟩:Y),GW,GW,GW]) rfl)<|V2 (Xk (Zm (Zg rfl fh) rfl) (v:=.bool false) rfl)<|V4 (KP hS ZaI (vs:=[GX 0,.string (⟨#[]⟩:Y),GW,GW,GW]) rfl) ?_;rintro _ ZWx ⟨ZYh,ZTJ,rfl,hS⟩;refine WO.hu gN (Uy hS k0 ZmL (Zm fh rfl) (Zm (Ya rfl fh) rfl) (vs:=[GX 0,.string (⟨#[]⟩:Y),GW,GW,GW]) rfl rfl rfl rfl (cs':=[GX 0,.string (⟨#[]⟩:Y),GW,GW,GW]) rfl) ?_;rintro h122 hS;refine V2 (Yy (Zm (Zg rfl fh) rfl))<|WO.nil<|ZP.Yc<|WC.seq<|WC.region<|V2 (Ym (Zm fh rfl))<|V2 (Ym (Zm fh rfl))<|WO.gv (Zh.yes rfl rfl rfl fh) rfl (fun hg=>(YT KT (Zm (Ya rfl (Zg rfl fh)) rfl)))<|WO.gv (Zh.yes rfl rfl rfl (Zg rfl fh)) rfl (fun hg=>(YT Zh7 (X0 fh rfl hg)))<|WO.gv (Zh.yes rfl rfl rfl (Ya rfl fh)) rfl (fun hg=>(ZU Zut (X0 fh rfl hg) (hS.UL k0) (j:=0) rfl (v:= GX 0) rfl))<|WO.gv (Zh.yes rfl rfl rfl (Ya rfl (Zg rfl fh))) rfl (fun hg=>(Xo (X0 fh rfl hg) (UA rfl) ZfY))<|V2 (Za6 (Zm (YA rfl fh) rfl) (Zz7 fh) (UA rfl))<|WO.nil<|ZP.Yc<|WC.U9 (Zm fh rfl) (fun hc=>?_) (fun hc=>?_)
       ·replace hL:=XI hc hL;refine WC.region<|V2 (YT KT (Zm (YM rfl fh) rfl))<|V2 (YT Zh6 (Zm fh rfl))<|V2 (ZU Zcu (Zm fh rfl) (hS.UL k0) (j:=3) rfl (v:= GW) rfl) ?_;obtain⟨ZkN,Zo7,hL⟩:=bS hL;rcases ZkN with ZPv|e125
        ·skip;replace hL:=Yv hL;refine V3 (Yi.fn Zgt (Zb (Zm fh rfl) Zd)) hS .n (fun g' hz hf hO=>(PQ.ok (Zc7 (hS.V6 hz) Sl.nil Zo7))) ?_;rintro _ ZWu _ ⟨rfl,rfl⟩ hS;exact WO.nil<|YG.Yc<|JnP.Yc _ hL ⟨_,_,rfl,hS.only (.c k6 (.c k6 (.c k6 (.c k6 (.c k6 (.c k6 (.c k5 (.c k4 .n))))))))⟩
        ·skip;replace hL:=Z9 hL;refine WO.WI gN (Yi.fn Zgt (Zb (Zm fh rfl) Zd)) hS .n (fun g' hz hf hO=>Zc7 (hS.V6 hz) Sl.nil Zo7) ?_;rintro h128 hS;refine YG.panic<|JnP.pass (by intro e;cases e)<|BdZ.Yd Zjm hS k4<|ZP.panic<|ZP.panic<|Z6.KI ?_;have hr:=Oi0 hL;subst hr;exact Y7.Yd ⟨rfl,hT▸hS.only .n⟩
       ·replace hL:=XJ hc hL;exact WC.skip<|YG.Yc<|JnP.Yc _ hL ⟨_,_,rfl,hS.only (.c k6 (.c k6 (.c k6 (.c k6 (.c k6 (.c k6 (.c k5 (.c k4 .n))))))))⟩
    have hS:=hS.add (A:=YW wm Ye Jt p0) (hS.get k0) (fun _ z=>z);obtain⟨ZF6,ZE6,hL⟩:=bS hL;rcases ZF6 with ZPK|ZNW
    ·skip;replace hL:=Yv hL;refine V3 (Yi.clo (first:=[]) (cap:=[(GY b33),(GY b35)]) (Zm (Zg rfl fh) rfl) Zb8 (Zb (Zm fh Yt) Zd) rfl) hS (.c k1 (.c k6 (.c k6 (.c k5 (.c k2 (.c k1 (.c k0 (.c k0 .n)))))))) (fun g' hz hf hO=>PQ.ok (Zx2 _ _ _ ZE6 Jt (hS.V6 hz) hO)) ?_;rintro _ ZWt _ ⟨rfl,rfl⟩ hS;exact WO.nil<|Z6.Yc<|Z6.Zvn rfl Zk rfl ⟨_,hL,⟨rfl,hS.only (.c k0 (.c k0 (.c k0 (.c k3 (.c k3 (.c k3 .n))))))⟩⟩
    ·skip;replace hL:=Z9 hL;refine WO.WI gN (Yi.clo (first:=[]) (cap:=[(GY b33),(GY b35)]) (Zm (Zg rfl fh) rfl) Zb8 (Zb (Zm fh Yt) Zd) rfl) hS (.c k1 (.c k6 (.c k6 (.c k5 (.c k2 (.c k1 (.c k0 (.c k0 .n)))))))) (fun g' hz hf hO=>Zx2 _ _ _ ZE6 Jt (hS.V6 hz) hO) ?_;rintro ZWs hS;refine Z6.KI<|Y7.ZGI<|YG.panic<|Z6.KI<|Y7.Zke hS k0 ?_;rintro ZWr hS;refine Y7.Zke hS k0 ?_;rintro ZWq hS;refine Y7.Yd ?_;have hr:=Oi0 hL;subst hr;exact⟨rfl,hT▸hS.only .n⟩
  ·skip;replace hL:=Z9 hL;obtain rfl:=XD hx16;refine WO.WI gN (Yi.fn Y3 (Zb (Zm fh rfl) Zd)) hS .n (fun g' hz hf hO=>YH (hS.V6 hz) hx16) ?_;rintro ZCS hS;refine ZP.panic<|Z6.KI<|Y7.Zke hS k2 ?_;rintro ZWp hS;refine Y7.Yd ?_;have hr:=Oi0 hL;subst hr;exact⟨rfl,hT▸hS.only .n⟩
 ·skip;simp only[ZE,ZJ,Nat.reduceAdd];refine WC.seq<|WC.region<|V4 (ZlB hS (Zm (Zg rfl fh) rfl) (vs:=[.func (.yield l7) #[] #[]]) rfl) ?_;rintro _ ZWo ⟨Zae,ZTH,rfl,hS⟩;refine WO.nil<|ZP.Yc<|WC.seq<|WC.region<|V4 (KP hS Zmx (vs:=[.nilFunc]) rfl) ?_;rintro _ ZWn ⟨KN,ZTG,rfl,hS⟩;refine WO.nil<|ZP.Yc<|WC.seq<|WC.region<|V2 (Zag (Zb (Zm (Zg rfl fh) rfl) (Zb (Zm fh rfl) Zd)))<|WO.hu gN (Uy hS k0 ZmN (Zm (Zg rfl fh) rfl) (Zm fh rfl) (vs:=[.func (.func 101) #[] #[(GY Zae),(GY KN)]]) rfl rfl rfl rfl (cs':=[.func (.func 101) #[] #[(GY Zae),(GY KN)]]) rfl) ?_;rintro ZWm hS;refine WO.nil<|ZP.Yc<|WC.region<|V2 (ZU Zew (Zm (Zg rfl fh) rfl) (hS.UL k0) (j:=0) rfl (v:=.func (.func 101) #[] #[(GY Zae),(GY KN)]) rfl)<|V2 (ZU Zha (Zm (YA rfl fh) rfl) (hS.UL k4) (j:=0) rfl (v:=ifV Jt p0) rfl) ?_;have hS:=hS.add (A:=YW wm Ye Jt p0) (Ye.mono hS.fz Ze2) (fun _ z=>z)
  have ZtN:∀(Fr:Nat)(x:Part×Int)(r:(PR (Z×Int))),loop Fr (Zcj F) x=some r->match x with | (v148,Zgb)=>∀{h:H}(ZoF:PtP),wm<=h.size->Yb (wm:=wm) [YW wm Ye ZoF v148,bx wm b1 [GX Zgb],bx wm b4 [ifV Jt p0],bx wm Zae [.func (.yield l7) #[] #[]],bx wm KN [.func (.func 101) #[] #[(GY Zae),(GY KN)]],YW wm Ye Jt p0,ob wm l7 LO9] h->WF XX 101 #[ifV ZoF v148,(GY Zae),(GY KN)] wm h (PQ 147 (fun(r:Z×Int) v (Gb:U (Ast wm))=>match r with | (Zom,ZPJ)=>v=.bool Zom/\Gb=[bx wm b1 [GX ZPJ],bx wm b4 [ifV Jt p0],bx wm Zae [.func (.yield l7) #[] #[]],bx wm KN [.func (.func 101) #[] #[(GY Zae),(GY KN)]],YW wm Ye Jt p0,ob wm l7 LO9]) [YW wm Ye ZoF v148,bx wm b1 [GX Zgb],bx wm b4 [ifV Jt p0],bx wm Zae [.func (.yield l7) #[] #[]],bx wm KN [.func (.func 101) #[] #[(GY Zae),(GY KN)]],YW wm Ye Jt p0,ob wm l7 LO9] h r):=by
   refine Xd _ ?_;rintro Zh2 Zpe ⟨v148,Zgb⟩ r hL h ZoF Zv hO;obtain⟨T,hT,hS⟩:∃T,T=Ji (wm:=wm) [YW wm Ye ZoF v148,bx wm b1 [GX Zgb],bx wm b4 [ifV Jt p0],bx wm Zae [.func (.yield l7) #[] #[]],bx wm KN [.func (.func 101) #[] #[(GY Zae),(GY KN)]],YW wm Ye Jt p0,ob wm l7 LO9]/\Sp wm T h [YW wm Ye ZoF v148,bx wm b1 [GX Zgb],bx wm b4 [ifV Jt p0],bx wm Zae [.func (.yield l7) #[] #[]],bx wm KN [.func (.func 101) #[] #[(GY Zae),(GY KN)]],YW wm Ye Jt p0,ob wm l7 LO9] h:=⟨_,rfl,Sp.start Zv hO⟩
   refine WF.QJ (args:=[_,_,_]) (fn:=Tryz.f101) Kq0 (by exact rfl) Tryz.ntmps101 (by simp) ?_;simp only[ZE,ZJ,Nat.reduceAdd];refine WC.seq<|WC.region<|V2 (Yy (UA rfl))<|WO.nil<|ZP.Yc<|WC.seq<|WC.seq<|WC.region<|V2 (ZU Zew (Zm (Ya rfl fh) rfl) (hS.UL k3) (j:=0) rfl (v:=.func (.yield l7) #[] #[]) rfl)<|V2 (Ym (Zm (YA rfl fh) Yt))<|WO.ZF0 gN rfl (Zm (Zg rfl fh) rfl) (Zb (Zm fh Yt) Zd) hS k6 Zl1 rfl rfl<|WC.region<|V2 (Yy (Zm fh Yt))<|WO.nil<|AsZ.sp Zl1 hS k6 ?_;rintro ZWh hS;refine WC.block<|WC.seq<|WC.region<|V2 (ZU ZAO (Zm (YA rfl fh) rfl) (hS.UL k2) (j:=0) rfl (v:= GX Zgb) rfl)<|V2 (Xo (Zm fh rfl) (UA rfl) Km)<|WO.hu gN (Uy hS k2 Ziy (Zm (YA rfl (Ya rfl fh)) rfl) (Zm fh rfl) (vs:=[GX (Xa (Zgb+1))]) rfl rfl rfl rfl (cs':=[GX (Xa (Zgb+1))]) rfl) ?_;rintro ZWg hS;refine WO.nil<|ZP.Yc<|WC.seq<|WC.region<|V2 (ZU ZAO (Zm (YA rfl (Ya rfl fh)) rfl) (hS.UL k0) (j:=0) rfl (v:= GX (Xa (Zgb+1))) rfl)<|V2 (Xo (Zm fh rfl) (UA rfl) ZkA) ?_;obtain⟨x159,hx159,hL⟩:=bS hL;rcases x159 with y160|ZRT
   ·skip;replace hL:=Yv hL;refine V3 (Yi.fn Y3 (Zb (Zm fh rfl) Zd)) hS .n (fun g' hz hf hO=>(PQ.ok (YH (hS.V6 hz) hx159))) ?_;rintro _ ZWd _ ⟨rfl,rfl⟩ hS;refine WO.nil<|ZP.Yc<|WC.region<|V2 (Ym (Zm (YA rfl (Zg rfl fh)) Yt)) ?_;obtain⟨ZGc,ZE3,hL⟩:=bS hL;rcases ZGc with ZPu|e166
    ·skip;replace hL:=Yv hL;refine V3 (Yi.fn ZyJ (Zb (Zm fh Yt) Zd)) hS .n (fun g' hz hf hO=>(PQ.ok (Zud (Jt:=ZoF) (hS.V6 hz) (Ye.mono hf (hS.get k2)) ZE3))) ?_;rintro _ ZWc _ ⟨rfl,rfl⟩ hS;refine WO.nil<|YG.Yc<|BdZ.sp Zl1 hS k1 ?_;rintro ZWb hS;refine V2 (Zaf (Zm fh rfl))<|WO.nil<|ZP.Yc<|WC.U9 (Zm fh rfl) (fun hc=>?_) (fun hc=>?_)
     ·replace hL:=XI hc hL;refine WC.seq<|WC.region<|V2 (Yy (UA rfl))<|WO.nil<|ZP.Yc<|WC.ret<|ZP.ret ?_;have hr:=Oi0 hL;subst hr;exact Z6.Ww rfl (Zn (Zm fh rfl) Zk) rfl ⟨_,⟨rfl,rfl⟩,hT▸hS.only (.c k1 (.c k2 (.c k2 (.c k2 (.c k2 (.c k0 .n))))))⟩
     ·replace hL:=XJ hc hL;refine WC.skip<|ZP.Yc<|WC.seq<|WC.seq<|WC.region<|V2 (Ym (Zm (YA rfl (Ya rfl (Zg rfl fh))) Yt)) ?_;obtain⟨Zmy,ZLd,hL⟩:=bS hL;refine WO.Zgp gN rfl (Zm fh Yt) hS (hS.get k2) ZLd ?_;rintro ZWa a171 ZOg hS;refine V2 (ZfR K5 (Zm fh rfl) rfl)<|V2 (Ym (UA rfl))<|WO.nil<|ZP.Yc<|WC.block<|WC.loop (WL.lift hL (fun p s=>match p with | (Zga,Zwt)=>∃Zl6 ZIc,s=⟨Zl6,[],ZIc,none⟩/\Sp wm T h [bx wm KN [.func (.func 101) #[] #[(GY Zae),(GY KN)]],bx wm Zae [.func (.yield l7) #[] #[]],bx wm b1 [GX Zwt],bx wm b4 [ifV Jt p0],ow wm Ye a171 Zmy.length ZOg Zmy,YW wm Ye Jt p0,ob wm l7 LO9] ZIc/\Zl6.at 2=(GY KN)/\Zl6.at 12=.slice a171 Zmy.length ZOg/\Zl6.at 13= GX (Zmy.length:Int)/\Zl6.at 14= GX Zga) ⟨_,_,rfl,hS.only (.c k6 (.c k5 (.c k2 (.c k3 (.c k0 (.c k2 (.c k0 .n))))))),(YM rfl (Zg rfl fh)),(Ya rfl fh),(Zg rfl fh),fh⟩ ?_);rintro Ztx ⟨Zga,Zwt⟩ s Zx9 hL ⟨Zl6,ZIc,rfl,hS,ZI0,ZNV,ZIZ,ZIY⟩;refine WC.seq<|WC.region<|V2 (Xo (Zm ZIY rfl) (Zm ZIZ rfl) ZfX)<|WO.nil<|ZP.Yc<|WC.seq<|WC.U9 (Zm fh rfl) (fun hc=>?_) (fun hc=>?_)
      ·replace hL:=XI hc hL;refine WC.skip<|ZP.Yc<|WC.seq<|WC.block<|WC.seq<|WC.region ?_;obtain⟨ZBB,ZE1,hL⟩:=bS hL;obtain⟨ZX8,ZUS,ZBX,ZHA,ZHW,ZHO⟩:=Src.at_ (hS.QF k4) ZE1;refine V2 (ZF K5 KO (Zm (Zg rfl ZNV) rfl) (Zm (Zg rfl ZIY) rfl) rfl ZHA ZE1) ?_;have hS:=hS.add (A:=YW wm Ye ZBX ZBB) ZHO (fun _ z=>z);refine V2 (ZU Zha (Zm fh rfl) ZHW (j:=0) rfl (v:=ifV ZBX ZBB) rfl)<|V2 (Yy (Zm fh Yt))<|WO.nil<|ZP.Yc<|WC.seq<|WC.region<|V2 (ZU Zew (Zm (YA rfl ZI0) rfl) (hS.UL k1) (j:=0) rfl (v:=.func (.func 101) #[] #[(GY Zae),(GY KN)]) rfl)<|V2 (Ym (Zm (Zg rfl fh) Yt)) ?_;obtain⟨ZF5,ZE0,hL⟩:=bS hL;rcases ZF5 with⟨Zok,v193⟩|ZIX
       ·skip;replace hL:=Yv hL;dsimp only at hL;refine V3 (Yi.clo (first:=[]) (cap:=[(GY Zae),(GY KN)]) (Zm (Zg rfl fh) rfl) Zb8 (Zb (Zm fh Yt) Zd) rfl) hS (.c k0 (.c k2 (.c k2 (.c k1 (.c k0 (.c k1 (.c k1 .n))))))) (fun g' hz hf hO=>PQ.ok (Zpe _ _ ZE0 ZBX (hS.V6 hz) hO)) ?_;rintro _ ZV7 _ ⟨rfl,rfl⟩ hS;refine V2 (Zaf (Zm fh rfl))<|WO.nil<|ZP.Yc<|WC.U9 (Zm fh rfl) (fun hc=>?_) (fun hc=>?_)
        ·replace hL:=XI hc hL;refine WC.seq<|WC.region<|V2 (Yy (UA rfl))<|WO.nil<|ZP.Yc<|WC.ret<|YG.ret<|ZP.ret<|ZO.ret<|YG.ret<|ZP.ret ?_;have hr:=Oi0 hL;subst hr;exact Z6.Ww rfl (Zn (Zm fh rfl) Zk) rfl ⟨_,⟨rfl,rfl⟩,hT▸hS.only (.c k0 (.c k0 (.c k0 (.c k0 (.c k0 (.c k0 .n))))))⟩
        ·replace hL:=XJ hc hL;exact WC.skip<|YG.Yc<|ZP.Yc<|WC.region<|V2 (Xo (Zm (YM rfl ZIY) rfl) (UA rfl) Km)<|V2 (Ym (Zm fh rfl))<|WO.nil<|ZO.Yc (Zx9 _ _ hL ⟨_,_,rfl,hS.only (.c k3 (.c k2 (.c k0 (.c k0 (.c k2 (.c k0 (.c k0 .n))))))),(YM rfl (Ya rfl ZI0)),(YM rfl (Ya rfl ZNV)),(YM rfl (Ya rfl ZIZ)),fh⟩)
       ·skip;replace hL:=Z9 hL;refine WO.WI gN (Yi.clo (first:=[]) (cap:=[(GY Zae),(GY KN)]) (Zm (Zg rfl fh) rfl) Zb8 (Zb (Zm fh Yt) Zd) rfl) hS (.c k0 (.c k2 (.c k2 (.c k1 (.c k0 (.c k1 (.c k1 .n))))))) (fun g' hz hf hO=>Zpe _ _ ZE0 ZBX (hS.V6 hz) hO) ?_;rintro ZV6 hS;refine ZP.panic<|YG.panic<|ZP.panic<|ZO.panic<|YG.panic<|ZP.panic<|Z6.KI ?_;have hr:=Oi0 hL;subst hr;exact Y7.Yd ⟨rfl,hT▸hS.only .n⟩
      ·replace hL:=XJ hc hL;refine WC.exit<|ZP.exit<|ZO.exit<|YG.here<|ZP.Yc<|WC.seq<|WC.region<|V2 (Yy (UA rfl))<|WO.nil<|ZP.Yc<|WC.ret ?_;have hr:=Oi0 hL;subst hr;exact Z6.Ww rfl (Zn (Zm fh rfl) Zk) rfl ⟨_,⟨rfl,rfl⟩,hT▸hS.only (.c k2 (.c k2 (.c k1 (.c k0 (.c k1 (.c k1 .n))))))⟩
    ·skip;replace hL:=Z9 hL;refine WO.WI gN (Yi.fn ZyJ (Zb (Zm fh Yt) Zd)) hS .n (fun g' hz hf hO=>Zud (Jt:=ZoF) (hS.V6 hz) (Ye.mono hf (hS.get k2)) ZE3) ?_;rintro ZV5 hS;refine YG.panic<|BdZ.Yd Zl1 hS k1<|ZP.panic<|ZP.panic<|Z6.KI ?_;have hr:=Oi0 hL;subst hr;exact Y7.Yd ⟨rfl,hT▸hS.only .n⟩
   ·skip;replace hL:=Z9 hL;obtain rfl:=XD hx159;refine WO.WI gN (Yi.fn Y3 (Zb (Zm fh rfl) Zd)) hS .n (fun g' hz hf hO=>YH (hS.V6 hz) hx159) ?_;rintro ZV4 hS;refine ZP.panic<|YG.panic<|BdZ.Yd Zl1 hS k1<|ZP.panic<|ZP.panic<|Z6.KI ?_;have hr:=Oi0 hL;subst hr;exact Y7.Yd ⟨rfl,hT▸hS.only .n⟩
  have hS:=hS.add (A:=YW wm Ye Jt p0) (hS.get k0) (fun _ z=>z);obtain⟨ZF4,ZEY,hL⟩:=bS hL;rcases ZF4 with⟨v203,ZmB⟩|e199
  ·skip;replace hL:=Yv hL;dsimp only at hL;refine V3 (Yi.clo (first:=[]) (cap:=[(GY Zae),(GY KN)]) (Zm (Zg rfl fh) rfl) Zb8 (Zb (Zm fh Yt) Zd) rfl) hS (.c k1 (.c k6 (.c k5 (.c k2 (.c k1 (.c k0 (.c k0 .n))))))) (fun g' hz hf hO=>PQ.ok (ZtN _ _ _ ZEY Jt (hS.V6 hz) hO)) ?_;rintro _ ZV1 _ ⟨rfl,rfl⟩ hS;exact WO.nil<|Z6.Yc<|Z6.Zvn rfl Zk rfl ⟨_,hL,⟨rfl,hS.only (.c k0 (.c k0 (.c k3 (.c k3 .n))))⟩⟩
  ·skip;replace hL:=Z9 hL;refine WO.WI gN (Yi.clo (first:=[]) (cap:=[(GY Zae),(GY KN)]) (Zm (Zg rfl fh) rfl) Zb8 (Zb (Zm fh Yt) Zd) rfl) hS (.c k1 (.c k6 (.c k5 (.c k2 (.c k1 (.c k0 (.c k0 .n))))))) (fun g' hz hf hO=>ZtN _ _ _ ZEY Jt (hS.V6 hz) hO) ?_;rintro ZRr hS;refine Z6.KI<|Y7.ZGI<|YG.panic<|ZP.panic<|Z6.KI<|Y7.Zke hS k0 ?_;rintro ZV0 hS;refine Y7.Yd ?_;have hr:=Oi0 hL;subst hr;exact⟨rfl,hT▸hS.only .n⟩
end
section
def Zp1(F:Nat)(p0:Term):O Int:=
 (ZzJ F (Part.pr p0)).bind fun x5=>JR x5 (fun e7=>some e7) (fun y6=>some 0)
end
section
open Go.ZY Go.Lf
def ZIL{F wm h}{p0:Term}{Zf Ze Zu Zt Zp Zo}{r}(Zv:wm<=h.size)(Zl:Sl Zj wm h Zf Ze p0.args)(ZG:Sl Zc wm h Zu Zt p0.defs)(ZI:Sl ZB wm h Zp Zo p0.kids)(hL:Zp1 F p0=some r):
 WR XX 23 #[.agg #[GX p0.op,.string p0.text,.slice Zf p0.args.length Ze,.slice Zu p0.defs.length Zt,.slice Zp p0.kids.length Zo]] wm h (CP (fun v (Gb:U (Ast wm))=>v= GX r/\Gb=[]) [] h):=by
 refine WF.QJ (args:=[_]) (fn:=Tryz.f23) Kq0 (by exact rfl) Tryz.ntmps23 (by simp) ?_;simp only[ZE,ZJ,Nat.reduceAdd];obtain⟨T,hT,hS⟩:∃T,T=Ji (wm:=wm) []/\Sp wm T h [] h:=⟨_,rfl,Sp.start Zv Yb.nil⟩
 unfold Zp1 at hL;refine r3 ?_;rintro _ h2 ⟨b1,eb1,rfl,hS⟩;refine r1 ?_;rintro _ h4 ⟨b3,eb3,rfl,hS⟩;refine r4 ?_;refine WO.ZRX gN ZRz (Zm fh rfl)<|r5 ?_;refine V2 (Qy ZFO (ZA (Zm fh rfl) Z0) rfl (cs':=[GX p0.op,.string p0.text,.slice Zf p0.args.length Ze,.slice Zu p0.defs.length Zt,.slice Zp p0.kids.length Zo]) rfl)<|V2 (Zg3 (Zm fh rfl) Kq0) ?_;obtain⟨x5,hx5,hL⟩:=bS hL;rcases x5 with y6|e7
 ·skip;replace hL:=Yv hL;refine V3 (Yi.fn ZFs (Zb (Zm fh rfl) Zd)) hS .n (fun g' hz hf hO=>(PQ.ok (ZzI (p0:=(Part.pr p0)) (Jt:=(((Zf,Ze),(Zu,Zt),(Zp,Zo)),(none,0))) (hS.V6 hz) (Ye.mono hf (Zxu (hS.sl Zl) (hS.sl ZG) (hS.sl ZI))) hx5))) ?_;rintro _ h8 _ ⟨rfl,rfl⟩ hS;refine r5 ?_;rintro h10 hS;refine r3 ?_;refine Z6.ofP<|Y7.ZN1 («YI»:=[(GY b3)]) (fn2:=Tryz.f60) Kq0 (by exact rfl) Tryz.ntmps60 (by simp) rfl ?_;simp only[ZE,ZJ,Nat.reduceAdd];refine DC.seq<|DC.rec .ret (Tr.set (Tr.set (Tr.set .nil 0 ((GY b3))) 5 (.nilIface)) 2 (.nilIface)) (by exact rfl) rfl ?_;refine⟨rfl,?_⟩;refine DC.seq<|DC.rgn rfl<|r2 ?_;refine V2 (Xo (Zm fh rfl) (UA rfl) (ZsT ZEo))<|r1 ?_;refine⟨rfl,?_⟩;refine DC.Zuj (Zm fh rfl) rfl<|DC.skip ?_;refine⟨rfl,rfl,?_⟩;refine Y7.ofL ?_ rfl;have hr:=Oi0 hL;subst hr;exact Z6.gen rfl (X4 (YA rfl fh) (Zdh ZAN (hS.UL k0) (j:=0) rfl (v:= GX 0) rfl) Zk) rfl ⟨_,⟨rfl,rfl⟩,hT▸hS.only .n⟩
 ·skip;replace hL:=Z9 hL;refine WO.WI gN (Yi.fn ZFs (Zb (Zm fh rfl) Zd)) hS .n (fun g' hz hf hO=>ZzI (p0:=(Part.pr p0)) (Jt:=(((Zf,Ze),(Zu,Zt),(Zp,Zo)),(none,0))) (hS.V6 hz) (Ye.mono hf (Zxu (hS.sl Zl) (hS.sl ZG) (hS.sl ZI))) hx5) ?_;rintro h11 hS;refine ZP.panic<|Z6.KI<|Y7.ZN1 («YI»:=[(GY b3)]) (fn2:=Tryz.f60) Kq0 (by exact rfl) Tryz.ntmps60 (by simp) rfl ?_;simp only[ZE,ZJ,Nat.reduceAdd];refine DC.seq<|DC.rec (.rcv (pv 147 e7)) (Tr.set (Tr.set (Tr.set .nil 0 ((GY b3))) 5 (.iface 147 (.agg #[GX e7]))) 2 (.iface 147 (.agg #[GX e7]))) (by exact rfl) rfl ?_;refine⟨rfl,?_⟩;refine DC.seq<|DC.rgn rfl<|r2 ?_;refine V2 (Xo (Zm fh rfl) (UA rfl) (Zv1 rfl ZEo))<|r1 ?_;refine⟨rfl,?_⟩;refine DC.ZAi (Zm fh rfl) rfl<|DC.seq<|DC.rgn rfl<|r2 ?_;refine V2 (Zkn Tryz.underlying147 rfl (Zm fh rfl))<|r4 ?_;rintro _ h13 ⟨b12,ZIW,rfl,hS⟩;refine r1 ?_;rintro h14 hS;refine r2 ?_;refine⟨rfl,?_⟩;refine DC.seq<|DC.seq<|DC.rgn rfl<|r4 ?_;refine⟨rfl,?_⟩;refine DC.Zuj (Zm fh rfl) rfl<|DC.skip ?_;refine⟨rfl,?_⟩;refine DC.rgn rfl<|r6 ?_;rintro h15 hS;refine r1 ?_;refine⟨rfl,rfl,?_⟩;refine Y7.ofL ?_ rfl;have hr:=Oi0 hL;subst hr;exact Z6.gen rfl (X4 (Ya rfl (Zg rfl fh)) (Zdh ZAN (hS.UL k0) (j:=0) rfl (v:= GX e7) rfl) Zk) rfl ⟨_,⟨rfl,rfl⟩,hT▸hS.only .n⟩
def ZzP{F h}{p0:Term}{Zf Ze Zu Zt Zp Zo}{r}(Zl:Sl Zj h.size h Zf Ze p0.args)(ZG:Sl Zc h.size h Zu Zt p0.defs)(ZI:Sl ZB h.size h Zp Zo p0.kids)(hL:Zp1 F p0=some r):Pure XX 23 #[.agg #[GX p0.op,.string p0.text,.slice Zf p0.args.length Ze,.slice Zu p0.defs.length Zt,.slice Zp p0.kids.length Zo]] h (GX r):=
 WR.Zam rfl (ZIL V0 Zl ZG ZI hL)
end
section
end
section
open Go.ZY Go.Lf
end
section
end
section
open Go.ZY Go.Lf
end
section
def Zfh(F:Nat)(p1:(U Y))(p2:Za)(ZbW:(((U Y)×(U Y)×Term)->O (U Y)))(Zq:(((U Y)×(U Y)×Za)->O (U Y))):(U Y)×Int->((U Y)×Int->O (U Y))->O (U Y):=fun(v6,v13) ZiU=>
 (bif decide (v13<(p2.defs.length:Int)) then(Yf p2.defs v13).bind fun x16=>(Zq (v6,p1,x16)).bind fun x25=>ZiU (x25,Xa (v13+1)) else(Zp4 F p2.joins).bind fun x31=>(Zla p1 x31).bind fun x37=>(Yf p2.kids 0).bind fun x43=>(ZbW (v6,x37,x43)).bind fun x52=>some x52)
def Zee(F:Nat)(ZbW:(((U Y)×(U Y)×Term)->O (U Y))):((U Y)×(U Y)×Za)->(((U Y)×(U Y)×Za)->O (U Y))->O (U Y):=fun(p0,p1,p2) Zq=>
 loop F (Zfh F p1 p2 ZbW Zq) (p0,0)
def ZzV(F:Nat)(ZbW:(((U Y)×(U Y)×Term)->O (U Y)))(p0:(U Y))(p1:(U Y))(p2:Za):O (U Y):=
 loop F (Zee F ZbW) (p0,p1,p2)
def Zc6(p2:Term)(Zq:(((U Y)×(U Y)×Term)->O (U Y)))(v39:(U Y)):(U Y)×Int->((U Y)×Int->O (U Y))->O (U Y):=fun(v73,v80) Zxa=>
 (bif decide (v80<(p2.kids.length:Int)) then(Yf p2.kids v80).bind fun x83=>(Zq (v73,v39,x83)).bind fun x92=>Zxa (x92,Xa (v80+1)) else some v73)
def Zfu(F:Nat)(p2:Term)(Zq:(((U Y)×(U Y)×Term)->O (U Y)))(v39:(U Y)):(U Y)×Int->((U Y)×Int->O (U Y))->O (U Y):=fun(v46,v53) Zxe=>
 (bif decide (v53<(p2.defs.length:Int)) then(Yf p2.defs v53).bind fun x56=>(ZzV F Zq v46 v39 x56).bind fun x65=>Zxe (x65,Xa (v53+1)) else loop F (Zc6 p2 Zq v39) (v46,0))
def KV(F:Nat)(p2:Term)(Zq:(((U Y)×(U Y)×Term)->O (U Y)))(v15:(U Y)):(U Y)->O (U Y):=fun v39=>
 loop F (Zfu F p2 Zq v39) (v15,0)
def Zfv(F:Nat)(p1:(U Y))(p2:Term)(Zq:(((U Y)×(U Y)×Term)->O (U Y))):(U Y)×Int->((U Y)×Int->O (U Y))->O (U Y):=fun(v15,v22) ZiT=>
 (bif decide (v22<(p2.args.length:Int)) then(Yf p2.args v22).bind fun x25=>(ZIl F v15 p1 x25).bind fun x30=>ZiT (x30,Xa (v22+1)) else(bif(p2.op==4) then(Zvw F p2.defs).bind fun x98=>(Zla p1 x98).bind fun x104=>(KV F p2 Zq v15) x104 else(KV F p2 Zq v15) p1))
def Zc5(F:Nat)(p1:(U Y))(p2:Term)(Zq:(((U Y)×(U Y)×Term)->O (U Y))):(U Y)->O (U Y):=fun v6=>
 loop F (Zfv F p1 p2 Zq) (v6,0)
def Zeh(F:Nat):((U Y)×(U Y)×Term)->(((U Y)×(U Y)×Term)->O (U Y))->O (U Y):=fun(p0,p1,p2) Zq=>
 (bif(!decide (p2.text=(⟨#[]⟩:Y))) then(Zmf F p0 p1 p2.text).bind fun ZGd=>(Zc5 F p1 p2 Zq) ZGd else(Zc5 F p1 p2 Zq) p0)
def ZzZ(F:Nat)(p0:(U Y))(p1:(U Y))(p2:Term):O (U Y):=
 loop F (Zeh F) (p0,p1,p2)
end
section
open Go.ZY Go.Lf
def ZzU{F wm:Nat}{ZbW:(((U Y)×(U Y)×Term)->O (U Y))}(ZrV:∀(x:((U Y)×(U Y)×Term))(r:(U Y)),ZbW x=some r->(match x with | (p0,p1,p2)=>∀{h:H}{Zf:O Addr}{Ze Yp:Nat}{Yh:O Addr}{Yg:Nat}{XT:O Addr}{XR:Nat}{Ja:O Addr}{Q8:Nat}{Q9:O Addr}{Q7:Nat}(Zv:wm<=h.size)(Yw:Sl Zx wm h Yh Yg p1)(JZ:Sl Zj wm h XT XR p2.args)(Wu:Sl Zc wm h Ja Q8 p2.defs)(KC:Sl ZB wm h Q9 Q7 p2.kids)(hO:Yb (wm:=wm) [ow wm Zx Zf Yp Ze p0] h),WR XX 112 #[.slice Zf Yp Ze,.slice Yh p1.length Yg,.agg #[GX p2.op,.string p2.text,.slice XT p2.args.length XR,.slice Ja p2.defs.length Q8,.slice Q9 p2.kids.length Q7]] wm h (CP (fun v (Gb:U (Ast wm))=>∃ZW Yn ZV,v=.slice ZW Yn ZV/\Gb=[ow wm Zx ZW Yn ZV r]) [ow wm Zx Zf Yp Ze p0] h))):∀(Fr:Nat)(x:((U Y)×(U Y)×Za))(r:(U Y)),loop Fr (Zee F ZbW) x=some r->(match x with | (p0,p1,p2)=>∀{h:H}{Zf:O Addr}{Ze Yp:Nat}{Yh:O Addr}{Yg:Nat}{XT:O Addr}{XR:Nat}{Ja:O Addr}{Q8:Nat}{Q9:O Addr}{Q7:Nat}(Zv:wm<=h.size)(Yw:Sl Zx wm h Yh Yg p1)(JZ:Sl ZL wm h XT XR p2.joins)(Wu:Sl Zc wm h Ja Q8 p2.defs)(KC:Sl ZB wm h Q9 Q7 p2.kids)(hO:Yb (wm:=wm) [ow wm Zx Zf Yp Ze p0] h),WR XX 143 #[.slice Zf Yp Ze,.slice Yh p1.length Yg,.agg #[GX p2.form,.string p2.text,.slice XT p2.joins.length XR,.slice Ja p2.defs.length Q8,.slice Q9 p2.kids.length Q7]] wm h (CP (fun v (Gb:U (Ast wm))=>∃ZW Yn ZV,v=.slice ZW Yn ZV/\Gb=[ow wm Zx ZW Yn ZV r]) [ow wm Zx Zf Yp Ze p0] h)):=by
 refine Xd _ ?_;rintro Zq YL ⟨p0,p1,p2⟩ r hL h Zf Ze Yp Yh Yg XT XR Ja Q8 Q9 Q7 Zv Yw JZ Wu KC hO;refine bg Tryz.ntmps143 Zv hO ?_;intro T hT hS;obtain rfl:=hS.on k0;refine r3 ?_;rintro _ h3 ⟨b2,eb2,rfl,hS⟩;refine r10 ?_;refine WC.loop (WL.lift hL (fun p s=>match p with | (v6,v13)=>∃fr5 h4 a7 c8 n9,s=⟨fr5,[],h4,none⟩/\Sp wm T h [ow wm Zx a7 n9 c8 v6,bx wm b2 [GX p2.form,.string p2.text,.slice XT p2.joins.length XR,.slice Ja p2.defs.length Q8,.slice Q9 p2.kids.length Q7]] h4/\fr5.at 0=.slice a7 n9 c8/\fr5.at 1=.slice Yh p1.length Yg/\fr5.at 5=(GY b2)/\fr5.at 7= GX v13) ⟨_,_,Zf,Ze,p0.length,rfl,hS.only (.c k1 (.c k0 .n)),Y0⟩ ?_);rintro ZiU ⟨v6,v13⟩ s Znh hL ⟨fr5,h4,a7,c8,n9,rfl,hS,e10,e11,e12,e14⟩;obtain rfl:=hS.on k0;refine r10 ?_;refine cn hL ?_ ?_
 ·intro hc hL;refine r10 ?_;obtain⟨x16,hx16,hL⟩:=bS hL;obtain⟨b17,o18,⟨⟨a19,c20⟩,⟨a21,c22⟩,⟨a23,c24⟩⟩,ZyR,Zy5,ZyZ,Ze7⟩:=Sl.at_ Wu hx16;replace Ze7:=ZC.1 Ze7;refine V2 (ZF Ql Z8 lk lk rfl ZyR hx16) ?_;have Zx1:Sl ZL wm h a19 c20 x16.joins:=Ze7.1;have Zx0:Sl Zc wm h a21 c22 x16.defs:=Ze7.2.1;have ZtM:Sl ZB wm h a23 c24 x16.kids:=Ze7.2.2;refine V2 (YB JM Z8 (Zm fh rfl) (At.fz hS.fz ZyZ Zy5) (j:=0) rfl rfl (ws:=[GX x16.form,.string x16.text,.slice a19 x16.joins.length c20,.slice a21 x16.defs.length c22,.slice a23 x16.kids.length c24]) rfl) ?_;obtain⟨x25,hx25,hL⟩:=bS hL;refine V3 (Yi.fn ZyA (Zb lk (Zb lk (Zb lk Zd)))) hS (.c k0 .n) (fun g' hz hf hO=>(YL _ _ hx25) (hS.V6 hz) ((hS.sl Yw).mono hf) ((hS.sl Zx1).mono hf) ((hS.sl Zx0).mono hf) ((hS.sl ZtM).mono hf) hO) ?_;rintro _ h29 _ ⟨a26,n27,c28,rfl,rfl⟩ hS;obtain rfl:=hS.on k0;refine r9 ?_;exact ZO.Yc (Znh _ _ hL ⟨_,_,a26,c28,x25.length,rfl,hS.only (.c k0 (.c k0 .n)),Y0⟩)
 ·intro hc hL;refine r6 ?_;refine WC.JK mixed Kq0<|r4 ?_;obtain⟨x31,hx31,hL⟩:=bS hL;refine WX.cl0 gN rfl (Yi.fn ZHr (Zb lk Zd)) hS .n (fun g' hz hf hO=>ZDi (hS.V6 hz) ((hS.sl JZ).mono hf) hx31) ?_ rfl rfl;rintro _ h35 _ ⟨a32,c34,rfl,rfl⟩ hS;obtain⟨x37,ZQA,hL⟩:=bS hL;refine WX.cl0 gN rfl (Yi.fn ZFp (Zb lk (Zb lk Zd))) hS .n (fun g' hz hf hO=>ZzE (hS.V6 hz) ((hS.sl Yw).mono hf) ((hS.fsl k0).mono hf) ZQA) ?_ rfl rfl;rintro _ h41 _ ⟨a38,c40,rfl,rfl⟩ hS;refine r2 ?_;obtain⟨x43,ZK4,hL⟩:=bS hL;obtain⟨b44,o45,⟨⟨a46,c47⟩,⟨a48,c49⟩,⟨a50,c51⟩⟩,ZMu,ZNu,ZM3,Zpw⟩:=Sl.at_ KC ZK4;replace Zpw:=QC.1 Zpw;refine V5 (ZF WB Xj lk lk rfl ZMu ZK4) ?_;have ZLF:Sl Zj wm h a46 c47 x43.args:=Zpw.1;have ZLD:Sl Zc wm h a48 c49 x43.defs:=Zpw.2.1;have ZLC:Sl ZB wm h a50 c51 x43.kids:=Zpw.2.2;refine V5 (YB WM Xj (Zm fh rfl) (At.fz hS.fz ZM3 ZNu) (j:=0) rfl rfl (ws:=[GX x43.op,.string x43.text,.slice a46 x43.args.length c47,.slice a48 x43.defs.length c49,.slice a50 x43.kids.length c51]) rfl) ?_;obtain⟨x52,ZQy,hL⟩:=bS hL;refine WX.cl gN rfl (Yi.fn ZrZ (Zb lk (Zb lk (Zb lk Zd)))) hS (.c k2 .n) (fun g' hz hf hO=>(ZrV _ _ ZQy) (hS.V6 hz) ((hS.fsl k0).mono hf) ((hS.sl ZLF).mono hf) ((hS.sl ZLD).mono hf) ((hS.sl ZLC).mono hf) hO) ?_ rfl rfl [] Kq0 Xf.e;rintro _ h56 _ ⟨a53,n54,c55,rfl,rfl⟩ hS;obtain rfl:=hS.on k0;refine WX.w gN rfl (Yy lk) ?_ Kq0;refine r3 ?_;have hr:=Oi0 hL;subst hr;exact YK.Jr rfl (Zn lk Zk) ⟨_,⟨a53,x52.length,c55,rfl,rfl⟩,hT▸hS.only (.c k0 .n)⟩
def ZDl{F wm}{ZbW:(((U Y)×(U Y)×Term)->O (U Y))}(ZrV:∀(x:((U Y)×(U Y)×Term))(r:(U Y)),ZbW x=some r->(match x with | (p0,p1,p2)=>∀{h Zf Ze Yp Yh Yg XT XR Ja Q8 Q9 Q7}(Zv:wm<=h.size)(Yw:Sl Zx wm h Yh Yg p1)(JZ:Sl Zj wm h XT XR p2.args)(Wu:Sl Zc wm h Ja Q8 p2.defs)(KC:Sl ZB wm h Q9 Q7 p2.kids)(hO:Yb (wm:=wm) [ow wm Zx Zf Yp Ze p0] h),WR XX 112 #[.slice Zf Yp Ze,.slice Yh p1.length Yg,.agg #[GX p2.op,.string p2.text,.slice XT p2.args.length XR,.slice Ja p2.defs.length Q8,.slice Q9 p2.kids.length Q7]] wm h (CP (fun v (Gb:U (Ast wm))=>∃ZW Yn ZV,v=.slice ZW Yn ZV/\Gb=[ow wm Zx ZW Yn ZV r]) [ow wm Zx Zf Yp Ze p0] h))){h}{p0 p1:(U Y)}{p2:Za}{Zf Ze Yp Yh Yg XT XR Ja Q8 Q9 Q7}{r}(Zv:wm<=h.size)(Yw:Sl Zx wm h Yh Yg p1)(JZ:Sl ZL wm h XT XR p2.joins)(Wu:Sl Zc wm h Ja Q8 p2.defs)(KC:Sl ZB wm h Q9 Q7 p2.kids)(hO:Yb (wm:=wm) [ow wm Zx Zf Yp Ze p0] h)(hL:ZzV F ZbW p0 p1 p2=some r):
 WR XX 143 #[.slice Zf Yp Ze,.slice Yh p1.length Yg,.agg #[GX p2.form,.string p2.text,.slice XT p2.joins.length XR,.slice Ja p2.defs.length Q8,.slice Q9 p2.kids.length Q7]] wm h (CP (fun v (Gb:U (Ast wm))=>∃ZW Yn ZV,v=.slice ZW Yn ZV/\Gb=[ow wm Zx ZW Yn ZV r]) [ow wm Zx Zf Yp Ze p0] h):=
 ZzU ZrV F (p0,p1,p2) r hL Zv Yw JZ Wu KC hO
def ZzY{F wm:Nat}:∀(Fr:Nat)(x:((U Y)×(U Y)×Term))(r:(U Y)),loop Fr (Zeh F) x=some r->(match x with | (p0,p1,p2)=>∀{h:H}{Zf:O Addr}{Ze Yp:Nat}{Yh:O Addr}{Yg:Nat}{XT:O Addr}{XR:Nat}{Ja:O Addr}{Q8:Nat}{Q9:O Addr}{Q7:Nat}(Zv:wm<=h.size)(Yw:Sl Zx wm h Yh Yg p1)(JZ:Sl Zj wm h XT XR p2.args)(Wu:Sl Zc wm h Ja Q8 p2.defs)(KC:Sl ZB wm h Q9 Q7 p2.kids)(hO:Yb (wm:=wm) [ow wm Zx Zf Yp Ze p0] h),WR XX 112 #[.slice Zf Yp Ze,.slice Yh p1.length Yg,.agg #[GX p2.op,.string p2.text,.slice XT p2.args.length XR,.slice Ja p2.defs.length Q8,.slice Q9 p2.kids.length Q7]] wm h (CP (fun v (Gb:U (Ast wm))=>∃ZW Yn ZV,v=.slice ZW Yn ZV/\Gb=[ow wm Zx ZW Yn ZV r]) [ow wm Zx Zf Yp Ze p0] h)):=by
 refine Xd _ ?_;rintro Zq YL ⟨p0,p1,p2⟩ r hL h Zf Ze Yp Yh Yg XT XR Ja Q8 Q9 Q7 Zv Yw JZ Wu KC hO;refine bg Tryz.ntmps112 Zv hO ?_;intro T hT hS;obtain rfl:=hS.on k0;refine r3 ?_;rintro _ h3 ⟨b2,eb2,rfl,hS⟩;refine r3 ?_;refine WC.KJ (r:=r) (fun(v6:(U Y)) s=>∃fr5 h4 a7 c8 n9,s=⟨fr5,[],h4,none⟩/\Sp wm T h [ow wm Zx a7 n9 c8 v6,bx wm b2 [GX p2.op,.string p2.text,.slice XT p2.args.length XR,.slice Ja p2.defs.length Q8,.slice Q9 p2.kids.length Q7]] h4/\fr5.at 0=.slice a7 n9 c8/\fr5.at 1=.slice Yh p1.length Yg/\fr5.at 5=(GY b2)) (Zc5 F p1 p2 Zq) ?_ ?_
 ·rintro v6 s hL ⟨fr5,h4,a7,c8,n9,rfl,hS,e10,e11,e12⟩;obtain rfl:=hS.on k0;refine r7 ?_;refine WC.loop (WL.lift hL (fun p s=>match p with | (v15,v22)=>∃ZaY h13 a16 c17 n18,s=⟨ZaY,[],h13,none⟩/\Sp wm T h [ow wm Zx a16 n18 c17 v15,bx wm b2 [GX p2.op,.string p2.text,.slice XT p2.args.length XR,.slice Ja p2.defs.length Q8,.slice Q9 p2.kids.length Q7]] h13/\ZaY.at 0=.slice a16 n18 c17/\ZaY.at 1=.slice Yh p1.length Yg/\ZaY.at 5=(GY b2)/\ZaY.at 7= GX v22) ⟨_,_,a7,c8,v6.length,rfl,hS.only (.c k0 (.c k0 .n)),Y0⟩ ?_);rintro ZiT ⟨v15,v22⟩ s Zng hL ⟨ZaY,h13,a16,c17,n18,rfl,hS,e19,e20,e21,e23⟩;obtain rfl:=hS.on k0;refine r10 ?_;refine cn hL ?_ ?_
  ·intro hc hL;refine r10 ?_;obtain⟨x25,hx25,hL⟩:=bS hL;obtain⟨b26,o27,⟨a28,c29⟩,Zpn,ZpJ,ZpG,Zhz⟩:=Sl.at_ JZ hx25;replace Zhz:=YS.1 Zhz;refine V2 (ZF Kq Xg lk lk rfl Zpn hx25) ?_;have ZxZ:Sl Zj wm h a28 c29 x25.kids:=Zhz;refine V2 (YB UH Xg (Zm fh rfl) (At.fz hS.fz ZpG ZpJ) (j:=0) rfl rfl (ws:=[GX x25.op,GX x25.n,.string x25.text,.slice a28 x25.kids.length c29]) rfl) ?_;obtain⟨x30,ZdZ,hL⟩:=bS hL;refine V3 (Yi.fn ZFo (Zb lk (Zb lk (Zb lk Zd)))) hS (.c k0 .n) (fun g' hz hf hO=>ZIk (hS.V6 hz) ((hS.sl Yw).mono hf) ((hS.sl ZxZ).mono hf) hO ZdZ) ?_;rintro _ h34 _ ⟨a31,n32,c33,rfl,rfl⟩ hS;obtain rfl:=hS.on k0;refine r9 ?_;exact ZO.Yc (Zng _ _ hL ⟨_,_,a31,c33,x30.length,rfl,hS.only (.c k0 (.c k0 .n)),Y0⟩)
  ·intro hc hL;refine r5 ?_;refine WC.KJ (r:=r) (fun(v39:(U Y)) s=>∃Zzg h36 a40 c41,s=⟨Zzg,[],h36,none⟩/\Sp wm T h [YW wm (Y8 Zx) (a40,c41) v39,bx wm b2 [GX p2.op,.string p2.text,.slice XT p2.args.length XR,.slice Ja p2.defs.length Q8,.slice Q9 p2.kids.length Q7],ow wm Zx a16 v15.length c17 v15] h36/\Zzg.at 0=.slice a16 v15.length c17/\Zzg.at 1=.slice a40 v39.length c41/\Zzg.at 5=(GY b2)) (KV F p2 Zq v15) ?_ ?_
   ·rintro v39 s hL ⟨Zzg,h36,a40,c41,rfl,hS,e38,e42,e43⟩;refine r7 ?_;refine WC.loop (WL.lift hL (fun p s=>match p with | (v46,v53)=>∃Zvr h44 a47 c48 n49,s=⟨Zvr,[],h44,none⟩/\Sp wm T h [ow wm Zx a47 n49 c48 v46,bx wm b2 [GX p2.op,.string p2.text,.slice XT p2.args.length XR,.slice Ja p2.defs.length Q8,.slice Q9 p2.kids.length Q7],YW wm (Y8 Zx) (a40,c41) v39] h44/\Zvr.at 0=.slice a47 n49 c48/\Zvr.at 1=.slice a40 v39.length c41/\Zvr.at 5=(GY b2)/\Zvr.at 8= GX v53) ⟨_,_,a16,c17,v15.length,rfl,hS.only (.c k2 (.c k1 (.c k0 .n))),Y0⟩ ?_);rintro Zxe ⟨v46,v53⟩ s ZCu hL ⟨Zvr,h44,a47,c48,n49,rfl,hS,e50,e51,e52,e54⟩;obtain rfl:=hS.on k0;refine r10 ?_;refine cn hL ?_ ?_
    ·intro hc hL;refine r10 ?_;obtain⟨x56,ZxO,hL⟩:=bS hL;obtain⟨b57,o58,⟨⟨a59,c60⟩,⟨a61,c62⟩,⟨a63,c64⟩⟩,ZMo,ZNo,ZMX,Zpr⟩:=Sl.at_ Wu ZxO;replace Zpr:=ZC.1 Zpr;refine V2 (ZF Ql Z8 lk lk rfl ZMo ZxO) ?_;have ZLx:Sl ZL wm h a59 c60 x56.joins:=Zpr.1;have ZFd:Sl Zc wm h a61 c62 x56.defs:=Zpr.2.1;have ZLw:Sl ZB wm h a63 c64 x56.kids:=Zpr.2.2;refine V2 (YB JM Z8 (Zm fh rfl) (At.fz hS.fz ZMX ZNo) (j:=0) rfl rfl (ws:=[GX x56.form,.string x56.text,.slice a59 x56.joins.length c60,.slice a61 x56.defs.length c62,.slice a63 x56.kids.length c64]) rfl) ?_;obtain⟨x65,ZQx,hL⟩:=bS hL;refine V3 (Yi.fn ZyA (Zb lk (Zb lk (Zb lk Zd)))) hS (.c k0 .n) (fun g' hz hf hO=>(ZDl YL) (hS.V6 hz) ((hS.fsl k2).mono hf) ((hS.sl ZLx).mono hf) ((hS.sl ZFd).mono hf) ((hS.sl ZLw).mono hf) hO ZQx) ?_;rintro _ h69 _ ⟨a66,n67,c68,rfl,rfl⟩ hS;obtain rfl:=hS.on k0;refine r9 ?_;exact ZO.Yc (ZCu _ _ hL ⟨_,_,a66,c68,x65.length,rfl,hS.only (.c k0 (.c k0 (.c k0 .n))),Y0⟩)
    ·intro hc hL;refine r12 ?_;refine WC.loop (WL.lift hL (fun p s=>match p with | (v73,v80)=>∃Zvp h71 a74 c75 n76,s=⟨Zvp,[],h71,none⟩/\Sp wm T h [ow wm Zx a74 n76 c75 v73,bx wm b2 [GX p2.op,.string p2.text,.slice XT p2.args.length XR,.slice Ja p2.defs.length Q8,.slice Q9 p2.kids.length Q7],YW wm (Y8 Zx) (a40,c41) v39] h71/\Zvp.at 0=.slice a74 n76 c75/\Zvp.at 1=.slice a40 v39.length c41/\Zvp.at 5=(GY b2)/\Zvp.at 9= GX v80) ⟨_,_,a47,c48,v46.length,rfl,hS.only (.c k0 (.c k0 (.c k0 .n))),Y0⟩ ?_);rintro Zxa ⟨v73,v80⟩ s ZCn hL ⟨Zvp,h71,a74,c75,n76,rfl,hS,e77,e78,e79,e81⟩;obtain rfl:=hS.on k0;refine r10 ?_;refine cn hL ?_ ?_
     ·intro hc hL;refine r10 ?_;obtain⟨x83,ZxL,hL⟩:=bS hL;obtain⟨b84,o85,⟨⟨a86,c87⟩,⟨a88,c89⟩,⟨a90,c91⟩⟩,ZMh,ZNh,ZMQ,Zpp⟩:=Sl.at_ KC ZxL;replace Zpp:=QC.1 Zpp;refine V2 (ZF WB Xj lk lk rfl ZMh ZxL) ?_;have ZLt:Sl Zj wm h a86 c87 x83.args:=Zpp.1;have ZLs:Sl Zc wm h a88 c89 x83.defs:=Zpp.2.1;have ZLq:Sl ZB wm h a90 c91 x83.kids:=Zpp.2.2;refine V2 (YB WM Xj (Zm fh rfl) (At.fz hS.fz ZMQ ZNh) (j:=0) rfl rfl (ws:=[GX x83.op,.string x83.text,.slice a86 x83.args.length c87,.slice a88 x83.defs.length c89,.slice a90 x83.kids.length c91]) rfl) ?_;obtain⟨x92,ZQu,hL⟩:=bS hL;refine V3 (Yi.fn ZrZ (Zb lk (Zb lk (Zb lk Zd)))) hS (.c k0 .n) (fun g' hz hf hO=>(YL _ _ ZQu) (hS.V6 hz) ((hS.fsl k2).mono hf) ((hS.sl ZLt).mono hf) ((hS.sl ZLs).mono hf) ((hS.sl ZLq).mono hf) hO) ?_;rintro _ h96 _ ⟨a93,n94,c95,rfl,rfl⟩ hS;obtain rfl:=hS.on k0;refine r9 ?_;exact ZO.Yc (ZCn _ _ hL ⟨_,_,a93,c95,x92.length,rfl,hS.only (.c k0 (.c k0 (.c k0 .n))),Y0⟩)
     ·intro hc hL;refine r12 ?_;have hr:=Oi0 hL;subst hr;exact YK.Jr rfl (Zn lk Zk) ⟨_,⟨a74,v73.length,c75,rfl,rfl⟩,hT▸hS.only (.c k0 .n)⟩
   ·skip;refine r7 ?_;refine cn hL ?_ ?_
    ·intro hc hL;refine r4 ?_;obtain⟨x98,hx98,hL⟩:=bS hL;refine V3 (Yi.fn ZL8 (Zb lk Zd)) hS .n (fun g' hz hf hO=>ZIC (hS.V6 hz) ((hS.sl Wu).mono hf) hx98) ?_;rintro _ ZWI _ ⟨a99,ZXO,rfl,rfl⟩ hS;obtain⟨x104,hx104,hL⟩:=bS hL;refine V3 (Yi.fn ZFp (Zb lk (Zb lk Zd))) hS .n (fun g' hz hf hO=>ZzE (hS.V6 hz) ((hS.sl Yw).mono hf) ((hS.fsl k0).mono hf) hx104) ?_;rintro _ ZWE _ ⟨a105,c107,rfl,rfl⟩ hS;refine r2 ?_;exact YJ.Yc _ hL ⟨_,_,a105,c107,rfl,hS.only (.c k0 (.c k2 (.c k1 .n))),Y0⟩
    ·intro hc hL;refine r1 ?_;have hS:=hS.add (A:=YW wm (Y8 Zx) (Yh,Yg) p1) (hS.sl Yw) (fun _ z=>z);exact YJ.Yc _ hL ⟨_,_,Yh,Yg,rfl,hS.only (.c k0 (.c k1 (.c k0 .n))),Y0⟩
 ·skip;refine r4 ?_;refine V2 (Xo (Zm fh rfl) (UA rfl) ZeA)<|r2 ?_;refine cn hL ?_ ?_
  ·intro hc hL;refine r5 ?_;obtain⟨ZGd,ZLh,hL⟩:=bS hL;refine V3 (Yi.fn ZyE (Zb lk (Zb lk (Zb lk Zd)))) hS (.c k1 .n) (fun g' hz hf hO=>Zt8 (hS.V6 hz) ((hS.sl Yw).mono hf) hO ZLh) ?_;rintro _ ZWB _ ⟨ZSr,n112,Zll,rfl,rfl⟩ hS;obtain rfl:=hS.on k0;refine r2 ?_;exact YJ.Yc _ hL ⟨_,_,ZSr,Zll,ZGd.length,rfl,hS.only (.c k0 (.c k0 .n)),Y0⟩
  ·intro hc hL;refine r1 ?_;exact YJ.Yc _ hL ⟨_,_,Zf,Ze,p0.length,rfl,hS.only (.c k1 (.c k0 .n)),Y0⟩
def ZDr{F wm h}{p0 p1:(U Y)}{p2:Term}{Zf Ze Yp Yh Yg XT XR Ja Q8 Q9 Q7}{r}(Zv:wm<=h.size)(Yw:Sl Zx wm h Yh Yg p1)(JZ:Sl Zj wm h XT XR p2.args)(Wu:Sl Zc wm h Ja Q8 p2.defs)(KC:Sl ZB wm h Q9 Q7 p2.kids)(hO:Yb (wm:=wm) [ow wm Zx Zf Yp Ze p0] h)(hL:ZzZ F p0 p1 p2=some r):
 WR XX 112 #[.slice Zf Yp Ze,.slice Yh p1.length Yg,.agg #[GX p2.op,.string p2.text,.slice XT p2.args.length XR,.slice Ja p2.defs.length Q8,.slice Q9 p2.kids.length Q7]] wm h (CP (fun v (Gb:U (Ast wm))=>∃ZW Yn ZV,v=.slice ZW Yn ZV/\Gb=[ow wm Zx ZW Yn ZV r]) [ow wm Zx Zf Yp Ze p0] h):=
 ZzY F (p0,p1,p2) r hL Zv Yw JZ Wu KC hO
end
section
def Zvu(F:Nat)(p0:Term):O (U Y):=
 (ZzZ F [] [] p0).bind fun x3=>some x3
end
section
open Go.ZY Go.Lf
def ZIn{F wm h}{p0:Term}{Zf Ze Zu Zt Zp Zo}{r}(Zv:wm<=h.size)(Zl:Sl Zj wm h Zf Ze p0.args)(ZG:Sl Zc wm h Zu Zt p0.defs)(ZI:Sl ZB wm h Zp Zo p0.kids)(hL:Zvu F p0=some r):
 WR XX 69 #[.agg #[GX p0.op,.string p0.text,.slice Zf p0.args.length Ze,.slice Zu p0.defs.length Zt,.slice Zp p0.kids.length Zo]] wm h (CP (fun v (Gb:U (Ast wm))=>∃ZW Yn ZV,v=.slice ZW Yn ZV/\Gb=[ow wm Zx ZW Yn ZV r]) [] h):=by
 refine bg Tryz.ntmps69 Zv Yb.nil ?_;intro T hT hS;unfold Zvu at hL;refine r3 ?_;rintro _ h2 ⟨b1,eb1,rfl,hS⟩;refine r6 ?_;obtain⟨x3,hx3,hL⟩:=bS hL;have hS:=hS.nil (e:=Zx);refine V3 (Yi.fn ZrZ (Zb lk (Zb lk (Zb lk Zd)))) hS (.c k0 .n) (fun g' hz hf hO=>ZDr (hS.V6 hz) Sl.nil ((hS.sl Zl).mono hf) ((hS.sl ZG).mono hf) ((hS.sl ZI).mono hf) hO hx3) ?_;rintro _ h7 _ ⟨a4,n5,c6,rfl,rfl⟩ hS;obtain rfl:=hS.on k0;refine r4 ?_;have hr:=Oi0 hL;subst hr;exact YK.Jr rfl (Zn lk Zk) ⟨_,⟨a4,x3.length,c6,rfl,rfl⟩,hT▸hS.only (.c k0 .n)⟩
end
section
def ZzM(F:Nat)(p0:Term):O ((U Y)×Int):=
 (Zp0 F p0).bind fun x3=>(bif(x3 !=0) then some ([],2) else(Zvu F p0).bind fun x4=>some (x4,0))
end
section
open Go.ZY Go.Lf
def ZII{F wm h}{p0:Term}{Zf Ze Zu Zt Zp Zo}{r}(Zv:wm<=h.size)(Zl:Sl Zj wm h Zf Ze p0.args)(ZG:Sl Zc wm h Zu Zt p0.defs)(ZI:Sl ZB wm h Zp Zo p0.kids)(hL:ZzM F p0=some r):
 WR XX 28 #[.agg #[GX p0.op,.string p0.text,.slice Zf p0.args.length Ze,.slice Zu p0.defs.length Zt,.slice Zp p0.kids.length Zo]] wm h (CP (fun v (Gb:U (Ast wm))=>∃ZW Yn ZV,v=.tuple #[.slice ZW Yn ZV,GX r.2]/\Gb=[ow wm Zx ZW Yn ZV r.1]) [] h):=by
 refine bg Tryz.ntmps28 Zv Yb.nil ?_;intro T hT hS;unfold ZzM at hL;refine r3 ?_;rintro _ h2 ⟨b1,eb1,rfl,hS⟩;refine r8 ?_;obtain⟨x3,hx3,hL⟩:=bS hL;refine WO.cp gN rfl (Yi.fn ZFv (Zb lk Zd)) (ZzO (hS.slu Zl) (hS.slu ZG) (hS.slu ZI) hx3)<|r3 ?_;refine cn hL ?_ ?_
 ·intro hc hL;refine r8 ?_;have hS:=hS.nil (e:=Zx);have hr:=Oi0 hL;subst hr;exact YK.gen (vs:=[GW,GX 2]) rfl (Zn lk (Zn lk Zk)) rfl ⟨_,⟨none,0,0,rfl,rfl⟩,hT▸hS.only (.c k0 .n)⟩
 ·intro hc hL;refine r5 ?_;obtain⟨x4,hx4,hL⟩:=bS hL;refine V3 (Yi.fn ZL6 (Zb lk Zd)) hS .n (fun g' hz hf hO=>ZIn (hS.V6 hz) ((hS.sl Zl).mono hf) ((hS.sl ZG).mono hf) ((hS.sl ZI).mono hf) hx4) ?_;rintro _ h8 _ ⟨a5,n6,c7,rfl,rfl⟩ hS;obtain rfl:=hS.on k0;refine r5 ?_;have hr:=Oi0 hL;subst hr;exact YK.gen (vs:=[.slice a5 x4.length c7,GX 0]) rfl (Zn lk (Zn lk Zk)) rfl ⟨_,⟨a5,x4.length,c7,rfl,rfl⟩,hT▸hS.only (.c k0 .n)⟩
end
section
def ZzL(F:Nat)(p0:Term):O ((U Y)×(U Y)×Int):=
 (Zp0 F p0).bind fun x3=>(bif(x3 !=0) then some ([],[],2) else(bif(p0.op !=4) then some ([],[],5) else(ZhS F p0.defs).bind fun x4=>some (x4.1.channels,x4.1.places,0)))
end
section
open Go.ZY Go.Lf
def ZIF{F wm h}{p0:Term}{Zf Ze Zu Zt Zp Zo}{r}(Zv:wm<=h.size)(Zl:Sl Zj wm h Zf Ze p0.args)(ZG:Sl Zc wm h Zu Zt p0.defs)(ZI:Sl ZB wm h Zp Zo p0.kids)(hL:ZzL F p0=some r):
 WR XX 30 #[.agg #[GX p0.op,.string p0.text,.slice Zf p0.args.length Ze,.slice Zu p0.defs.length Zt,.slice Zp p0.kids.length Zo]] wm h (CP (fun v (Gb:U (Ast wm))=>∃ZW Yn ZV Zhq Zho Zhp,v=.tuple #[.slice ZW Yn ZV,.slice Zhq Zho Zhp,GX r.2.2]/\Gb=[ow wm Zx ZW Yn ZV r.1,ow wm Zx Zhq Zho Zhp r.2.1]) [] h):=by
 refine bg Tryz.ntmps30 Zv Yb.nil ?_;intro T hT hS;unfold ZzL at hL;refine r3 ?_;rintro _ h2 ⟨b1,eb1,rfl,hS⟩;refine r9 ?_;obtain⟨x3,hx3,hL⟩:=bS hL;refine WO.cp gN rfl (Yi.fn ZFv (Zb lk Zd)) (ZzO (hS.slu Zl) (hS.slu ZG) (hS.slu ZI) hx3)<|r3 ?_;refine cn hL ?_ ?_
 ·intro hc hL;refine r9 ?_;have hS:=hS.nil (e:=Zx);have hS:=hS.nil (e:=Zx);have hr:=Oi0 hL;subst hr;exact YK.gen (vs:=[GW,GW,GX 2]) rfl (Zn lk (Zn lk (Zn lk Zk))) rfl ⟨_,⟨none,0,0,none,0,0,rfl,rfl⟩,hT▸hS.only (.c k1 (.c k0 .n))⟩
 ·intro hc hL;refine r10 ?_;refine cn hL ?_ ?_
  ·intro hc hL;refine r9 ?_;have hS:=hS.nil (e:=Zx);have hS:=hS.nil (e:=Zx);have hr:=Oi0 hL;subst hr;exact YK.gen (vs:=[GW,GW,GX 5]) rfl (Zn lk (Zn lk (Zn lk Zk))) rfl ⟨_,⟨none,0,0,none,0,0,rfl,rfl⟩,hT▸hS.only (.c k1 (.c k0 .n))⟩
  ·intro hc hL;refine r6 ?_;obtain⟨x4,hx4,hL⟩:=bS hL;refine V3 (Yi.fn Zyp (Zb lk Zd)) hS .n (fun g' hz hf hO=>Zsj (hS.V6 hz) ((hS.sl ZG).mono hf) hx4) ?_;rintro _ h18 _ ⟨b5,a6,n7,c8,a9,n10,c11,a12,n13,c14,a15,n16,c17,rfl,rfl⟩ hS;obtain rfl:=hS.on k1;obtain rfl:=hS.on k2;obtain rfl:=hS.on k3;obtain rfl:=hS.on k4;refine r8 ?_;refine WC.JK mixed Kq0<|r14 ?_;have hr:=Oi0 hL;subst hr;exact YK.gen (vs:=[.slice a6 x4.1.channels.length c8,.slice a15 x4.1.places.length c17,GX 0]) rfl (Zn lk (Zn lk (Zn lk Zk))) rfl ⟨_,⟨a6,x4.1.channels.length,c8,a15,x4.1.places.length,c17,rfl,rfl⟩,hT▸hS.only (.c k1 (.c k3 .n))⟩
end
section
end
section
open Go.ZY Go.Lf
end
section
end
section
open Go.ZY Go.Lf
end
section
end
section
open Go.ZY Go.Lf
end
section
end
section
open Go.ZY Go.Lf
end
section
def Zfe(p0:Zi)(Zq:(Zi->O Zi)):Int×(U Zi)->(Int×(U Zi)->O Zi)->O Zi:=fun(v15,v17) K7=>
 (bif decide (v15<(p0.kids.length:Int)) then(Yf p0.kids v15).bind fun Kh=>(Zq Kh).bind fun x30=>(app 56 v17 [x30]).bind fun z38=>K7 (Xa (v15+1),z38) else some (Zi.mk p0.op p0.n p0.text v17))
def Zec(F:Nat):Zi->(Zi->O Zi)->O Zi:=fun p0 Zq=>
 loop F (Zfe p0 Zq) (0,[])
def Zt2(F:Nat)(p0:Zi):O Zi:=
 loop F (Zec F) p0
end
section
open Go.ZY Go.Lf
def ZzS{F wm:Nat}:∀(Fr:Nat)(p0:Zi)(r:Zi),loop Fr (Zec F) p0=some r->(∀{h:H}{Zf:O Addr}{Ze:Nat}(Zv:wm<=h.size)(Zl:Sl Zj wm h Zf Ze p0.kids),WR XX 148 #[.agg #[GX p0.op,GX p0.n,.string p0.text,.slice Zf p0.kids.length Ze]] wm h (CP (fun v (Gb:U (Ast wm))=>∃ZW ZV,v=.agg #[GX r.op,GX r.n,.string r.text,.slice ZW r.kids.length ZV]/\Gb=[YW wm (Y8 Zj) (ZW,ZV) r.kids]) [] h)):=by
 refine Xd _ ?_;rintro Zq YL p0 r hL h Zf Ze Zv Zl;refine bg Tryz.ntmps148 Zv Yb.nil ?_;intro T hT hS;refine r3 ?_;rintro _ h3 ⟨b2,eb2,rfl,hS⟩;refine r1 ?_;rintro _ h5 ⟨b4,eb4,rfl,hS⟩;refine r10 ?_;refine V2 (Qy Zuo (ZA lk (ZA lk (ZA lk Z0))) rfl (cs':=[GX p0.op,GX p0.n,.string p0.text,GW]) rfl)<|r1 ?_;rintro _ h7 ⟨b6,eb6,rfl,hS⟩;refine r1 ?_;rintro h8 hS;refine r12 ?_;have hS:=hS.nil (e:=Zj);refine WC.loop (WL.lift hL (fun p s=>match p with | (v15,v17)=>∃Qw h9 a18 c19 n20,s=⟨Qw,[],h9,none⟩/\Sp wm T h [bx wm b4 [GX 0,GX 0,.string (⟨#[]⟩:Y),GW],ow wm Zj a18 n20 c19 v17,bx wm b6 [GX p0.op,GX p0.n,.string p0.text,.slice a18 n20 c19]] h9/\Qw.at 2=(GY b4)/\Qw.at 3=(GY b6)/\Qw.at 14=.slice Zf p0.kids.length Ze/\Qw.at 15= GX (p0.kids.length:Int)/\Qw.at 16= GX v15) ⟨_,_,none,0,0,rfl,hS.only (.c k2 (.c k0 (.c k0 .n))),Y0⟩ ?_);rintro K7 ⟨v15,v17⟩ s Jm hL ⟨Qw,h9,a18,c19,n20,rfl,hS,e11,e12,e13,e14,e16⟩;obtain rfl:=hS.on k1;refine r6 ?_;refine cn hL ?_ ?_
 ·intro hc hL;refine r6 ?_;obtain⟨Kh,Zav,hL⟩:=bS hL;obtain⟨b23,o24,⟨a25,c26⟩,J5,J7,J6,XY⟩:=Sl.at_ Zl Zav;replace XY:=YS.1 XY;refine V2 (ZF Kq Xg lk lk rfl J5 Zav) ?_;have KD:Sl Zj wm h a25 c26 Kh.kids:=XY;refine V2 (YB UH Xg (Zm fh rfl) (At.fz hS.fz J6 J7) (j:=0) rfl rfl (ws:=[GX Kh.op,GX Kh.n,.string Kh.text,.slice a25 Kh.kids.length c26]) rfl)<|r1 ?_;rintro _ h28 ⟨b27,ZRJ,rfl,hS⟩;refine r1 ?_;rintro h29 hS;refine r2 ?_;refine WC.JK mixed Kq0<|r3 ?_;obtain⟨x30,ZdZ,hL⟩:=bS hL;refine WX.cl0 gN rfl (Yi.fn Zyx (Zb lk Zd)) hS .n (fun g' hz hf hO=>(YL _ _ ZdZ) (hS.V6 hz) ((hS.sl KD).mono hf)) ?_ rfl rfl;rintro _ h34 _ ⟨a31,c33,rfl,rfl⟩ hS;refine WX.hn gN rfl (Uj (e:=Zj) hS Kq Xg Zf8 rfl rfl rfl (ZA lk Z0) rfl [((a31,c33),x30)] rfl (xs:=[x30]) rfl (by intro q hq;simp only[Ks,Jx,or_false]at hq;subst hq;exact(YS.2 (hS.fsl k0))) rfl) ?_ rfl;rintro _ h37 ⟨b36,ZDD,rfl,hS⟩;obtain⟨z38,ZGW,hL⟩:=bS hL;refine WX.hv gN rfl (JY (e:=Zj) hS k4 Zkt lk lk (hS.QF k0) (hS.on k0) ZGW) ?_ rfl rfl [] Kq0 Xf.e;rintro _ h41 ⟨a39,c40,rfl,hS⟩;refine WX.w gN rfl (YT Znp lk) ?_ Kq0;refine WX.hu gN (Uy hS k5 ZmM lk lk (vs:=[.slice a39 z38.length c40]) rfl rfl rfl rfl (cs':=[GX p0.op,GX p0.n,.string p0.text,.slice a39 z38.length c40]) rfl) ?_ rfl Kq0 [] Kq0 Xf.e;rintro h42 hS;refine r7 ?_;exact ZO.Yc (Jm _ _ hL ⟨_,_,a39,c40,z38.length,rfl,hS.only (.c k5 (.c k1 (.c k0 .n))),Y0⟩)
 ·intro hc hL;refine r9 ?_;rintro h43 hS;refine r2 ?_;refine WC.fzn hS k1 ?_;rintro h44 ⟨hn45,hS⟩;refine r1 ?_;have hr:=Oi0 hL;subst hr;exact YK.Jr rfl (X4 (Ya rfl e11) (Jf UH Xg (hS.UL k1) (j:=0) rfl rfl (ws:=[GX p0.op,GX p0.n,.string p0.text,.slice a18 v17.length c19]) rfl) Zk) ⟨_,⟨a18,c19,rfl,rfl⟩,hT▸hS.only (.c k0 .n)⟩
def ZDj{F wm h}{p0:Zi}{Zf Ze}{r}(Zv:wm<=h.size)(Zl:Sl Zj wm h Zf Ze p0.kids)(hL:Zt2 F p0=some r):
 WR XX 148 #[.agg #[GX p0.op,GX p0.n,.string p0.text,.slice Zf p0.kids.length Ze]] wm h (CP (fun v (Gb:U (Ast wm))=>∃ZW ZV,v=.agg #[GX r.op,GX r.n,.string r.text,.slice ZW r.kids.length ZV]/\Gb=[YW wm (Y8 Zj) (ZW,ZV) r.kids]) [] h):=
 ZzS F p0 r hL Zv Zl
end
section
end
section
open Go.ZY Go.Lf
end
section
def Zt0(p0:Y):O Zi:=
 some (Zi.mk 2 0 p0 [])
end
section
open Go.ZY Go.Lf
def ZDh{wm h}{p0:Y}{r}(Zv:wm<=h.size)(hL:Zt0 p0=some r):
 WR XX 172 #[.string p0] wm h (CP (fun v (Gb:U (Ast wm))=>∃ZW ZV,v=.agg #[GX r.op,GX r.n,.string r.text,.slice ZW r.kids.length ZV]/\Gb=[YW wm (Y8 Zj) (ZW,ZV) r.kids]) [] h):=by
 refine bg Tryz.ntmps172 Zv Yb.nil ?_;intro T hT hS;unfold Zt0 at hL;refine r3 ?_;rintro _ h2 ⟨b1,eb1,rfl,hS⟩;refine r5 ?_;refine V2 (Qy Zuo (ZA lk (ZA lk Z0)) rfl (cs':=[GX 2,GX 0,.string p0,GW]) rfl)<|r1 ?_;rintro h3 hS;refine r3 ?_;have hS:=hS.add (A:=YW wm (Y8 Zj) (none,0) []) Sl.nil (fun _ z=>z);have hr:=Oi0 hL;subst hr;exact YK.Jr rfl (X4 (Ya rfl fh) (Jf UH Xg (hS.UL k1) (j:=0) rfl rfl (ws:=[GX 2,GX 0,.string p0,GW]) rfl) Zk) ⟨_,⟨none,0,rfl,rfl⟩,hT▸hS.only (.c k0 .n)⟩
end
section
def Zvx(F:Nat)(p0:Term):O ((U Y)×(U Y)×Int):=
 (Zp1 F p0).bind fun x3=>(bif(x3 !=0) then some ([],[],x3) else(bif(p0.op !=4) then some ([],[],5) else(Zlb F p0.defs).bind fun x4=>some (x4.1,x4.2,0)))
end
section
open Go.ZY Go.Lf
def ZIH{F wm h}{p0:Term}{Zf Ze Zu Zt Zp Zo}{r}(Zv:wm<=h.size)(Zl:Sl Zj wm h Zf Ze p0.args)(ZG:Sl Zc wm h Zu Zt p0.defs)(ZI:Sl ZB wm h Zp Zo p0.kids)(hL:Zvx F p0=some r):
 WR XX 29 #[.agg #[GX p0.op,.string p0.text,.slice Zf p0.args.length Ze,.slice Zu p0.defs.length Zt,.slice Zp p0.kids.length Zo]] wm h (CP (fun v (Gb:U (Ast wm))=>∃ZW Yn ZV Zhq Zho Zhp,v=.tuple #[.slice ZW Yn ZV,.slice Zhq Zho Zhp,GX r.2.2]/\Gb=[ow wm Zx ZW Yn ZV r.1,ow wm Zx Zhq Zho Zhp r.2.1]) [] h):=by
 refine bg Tryz.ntmps29 Zv Yb.nil ?_;intro T hT hS;unfold Zvx at hL;refine r3 ?_;rintro _ h2 ⟨b1,eb1,rfl,hS⟩;refine r9 ?_;obtain⟨x3,hx3,hL⟩:=bS hL;refine WO.cp gN rfl (Yi.fn ZMd (Zb lk Zd)) (ZzP (hS.slu Zl) (hS.slu ZG) (hS.slu ZI) hx3)<|r9 ?_;refine cn hL ?_ ?_
 ·intro hc hL;refine r10 ?_;have hS:=hS.nil (e:=Zx);have hS:=hS.nil (e:=Zx);have hr:=Oi0 hL;subst hr;exact YK.gen (vs:=[GW,GW,GX x3]) rfl (Zn lk (Zn lk (Zn lk Zk))) rfl ⟨_,⟨none,0,0,none,0,0,rfl,rfl⟩,hT▸hS.only (.c k1 (.c k0 .n))⟩
 ·intro hc hL;refine r10 ?_;refine cn hL ?_ ?_
  ·intro hc hL;refine r9 ?_;have hS:=hS.nil (e:=Zx);have hS:=hS.nil (e:=Zx);have hr:=Oi0 hL;subst hr;exact YK.gen (vs:=[GW,GW,GX 5]) rfl (Zn lk (Zn lk (Zn lk Zk))) rfl ⟨_,⟨none,0,0,none,0,0,rfl,rfl⟩,hT▸hS.only (.c k1 (.c k0 .n))⟩
  ·intro hc hL;refine r6 ?_;obtain⟨x4,hx4,hL⟩:=bS hL;refine V3 (Yi.fn ZL5 (Zb lk Zd)) hS .n (fun g' hz hf hO=>ZzF (hS.V6 hz) ((hS.sl ZG).mono hf) hx4) ?_;rintro _ h11 _ ⟨a5,n6,c7,a8,n9,c10,rfl,rfl⟩ hS;obtain rfl:=hS.on k0;obtain rfl:=hS.on k1;refine r16 ?_;refine r1 ?_;have hr:=Oi0 hL;subst hr;exact YK.gen (vs:=[.slice a5 x4.1.length c7,.slice a8 x4.2.length c10,GX 0]) rfl (Zn lk (Zn lk (Zn lk Zk))) rfl ⟨_,⟨a5,x4.1.length,c7,a8,x4.2.length,c10,rfl,rfl⟩,hT▸hS.only (.c k0 (.c k0 .n))⟩
end
end Go.Proofs.YtbnepjakjmnadaaGreat
end
end
section
set_option maxRecDepth 20000
noncomputable section
namespace Go.ZY
open Go.Lf
section
variable{X:Ctx}{n wm:Nat}{rd:O Nat}{ops:GT Oper}{l:U Oper}{fr:Fr}{ds:U GV}{h h0 h1 h2:H}{ty:J}{p:String}{af:GT Edge}{T:Nat->Prop}{G Gr Ga:U (Ast wm)}{d:Nat}
def ZCM(o:Oper)(k:Nat):Z:=o.after.toList.any fun e=>Region.binds .any e&&Nat.beq e.on k
def ZGJ(ops:U Oper)(c i:Nat)(o:Oper):Z:=
 Zac i o&&bif Nat.ble i c then o.op.operands.toList.all fun x=>match x with
  | .tmp t=>Qz (fun k o'=>!isT o'.dst t||ZCM o k) ops 0
  | _=>true
 else ZCM o c
def ZEL(ops:U Oper)(c:Nat):Z:=Qz (ZGJ ops c) ops 0&&Qz (ZfK ops) ops 0
def ZlZ{o:Oper}{k:Nat}(h:ZCM o k=true):∃e∈o.after,Region.binds .any e=true/\e.on=k:=by
 unfold ZCM at h;rw[GI]at h;obtain⟨e,he,h⟩:=h;rw[Ba0]at h;exact⟨e,by simpa using he,h.1,Nb0 h.2⟩
structure PX(X:Ctx)(n:Nat)(h:H)(c:Nat)(l:List Oper)(fr:Fr)(Q:Fr->Oper->Prop):Prop where
 out:∃(fs:Nat->Fr) (vs:Nat->Value) (o:Oper),fs 0=fr/\l[c]? =some o/\Q (fs c) o/\∀k,k<c->∃d op ty p af,l[k]? =some ⟨some d,op,ty,p,af,none⟩/\d<n/\Xu X h (YF (fs k)) ⟨some d,op,ty,p,af,none⟩=some (.val (vs k),.none)/\fs (k+1)=Tr.set (fs k) d (vs k)
def PX.w{c:Nat}{op:Op}{v:N}{Q:Fr->Oper->Prop}(hd:Nat.blt d n=true)(ha:Xu X h (YF fr) ⟨some d,op,ty,p,af,none⟩=some (.val v,.none))(k:PX X n h c l (Tr.set fr d v) Q):PX X n h (c+1) (⟨some d,op,ty,p,af,none⟩::l) fr Q:=by
 obtain⟨fs,vs,o,e0,ho,hq,hk⟩:=k;refine⟨fun k=>match k with|0=>fr|k+1=>fs k,fun k=>match k with|0=>v|k+1=>vs k,o,rfl,by simpa using ho,hq,fun k hk'=>?_⟩;cases k with
 | zero=>exact⟨d,op,ty,p,af,rfl,by rwa[Jn]at hd,ha,e0⟩
 | succ k=>
   obtain⟨d',op',ty',p',af',q1,q2,q3,q4⟩:=hk k GZ;exact⟨d',op',ty',p',af',by simpa using q1,q2,q3,q4⟩
def PX.call{o:Oper}{Q:Fr->Oper->Prop}(hq:Q fr o):PX X n h 0 (o::l) fr Q:=⟨⟨fun _=>fr,fun _=>undef,o,rfl,rfl,hq,fun k hk=>absurd hk (Nat.not_lt_zero _)⟩⟩
def ZvY{fr fr':Fr}{x:GP}(hx:∀t,x=.tmp t->fr.at t=fr'.at t):YF fr x=YF fr' x:=by
 cases x with
 | tmp t=>
   have:=hx t rfl;show(bif XV (fr.at t) then none else some (fr.at t))=(bif XV (fr'.at t) then none else some (fr'.at t));rw[this]
 | const v=>rfl
 | func f=>rfl
 | global g=>rfl
def ZvQ{ih:Qo->O YO}{o:Oper}{v:N}(hg:o.guard=none)(ha:Xu X h (YF fr) o=some (.val v,.none))(ho:o.dst=some d)(hd:d<n):JV X (fun _=>false) ih n wm rd ops.toList o ⟨fr,ds,h,none⟩=some (.normal,⟨Tr.set fr d v,ds,h,none⟩):=by
 have g:=Z7.none (ops:=ops) (fr:=fr) hg;unfold JV;rw[g.1,g.2];dsimp only[KK,Cq0,Cq1];rw[ha];dsimp only;unfold Eff.apply WJ;dsimp only;rw[ho];unfold Zg6;have hb:Nat.blt d n=true:=by rw[Jn];exact hd
 simp[Jv,hb,allowed]
def Zco(ops:GT Oper)(k:Nat):O Tmp:=(ops.toList[k]?).bind (·.dst)
def frP(ops:GT Oper)(fr:Fr):Nat->Fr
 | 0=>fr
 | k+1=>match Zco ops k with
   | some d=>Tr.set (frP ops fr k) d Zn1
   | none=>frP ops fr k
def Zsb{t:Nat}:∀m,XV ((frP ops fr m).at t)=false->(∀k,k<m->Zco ops k≠some t)/\(frP ops fr m).at t=fr.at t
 | 0,_=>⟨fun k hk=>absurd hk (Nat.not_lt_zero _),rfl⟩
 | m+1,ha=>by
   unfold frP at ha ⊢;cases e:Zco ops m with
   | none=>
     rw[e]at ha;obtain⟨i1,i2⟩:=Zsb m ha;refine⟨fun k hk=>?_,i2⟩;rcases Nat.lt_or_eq_of_le (Nat.le_of_lt_succ hk) with z|z
     ·exact i1 k z
     ·subst z;rw[e];exact fun z=>by cases z
   | some d=>
     rw[e]at ha;dsimp only at ha ⊢;by_cases ht:t=d
     ·subst ht;simp[Fr.at,Tr.XA,Zn1,XV]at ha
     ·have hh:Fr.at (Tr.set (frP ops fr m) d Zn1) t=(frP ops fr m).at t:=by simp[Fr.at,Tr.XA,ht]
      rw[hh]at ha ⊢;obtain⟨i1,i2⟩:=Zsb m ha;refine⟨fun k hk=>?_,i2⟩;rcases Nat.lt_or_eq_of_le (Nat.le_of_lt_succ hk) with z|z
      ·exact i1 k z
      ·subst z;rw[e];exact fun z=>ht (Oi0 z).symm
def WC.ZNY{R:XX->Fs->Prop}{id c:Nat}(hm:X.P.follows .mixedOrders=true)(hp:ZEL ops.toList c=true)(k:PX X n h c ops.toList fr (fun fr' o=>∃f args v h2,o.guard=none/\Xu X h (YF fr') o=some (.enter f args,.none)/\Yx X (.call f args wm h) (.fin (.Yd v) h2)/\∀Qh,R (.panic v) ⟨Qh,ds,h2,none⟩)):WC X n wm rd (.region id ops true) ⟨fr,ds,h,none⟩ R:=by
 obtain⟨fs,vs,oc,e0,hoc,⟨f,args,v,h2,hg,hcall,Zyi,hR⟩,hk⟩:=k;unfold ZEL at hp;rw[Ba0]at hp;have hpl:=YD _ _ hp.1;have hdst:=YD _ _ hp.2;simp only[J1]at hpl hdst;have hget:∀{k:Nat}{o:Oper},ops[k]? =some o->ops.toList[k]? =some o:=fun h=>by rwa[G0]
 have hcs:c<ops.size:=by
  have:=Li0 hoc;obtain⟨q,_⟩:=this
  simpa using q
 have uniq:∀{j k t},Zco ops j=some t->Zco ops k=some t->j=k:=fun{j k t} hj hk'=>by
  unfold Zco at hj hk';cases e1:ops.toList[j]? with
  | none=>rw[e1]at hj;cases hj
  | some o1=>
    cases e2:ops.toList[k]? with
    | none=>rw[e2]at hk';cases hk'
    | some o2=>
      rw[e1]at hj;rw[e2]at hk';have hj:o1.dst=some t:=hj;have hk':o2.dst=some t:=hk';have:=hdst k o2 e2;unfold ZfK at this;rw[hk']at this;dsimp only at this;have:=YD _ _ this j o1 e1;rw[KS.2 hj,Cq1,J1]at this;exact Nb0 this
 have stage:∀m,m<=c->(∀k t,k<m->Zco ops k=some t->(fs m).at t=vs k)/\(∀t,(∀k,k<m->Zco ops k≠some t)->(fs m).at t=fr.at t):=by
  intro m
  induction m with
  | zero=>intro _;exact⟨fun k t hk'=>absurd hk' (Nat.not_lt_zero _),fun t _=>by rw[e0]⟩
  | succ m ih=>
    intro hm';obtain⟨i1,i2⟩:=ih GZ;obtain⟨d,op,ty,p,af,q1,q2,q3,q4⟩:=hk m GZ;have hdm:Zco ops m=some d:=by unfold Zco;rw[q1];rfl
    have hat:∀t,(fs (m+1)).at t=if t=d then vs m else(fs m).at t:=fun t=>by
     rw[q4];show Fr.at (Tr.set (fs m) d (vs m)) t=_;by_cases e:t=d
     ·subst e;simp[Fr.at,Tr.XA]
     ·have e':¬ d=t:=fun z=>e z.symm
      simp[Fr.at,Tr.XA,e]
    refine⟨fun k t hk' ht=>?_,fun t ht=>?_⟩
    ·rw[hat];by_cases e:t=d
     ·subst e;rw[if_pos rfl,uniq ht hdm]
     ·rw[if_neg e];refine i1 k t ?_ ht;rcases Nat.lt_or_eq_of_le (Nat.le_of_lt_succ hk') with z|z
      ·exact z
      ·subst z;rw[hdm]at ht;cases ht;exact absurd rfl e
    ·rw[hat,if_neg fun e=>ht m GZ (by rw[hdm,e]),i2 t fun k hk'=>ht k GZ]
 refine⟨.panic v,_,hR (frP ops fr c),fun ρ a w F Zv hi hF=>?_⟩;refine wpIn_region_any hm ?_;have hi':Inv ρ n {fr:=fr,ds:=ds,h:=h} a {w with drawn:=w.drawn+1}:=⟨⟨hi.rel.dom,fun i b d e=>(hi.rel.obj i b d e).world rfl,hi.rel.inj⟩,hi.fr,hi.ds⟩
 have main:∀(fuel:Nat)(listed:GT Z),listed.size=ops.size->((List.range ops.size).filter (fun k=>!listed.getD k true)).length<=fuel->(∀j,c<=j->¬ Data.SL listed j) ->
  ∀ρ' frS a' w',Inv ρ' n ⟨frS,ds,h,none⟩ a' w'->Stp wm ρ h {w with drawn:=w.drawn+1} ρ' h w'->((∀k t,k<c->Data.SL listed k->Zco ops k=some t->frS.at t=vs k)/\(∀t,(∀k,k<c->Data.SL listed k->Zco ops k≠some t)->frS.at t=fr.at t)) ->
  wpAnyIn F 0 X.P .any ops (XE wm n ρ h w (.panic v) ⟨frP ops fr c,ds,h2,none⟩) fuel listed a' w':=by
  intro fuel
  induction fuel with
  | zero=>
    intro listed hsz hn hc;exfalso
    have hmem:c∈(List.range ops.size).filter (fun k=>!listed.getD k true):=by
     rw[GN];exact⟨List.mem_range.2 hcs,by rw[(Data.Zbz hsz hcs).2 (hc c V0)];rfl⟩
    have:=List.length_pos_of_mem hmem;omega
  | succ fuel ih=>
    intro listed hsz hn hc ρ' frS a' w' hinv hst hfs;refine⟨fun hnil=>?_,fun i hi=>?_⟩
    ·exfalso
     have:∀k,k<=c->Data.SL listed k:=by
      intro k
      induction k using Nat.strongRecOn with
      | ind k ihk=>
        intro hkc;apply Classical.byContradiction;intro hno;have hks:k<ops.size:=GZ
        obtain⟨o,ho⟩:∃o,ops[k]? =some o:=⟨ops[k],by simp[hks]⟩
        have:k∈Region.ready .any ops listed:=mem_ready.2 ⟨(Data.Zbz hsz hks).2 hno,o,ho,fun e he hb=>by
         have hp1:=hpl k o (hget ho);unfold ZGJ at hp1;rw[Ba0]at hp1;have he1:=hp1.1;unfold Zac at he1;rw[Kd]at he1;have:=he1 e (by simpa using he);rw[hb,Cq1,Jn]at this;exact ihk e.on this GZ⟩
        rw[hnil]at this;cases this
     exact hc c V0 (this c V0)
    ·obtain⟨q1,o,ho,hr⟩:=mem_ready.1 hi;have him:i<ops.size:=(Q3.1 ho).1;have hno:¬ Data.SL listed i:=(Data.Zbz hsz him).1 q1;have hp1:=hpl i o (hget ho);unfold ZGJ at hp1;rw[Ba0]at hp1;unfold wpOpIn;rw[ho];dsimp only;by_cases hic:i<=c
     ·have hle:Nat.ble i c=true:=Nm0 hic;have hlk:=hp1.2;rw[hle,Cq1,Kd]at hlk
      have ZFn:Xu X h (YF frS) o=Xu X h (YF (fs i)) o:=Zmp X h o fun x hx=>ZvY fun t ht=>by
       subst ht;have hall:=hlk (.tmp t) (by simpa using hx);have hall:=YD _ _ hall;simp only[J1]at hall
       have Zaw:∀k,Zco ops k=some t->k<i/\Data.SL listed k:=fun k hkt=>by
        unfold Zco at hkt;cases e1:ops.toList[k]? with
        | none=>rw[e1]at hkt;cases hkt
        | some o1=>
          rw[e1]at hkt;have hkt:o1.dst=some t:=hkt;have:=hall k o1 e1;rw[KS.2 hkt,KK,Gk]at this;obtain⟨e,he,hb,rfl⟩:=ZlZ this;have he1:=hp1.1;unfold Zac at he1;rw[Kd]at he1;have h3:=he1 e (by simpa using he);rw[hb,Cq1,Jn]at h3;exact⟨h3,hr e he hb⟩
       by_cases hex:∃k,Zco ops k=some t
       ·obtain⟨k,hkt⟩:=hex;obtain⟨k1,k2⟩:=Zaw k hkt;rw[hfs.1 k t GZ k2 hkt,(stage i hic).1 k t k1 hkt]
       ·rw[hfs.2 t fun k _ _ z=>hex ⟨k,z⟩,(stage i hic).2 t fun k _ z=>hex ⟨k,z⟩]
      rcases Nat.lt_or_eq_of_le hic with hlt|rfl
      ·obtain⟨d,op,ty,p,af,z1,z2,z3,z4⟩:=hk i hlt;have eo:o=⟨some d,op,ty,p,af,none⟩:=by have:=hget ho;rw[z1]at this;exact(Oi0 this).symm
       subst eo;have hdi:Zco ops i=some d:=by unfold Zco;rw[z1];rfl
       have hS:∀k,Data.SL (listed.setIfInBounds i true) k↔Data.SL listed k\/k=i:=by
        intro k;unfold Data.SL;by_cases hki:k=i
        ·subst hki;simp[Q1,show k<listed.size by omega]
        ·rw[getD_set_ne false (Ne.symm hki)];simp[hki]
       refine Ux (KQ X) (ZvQ (ih:=fun _=>none) (rd:=rd) rfl (ZFn.trans z3) rfl z2) hinv (Kx Zv V0) (hF.mono hst.ext) (fun _ ρ2 a2 w2 ZlY Zdq=>?_) (fun v he=>by cases he);refine ih (listed.setIfInBounds i true) (by simpa using hsz) ?_ (fun j hj z=>?_) ρ2 (Tr.set frS d (vs i)) a2 w2 ZlY (hst.trans hi'.rel.lt Zdq) ⟨fun k t hkc hSk hkt=>?_,fun t ht=>?_⟩
       ·have heq:(List.range ops.size).filter (fun k=>!(listed.setIfInBounds i true).getD k true)=((List.range ops.size).filter (fun k=>!listed.getD k true)).filter (fun k=>k≠i):=by
         rw[List.filter_filter];apply List.filter_congr;intro k hk';rw[List.mem_range]at hk';by_cases hki:k=i
         ·subst hki;simp[Q1,show k<listed.size by omega]
         ·rw[getD_set_ne true (Ne.symm hki)];simp[hki]
        rw[heq]
        have hmem:i∈(List.range ops.size).filter (fun k=>!listed.getD k true):=by
         rw[GN];exact⟨List.mem_range.2 him,by rw[q1];rfl⟩
        have:(((List.range ops.size).filter (fun k=>!listed.getD k true)).filter (fun k=>k≠i)).length<((List.range ops.size).filter (fun k=>!listed.getD k true)).length:=
         List.length_filter_lt_length_iff_exists.2 ⟨i,hmem,by simp⟩
        omega
       ·rcases(hS j).1 z with z|z
        ·exact hc j hj z
        ·omega
       ·show Fr.at (Tr.set frS d (vs i)) t=vs k;by_cases e:t=d
        ·subst e;rw[uniq hkt hdi];simp[Fr.at,Tr.XA]
        ·have:Fr.at (Tr.set frS d (vs i)) t=frS.at t:=by simp[Fr.at,Tr.XA,e]
         rw[this];refine hfs.1 k t hkc ?_ hkt;rcases(hS k).1 hSk with z|z
         ·exact z
         ·subst z;rw[hdi]at hkt;cases hkt;exact absurd rfl e
       ·have e:¬ t=d:=fun e=>ht i hlt ((hS i).2 (.inr rfl)) (by rw[hdi,e])
        have:Fr.at (Tr.set frS d (vs i)) t=frS.at t:=by simp[Fr.at,Tr.XA,e]
        show Fr.at (Tr.set frS d (vs i)) t=fr.at t;rw[this];exact hfs.2 t fun k hkc hSk=>ht k hkc ((hS k).2 (.inl hSk))
      ·have eo:o=oc:=by have:=hget ho;rw[hoc]at this;exact(Oi0 this).symm
       subst eo;have g:=Z7.none (ops:=ops) (fr:=frS) hg
       have ZQ1:JV X (fun _=>false) (JD (.call f args wm h) (.fin (.Yd v) h2)) n wm rd ops.toList o ⟨frS,ds,h,none⟩=some (.panic v,⟨frS,ds,h2,none⟩):=by
        unfold JV;rw[g.1,g.2];dsimp only[KK,Cq0,Cq1];rw[ZFn.trans hcall];dsimp only[KK,Cq0,Cq1];rw[show Eff.apply wm h Eff.none=some h from rfl];unfold WJ;dsimp only[Jv,Cq0];rw[Xm]
        rfl
       refine Ux (Xl Zyi) ZQ1 hinv Zv (hF.mono hst.ext) (fun he=>by cases he) (fun v' he ρ2 v2 a2 w2 hv ZlY Zdq=>?_);cases he;have QU:=hst.trans hi'.rel.lt Zdq;exact⟨ρ2,.panic hv,⟨ZlY.rel,⟨ZlY.fr.size,fun t ht=>(by obtain⟨z1,z2⟩:=Zsb i ht;have z3:=hfs.2 t fun k hk' _=>z1 k hk';show VR ρ2 ((frP ops fr i).at t) _;rw[z2,<-z3];refine ZlY.fr.val t ?_;show XV (frS.at t)=false;rw[z3,<-z2];exact ht)⟩,ZlY.ds⟩,⟨QU.ext,QU.size,QU.keep,QU.own,QU.live,QU.os,QU.tape,QU.output,QU.Xh,QU.frame,QU.JN⟩⟩
     ·have hle:Nat.ble i c=false:=by
       cases z:Nat.ble i c
       ·rfl
       ·exact absurd (Nl0 z) hic
      have hlk:=hp1.2;rw[hle,Cq0]at hlk;obtain⟨e,he,hb,hec⟩:=ZlZ hlk;have:=hr e he hb;rw[hec]at this;exact absurd this (hc c V0)
 have hno:∀k,¬ Data.SL (Array.replicate ops.size false) k:=by
  intro k;unfold Data.SL;rw[Q1,Array.getElem?_replicate];split<;>simp
 exact main ops.size _ (by simp) (Kx (List.length_filter_le _ _) (by simp)) (fun j _=>hno j) ρ fr a _ hi' (Stp.refl _ _ _ _) ⟨fun k t _ z=>absurd z (hno k),fun t _=>rfl⟩
end
section
variable{P:GQ}
def Zdo(o:O Nat):N:=.pointer (o.map fun b=>⟨b,0,none⟩)
abbrev pV(b:Nat):N:=(GY b)
def ZAX{t e:J}{x:GP}{o:O Nat}(hu:P.underlying t=some (.pointer e)):QM P .neq t x (.const (.pointer none)) (Zdo o) (.pointer none)=some (.val (.bool o.isSome),.none):=by
 cases o with
 | some b=>
   have hp:(plain (Zdo (some b))&&plain (.pointer none))=false:=rfl;unfold QM;rw[hp,Cq0];have:ZeT P t (Zdo (some b)) (.pointer none)=some false:=by unfold ZeT;rw[hu];rfl
   rw[this];rfl
 | none=>
   unfold QM;rw[show(plain (Zdo none)&&plain (.pointer none))=true from rfl,Cq1];unfold Ku
   have h1:Zz P (eqGuard .neq t x (.const (.pointer none)) (Zdo none) (.pointer none))=some (.ok ()):=by
    cases x<;>rfl
   rw[prb h1]
   have h2:Zz P (Op.equal t (Zdo none) (.pointer none))=some (.ok true):=by
    show Zz P (Op.equalIn (9999+1) t (.pointer none) (.pointer none))=_;unfold Op.equalIn;rw[prb (Y6 hu)];rfl
   have:Zz P (binOp .neq t (Zdo none) (.pointer none))=some (.ok (.bool false)):=by
    show Zz P (do pure (Value.bool (!(<-Op.equal t (Zdo none) (.pointer none)))):Sem N)=_;rw[prb h2];rfl
   rw[this];rfl
def Zi0{κ ν μ:Type}[DecidableEq κ](f:ν->μ)(l:U (κ×ν))(k:κ):Yj (l.map fun q=>(q.1,f q.2)) k=(Yj l k).map fun q=>(q.1,f q.2):=by
 induction l with
 | nil=>rfl
 | cons p l ih=>
   simp only[Gc,Yj];by_cases h:p.1=k
   ·rw[if_pos h,if_pos h];rfl
   ·rw[if_neg h,if_neg h,ih];cases Yj l k<;>rfl
def Zu7{κ ν μ:Type}[DecidableEq κ](f:ν->μ)(l:U (κ×ν))(k:κ):ZT (l.map fun q=>(q.1,f q.2)) k=(ZT l k).map f:=by
 unfold ZT;rw[Zi0];cases Yj l k<;>rfl
end
end Go.ZY
end
end
section
set_option maxRecDepth 20000
noncomputable section
namespace Go.Proofs.YtbnepjakjmnadaaGreat
open Go.ZY Go.Lf
section
abbrev EV:=SlP×Zi
def vvE(q:EV):N:=.agg (Ztj q.1 q.2).toArray
def ev0:EV:=((none,0),⟨0,0,⟨#[]⟩,[]⟩)
structure SE where
 b:Nat
 ar:Option Nat
 m:Option Nat
 es:List (ByteArray×EV)
def Ztl(w:Nat)(e:SE):U N:=[pV w,Zdo e.ar,.map e.m]
def stA(wm w:Nat)(S:U SE):Ast wm where
 P:=fun h=>∀e∈S,(h.at e.b=.row (Ztl w e) true 0/\wm<=e.b)/\ZqW Value.string vvE wm h e.m e.es/\∀x∈e.es,ZcD wm h x.2.1 x.2.2
 fp:=fun i=>∃e∈S,i=e.b\/e.m=some i
 loc:=fun f k s e he=>⟨⟨by rw[k e.b ⟨e,he,.inl rfl⟩];exact(s e he).1.1,(s e he).1.2⟩,⟨(s e he).2.1.at_.keep fun i hi=>k i ⟨e,he,.inr hi⟩,(s e he).2.1.low⟩,fun x hx=>((s e he).2.2 x hx).mono f⟩
 own:=fun{h i} s ⟨e,he,hi⟩=>by
  rcases hi with rfl|hi
  ·exact⟨(s e he).1.2,by rw[(s e he).1.1];rfl⟩
  ·refine⟨(s e he).2.1.low i hi,?_⟩;rcases(s e he).2.1.at_.mem with⟨q,_⟩|⟨j,bs,X8,q,h1,_⟩
   ·rw[q]at hi;cases hi
   ·rw[q]at hi;cases hi;rw[h1];rfl
abbrev NM:=U (Y×Zi)
def Zrx(es:U (Y×EV)):NM:=es.map fun q=>(q.1,q.2.2)
inductive Rd(S:List SE):Option Nat->List NM->Prop
 | nil:Rd S none []
 | cons {e:SE} {c:List NM} (he:e∈S) (hr:Rd S e.ar c):Rd S (some e.b) (Zrx e.es::c)
def Rd.mono{S S':U SE}(hs:∀e∈S,e∈S'){o:O Nat}{c:U NM}(r:Rd S o c):Rd S' o c:=by
 induction r with
 | nil=>exact .nil
 | cons he _ ih=>exact .cons (hs _ he) ih
def ZGs:XX.P.underlying 111=some (.pointer 164):=Kq0
def Zwx:XX.P.underlying 115=some (.map 9 36):=Kq0
def Zzl:Zw XX.P 164 0 0:=Zw.of Kq0
instance:QN XX.P 164 0 0:=⟨Zzl⟩
def ZpR:Zw XX.P 164 1 1:=Zw.of Kq0
instance:QN XX.P 164 1 1:=⟨ZpR⟩
def ZpQ:Zw XX.P 164 2 2:=Zw.of Kq0
instance:QN XX.P 164 2 2:=⟨ZpQ⟩
def Zzz:Zw XX.P 110 0 0:=Zw.of Kq0
instance:QN XX.P 110 0 0:=⟨Zzz⟩
def Zzy:Zw XX.P 110 1 1:=Zw.of Kq0
instance:QN XX.P 110 1 1:=⟨Zzy⟩
def Zzx:Zw XX.P 110 2 2:=Zw.of Kq0
instance:QN XX.P 110 2 2:=⟨Zzx⟩
def ZAR:YE XX.P 111=some false:=Kq0
instance:WA XX.P 111:=⟨ZAR⟩
def Zkx:YE XX.P 107=some false:=Kq0
instance:WA XX.P 107:=⟨Zkx⟩
def ZAS:YE XX.P 108=some false:=Kq0
instance:WA XX.P 108:=⟨ZAS⟩
def ZAQ:YE XX.P 115=some false:=Kq0
instance:WA XX.P 115:=⟨ZAQ⟩
def ZBt:YP XX.P 36=some (vvE ev0):=Zf8
section
variable{wm w:Nat}{S:U SE}{h h0:H}{T:Nat->Prop}{G Gr:U (Ast wm)}{e:SE}
def ZlA(s:Sp wm T h0 G h)(p:Pk G (stA wm w S) Gr)(he:e∈S):At h e.b 0 (Ztl w e):=At.box (s.get p e he).1.1
def ZGA(s:Sp wm T h0 G h)(p:Pk G (stA wm w S) Gr)(he:e∈S):MapAt Value.string vvE h e.m e.es:=(s.get p e he).2.1.at_
end
def Zj2(x:Y):U NM->(U NM->O (Zi×Z))->O (Zi×Z):=fun c next=>match c with
 | []=>some (⟨0,0,⟨#[]⟩,[]⟩,false)
 | m::r=>bif(ZT m x).isSome then some ((ZT m x).getD ⟨0,0,⟨#[]⟩,[]⟩,true) else next r
def ZhB(F:Nat)(c:U NM)(x:Y):O (Zi×Z):=loop F (Zj2 x) c
def ZxX:(XX.fns.get 147).isSome=true:=Kq0
end
section
def Zt3{F wm w:Nat}{S:U SE}{h:H}{o:O Nat}{c:U NM}{x:Y}{r:Zi×Z}(Zv:wm<=h.size)(hr:Rd S o c)(hO:Yb (wm:=wm) [stA wm w S] h)(hL:ZhB F c x=some r):
 WR XX 147 #[Zdo o,.string x] wm h (CP (fun(v:N)(Gb:U (Ast wm))=>∃(ra:O Addr) (rc:Nat),v=.tuple #[.agg #[.int .i64 r.1.op,.int .i64 r.1.n,.string r.1.text,.slice ra r.1.kids.length rc],.bool r.2]/\Gb=[YW wm (Y8 Zj) (ra,rc) r.1.kids,stA wm w S]) [stA wm w S] h):=by
 refine WF.begin (args:=[_,_]) (fn:=Tryz.f147) Kq0 (by exact rfl) Tryz.ntmps147 (by simp) ?_;simp only[ZE,ZJ,Nat.reduceAdd];obtain⟨T,hT,hS⟩:∃T,T=Ji (wm:=wm) [stA wm w S]/\Sp wm T h [stA wm w S] h:=⟨_,rfl,Sp.start Zv hO⟩
 unfold ZhB at hL;refine r3 ?_;rintro _ h4 ⟨b3,eb3,rfl,hS⟩;refine r8 ?_;refine r3 ?_;refine WC.loop (WL.lift hL (fun(c:U NM)(s:Fs)=>∃(fr6:Fr) (h5:H) (o:O Nat),s=⟨fr6,[],h5,none⟩/\Sp wm T h [bx wm b3 [.int .i64 0,.int .i64 0,.string (⟨#[]⟩:Y),.slice none 0 0],stA wm w S] h5/\Rd S o c/\fr6.at 1=.string x/\fr6.at 4=.pointer (some ⟨b3,0,none⟩)/\fr6.at 6=Zdo o) ⟨_,_,o,rfl,hS.only (.c k0 (.c k0 .n)),hr,YA rfl fh,Ya rfl (Zg rfl fh),fh⟩ ?_);clear hL hS;rintro Zq c s YL hL ⟨fr6,h5,o,rfl,hS,hr,e1,e4,e6⟩;refine r2 ?_;refine WC.region ?_;refine V2 (Ym (Zm e6 rfl)) ?_;refine V2 (Xo (Zm fh rfl) (UA rfl) (ZAX ZGs)) ?_;refine WO.nil ?_;refine ZP.Yc ?_;refine WC.U9 (Zm fh rfl) (fun hc=>?_) (fun hc=>?_)
 ·cases hr with
  | nil=>cases hc
  | @cons e c he hr=>
  dsimp only[Zj2]at hL;rw[show ZT (Zrx e.es) x=(ZT e.es x).map (·.2) from Zu7 (fun q:EV=>q.2) e.es x]at hL;refine WC.skip ?_;refine ZP.Yc ?_;refine WC.seq ?_;refine WC.block ?_;refine WC.seq ?_;refine WC.region ?_;refine V2 (Ym (Zm (Ya rfl e6) rfl)) ?_;refine V2 (Zes (Zm fh rfl)) ?_;refine V2 (YT ZpQ (Zm fh rfl)) ?_;refine V2 (ZU ZAQ (Zm fh rfl) (ZlA hS k1 he) (j:=2) rfl (v:=.map e.m) rfl) ?_;refine V2 (Ym (Zm (YA rfl (Ya rfl e1)) rfl)) ?_;refine V2 (Zuq U6 Zwx ZBt (Zm (Zg rfl fh) rfl) (Zm fh rfl) (ZGA hS k1 he)) ?_;generalize hq:(ZT e.es x).getD ev0=q;refine r1 ?_;refine V2 (Xk lk rfl) ?_;refine V2 (Xk lk rfl) ?_;refine r1 ?_;rintro _ h8 ⟨b7,eb7,rfl,hS⟩;refine r1 ?_;rintro h9 hS;refine r8 ?_;refine WC.U9 lk (fun hc=>?_) (fun hc=>?_)
  ·rw[show((ZT e.es x).map (·.2)).isSome=(ZT e.es x).isSome by cases ZT e.es x<;>rfl]at hL;replace hL:=XI hc hL;obtain⟨q',hq'⟩:=GK.1 hc;have hqq:q=q':=by rw[<-hq,hq'];rfl
   subst hqq
   have hmem:(x,q)∈e.es:=by
    unfold ZT at hq';cases hf:Yj e.es x with
    | none=>rw[hf]at hq';cases hq'
    | some z=>rw[hf]at hq';cases hq';exact GM (ZaS hf)
   refine r4 ?_;rintro h10 hS;refine r8 ?_;refine r1 ?_;have hS:=hS.add (A:=YW wm (Y8 Zj) (q.1.1,q.1.2) q.2.kids) (YS.1 ((hS.get k2 e he).2.2 _ hmem)) (fun _ z=>z);have hr:(q.2,true)=r:=by have:=Oi0 hL;rw[hq']at this;exact this
   subst hr;exact YK.gen (vs:=[.agg #[.int .i64 q.2.op,.int .i64 q.2.n,.string q.2.text,.slice q.1.1 q.2.kids.length q.1.2],.bool true]) rfl (X4 (YM rfl (YM rfl e4)) (Jf UH Xg (hS.UL k1) (j:=0) rfl rfl (ws:=[.int .i64 q.2.op,.int .i64 q.2.n,.string q.2.text,.slice q.1.1 q.2.kids.length q.1.2]) rfl) (Zn (Zm fh rfl) Zk)) rfl ⟨_,⟨q.1.1,q.1.2,rfl,rfl⟩,hT▸hS.only (.c k0 (.c k2 .n))⟩
  ·rw[show((ZT e.es x).map (·.2)).isSome=(ZT e.es x).isSome by cases ZT e.es x<;>rfl]at hL;replace hL:=XJ hc hL;refine WC.skip ?_;refine YG.Yc ?_;refine ZP.Yc ?_;refine WC.region ?_;refine V2 (Ym (Zm (YM rfl (YA rfl (Ya rfl e6))) rfl)) ?_;refine V2 (Zes (Zm fh rfl)) ?_;refine V2 (YT ZpR (Zm fh rfl)) ?_;refine V2 (ZU ZAR (Zm fh rfl) (ZlA hS k2 he) (j:=1) rfl (v:=Zdo e.ar) rfl) ?_;refine V2 (Yy (Zm fh rfl)) ?_;refine WO.nil ?_;exact ZO.Yc (YL _ _ hL ⟨_,_,e.ar,rfl,hS.only (.c k1 (.c k1 .n)),hr,YM rfl (YM rfl (Ya rfl (Zg rfl e1))),YM rfl (YM rfl (Ya rfl (Zg rfl e4))),fh⟩)
 ·cases hr with
  | cons he hr=>cases hc
  | nil=>
  dsimp only[Zj2]at hL;refine WC.exit ?_;refine ZP.exit ?_;refine ZO.exit ?_;refine r4 ?_;refine V2 (Qy Zuo Z0 rfl (cs':=[.int .i64 0,.int .i64 0,.string (⟨#[]⟩:Y),.slice none 0 0]) rfl) ?_;refine r1 ?_;rintro h22 hS;refine r4 ?_;have hS:=hS.add (A:=YW wm (Y8 Zj) (none,0) []) Sl.nil (fun _ z=>z);have hr:=Oi0 hL;subst hr;exact YK.gen (vs:=[.agg #[.int .i64 0,.int .i64 0,.string (⟨#[]⟩:Y),.slice none 0 0],.bool false]) rfl (X4 (YA rfl e4) (Jf UH Xg (hS.UL k1) (j:=0) rfl rfl (ws:=[.int .i64 0,.int .i64 0,.string (⟨#[]⟩:Y),.slice none 0 0]) rfl) (Zn lk Zk)) rfl ⟨_,⟨none,0,rfl,rfl⟩,hT▸hS.only (.c k0 (.c k1 .n))⟩
abbrev MB:=U (Y×Z)
structure FV(wm:Nat) where
 v:Value
 A:Ast wm
def noA(wm:Nat):Ast wm:=⟨fun _=>True,fun _=>False,fun _ _ _=>trivial,fun _ z=>z.elim⟩
abbrev FV0{wm:Nat}:FV wm:=⟨.nilFunc,noA wm⟩
def wbA(wm w cf:Nat)(ct:O Nat)(fv:FV wm):Ast wm where
 P:=fun h=>(bx wm w [.map (some cf),.map ct,fv.v]).P h/\fv.A.P h
 fp:=fun i=>i=w\/fv.A.fp i
 loc:=fun f k s=>⟨(bx wm w _).loc f (fun i hi=>k i (.inl hi)) s.1,fv.A.loc f (fun i hi=>k i (.inr hi)) s.2⟩
 own:=fun s hi=>hi.elim (fun e=>(bx wm w _).own s.1 e) (fun e=>fv.A.own s.2 e)
section
variable{wm w cf:Nat}{ct:O Nat}{fv:FV wm}{h h0:H}{T:Nat->Prop}{G Gr:U (Ast wm)}
def Ztd(s:Sp wm T h0 G h)(p:Pk G (wbA wm w cf ct fv) Gr):At h w 0 [.map (some cf),.map ct,fv.v]:=At.box (s.get p).1.1
def ZGf(hS:Sp wm T h0 ([bx wm w [.map (some cf),.map ct,fv.v],fv.A]++Gr) h):Sp wm T h0 ([wbA wm w cf ct fv]++Gr) h:=
 hS.say (Yb.one ⟨hS.get (Gr:=_) k0,hS.get (Gr:=_) k1⟩) fun i hi=>by
   obtain⟨A,hA,hi⟩:=hi;rw[G9.1 hA]at hi;rcases hi with rfl|hi
   ·exact⟨_,Gz,rfl⟩
   ·exact⟨fv.A,by simp,hi⟩
end
abbrev Wm(wm w cf:Nat)(ct:O Nat)(fv:FV wm)(free taken:MB)(S:U SE):U (Ast wm):=
 [wbA wm w cf ct fv,mp wm Value.string Value.bool (some cf) free,mp wm Value.string Value.bool ct taken,stA wm w S]
def Zjg:(XX.fns.get 149).isSome=true:=Kq0
def okP{α:Type}:PR α->O α
 | .ok a=>some a
 | .Yd _=>none
def ZoJ{α β:Type}{x:O (PR α)}{f:α->β}{r:β}(h:((x.bind okP).map f)=some r):∃a,x=some (.ok a)/\f a=r:=by
 cases x with
 | none=>cases h
 | some p=>
   cases p with
   | ok a=>exact⟨a,rfl,Oi0 h⟩
   | Yd e=>cases h
def YK.ZmV{X:Ctx}{fn:Func}{β:Type}{wm:Nat}{t:J}{K:β->N->U (Ast wm)->Prop}{Ga G:U (Ast wm)}{h0 h:H}{T:Nat->Prop}{k:Int}{fr:Fr}{wr:O Nat}(hT:T=Ji Ga)(hS:Sp wm T h0 G h):YK X fn (PQ t K Ga h0 (.Yd k)) (.panic (pv t k)) ⟨fr,[],h,wr⟩:=⟨⟨rfl,rfl,hT▸hS.only .n⟩⟩
def Zma(F:Nat)(free:MB)(c:U NM)(x:Y):O (PR (MB×Y)):=
 (ZhB F c x).bind fun y=>bif !y.2 then some (.ok (Xx free x true,x)) else bif y.1.op !=2 then some (.Yd 7) else some (.ok (free,y.1.text))
def Zj1(F:Nat)(free:MB)(c:U NM)(x:Y):O (MB×Y):=((Zma F free c x).bind okP).map id
def Zj0{F wm w cf:Nat}{ct:O Nat}{fv:FV wm}{free taken:MB}{S:U SE}{h:H}{b:Nat}{c:U NM}{x:Y}{r:PR (MB×Y)}(Zv:wm<=h.size)(hr:Rd S (some b) c)(hO:Yb (Wm wm w cf ct fv free taken S) h)(hL:Zma F free c x=some r):
 WF XX 149 #[pV b,.string x] wm h (PQ 147 (fun(r:MB×Y) v (Gb:U (Ast wm))=>v=.string r.2/\Gb=Wm wm w cf ct fv r.1 taken S) (Wm wm w cf ct fv free taken S) h r):=by
 refine WF.begin (args:=[_,_]) (fn:=Tryz.f149) Kq0 (by exact rfl) Tryz.ntmps149 (by simp) ?_;simp only[ZE,ZJ,Nat.reduceAdd];obtain⟨T,hT,hS⟩:∃T,T=Ji (Wm wm w cf ct fv free taken S)/\Sp wm T h (Wm wm w cf ct fv free taken S) h:=⟨_,rfl,Sp.start Zv hO⟩
 unfold Zma at hL
 obtain⟨e,he,hbe,ar,c',hc',hr'⟩:∃e,e∈S/\e.b=b/\∃ar c',c=Zrx e.es::c'/\e.ar=ar:=by
  cases hr with
  | @cons e c' he hr=>exact⟨e,he,rfl,_,c',rfl,rfl⟩
 subst hbe;refine r8 ?_;refine r1 ?_;obtain⟨y,hy,hL⟩:=bS hL;refine V3 (Yi.fn ZxX (Zb (Zm (Zg rfl fh) rfl) (Zb (Zm fh rfl) Zd))) hS (.c k3 .n) (fun g' hz hf hO=>Zt3 (hS.V6 hz) hr hO hy) ?_;rintro _ h5 _ ⟨ra,rc,rfl,rfl⟩ hS;refine r1 ?_;refine V2 (Xk (Zm fh rfl) rfl)<|V2 (Xk (Zm (Zg rfl fh) rfl) rfl)<|r1 ?_;rintro _ h8 ⟨b7,eb7,rfl,hS⟩;refine r1 ?_;rintro h9 hS;refine r8 ?_;refine r2 ?_;refine cn hL ?_ ?_
 ·intro hc hL;refine r4 ?_;refine r1 ?_;refine V2 (ZU Zkx (Zm fh rfl) (ZlA hS k2 he) (j:=0) rfl (v:=pV w) rfl)<|r2 ?_;refine V2 (ZU ZqL (Zm fh rfl) (Ztd hS k3) (j:=0) rfl (v:=.map (some cf)) rfl)<|r1 ?_;refine WO.hu gN (ZeJ (kv:=Value.string) (vv:=Value.bool) (v:=true) hS k4 U6 JQ (Zm (Zg rfl fh) rfl) (Zm fh rfl) (UA rfl)) ?_;rintro h10 hS;refine r8 ?_;refine r2 ?_;have hr:=Oi0 hL;subst hr;exact YK.Jr rfl (Zn (Zm fh rfl) Zk) ⟨_,⟨rfl,rfl⟩,hT▸hS.only (.c k4 (.c k0 (.c k3 (.c k2 .n))))⟩
 ·intro hc hL;refine r8 ?_;refine r2 ?_;refine cn hL ?_ ?_
  ·intro hc hL;refine WC.region<|WO.WI gN (Yi.fn Ze6 (Zb (UA rfl) Zd)) hS .n (fun g' hz hf hO=>ZaZ (p0:=7) (hS.V6 hz) rfl) ?_;rintro h12 hS;refine ZP.panic ?_;have hr:=Oi0 hL;subst hr;exact YK.ZmV hT hS
  ·intro hc hL;refine r8 ?_;refine r2 ?_;have hr:=Oi0 hL;subst hr;exact YK.Jr rfl (Zn (Zm fh rfl) Zk) ⟨_,⟨rfl,rfl⟩,hT▸hS.only (.c k3 (.c k3 (.c k3 (.c k2 .n))))⟩
def Zny{F wm w cf:Nat}{ct:O Nat}{fv:FV wm}{free taken:MB}{S:U SE}{h:H}{b:Nat}{c:U NM}{x:Y}{r:MB×Y}(Zv:wm<=h.size)(hr:Rd S (some b) c)(hO:Yb (Wm wm w cf ct fv free taken S) h)(hL:Zj1 F free c x=some r):
 WR XX 149 #[pV b,.string x] wm h (CP (fun v (Gb:U (Ast wm))=>v=.string r.2/\Gb=Wm wm w cf ct fv r.1 taken S) (Wm wm w cf ct fv free taken S) h):=by
 obtain⟨a,ha,rfl⟩:=ZoJ hL;exact PQ.ok (Zj0 Zv hr hO ha)
end
section
def ZxY:(XX.fns.get 117).isSome=true:=Kq0
def Zj3(e:Zi)(Zq:MB×Zi->O (MB×Zi)):Int×MB×U Zi->(Int×MB×U Zi->O (MB×Zi))->O (MB×Zi):=fun(i,fr,acc) Zxk=>
 bif decide (i<(e.kids.length:Int)) then(Yf e.kids i).bind fun x=>(Zq (fr,x)).bind fun y=>(app 56 acc [y.2]).bind fun z=>Zxk (Xa (i+1),y.1,z) else some (fr,Zi.mk e.op e.n ⟨#[]⟩ acc)
def Zef(F:Nat)(c:U NM):MB×Zi->(MB×Zi->O (MB×Zi))->O (MB×Zi):=fun(fr,e) Zq=>
 bif e.op==2 then(ZhB F c e.text).bind fun y=>bif y.2 then(Zt2 F y.1).bind fun z=>some (fr,z) else some (Xx fr e.text true,e) else loop F (Zj3 e Zq) (0,fr,[])
def ZFD(F:Nat)(c:U NM)(fr:MB)(e:Zi):O (MB×Zi):=loop F (Zef F c) (fr,e)
def ZzW{F wm w cf:Nat}{ct:O Nat}{fv:FV wm}{taken:MB}{S:U SE}{b:Nat}{c:U NM}(hr:Rd S (some b) c):∀(Fr:Nat)(x:MB×Zi)(r:MB×Zi),loop Fr (Zef F c) x=some r->(match x with | (free,p0)=>∀{h:H}{pa:O Addr}{pc:Nat}(Zv:wm<=h.size)(hsp:Sl Zj wm h pa pc p0.kids)(hO:Yb (Wm wm w cf ct fv free taken S) h),WR XX 117 #[pV b,.agg #[GX p0.op,GX p0.n,.string p0.text,.slice pa p0.kids.length pc]] wm h (CP (fun v (Gb:U (Ast wm))=>∃(ra:O Addr) (rc:Nat),v=.agg #[GX r.2.op,GX r.2.n,.string r.2.text,.slice ra r.2.kids.length rc]/\Gb=YW wm (Y8 Zj) (ra,rc) r.2.kids::Wm wm w cf ct fv r.1 taken S) (Wm wm w cf ct fv free taken S) h)):=by
 obtain⟨e,he,hbe⟩:∃e,e∈S/\e.b=b:=by
  cases hr with
  | @cons e c' he hr=>exact⟨e,he,rfl⟩
 subst hbe;refine Xd _ ?_;rintro Zq YL ⟨free,p0⟩ r hL h pa pc Zv hsp hO;refine WF.begin (args:=[_,_]) (fn:=Tryz.f117) Kq0 (by exact rfl) Tryz.ntmps117 (by simp) ?_;simp only[ZE,ZJ,Nat.reduceAdd];obtain⟨T,hT,hS⟩:∃T,T=Ji (Wm wm w cf ct fv free taken S)/\Sp wm T h (Wm wm w cf ct fv free taken S) h:=⟨_,rfl,Sp.start Zv hO⟩
 refine r3 ?_;rintro _ h3 ⟨b2,eb2,rfl,hS⟩;refine r1 ?_;rintro _ h5 ⟨b4,eb4,rfl,hS⟩;refine r8 ?_;refine r2 ?_;refine cn hL ?_ ?_
 ·intro hc hL;obtain⟨y,hy,hL⟩:=bS hL;refine r4 ?_;refine r1 ?_;refine V3 (Yi.fn ZxX (Zb (Zm (Ya rfl fh) rfl) (Zb (Zm fh rfl) Zd))) hS (.c k5 .n) (fun g' hz hf hO=>Zt3 (hS.V6 hz) hr hO hy) ?_;rintro _ h6 _ ⟨ra,rc,rfl,rfl⟩ hS;refine r1 ?_;refine V2 (Xk (Zm fh rfl) rfl)<|V2 (Xk (Zm (Zg rfl fh) rfl) rfl)<|r1 ?_;rintro _ h8 ⟨b7,eb7,rfl,hS⟩;refine r1 ?_;rintro h9 hS;refine r8 ?_;refine r1 ?_;refine cn hL ?_ ?_
  ·intro hc hL;obtain⟨z,hz,hL⟩:=bS hL;refine r3 ?_;refine V3 (Yi.fn Zyx (Zb (Zm fh rfl) Zd)) hS .n (fun g' hz' hf hO=>ZDj (by rw[hz'];exact hS.hw) ((hS.fsl k1).mono hf) hz) ?_;rintro _ h10 _ ⟨ra2,rc2,rfl,rfl⟩ hS;refine r1 ?_;rintro h11 hS;refine r4 ?_;refine r1 ?_;have hr:=Oi0 hL;subst hr;exact YK.Jr rfl (X4 (YM rfl (YA rfl (Ya rfl (Zg rfl fh)))) (Jf UH Xg (hS.UL k0) (j:=0) rfl rfl (ws:=[GX z.op,GX z.n,.string z.text,.slice ra2 z.kids.length rc2]) rfl) Zk) ⟨_,⟨ra2,rc2,rfl,rfl⟩,hT▸hS.only (.c k1 (.c k5 (.c k5 (.c k5 (.c k3 .n)))))⟩
  ·intro hc hL;refine r3 ?_;refine WC.JK mixed Kq0<|r3 ?_;refine V5 (ZU Zkx (Zm fh rfl) (ZlA hS k2 he) (j:=0) rfl (v:=pV w) rfl)<|r2 ?_;refine V5 (ZU ZqL (Zm fh rfl) (Ztd hS k5) (j:=0) rfl (v:=.map (some cf)) rfl)<|r2 ?_;refine WX.hu gN (ZeJ (kv:=Value.string) (vv:=Value.bool) (k:=p0.text) (v:=true) hS k6 U6 JQ (Zm (Ya rfl fh) rfl) (Zm fh rfl) (UA rfl)) ?_ rfl rfl [] Kq0 Xf.e;rintro h10 hS;refine r6 ?_;rintro h11 hS;refine r4 ?_;have hS:=hS.add (A:=YW wm (Y8 Zj) (pa,pc) p0.kids) (hS.sl hsp) (fun _ z=>z);have hr:=Oi0 hL;subst hr;exact YK.Jr rfl (X4 (YM rfl (YM rfl (YA rfl (Ya rfl (Zg rfl fh))))) (Jf UH Xg (hS.UL k1) (j:=0) rfl rfl (ws:=[GX p0.op,GX p0.n,.string p0.text,.slice pa p0.kids.length pc]) rfl) Zk) ⟨_,⟨pa,pc,rfl,rfl⟩,hT▸hS.only (.c k0 (.c k6 (.c k1 (.c k5 (.c k3 .n)))))⟩
 ·intro hc hL;refine r8 ?_;refine V2 (Qy Zuo (ZA (Zm (Ya rfl fh) rfl) (ZA (Zm fh rfl) Z0)) rfl (cs':=[GX p0.op,GX p0.n,.string (⟨#[]⟩:Y),GW]) rfl)<|r1 ?_;rintro _ h7 ⟨b7,eb7,rfl,hS⟩;refine r1 ?_;rintro h8 hS;refine r12 ?_;have hS:=hS.nil (e:=Zj);refine WC.loop (WL.lift hL (fun(p:Int×MB×U Zi)(s:Fs)=>match p with | (i,fr,acc)=>∃(Qw:Fr) (h9:H) (a18:O Addr) (c19:Nat) (n20:Nat),s=⟨Qw,[],h9,none⟩/\Sp wm T h (bx wm b4 [GX 0,GX 0,.string (⟨#[]⟩:Y),GW]::ow wm Zj a18 n20 c19 acc::bx wm b7 [GX p0.op,GX p0.n,.string (⟨#[]⟩:Y),.slice a18 n20 c19]::Wm wm w cf ct fv fr taken S) h9/\Qw.at 0=pV e.b/\Qw.at 4=(GY b4)/\Qw.at 7=(GY b7)/\Qw.at 39=.slice pa p0.kids.length pc/\Qw.at 40= GX (p0.kids.length:Int)/\Qw.at 41= GX i) ⟨_,_,none,0,0,rfl,hS.only (.c k2 (.c k0 (.c k0 (.c k1 (.c k1 (.c k1 (.c k1 .n))))))),(YM rfl (YM rfl fh)),(YM rfl (YA rfl (Zg rfl fh))),(YA rfl fh),(Ya rfl fh),(Zg rfl fh),fh⟩ ?_);rintro K7 ⟨i,fr,acc⟩ s Jm hL ⟨Qw,h9,a18,c19,n20,rfl,hS,e0,e4,e7,e39,e40,e41⟩;obtain rfl:=hS.on k1;refine r6 ?_;refine cn hL ?_ ?_
  ·intro hc hL;refine r6 ?_;obtain⟨Kh,Zav,hL⟩:=bS hL;obtain⟨b23,o24,⟨a25,c26⟩,J5,J7,J6,XY⟩:=Sl.at_ hsp Zav;replace XY:=YS.1 XY;refine V2 (ZF Kq Xg (Zm (Zg rfl e39) rfl) (Zm (Zg rfl e41) rfl) rfl J5 Zav) ?_;have KD:Sl Zj wm h a25 c26 Kh.kids:=XY;refine V2 (YB UH Xg (Zm fh rfl) (At.fz hS.fz J6 J7) (j:=0) rfl rfl (ws:=[GX Kh.op,GX Kh.n,.string Kh.text,.slice a25 Kh.kids.length c26]) rfl)<|r1 ?_;rintro _ h28 ⟨b27,ZRJ,rfl,hS⟩;refine r1 ?_;rintro h29 hS;refine r2 ?_;refine WC.JK mixed Kq0<|r1 ?_;refine WX.wr (fun x=>x=b7) hS gN rfl (fun _ _ hR=>ZU ZAP (Zm fh rfl) (At.eqv (hR b7 rfl) (hS.UL k3)) (j:=3) rfl (v:=.slice a18 acc.length c19) rfl) ?_ rfl rfl;rintro h30 e30 hS;refine r2 ?_;obtain⟨x30,ZdZ,hL⟩:=bS hL;refine WX.cl gN rfl (Yi.fn ZxY (Zb (Zm (Zg rfl fh) rfl) (Zb (Zm fh rfl) Zd))) hS (.c k4 (.c k4 (.c k4 (.c k4 .n)))) (fun g' hz hf hO=>(YL _ _ ZdZ) (hS.V6 hz) ((hS.sl KD).mono hf) hO) ?_ rfl rfl [1] Kq0 (.c .z (hS.djs (.c k3 (.c k3 (.c k3 (.c k3 (.c k3 .n)))))) Xf.e);rintro _ h34 _ ⟨a31,c33,rfl,rfl⟩ hS;refine WX.hn gN rfl (Uj (e:=Zj) hS Kq Xg Zf8 rfl rfl rfl (ZA (Zm fh rfl) Z0) rfl [((a31,c33),x30.2)] rfl (xs:=[x30.2]) rfl (by intro q hq;simp only[Ks,Jx,or_false]at hq;subst hq;exact(YS.2 (hS.fsl k0))) rfl) ?_ Kq0;rintro _ h37 ⟨b36,ZDD,rfl,hS⟩;obtain⟨z38,ZGW,hL⟩:=bS hL;refine WX.hv gN rfl (JY (e:=Zj) hS k8 Zkt (Zm (YA rfl fh) rfl) (Zm fh rfl) (hS.QF k0) (hS.on k0) ZGW) ?_ rfl Kq0 [] Kq0 Xf.e;rintro _ h41 ⟨a39,c40,rfl,hS⟩;refine WX.w gN rfl (YT Znp (Zm (YM rfl (Ya rfl (Zg rfl e7))) rfl)) ?_ Kq0;refine WX.hu gN (Uy hS k9 ZmM (Zm fh rfl) (Zm (Zg rfl fh) rfl) (vs:=[.slice a39 z38.length c40]) rfl rfl rfl rfl (cs':=[GX p0.op,GX p0.n,.string (⟨#[]⟩:Y),.slice a39 z38.length c40]) rfl) ?_ rfl Kq0 [] Kq0 Xf.e;rintro h42 hS;refine r6 ?_;refine r1 ?_;exact ZO.Yc (Jm _ _ hL ⟨_,_,a39,c40,z38.length,rfl,hS.only (.c k9 (.c k1 (.c k0 (.c k2 (.c k2 (.c k2 (.c k2 .n))))))),(YM rfl (YA rfl (Ya rfl e0))),(YM rfl (YA rfl (Ya rfl e4))),(YM rfl (YA rfl (Ya rfl e7))),(YM rfl (YA rfl (Ya rfl e39))),(YM rfl (YA rfl (Ya rfl e40))),fh⟩)
  ·intro hc hL;refine r8 ?_;refine r1 ?_;rintro h43 hS;refine r2 ?_;refine WC.fzn hS k1 ?_;rintro h44 ⟨hn45,hS⟩;refine r1 ?_;have hr:=Oi0 hL;subst hr;exact YK.Jr rfl (X4 (Ya rfl e4) (Jf UH Xg (hS.UL k1) (j:=0) rfl rfl (ws:=[GX p0.op,GX p0.n,.string (⟨#[]⟩:Y),.slice a18 acc.length c19]) rfl) Zk) ⟨_,⟨a18,c19,rfl,rfl⟩,hT▸hS.only (.c k0 (.c k2 (.c k2 (.c k2 (.c k2 .n)))))⟩
end
end Go.Proofs.YtbnepjakjmnadaaGreat
end
end
section
set_option maxRecDepth 20000
noncomputable section
namespace Go.ZY
open Go.Lf
variable{P:GQ}
def Zv2{t:J}{x:GP}{a b c}(hu:P.underlying t=some (.func a b c)):QM P .neq t x (.const .nilFunc) .nilFunc .nilFunc=some (.val (.bool false),.none):=by
 unfold QM;rw[show(plain .nilFunc&&plain .nilFunc)=true from rfl,Cq1];unfold Ku
 have h1:Zz P (eqGuard .neq t x (.const .nilFunc) .nilFunc .nilFunc)=some (.ok ()):=by
  cases x<;>rfl
 rw[prb h1]
 have h2:Zz P (Op.equal t .nilFunc .nilFunc)=some (.ok true):=by
  show Zz P (Op.equalIn (9999+1) t .nilFunc .nilFunc)=_;unfold Op.equalIn;rw[prb (Y6 hu)];rfl
 have:Zz P (binOp .neq t .nilFunc .nilFunc)=some (.ok (.bool false)):=by
  show Zz P (do pure (Value.bool (!(<-Op.equal t .nilFunc .nilFunc))):Sem N)=_;rw[prb h2];rfl
 rw[this];rfl
def Zu5{κ ν μ:Type}[DecidableEq κ](f:ν->μ)(l:U (κ×ν))(k:κ)(x:ν):(Xx l k x).map (fun q=>(q.1,f q.2))=Xx (l.map fun q=>(q.1,f q.2)) k (f x):=by
 unfold Xx;rw[Zi0];cases h:Yj l k with
 | none=>simp
 | some q=>
   simp only[Option.map_some];refine List.ext_getElem? fun i=>?_
   simp only[GG,List.getElem?_modify];by_cases hi:q.1=i
   ·subst hi;simp only[if_pos];cases l[q.1]?<;>rfl
   ·simp only[if_neg hi];cases l[i]?<;>rfl
def Zxs{κ ν:Type}[DecidableEq κ]{l:U (κ×ν)}{k:κ}{x:ν}{q:κ×ν}(h:q∈Xx l k x):q∈l\/q.2=x:=by
 unfold Xx at h;cases hf:Yj l k with
 | none=>
   rw[hf]at h;rcases G8.1 h with h|h
   ·exact .inl h
   ·rw[G9.1 h];exact .inr rfl
 | some p=>
   rw[hf]at h;obtain⟨i,hi⟩:=Gy h;rw[List.getElem?_modify]at hi;cases hl:l[i]? with
   | none=>rw[hl]at hi;cases hi
   | some y=>
     rw[hl]at hi;have hi:some (if p.1=i then(y.1,x) else y)=some q:=hi;by_cases hp:p.1=i
     ·rw[if_pos hp]at hi;cases hi;exact .inr rfl
     ·rw[if_neg hp]at hi;cases hi;exact .inl (GM hl)
end Go.ZY
end
end
section
set_option maxRecDepth 20000
noncomputable section
namespace Go.Proofs.YtbnepjakjmnadaaGreat
open Go.ZY Go.Lf
section
def ZxW:(XX.fns.get 150).isSome=true:=Kq0
def ZCN:(XX.fns.get 172).isSome=true:=Kq0
def ZGt:∃a b c,XX.P.underlying 108=some (.func a b c):=⟨_,_,_,Tryz.underlying108⟩
def Zs6:YP XX.P 164=some (.agg #[.pointer none,.pointer none,.map none]):=Kq0
instance:UM XX.P 164 (.agg #[.pointer none,.pointer none,.map none]):=⟨Zs6⟩
def ZAr:Jq XX.P 164 [.pointer none,.pointer none,.map none] [(0,1),(1,1),(2,1)]:=⟨_,_,Zs6,rfl,Tryz.underlying164,by kernel_rfl⟩
def esA(wm:Nat)(es:U (Y×EV)):Ast wm where
 P:=fun h=>∀x∈es,ZcD wm h x.2.1 x.2.2
 fp:=fun _=>False
 loc:=fun f _ s x hx=>(s x hx).mono f
 own:=fun _ z=>z.elim
def ZwF{wm w:Nat}{S:U SE}{h h0:H}{T:Nat->Prop}{Gr:U (Ast wm)}{b:Nat}{ar m:O Nat}{es:U (Y×EV)}
 (hS:Sp wm T h0 ([bx wm b [pV w,Zdo ar,.map m],mp wm Value.string vvE m es,esA wm es,stA wm w S]++Gr) h):Sp wm T h0 ([stA wm w (⟨b,ar,m,es⟩::S)]++Gr) h:=by
 have h1:=hS.get (Gr:=_) k0;have h2:=hS.get (Gr:=_) k1;have h3:=hS.get (Gr:=_) k2;have h4:=hS.get (Gr:=_) k3;refine hS.say (Yb.one fun x hx=>?_) fun i hi=>?_
 ·rcases Ks.1 hx with rfl|hx
  ·exact⟨⟨h1.1,h1.2⟩,h2,h3⟩
  ·exact h4 x hx
 ·obtain⟨A,hA,hi⟩:=hi;rw[G9.1 hA]at hi;obtain⟨x,hx,hi⟩:=hi;rcases Ks.1 hx with rfl|hx
  ·rcases hi with rfl|hi
   ·exact⟨_,Gz,rfl⟩
   ·exact⟨_,KB _ Gz,hi⟩
  ·exact⟨stA wm w S,by simp,x,hx,hi⟩
def ZjY(names to:U Y):Int×NM->(Int×NM->O NM)->O NM:=fun(i,m) next=>bif decide (i<(names.length:Int)) then(Yf names i).bind fun x=>(Yf to i).bind fun y=>(Zt0 y).bind fun z=>next (Xa (i+1),Xx m x z) else some m
def ZjZ(F:Nat)(names:U Y):O NM:=loop F (ZjY names names) (0,[])
def ZzR{F wm w cf:Nat}{ct:O Nat}{free taken:MB}{S:U SE}{h:H}{b:Nat}{c:U NM}{names:U Y}{pa:O Addr}{pc:Nat}{wv:N}{r:NM}(Zv:wm<=h.size)(hr:Rd S (some b) c)(hsp:Sl Zx wm h pa pc names)(hO:Yb (Wm wm w cf ct FV0 free taken S) h)(hL:ZjZ F names=some r):
 WR XX 150 #[pV b,.slice pa names.length pc,wv] wm h (CP (fun v (Gb:U (Ast wm))=>∃(S':U SE) (b':Nat),(∀e∈S,e∈S')/\v=Zdo (some b')/\Rd S' (some b') (r::c)/\Gb=Wm wm w cf ct FV0 free taken S') (Wm wm w cf ct FV0 free taken S) h):=by
 refine WF.begin (args:=[_,_,_]) (fn:=Tryz.f150) Kq0 (by exact rfl) Tryz.ntmps150 (by simp) ?_;simp only[ZE,ZJ,Nat.reduceAdd];obtain⟨T,hT,hS⟩:∃T,T=Ji (Wm wm w cf ct FV0 free taken S)/\Sp wm T h (Wm wm w cf ct FV0 free taken S) h:=⟨_,rfl,Sp.start Zv hO⟩
 unfold ZjZ at hL
 obtain⟨e,he,hbe⟩:∃e,e∈S/\e.b=b:=by
  cases hr with
  | @cons e c' he hr=>exact⟨e,he,rfl⟩
 subst hbe;refine r16 ?_;refine r1 ?_;refine V2 (ZU Zkx (Zm fh rfl) (ZlA hS k3 he) (j:=0) rfl (v:=pV w) rfl)<|r2 ?_;refine V2 (ZU ZAS (Zm fh rfl) (Ztd hS k0) (j:=2) rfl (v:=.nilFunc) rfl) ?_;obtain⟨ua,ub,uc,hu⟩:=ZGt;refine V2 (Xo (Zm fh rfl) (UA rfl) (Zv2 hu))<|r2 ?_;refine WC.U9 (Zm fh rfl) (fun hc=>?_) (fun hc=>?_)
 ·cases hc
 ·refine WC.skip<|r6 ?_;refine V2 (ZU Zkx (Zm fh rfl) (ZlA hS k3 he) (j:=0) rfl (v:=pV w) rfl)<|r1 ?_;refine V4 (Zhn Value.string vvE hS) ?_;rintro _ h2 ⟨bm,ebm,rfl,hS⟩;refine V2 (Qy ZAr (ZA (Zm (Ya rfl fh) rfl) (ZA (Zm (Zg rfl fh) rfl) (ZA (Zm fh rfl) Z0))) rfl (cs':=[pV w,pV e.b,.map (some bm)]) rfl)<|r1 ?_;rintro _ h3 ⟨bs,ebs,rfl,hS⟩;refine r12 ?_;have hS:=hS.add (A:=esA wm []) (fun x hx=>by cases hx) (fun _ z=>z);refine WC.loop (WL.lift hL (fun(p:Int×NM)(s:Fs)=>match p with | (i,m)=>∃(Qw:Fr) (h9:H) (es:U (Y×EV)),s=⟨Qw,[],h9,none⟩/\Sp wm T h (bx wm bs [pV w,pV e.b,.map (some bm)]::mp wm Value.string vvE (some bm) es::esA wm es::Wm wm w cf ct FV0 free taken S) h9/\Zrx es=m/\Qw.at 7=.slice pa names.length pc/\Qw.at 8=(GY bs)/\Qw.at 39=.slice pa names.length pc/\Qw.at 40= GX (names.length:Int)/\Qw.at 41= GX i) ⟨_,_,[],rfl,hS.only (.c k1 (.c k1 (.c k0 (.c k0 (.c k0 (.c k0 (.c k0 .n))))))),rfl,(YM rfl (YM rfl (YA rfl fh))),(Ya rfl (Zg rfl fh)),(Ya rfl fh),(Zg rfl fh),fh⟩ ?_);rintro K7 ⟨i,m⟩ s Jm hL ⟨Qw,h9,es,rfl,hS,rfl,e7,e8,e39,e40,e41⟩;refine r6 ?_;refine cn hL ?_ ?_
  ·intro hc hL;refine r6 ?_;refine r1 ?_;obtain⟨Kh,Zav,hL⟩:=bS hL;obtain⟨b23,o24,_,J5,J7,J6,XY⟩:=Sl.at_ hsp Zav;refine V2 (ZF Qq QB (Zm (Ya rfl e39) rfl) (Zm (Ya rfl e41) rfl) rfl J5 Zav)<|V2 (ZU ZaE (Zm fh rfl) (At.fz hS.fz J6 J7) (j:=0) rfl (v:=.string Kh) rfl)<|r4 ?_;refine WC.JK mixed Kq0<|r6 ?_;refine r1 ?_;obtain⟨x25,hx25,hL⟩:=bS hL;obtain⟨b26,o27,_,Zpn,ZpJ,ZpG,Zhz⟩:=Sl.at_ hsp hx25;refine V5 (ZF Qq QB (Zm (Zg rfl fh) rfl) (Zm fh rfl) rfl Zpn hx25)<|V5 (ZU ZaE (Zm fh rfl) (At.fz hS.fz ZpG ZpJ) (j:=0) rfl (v:=.string x25) rfl) ?_;obtain⟨z,hz,hL⟩:=bS hL;refine WX.cl0 gN rfl (Yi.fn ZCN (Zb (Zm fh rfl) Zd)) hS .n (fun g' hz' hf hO=>ZDh (by rw[hz'];exact hS.hw) hz) ?_ rfl rfl;rintro _ h34 _ ⟨a31,c33,rfl,rfl⟩ hS;refine WX.hu gN (ZeJ (kv:=Value.string) (vv:=vvE) (k:=Kh) (v:=((a31,c33),z)) hS k2 U6 Zwx (Zm (YA rfl (Ya rfl fh)) rfl) (Zm (YA rfl (Zg rfl fh)) rfl) (Zm fh rfl)) ?_ rfl Kq0 [] Kq0 Xf.e;rintro h35 hS
   have hS:=hS.add (A:=esA wm (Xx es Kh ((a31,c33),z))) (fun x hx=>by
    rcases Zxs hx with q|q
    ·exact hS.get k3 x q
    ·rw[q];exact YS.2 (hS.fsl k1)) (fun _ z=>z)
   refine r6 ?_;refine r1 ?_;exact ZO.Yc (Jm _ _ hL ⟨_,_,Xx es Kh ((a31,c33),z),rfl,hS.only (.c k3 (.c k1 (.c k0 (.c k2 (.c k2 (.c k2 (.c k2 .n))))))),Zu5 (fun q:EV=>q.2) es Kh ((a31,c33),z),(YM rfl (YM rfl (Ya rfl e7))),(YM rfl (YM rfl (Ya rfl e8))),(YM rfl (YM rfl (Ya rfl e39))),(YM rfl (YM rfl (Ya rfl e40))),fh⟩)
  ·intro hc hL;refine r12 ?_;have hr':=Oi0 hL;subst hr';have hS:=ZwF (S:=S) (b:=bs) (ar:=some e.b) (m:=some bm) (es:=es) (hS.only (.c k0 (.c k0 (.c k0 (.c k3 (.c k0 (.c k0 (.c k0 .n))))))));exact YK.Jr rfl (Zn (Zm fh rfl) Zk) ⟨_,⟨⟨bs,some e.b,some bm,es⟩::S,bs,fun x hx=>KB _ hx,rfl,Rd.cons (e:=⟨bs,some e.b,some bm,es⟩) Gz (hr.mono fun x hx=>KB _ hx),rfl⟩,hT▸hS.only (.c k1 (.c k1 (.c k1 (.c k0 .n))))⟩
end
section
def Zb4:(XX.fns.get 118).isSome=true:=Kq0
def ZxV:(XX.fns.get 173).isSome=true:=Kq0
def ZsJ:ZdM XX.P #[128,128] 2 40:=⟨136,.agg #[.string ⟨#[]⟩,GW],by kernel_rfl⟩
def Zrn:Yz XX.P 31=some 1:=Kq0
instance:SzF XX.P 31 1:=⟨Zrn⟩
def Zth:Yz XX.P 128=some 1:=Kq0
instance:SzF XX.P 128 1:=⟨Zth⟩
def ZAt:Jq XX.P 130 [GX 0,.string ⟨#[]⟩,GW,GW,GW] [(0,1),(1,1),(2,1),(3,1),(4,1)]:=⟨_,_,WQ,rfl,Tryz.underlying130,by kernel_rfl⟩
def ZJj:Jq XX.P 136 [.string ⟨#[]⟩,GW] [(0,1),(1,1)]:=⟨_,_,ZcF,rfl,Tryz.underlying136,by kernel_rfl⟩
abbrev WS:=MB×MB
abbrev UW:=MB->U NM->U Y->O MB->O (MB×NM)
def Zc0(F:Nat)(ci:U NM)(i:Int)(next:Int×MB×U Yl->O (PR (WS×Za)))(js:U Yl)(m:Yl)(tx:Y):Int×MB×U Y->(Int×MB×U Y->O (PR (WS×Za)))->O (PR (WS×Za)):=fun(j,fr,ns) Zxk=>
 bif decide (j<(m.names.length:Int)) then(Yf m.names j).bind fun x=>(Zj1 F fr ci x).bind fun y=>(app 16 ns [y.2]).bind fun z=>Zxk (Xa (j+1),y.1,z) else(app 40 js [Yl.mk tx ns]).bind fun z=>next (Xa (i+1),fr,z)
def Zc1(F:Nat)(Us:WS×U NM×Term->O (PR (WS×Term)))(c ci:U NM)(tk:MB)(p0:Za):Int×MB×U Yl->(Int×MB×U Yl->O (PR (WS×Za)))->O (PR (WS×Za)):=fun(i,fr,js) next=>
 bif decide (i<(p0.joins.length:Int)) then(Yf p0.joins i).bind fun m=>(Zj1 F fr c m.text).bind fun y=>loop F (Zc0 F ci i next js m y.2) (0,y.1,[]) else(Yf p0.kids 0).bind fun k=>(Us ((fr,tk),ci,k)).bind fun z=>JR z (fun e=>some (.Yd e)) fun z=>some (.ok (z.1,Za.mk p0.form ⟨#[]⟩ js [] [z.2]))
def Zfd(F:Nat)(Yk:UW)(WY:Za->U Y->O MB)(Us:WS×U NM×Term->O (PR (WS×Term)))(ws:WS)(c:U NM)(p0:Za):Int×U Y->(Int×U Y->O (PR (WS×Za)))->O (PR (WS×Za)):=fun(i,names) next=>
 bif decide (i<(p0.joins.length:Int)) then(Yf p0.joins i).bind fun m=>(app 16 names m.names).bind fun z=>next (Xa (i+1),z) else(Yk ws.2 c names (WY p0 names)).bind fun bd=>loop F (Zc1 F Us c (bd.2::c) bd.1 p0) (0,ws.1,[])
def Zl9(F:Nat)(Yk:UW)(WY:Za->U Y->O MB)(Us:WS×U NM×Term->O (PR (WS×Term)))(ws:WS)(c:U NM)(p0:Za):O (PR (WS×Za)):=loop F (Zfd F Yk WY Us ws c p0) (0,[])
abbrev ZqS(wm:Nat):=N->U (Ast wm)->O MB->Prop
def ZkF(wm w cf:Nat)(ct:O Nat)(fv:FV wm)(WIN:ZqS wm)(Yk:UW):Prop:=
 ∀{h:H}{S:U SE}{b:Nat}{c:U NM}{names:U Y}{pa:O Addr}{pc:Nat}{wv:N}{Gw:U (Ast wm)}{wi:O MB}{free taken:MB}{r:MB×NM},wm<=h.size->Rd S (some b) c->Sl Zx wm h pa pc names->WIN wv Gw wi->Yk taken c names wi=some r->Yb (Gw++Wm wm w cf ct fv free taken S) h ->
   WR XX 150 #[pV b,.slice pa names.length pc,wv] wm h (CP (fun v (Gb:U (Ast wm))=>∃(S':U SE) (b':Nat),(∀e∈S,e∈S')/\v=Zdo (some b')/\Rd S' (some b') (r.2::c)/\Gb=Gw++Wm wm w cf ct fv free r.1 S') (Gw++Wm wm w cf ct fv free taken S) h)
def Zn8(wm w cf:Nat)(ct:O Nat)(fv:FV wm)(Us:WS×U NM×Term->O (PR (WS×Term))):Prop:=
 ∀(x:WS×U NM×Term)(r:PR (WS×Term)),Us x=some r->∀{h:H}{S:U SE}{b:Nat}{p:TmP},wm<=h.size->Rd S (some b) x.2.1->ZB.F wm h p x.2.2->Yb (Wm wm w cf ct fv x.1.1 x.1.2 S) h ->
   WF XX 118 #[pV b,.agg (JX p x.2.2).toArray] wm h (PQ 147 (fun(r:WS×Term) v (Gb:U (Ast wm))=>∃(S':U SE) (q:TmP),(∀e∈S,e∈S')/\v=.agg (JX q r.2).toArray/\Gb=YW wm ZB q r.2::Wm wm w cf ct fv r.1.1 r.1.2 S') (Wm wm w cf ct fv x.1.1 x.1.2 S) h r)
abbrev ZOV(wm b3:Nat)(p:TmP)(x:Za)(b6:Nat)(a:O Addr)(c:Nat)(names:U Y):U (Ast wm):=[bx wm b3 (Kt p x),YW wm Zc p x,bx wm b6 [.slice a names.length c],YW wm (Y8 Zx) (a,c) names]
def Zn6{wm:Nat}(WIN:ZqS wm)(WY:Za->U Y->O MB):Prop:=∀b3 p x b6 a c names,WIN (.func (.func 180) #[] #[(GY b3),(GY b6)]) (ZOV wm b3 p x b6 a c names) (WY x names)
def ZtZ{F wm w cf:Nat}{ct:O Nat}{fv:FV wm}{WIN:ZqS wm}{Yk:UW}{WY:Za->U Y->O MB}{Us:WS×U NM×Term->O (PR (WS×Term))}(hB:ZkF wm w cf ct fv WIN Yk)(hW:Zn6 WIN WY)(Zbk:Zn8 wm w cf ct fv Us)
 {ws:WS} {S:U SE} {h:H} {b:Nat} {c:U NM} {p0:Za} {p:TmP} {r:PR (WS×Za)} (Zv:wm<=h.size) (hr:Rd S (some b) c) (hF:Zc.F wm h p p0) (hO:Yb (Wm wm w cf ct fv ws.1 ws.2 S) h) (hL:Zl9 F Yk WY Us ws c p0=some r):
  WF XX 173 #[pV b,.agg (Kt p p0).toArray] wm h (PQ 147 (fun(r:WS×Za) v (Gb:U (Ast wm))=>∃(S':U SE) (q:TmP),(∀e∈S,e∈S')/\v=.agg (Kt q r.2).toArray/\Gb=YW wm Zc q r.2::Wm wm w cf ct fv r.1.1 r.1.2 S') (Wm wm w cf ct fv ws.1 ws.2 S) h r):=by
 obtain⟨⟨pj,cj⟩,⟨pd,cd⟩,⟨pk,ck⟩⟩:=p;obtain⟨hsj,hsd,hsk⟩:=ZC.1 hF;dsimp only at hsj hsd hsk;refine WF.begin (args:=[_,_]) (fn:=Tryz.f173) Kq0 (by exact rfl) Tryz.ntmps173 (by simp) ?_;simp only[ZE,ZJ,Nat.reduceAdd];obtain⟨T,hT,hS⟩:∃T,T=Ji (Wm wm w cf ct fv ws.1 ws.2 S)/\Sp wm T h (Wm wm w cf ct fv ws.1 ws.2 S) h:=⟨_,rfl,Sp.start Zv hO⟩
 unfold Zl9 at hL;refine WC.seq<|WC.region<|V4 (ZlB hS (Zm fh rfl) (vs:=[GX p0.form,.string p0.text,.slice pj p0.joins.length cj,.slice pd p0.defs.length cd,.slice pk p0.kids.length ck]) rfl) ?_;rintro _ h3 ⟨b3,eb3,rfl,hS⟩;refine V4 (KP hS WQ (vs:=[GX 0,.string (⟨#[]⟩:Y),GW,GW,GW]) rfl) ?_;rintro _ h4 ⟨b4,eb4,rfl,hS⟩;refine WO.nil<|ZP.Yc<|WC.seq<|WC.region<|V2 (YT ZpT (Zm (Zg rfl fh) rfl))<|V2 (ZU Zkw (Zm fh rfl) (hS.UL k1) (j:=0) rfl (v:= GX p0.form) rfl)<|V2 (Qy ZAt (ZA (Zm fh rfl) Z0) rfl (cs':=[GX p0.form,.string (⟨#[]⟩:Y),GW,GW,GW]) rfl)<|V4 (KP hS WQ (vs:=[GX 0,.string (⟨#[]⟩:Y),GW,GW,GW]) rfl) ?_;rintro _ h5 ⟨b5,eb5,rfl,hS⟩;refine WO.hu gN (Uy hS k0 Z8 (Zm fh rfl) (Zm (Zg rfl fh) rfl) (vs:=[GX p0.form,.string (⟨#[]⟩:Y),GW,GW,GW]) rfl rfl rfl rfl (cs':=[GX p0.form,.string (⟨#[]⟩:Y),GW,GW,GW]) rfl) ?_;rintro h6 hS;refine WO.nil<|ZP.Yc<|WC.seq<|WC.region<|V4 (KP hS Zwi (vs:=[GW]) rfl) ?_;rintro _ h7 ⟨b6,eb6,rfl,hS⟩;refine WO.nil<|ZP.Yc<|WC.seq<|WC.seq<|WC.region<|V2 (YT Zcd (Zm (YA rfl (Ya rfl fh)) rfl))<|V2 (ZU Zhb (Zm fh rfl) (hS.UL k3) (j:=2) rfl (v:=.slice pj p0.joins.length cj) rfl)<|V2 (ZfR Jg (Zm fh rfl) rfl)<|V2 (Ym (UA rfl))<|WO.nil<|ZP.Yc<|WC.block ?_;have hS:=hS.nil (e:=Zx);refine WC.loop (WL.lift hL (fun(q:Int×U Y)(s:Fs)=>match q with | (i,names)=>∃(Qw:Fr) (h9:H) (a:O Addr) (n cc:Nat),s=⟨Qw,[],h9,none⟩/\Sp wm T h (bx wm b6 [.slice a n cc]::ow wm Zx a n cc names::bx wm b5 [GX p0.form,.string (⟨#[]⟩:Y),GW,GW,GW]::bx wm b4 [GX 0,.string (⟨#[]⟩:Y),GW,GW,GW]::bx wm b3 [GX p0.form,.string p0.text,.slice pj p0.joins.length cj,.slice pd p0.defs.length cd,.slice pk p0.kids.length ck]::Wm wm w cf ct fv ws.1 ws.2 S) h9/\Qw.at 0=pV b/\Qw.at 3=(GY b3)/\Qw.at 4=(GY b4)/\Qw.at 5=(GY b5)/\Qw.at 6=(GY b6)/\Qw.at 19=.slice pj p0.joins.length cj/\Qw.at 20= GX (p0.joins.length:Int)/\Qw.at 21= GX i) ⟨_,_,none,0,0,rfl,hS.only (.c k1 (.c k0 (.c k0 (.c k0 (.c k0 (.c k0 (.c k0 (.c k0 (.c k0 .n))))))))),(YM rfl (YA rfl fh)),(YM rfl (Ya rfl fh)),(YM rfl (Zg rfl fh)),(YA rfl (Zg rfl fh)),(YA rfl fh),(Ya rfl fh),(Zg rfl fh),fh⟩ ?_);rintro K7 ⟨i,names⟩ s Jm hL ⟨Qw,h9,a,n,cc,rfl,hS,e0,e3,e4,e5,e6,e19,e20,e21⟩;obtain rfl:=hS.on k1;refine WC.seq<|WC.region<|V2 (Xo (Zm e21 rfl) (Zm e20 rfl) ZfX)<|WO.nil<|ZP.Yc<|WC.seq<|WC.U9 (Zm fh rfl) (fun hc=>?_) (fun hc=>?_)
 ·replace hL:=XI hc hL;refine WC.skip<|ZP.Yc<|WC.seq<|WC.block<|WC.seq<|WC.region ?_;obtain⟨m,hm,hL⟩:=bS hL;obtain⟨b23,o24,⟨a25,c26⟩,J5,J7,J6,XY⟩:=Sl.at_ hsj hm;refine V2 (ZF Jg Xb (Zm (Zg rfl e19) rfl) (Zm (Zg rfl e21) rfl) rfl J5 hm) ?_;have KD:Sl Zx wm h a25 c26 m.names:=XY;refine V2 (YB Zcv Xb (Zm fh rfl) (At.fz hS.fz J6 J7) (j:=0) rfl rfl (ws:=[.string m.text,.slice a25 m.names.length c26]) rfl)<|V4 (KP hS ZcF (vs:=[.string (⟨#[]⟩:Y),GW]) rfl) ?_;rintro _ h28 ⟨b8,eb8,rfl,hS⟩;refine WO.hu gN (Uy hS k0 Xb (Zm fh rfl) (Zm (Zg rfl fh) rfl) (vs:=[.string m.text,.slice a25 m.names.length c26]) rfl rfl rfl rfl (cs':=[.string m.text,.slice a25 m.names.length c26]) rfl) ?_;rintro h29 hS;refine WO.nil<|ZP.Yc<|WC.region<|V2 (ZU WN (Zm (YA rfl e6) rfl) (hS.UL k1) (j:=0) rfl (v:=.slice a names.length cc) rfl)<|V2 (YT Ze9 (Zm (Zg rfl fh) rfl))<|V2 (ZU WN (Zm fh rfl) (hS.UL k0) (j:=1) rfl (v:=.slice a25 m.names.length c26) rfl) ?_;obtain⟨z,hz,hL⟩:=bS hL;refine WO.hv gN rfl (JY (e:=Zx) hS k2 XP (Zm (Ya rfl fh) rfl) (Zm fh rfl) (Sl.src (hS.sl KD)) rfl hz) ?_;rintro _ h30 ⟨a39,c40,rfl,hS⟩;refine WO.hu gN (Uy hS k2 ZdO (Zm (YM rfl e6) rfl) (Zm fh rfl) (vs:=[.slice a39 z.length c40]) rfl rfl rfl rfl (cs':=[.slice a39 z.length c40]) rfl) ?_;rintro h31 hS;exact WO.nil<|YG.Yc<|ZP.Yc<|WC.region<|V2 (Xo (Zm (YM rfl e21) rfl) (UA rfl) Km)<|V2 (Ym (Zm fh rfl))<|WO.nil<|ZO.Yc (Jm _ _ hL ⟨_,_,a39,z.length,c40,rfl,hS.only (.c k0 (.c k0 (.c k1 (.c k1 (.c k1 (.c k1 (.c k1 (.c k1 (.c k1 .n))))))))),(YM rfl (Ya rfl e0)),(YM rfl (Ya rfl e3)),(YM rfl (Ya rfl e4)),(YM rfl (Ya rfl e5)),(YM rfl (Ya rfl e6)),(YM rfl (Ya rfl e19)),(YM rfl (Ya rfl e20)),fh⟩)
 ·replace hL:=XJ hc hL;refine WC.exit<|ZP.exit<|ZO.exit<|YG.here<|ZP.Yc<|WC.fzn hS k1 ?_;rintro h40 ⟨ZVl,hS⟩;have hS:=hS.add (A:=YW wm Zc ((pj,cj),(pd,cd),(pk,ck)) p0) (Zc.mono hS.fz hF) (fun _ z=>z);obtain⟨bd,hbd,hL⟩:=bS hL;refine WC.seq<|WC.region<|V2 (Ym (Zm (Zg rfl e0) rfl))<|V2 (ZU WN (Zm (Ya rfl e6) rfl) (hS.UL k2) (j:=0) rfl (v:=.slice a names.length cc) rfl)<|V2 (Zag (Zb (Zm (Ya rfl (Zg rfl e3)) rfl) (Zb (Zm (Ya rfl (Zg rfl e6)) rfl) Zd)))<|V3 (Yi.fn ZxW (Zb (Zm (Ya rfl fh) rfl) (Zb (Zm (Zg rfl fh) rfl) (Zb (Zm fh rfl) Zd)))) hS (.c k5 (.c k0 (.c k1 (.c k0 (.c k2 (.c k2 (.c k2 (.c k2 .n)))))))) (fun g' hz hf hO=>hB (hS.V6 hz) hr ((hS.fsl k1).mono hf) (hW b3 ((pj,cj),(pd,cd),(pk,ck)) p0 b6 a cc names) hbd hO) ?_;rintro _ h41 _ ⟨S1,b1,hS1,rfl,hr1,rfl⟩ hS;refine V2 (Yy (Zm fh rfl))<|WO.nil<|ZP.Yc<|WC.seq<|WC.seq<|WC.region<|V2 (YT Zcd (Zm (YA rfl (Ya rfl e3)) rfl))<|V2 (ZU Zhb (Zm fh rfl) (hS.UL k0) (j:=2) rfl (v:=.slice pj p0.joins.length cj) rfl)<|r4 ?_;refine r1 ?_;have hS:=hS.nil (e:=ZL);refine WC.loop (WL.lift hL (fun(q:Int×MB×U Yl)(s:Fs)=>match q with | (i,fr,js)=>∃(Js:Fr) (h9:H) (a:O Addr) (n cc:Nat),s=⟨Js,[],h9,none⟩/\Sp wm T h (bx wm b5 [GX p0.form,.string (⟨#[]⟩:Y),.slice a n cc,GW,GW]::ow wm ZL a n cc js::bx wm b4 [GX 0,.string (⟨#[]⟩:Y),GW,GW,GW]::bx wm b3 [GX p0.form,.string p0.text,.slice pj p0.joins.length cj,.slice pd p0.defs.length cd,.slice pk p0.kids.length ck]::Wm wm w cf ct fv fr bd.1 S1) h9/\Js.at 0=pV b/\Js.at 3=(GY b3)/\Js.at 4=(GY b4)/\Js.at 5=(GY b5)/\Js.at 9=pV b1/\Js.at 35=.slice pj p0.joins.length cj/\Js.at 36= GX (p0.joins.length:Int)/\Js.at 37= GX i) ⟨_,_,none,0,0,rfl,hS.only (.c k9 (.c k0 (.c k8 (.c k0 (.c k3 (.c k3 (.c k3 (.c k3 .n)))))))),(YM rfl (Ya rfl e0)),(YM rfl (Ya rfl e3)),(YM rfl (Ya rfl e4)),(YM rfl (Ya rfl e5)),(YA rfl fh),(Ya rfl fh),(Zg rfl fh),fh⟩ ?_);rintro ZP1 ⟨i2,fr,js⟩ s ZCB hL ⟨Js,h42,a2,n2,cc2,rfl,hS,e0,e3,e4,e5,e9,e35,e36,e37⟩;obtain rfl:=hS.on k1;refine r6 ?_;refine WC.U9 (Zm fh rfl) (fun hc=>?_) (fun hc=>?_)
  ·replace hL:=XI hc hL;refine r3 ?_;refine WC.block<|WC.seq<|WC.region ?_;obtain⟨m,hm,hL⟩:=bS hL;obtain⟨b23,o24,⟨a25,c26⟩,J5,J7,J6,XY⟩:=Sl.at_ hsj hm;refine V2 (ZF Jg Xb (Zm (Zg rfl e35) rfl) (Zm (Zg rfl e37) rfl) rfl J5 hm) ?_;have KD:Sl Zx wm h a25 c26 m.names:=XY;refine V2 (YB Zcv Xb (Zm fh rfl) (At.fz hS.fz J6 J7) (j:=0) rfl rfl (ws:=[.string m.text,.slice a25 m.names.length c26]) rfl)<|V4 (KP hS ZcF (vs:=[.string (⟨#[]⟩:Y),GW]) rfl) ?_;rintro _ h28 ⟨b11,ZRN,rfl,hS⟩;refine WO.hu gN (Uy hS k0 Xb (Zm fh rfl) (Zm (Zg rfl fh) rfl) (vs:=[.string m.text,.slice a25 m.names.length c26]) rfl rfl rfl rfl (cs':=[.string m.text,.slice a25 m.names.length c26]) rfl) ?_;rintro h29 hS;refine WO.nil<|ZP.Yc<|WC.seq<|WC.region<|V2 (Ym (Zm (YA rfl e0) rfl))<|V2 (YT ZpS (Zm (Zg rfl fh) rfl))<|V2 (ZU ZaE (Zm fh rfl) (hS.UL k0) (j:=0) rfl (v:=.string m.text) rfl) ?_;obtain⟨y,hy,hL⟩:=bS hL;refine V3 (Yi.fn Zjg (Zb (Zm (Ya rfl fh) rfl) (Zb (Zm fh rfl) Zd))) hS (.c k5 (.c k5 (.c k5 (.c k5 .n)))) (fun g' hz hf hO=>Zny (hS.V6 hz) (hr.mono hS1) hO hy) ?_;rintro _ h43 _ ⟨rfl,rfl⟩ hS;refine V2 (Qy ZJj (ZA (Zm fh rfl) Z0) rfl (cs':=[.string y.2,GW]) rfl)<|V4 (KP hS ZcF (vs:=[.string (⟨#[]⟩:Y),GW]) rfl) ?_;rintro _ h44 ⟨b12,ZIW,rfl,hS⟩;refine WO.hu gN (Uy hS k0 Xb (Zm fh rfl) (Zm (Zg rfl fh) rfl) (vs:=[.string y.2,GW]) rfl rfl rfl rfl (cs':=[.string y.2,GW]) rfl) ?_;rintro h45 hS;refine WO.nil<|ZP.Yc<|WC.seq<|WC.seq<|WC.region<|V2 (YT Ze9 (Zm (YA rfl (Ya rfl fh)) rfl))<|V2 (ZU WN (Zm fh rfl) (hS.UL k5) (j:=1) rfl (v:=.slice a25 m.names.length c26) rfl)<|V2 (ZfR Qq (Zm fh rfl) rfl)<|V2 (Ym (UA rfl))<|WO.nil<|ZP.Yc<|WC.block ?_;have hS:=hS.nil (e:=Zx);refine WC.loop (WL.lift hL (fun(q:Int×MB×U Y)(s:Fs)=>match q with | (j,fr,ns)=>∃(Zd5:Fr) (h9:H) (a:O Addr) (n cc:Nat),s=⟨Zd5,[],h9,none⟩/\Sp wm T h (bx wm b12 [.string y.2,.slice a n cc]::ow wm Zx a n cc ns::bx wm b5 [GX p0.form,.string (⟨#[]⟩:Y),.slice a2 js.length cc2,GW,GW]::ow wm ZL a2 js.length cc2 js::bx wm b4 [GX 0,.string (⟨#[]⟩:Y),GW,GW,GW]::bx wm b3 [GX p0.form,.string p0.text,.slice pj p0.joins.length cj,.slice pd p0.defs.length cd,.slice pk p0.kids.length ck]::Wm wm w cf ct fv fr bd.1 S1) h9/\Zd5.at 0=pV b/\Zd5.at 3=(GY b3)/\Zd5.at 4=(GY b4)/\Zd5.at 5=(GY b5)/\Zd5.at 9=pV b1/\Zd5.at 35=.slice pj p0.joins.length cj/\Zd5.at 36= GX (p0.joins.length:Int)/\Zd5.at 37= GX i2/\Zd5.at 12=(GY b12)/\Zd5.at 47=.slice a25 m.names.length c26/\Zd5.at 48= GX (m.names.length:Int)/\Zd5.at 49= GX j) ⟨_,_,none,0,0,rfl,hS.only (.c k1 (.c k0 (.c k5 (.c k5 (.c k5 (.c k5 (.c k0 (.c k0 (.c k0 (.c k0 .n)))))))))),(YM rfl (YA rfl (Ya rfl e0))),(YM rfl (YA rfl (Ya rfl e3))),(YM rfl (YA rfl (Ya rfl e4))),(YM rfl (YA rfl (Ya rfl e5))),(YM rfl (YA rfl (Ya rfl e9))),(YM rfl (YA rfl (Ya rfl e35))),(YM rfl (YA rfl (Ya rfl e36))),(YM rfl (YA rfl (Ya rfl e37))),(YA rfl fh),(Ya rfl fh),(Zg rfl fh),fh⟩ ?_);clear hL hS e0 e3 e4 e5 e9 e35 e36 e37;rintro ZP0 ⟨j3,fr3,ns⟩ s ZCz hL ⟨Zd5,h46,a3,n3,cc3,rfl,hS,e0,e3,e4,e5,e9,e35,e36,e37,e12,e47,e48,e49⟩;obtain rfl:=hS.on k1;refine r6 ?_;refine WC.U9 lk (fun hc=>?_) (fun hc=>?_)
   ·replace hL:=XI hc hL;refine r6 ?_;obtain⟨x,hx,hL⟩:=bS hL;obtain⟨b33,o34,_,ZyO,Zy2,ZyX,ZyV⟩:=Sl.at_ KD hx;refine V2 (ZF Qq QB lk lk rfl ZyO hx)<|V2 (ZU ZaE (Zm fh rfl) (At.fz hS.fz ZyX Zy2) (j:=0) rfl (v:=.string x) rfl)<|r3 ?_;refine WC.JK mixed Kq0<|r1 ?_;refine WX.wr (fun x=>x=b12) hS gN rfl (fun _ _ hR=>ZU WN (Zm fh rfl) (At.eqv (hR b12 rfl) (hS.UL k0)) (j:=1) rfl (v:=.slice a3 ns.length cc3) rfl) ?_ rfl rfl;rintro h47 ZXd hS;refine r2 ?_;obtain⟨y2,hy2,hL⟩:=bS hL;refine WX.cl gN rfl (Yi.fn Zjg (Zb lk (Zb lk Zd))) hS (.c k6 (.c k6 (.c k6 (.c k6 .n)))) (fun g' hz hf hO=>Zny (hS.V6 hz) hr1 hO hy2) ?_ rfl rfl [1] Kq0 (.c .z (hS.djs (.c k0 (.c k5 (.c k5 (.c k5 (.c k5 .n)))))) Xf.e);rintro _ h48 _ ⟨rfl,rfl⟩ hS;refine WX.hn gN rfl (Uj (e:=Zx) hS Qq QB Zaj rfl rfl rfl (ZA lk Z0) rfl [((),y2.2)] rfl (xs:=[y2.2]) rfl (by intro q hq;exact trivial) rfl) ?_ Kq0;rintro _ h49 ⟨b58,ZWV,rfl,hS⟩;obtain⟨z,hz,hL⟩:=bS hL;refine WX.hv gN rfl (JY (e:=Zx) hS k6 XP lk lk (hS.QF k0) (hS.on k0) hz) ?_ rfl Kq0 [] Kq0 Xf.e;rintro _ h50 ⟨a39,c40,rfl,hS⟩;refine WX.w gN rfl (YT Ze9 lk) ?_ Kq0;refine WX.hu gN (Uy hS k6 ZdO lk lk (vs:=[.slice a39 z.length c40]) rfl rfl rfl rfl (cs':=[.string y.2,.slice a39 z.length c40]) rfl) ?_ rfl Kq0 [] Kq0 Xf.e;rintro h51 hS;refine r4 ?_;refine r1 ?_;exact V2 (Ym (Zm fh rfl))<|WO.nil<|ZO.Yc (ZCz _ _ hL ⟨_,_,a39,z.length,c40,rfl,hS.only (.c k0 (.c k0 (.c k5 (.c k5 (.c k5 (.c k5 (.c k1 (.c k1 (.c k1 (.c k1 .n)))))))))),(YM rfl (YA rfl (Ya rfl e0))),(YM rfl (YA rfl (Ya rfl e3))),(YM rfl (YA rfl (Ya rfl e4))),(YM rfl (YA rfl (Ya rfl e5))),(YM rfl (YA rfl (Ya rfl e9))),(YM rfl (YA rfl (Ya rfl e35))),(YM rfl (YA rfl (Ya rfl e36))),(YM rfl (YA rfl (Ya rfl e37))),(YM rfl (YA rfl (Ya rfl e12))),(YM rfl (YA rfl (Ya rfl e47))),(YM rfl (YA rfl (Ya rfl e48))),fh⟩)
   ·replace hL:=XJ hc hL;refine WC.exit<|ZP.exit<|ZO.exit<|YG.here<|ZP.Yc<|WC.fzn hS k1 ?_;rintro h52 ⟨ZQN,hS⟩;refine WC.region<|V2 (YT Zcd (Zm (Zg rfl e5) rfl))<|V2 (ZU Zhb (Zm fh rfl) (hS.UL k2) (j:=2) rfl (v:=.slice a2 js.length cc2) rfl)<|V2 (YB Zcv Xb (Zm (Ya rfl (Zg rfl e12)) rfl) (hS.UL k1) (j:=0) rfl rfl (ws:=[.string y.2,.slice a3 ns.length cc3]) rfl)<|V4 (Uj (e:=ZL) hS Jg Xb ZcF rfl rfl rfl (ZA (Zm fh rfl) Z0) rfl [((a3,cc3),⟨y.2,ns⟩)] rfl (xs:=[⟨y.2,ns⟩]) rfl (by intro q hq;simp only[Ks,Jx,or_false]at hq;subst hq;exact hS.fsl k0) rfl) ?_;rintro _ h53 ⟨b65,ZWU,rfl,hS⟩;obtain⟨z,hz,hL⟩:=bS hL;refine WO.hv gN rfl (JY (e:=ZL) hS k4 ZsJ (Zm (Ya rfl fh) rfl) (Zm fh rfl) (hS.QF k0) (hS.on k0) hz) ?_;rintro _ h54 ⟨a39,c40,rfl,hS⟩;refine V2 (YT Zcd (Zm (YA rfl (Ya rfl e5)) rfl))<|WO.hu gN (Uy hS k4 Zth (Zm fh rfl) (Zm (Zg rfl fh) rfl) (vs:=[.slice a39 z.length c40]) rfl rfl rfl rfl (cs':=[GX p0.form,.string (⟨#[]⟩:Y),.slice a39 z.length c40,GW,GW]) rfl) ?_;rintro h55 hS;exact WO.nil<|YG.Yc<|ZP.Yc<|WC.region<|V2 (Xo (Zm (YA rfl (Ya rfl (Zg rfl e37))) rfl) (UA rfl) Km)<|V2 (Ym (Zm fh rfl))<|WO.nil<|ZO.Yc (ZCB _ _ hL ⟨_,_,a39,z.length,c40,rfl,hS.only (.c k0 (.c k0 (.c k3 (.c k3 (.c k3 (.c k3 (.c k3 (.c k3 .n)))))))),(YM rfl (Zg rfl e0)),(YM rfl (Zg rfl e3)),(YM rfl (Zg rfl e4)),(YM rfl (Zg rfl e5)),(YM rfl (Zg rfl e9)),(YM rfl (Zg rfl e35)),(YM rfl (Zg rfl e36)),fh⟩)
  ·replace hL:=XJ hc hL;refine WC.exit<|ZP.exit<|ZO.exit<|YG.here<|ZP.Yc<|WC.seq<|WC.region<|V2 (Ym (Zm (Zg rfl e9) rfl))<|V2 (YT Zfa (Zm (Ya rfl e3) rfl))<|V2 (ZU Zkv (Zm fh rfl) (hS.UL k3) (j:=4) rfl (v:=.slice pk p0.kids.length ck) rfl) ?_;obtain⟨kd,hkd,hL⟩:=bS hL;obtain⟨b23,o24,pkd,J5,J7,J6,XY⟩:=Sl.at_ hsk hkd;refine V2 (ZF WB Xj (Zm fh rfl) (UA rfl) rfl J5 hkd)<|V2 (YB WM Xj (Zm fh rfl) (At.fz hS.fz J6 J7) (j:=0) rfl rfl (ws:=JX pkd kd) rfl) ?_;obtain⟨z,hz,hL⟩:=bS hL;rcases z with z|ek
   rotate_left
   ·replace hL:=Z9 hL;refine WO.WI gN (Yi.fn Zb4 (Zb (Zm (YA rfl fh) rfl) (Zb (Zm fh rfl) Zd))) hS (.c k4 (.c k4 (.c k4 (.c k4 .n)))) (fun g' hz' hf hO=>Zbk _ _ hz (by rw[hz'];exact hS.hw) hr1 (ZB.mono hf (ZB.mono hS.fz XY)) hO) ?_;rintro Zk2 hS
    repeat first|refine ZP.panic ?_|refine YG.panic ?_|refine ZO.panic ?_|refine YJ.panic ?_
    have hr':=Oi0 hL;subst hr';exact YK.ZmV hT hS
   replace hL:=Yv hL;refine V3 (Yi.fn Zb4 (Zb (Zm (YA rfl fh) rfl) (Zb (Zm fh rfl) Zd))) hS (.c k4 (.c k4 (.c k4 (.c k4 .n)))) (fun g' hz' hf hO=>PQ.ok (Zbk _ _ hz (by rw[hz'];exact hS.hw) hr1 (ZB.mono hf (ZB.mono hS.fz XY)) hO)) ?_;rintro _ h60 _ ⟨S2,q2,hS2,rfl,rfl⟩ hS;refine V4 (Uj (e:=ZB) hS WB Xj Zik rfl rfl rfl (ZA (Zm fh rfl) Z0) rfl [(q2,z.2)] rfl (xs:=[z.2]) rfl (by intro q hq;simp only[Ks,Jx,or_false]at hq;subst hq;exact hS.get k0) rfl) ?_;rintro _ h61 ⟨bk,ebk,rfl,hS⟩;refine V2 (YT Zfa (Zm (YM rfl e5) rfl))<|WO.hu gN (Uy hS k6 Zrn (Zm fh rfl) (Zm (Zg rfl fh) rfl) (vs:=[.slice (some ⟨bk,0,none⟩) 1 (2*1)]) rfl rfl rfl rfl (cs':=[GX p0.form,.string (⟨#[]⟩:Y),.slice a2 js.length cc2,GW,.slice (some ⟨bk,0,none⟩) 1 (2*1)]) rfl) ?_;rintro h62 hS;refine WO.nil<|ZP.Yc<|WC.seq<|WC.region<|V2 (YB JM Z8 (Zm (YM rfl (Zg rfl e5)) rfl) (hS.UL k0) (j:=0) rfl rfl (ws:=[GX p0.form,.string (⟨#[]⟩:Y),.slice a2 js.length cc2,GW,.slice (some ⟨bk,0,none⟩) 1 (2*1)]) rfl)<|WO.hu gN (Uy hS k8 Z8 (Zm (YM rfl (Ya rfl e4)) rfl) (Zm fh rfl) (vs:=[GX p0.form,.string (⟨#[]⟩:Y),.slice a2 js.length cc2,GW,.slice (some ⟨bk,0,none⟩) 1 (2*1)]) rfl rfl rfl rfl (cs':=[GX p0.form,.string (⟨#[]⟩:Y),.slice a2 js.length cc2,GW,.slice (some ⟨bk,0,none⟩) 1 (2*1)]) rfl) ?_;rintro h63 hS;refine WO.nil<|ZP.Yc<|WC.fzn hS k8 ?_;rintro h64 ⟨ZVk,hS⟩;refine WC.fzn hS k3 ?_;rintro h65 ⟨ZQM,hS⟩;refine r1 ?_;have hS:=hS.add (A:=YW wm Zc ((a2,cc2),(none,0),(some ⟨bk,0,none⟩,2*1)) (Za.mk p0.form ⟨#[]⟩ js [] [z.2])) (ZC.2 ⟨hS.fsl k1,Sl.nil,hS.fsl k0⟩) (fun _ z=>z);have hr':=Oi0 hL;subst hr';exact YK.Jr rfl (X4 (YM rfl (Ya rfl e4)) (Jf JM Z8 (hS.UL k3) (j:=0) rfl rfl (ws:=[GX p0.form,.string (⟨#[]⟩:Y),.slice a2 js.length cc2,GW,.slice (some ⟨bk,0,none⟩) 1 (2*1)]) rfl) Zk) ⟨_,⟨S2,((a2,cc2),(none,0),(some ⟨bk,0,none⟩,2*1)),fun e he=>hS2 e (hS1 e he),rfl,rfl⟩,hT▸hS.only (.c k0 (.c k5 (.c k5 (.c k5 (.c k5 .n)))))⟩
def Znf:(XX.fns.get 152).isSome=true:=Kq0
def ZjX(F:Nat)(Yk:UW)(WY:Za->U Y->O MB)(Us:WS×U NM×Term->O (PR (WS×Term)))(c:U NM)(l:U Za)(Zq:WS×U Za->O (PR (WS×U Za))):Int×WS×U Za->(Int×WS×U Za->O (PR (WS×U Za)))->O (PR (WS×U Za)):=fun(i,ws,acc) next=>
 bif decide (i<(l.length:Int)) then(Yf l i).bind fun x=>bif x.form==2 then(Zj1 F ws.1 c x.text).bind fun y=>(Zq ((y.1,ws.2),x.defs)).bind fun d=>JR d (fun e=>some (.Yd e)) fun d=>(Yf x.kids 0).bind fun k=>(Us (d.1,c,k)).bind fun z=>JR z (fun e=>some (.Yd e)) fun z=>(app 96 acc [Za.mk x.form y.2 [] d.2 [z.2]]).bind fun a=>next (Xa (i+1),z.1,a) else(Zl9 F Yk WY Us ws c x).bind fun z=>JR z (fun e=>some (.Yd e)) fun z=>(app 96 acc [z.2]).bind fun a=>next (Xa (i+1),z.1,a) else some (.ok (ws,acc))
def Zck(F:Nat)(Yk:UW)(WY:Za->U Y->O MB)(Us:WS×U NM×Term->O (PR (WS×Term)))(c:U NM):WS×U Za->(WS×U Za->O (PR (WS×U Za)))->O (PR (WS×U Za)):=fun(ws,l) Zq=>
 loop F (ZjX F Yk WY Us c l Zq) (0,ws,[])
def Zt1(F:Nat)(Yk:UW)(WY:Za->U Y->O MB)(Us:WS×U NM×Term->O (PR (WS×Term)))(c:U NM)(ws:WS)(l:U Za):O (PR (WS×U Za)):=loop F (Zck F Yk WY Us c) (ws,l)
def Zp5{F wm w cf:Nat}{ct:O Nat}{fv:FV wm}{WIN:ZqS wm}{Yk:UW}{WY:Za->U Y->O MB}{Us:WS×U NM×Term->O (PR (WS×Term))}(hB:ZkF wm w cf ct fv WIN Yk)(hW:Zn6 WIN WY)(Zbk:Zn8 wm w cf ct fv Us){b:Nat}{c:U NM}:
 ∀(Fr:Nat)(x:WS×U Za)(r:PR (WS×U Za)),loop Fr (Zck F Yk WY Us c) x=some r->(∀{h:H}{S:U SE}{pa:O Addr}{pc:Nat},wm<=h.size->Rd S (some b) c->Sl Zc wm h pa pc x.2->Yb (Wm wm w cf ct fv x.1.1 x.1.2 S) h->WF XX 152 #[pV b,.slice pa x.2.length pc] wm h (PQ 147 (fun(r:WS×U Za) v (Gb:U (Ast wm))=>∃(S':U SE) (ra:O Addr) (rc:Nat),(∀e∈S,e∈S')/\v=.slice ra r.2.length rc/\Gb=YW wm (Y8 Zc) (ra,rc) r.2::Wm wm w cf ct fv r.1.1 r.1.2 S') (Wm wm w cf ct fv x.1.1 x.1.2 S) h r)):=by
 refine Xd _ ?_;rintro Zq YL ⟨ws,l⟩ r hL h S pa pc Zv hr hsp hO;dsimp only at hsp hO;refine WF.begin (args:=[_,_]) (fn:=Tryz.f152) Kq0 (by exact rfl) Tryz.ntmps152 (by simp) ?_;simp only[ZE,ZJ,Nat.reduceAdd];obtain⟨T,hT,hS⟩:∃T,T=Ji (Wm wm w cf ct fv ws.1 ws.2 S)/\Sp wm T h (Wm wm w cf ct fv ws.1 ws.2 S) h:=⟨_,rfl,Sp.start Zv hO⟩
 refine r16 ?_;refine r3 ?_;have hS:=hS.nil (e:=Zc);refine WC.loop (WL.lift hL (fun(q:Int×WS×U Za)(s:Fs)=>match q with | (i,ws,acc)=>∃(Qw:Fr) (h9:H) (a:O Addr) (n cc:Nat) (S1:U SE),s=⟨Qw,[],h9,none⟩/\(∀e∈S,e∈S1)/\Sp wm T h (ow wm Zc a n cc acc::Wm wm w cf ct fv ws.1 ws.2 S1) h9/\Qw.at 0=pV b/\Qw.at 5=.slice a n cc/\Qw.at 9=.slice pa l.length pc/\Qw.at 10= GX (l.length:Int)/\Qw.at 11= GX i) ⟨_,_,none,0,0,S,rfl,fun _ q=>q,hS.only (.c k0 (.c k0 (.c k0 (.c k0 (.c k0 .n))))),(YA rfl (Ya rfl fh)),(Ya rfl (Zg rfl fh)),(Ya rfl fh),(Zg rfl fh),fh⟩ ?_);rintro K7 ⟨i,ws,acc⟩ s Jm hL ⟨Qw,h9,a,n,cc,S1,rfl,hS1,hS,e0,e5,e9,e10,e11⟩;obtain rfl:=hS.on k0;refine r6 ?_;refine cn hL ?_ ?_
 ·intro hc hL;refine r6 ?_;obtain⟨x,hx,hL⟩:=bS hL;obtain⟨b23,o24,⟨⟨a1,c1⟩,⟨a2,c2⟩,⟨a3,c3⟩⟩,J5,J7,J6,XY⟩:=Sl.at_ hsp hx;obtain⟨hsj,hsd,hsk⟩:=ZC.1 XY;dsimp only at hsj hsd hsk;refine V2 (ZF Ql Z8 (Zm (Zg rfl e9) rfl) (Zm (Zg rfl e11) rfl) rfl J5 hx)<|V2 (YB JM Z8 (Zm fh rfl) (At.fz hS.fz J6 J7) (j:=0) rfl rfl (ws:=[GX x.form,.string x.text,.slice a1 x.joins.length c1,.slice a2 x.defs.length c2,.slice a3 x.kids.length c3]) rfl)<|r1 ?_;rintro _ h28 ⟨b7,eb7,rfl,hS⟩;refine r1 ?_;rintro h29 hS;refine r8 ?_;refine r2 ?_;refine cn hL ?_ ?_
  ·intro hc hL;refine r1 ?_;refine WC.JK mixed Kq0<|r1 ?_;refine WX.wr (fun x=>x=b7) hS gN rfl (fun _ _ hR=>ZU Zkw (Zm fh rfl) (At.eqv (hR b7 rfl) (hS.UL k0)) (j:=0) rfl (v:= GX x.form) rfl) ?_ rfl rfl;rintro h30 e30 hS;refine r3 ?_;obtain⟨y,hy,hL⟩:=bS hL;refine WX.cl gN rfl (Yi.fn Zjg (Zb (Zm (Ya rfl fh) rfl) (Zb (Zm fh rfl) Zd))) hS (.c k2 (.c k2 (.c k2 (.c k2 .n)))) (fun g' hz hf hO=>Zny (hS.V6 hz) (hr.mono hS1) hO hy) ?_ rfl rfl [1] Kq0 (.c .z (hS.djs (.c k0 (.c k1 (.c k1 (.c k1 (.c k1 .n)))))) Xf.e);rintro _ h31 _ ⟨rfl,rfl⟩ hS;refine WX.w gN rfl (Qy ZAt (ZA (Zm (YA rfl fh) rfl) (ZA (Zm fh rfl) Z0)) rfl (cs':=[GX x.form,.string y.2,GW,GW,GW]) rfl) ?_ Kq0;refine WX.hn gN rfl (KP hS WQ (vs:=[GX 0,.string (⟨#[]⟩:Y),GW,GW,GW]) rfl) ?_ Kq0;rintro _ h32 ⟨b8,eb8,rfl,hS⟩;refine WX.hu gN (Uy hS k0 Z8 (Zm fh rfl) (Zm (Zg rfl fh) rfl) (vs:=[GX x.form,.string y.2,GW,GW,GW]) rfl rfl rfl rfl (cs':=[GX x.form,.string y.2,GW,GW,GW]) rfl) ?_ rfl Kq0 [] Kq0 Xf.e;rintro h33 hS;refine r6 ?_;refine r1 ?_;obtain⟨d,hd,hL⟩:=bS hL;rcases d with d|ek
   rotate_left
   ·replace hL:=Z9 hL;refine WO.WI gN (Yi.fn Znf (Zb (Zm (Ya rfl fh) rfl) (Zb (Zm fh rfl) Zd))) hS (.c k1 (.c k1 (.c k1 (.c k1 .n)))) (fun g' hz hf hO=>YL _ _ hd (hS.V6 hz) (hr.mono hS1) ((hS.sl hsd).mono hf) hO) ?_;rintro Zk2 hS
    repeat first|refine ZP.panic ?_|refine YG.panic ?_|refine ZO.panic ?_|refine YJ.panic ?_
    have hr':=Oi0 hL;subst hr';exact YK.ZmV hT hS
   replace hL:=Yv hL;refine V3 (Yi.fn Znf (Zb (Zm (Ya rfl fh) rfl) (Zb (Zm fh rfl) Zd))) hS (.c k1 (.c k1 (.c k1 (.c k1 .n)))) (fun g' hz hf hO=>PQ.ok (YL _ _ hd (hS.V6 hz) (hr.mono hS1) ((hS.sl hsd).mono hf) hO)) ?_;rintro _ h34 _ ⟨S2,rd,rcd,hS2,rfl,rfl⟩ hS;refine r2 ?_;rintro h35 hS;refine r6 ?_;refine r1 ?_;obtain⟨kd,hkd,hL⟩:=bS hL;obtain⟨b33,o34,pkd,ZyO,Zy2,ZyX,ZyV⟩:=Sl.at_ hsk hkd;refine V2 (ZF WB Xj (Zm fh rfl) (UA rfl) rfl ZyO hkd)<|V2 (YB WM Xj (Zm fh rfl) (At.fz hS.fz ZyX Zy2) (j:=0) rfl rfl (ws:=JX pkd kd) rfl) ?_;obtain⟨z,hz,hL⟩:=bS hL;rcases z with z|ek
   rotate_left
   ·replace hL:=Z9 hL;refine WO.WI gN (Yi.fn Zb4 (Zb (Zm (YA rfl fh) rfl) (Zb (Zm fh rfl) Zd))) hS (.c k2 (.c k2 (.c k2 (.c k2 .n)))) (fun g' hz' hf hO=>Zbk _ _ hz (by rw[hz'];exact hS.hw) ((hr.mono hS1).mono hS2) (ZB.mono hf (ZB.mono hS.fz ZyV)) hO) ?_;rintro Zk2 hS
    repeat first|refine ZP.panic ?_|refine YG.panic ?_|refine ZO.panic ?_|refine YJ.panic ?_
    have hr':=Oi0 hL;subst hr';exact YK.ZmV hT hS
   replace hL:=Yv hL;refine V3 (Yi.fn Zb4 (Zb (Zm (YA rfl fh) rfl) (Zb (Zm fh rfl) Zd))) hS (.c k2 (.c k2 (.c k2 (.c k2 .n)))) (fun g' hz' hf hO=>PQ.ok (Zbk _ _ hz (by rw[hz'];exact hS.hw) ((hr.mono hS1).mono hS2) (ZB.mono hf (ZB.mono hS.fz ZyV)) hO)) ?_;rintro _ h36 _ ⟨S3,q2,hS3,rfl,rfl⟩ hS;refine V4 (Uj (e:=ZB) hS WB Xj Zik rfl rfl rfl (ZA (Zm fh rfl) Z0) rfl [(q2,z.2)] rfl (xs:=[z.2]) rfl (by intro q hq;simp only[Ks,Jx,or_false]at hq;subst hq;exact hS.get k0) rfl) ?_;rintro _ h37 ⟨bk,ebk,rfl,hS⟩;refine r2 ?_;rintro h38 hS;refine r2 ?_;refine WC.fzn hS k1 ?_;rintro h39 ⟨ZVm,hS⟩;refine r4 ?_;refine V4 (Uj (e:=Zc) hS Ql Z8 WQ rfl rfl rfl (ZA (Zm fh rfl) Z0) rfl [(((none,0),(rd,rcd),(some ⟨bk,0,none⟩,2*1)),Za.mk x.form y.2 [] d.2 [z.2])] rfl (xs:=[Za.mk x.form y.2 [] d.2 [z.2]]) rfl (by intro q hq;simp only[Ks,Jx,or_false]at hq;subst hq;exact ZC.2 ⟨Sl.nil,hS.fsl k7,hS.fsl k0⟩) rfl) ?_;rintro _ h40 ⟨b40,ZRF,rfl,hS⟩;obtain⟨z2,hz2,hL⟩:=bS hL;refine WO.hv gN rfl (JY (e:=Zc) hS k10 ZfT (Zm (Ya rfl fh) rfl) (Zm fh rfl) (hS.QF k0) (hS.on k0) hz2) ?_;rintro _ h41 ⟨a41,c41,rfl,hS⟩;refine r8 ?_;refine r3 ?_;exact ZO.Yc (Jm _ _ hL ⟨_,_,a41,z2.length,c41,S3,rfl,fun e he=>hS3 e (hS2 e (hS1 e he)),hS.only (.c k0 (.c k4 (.c k4 (.c k4 (.c k4 .n))))),(YM rfl (YM rfl (YM rfl (YM rfl (Ya rfl (Zg rfl e0)))))),(Ya rfl fh),(YM rfl (YM rfl (YM rfl (YM rfl (Ya rfl (Zg rfl e9)))))),(YM rfl (YM rfl (YM rfl (YM rfl (Ya rfl (Zg rfl e10)))))),fh⟩)
  ·intro hc hL;refine r6 ?_;obtain⟨z,hz,hL⟩:=bS hL;rcases z with z|ek
   rotate_left
   ·replace hL:=Z9 hL;refine WO.WI gN (Yi.fn ZxV (Zb (Zm (Zg rfl fh) rfl) (Zb (Zm fh rfl) Zd))) hS (.c k2 (.c k2 (.c k2 (.c k2 .n)))) (fun g' hz' hf hO=>ZtZ (F:=F) (WIN:=WIN) (Yk:=Yk) (WY:=WY) @hB hW Zbk (p:=((a1,c1),(a2,c2),(a3,c3))) (by rw[hz'];exact hS.hw) (hr.mono hS1) (Zc.mono hf (Zc.mono hS.fz XY)) hO hz) ?_;rintro Zk2 hS
    repeat first|refine ZP.panic ?_|refine YG.panic ?_|refine ZO.panic ?_|refine YJ.panic ?_
    have hr':=Oi0 hL;subst hr';exact YK.ZmV hT hS
   replace hL:=Yv hL;refine V3 (Yi.fn ZxV (Zb (Zm (Zg rfl fh) rfl) (Zb (Zm fh rfl) Zd))) hS (.c k2 (.c k2 (.c k2 (.c k2 .n)))) (fun g' hz' hf hO=>PQ.ok (ZtZ (F:=F) (WIN:=WIN) (Yk:=Yk) (WY:=WY) @hB hW Zbk (p:=((a1,c1),(a2,c2),(a3,c3))) (by rw[hz'];exact hS.hw) (hr.mono hS1) (Zc.mono hf (Zc.mono hS.fz XY)) hO hz)) ?_;rintro _ h36 _ ⟨S3,q2,hS3,rfl,rfl⟩ hS;refine V4 (Uj (e:=Zc) hS Ql Z8 WQ rfl rfl rfl (ZA (Zm fh rfl) Z0) rfl [(q2,z.2)] rfl (xs:=[z.2]) rfl (by intro q hq;simp only[Ks,Jx,or_false]at hq;subst hq;exact hS.get k0) rfl) ?_;rintro _ h37 ⟨bk,ebk,rfl,hS⟩;obtain⟨z2,hz2,hL⟩:=bS hL;refine WO.hv gN rfl (JY (e:=Zc) hS k7 ZfT (Zm (YA rfl fh) rfl) (Zm fh rfl) (hS.QF k0) (hS.on k0) hz2) ?_;rintro _ h41 ⟨a41,c41,rfl,hS⟩;refine r8 ?_;exact ZO.Yc (Jm _ _ hL ⟨_,_,a41,z2.length,c41,S3,rfl,fun e he=>hS3 e (hS1 e he),hS.only (.c k0 (.c k2 (.c k2 (.c k2 (.c k2 .n))))),(YM rfl (YM rfl e0)),(Ya rfl fh),(YM rfl (YM rfl e9)),(YM rfl (YM rfl e10)),fh⟩)
 ·intro hc hL;refine r8 ?_;refine r3 ?_;refine WC.fzn hS k0 ?_;rintro h65 ⟨ZQM,hS⟩;refine r1 ?_;have hr':=Oi0 hL;subst hr';exact YK.Jr rfl (Zn (Zm fh rfl) Zk) ⟨_,⟨S1,a,cc,hS1,rfl,rfl⟩,hT▸hS.only (.c k0 (.c k0 (.c k0 (.c k0 (.c k0 .n)))))⟩
end
end Go.Proofs.YtbnepjakjmnadaaGreat
end
end
