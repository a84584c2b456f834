/- Part 17. -/
import Derived.Test.YtbnepjakjmnadaaGreatFa16
set_option linter.all false
set_option maxHeartbeats 2000000
section
set_option maxRecDepth 20000
noncomputable section
namespace Go.Proofs.YtbnepjakjmnadaaGreat
open Go.ZY Go.Lf
def ZLm:(XX.fns.get 70).isSome=true:=Kq0
def Zfp(t:Term)(Zq:WS×U NM×Term->O (PR (WS×Term)))(c:U NM)(tx:Y)(args:U Zi)(ds:U Za):Int×WS×U Term->(Int×WS×U Term->O (PR (WS×Term)))->O (PR (WS×Term)):=fun(i,ws,acc) next=>
 bif decide (i<(t.kids.length:Int)) then(Yf t.kids i).bind fun x=>(Zq (ws,c,x)).bind fun y=>JR y (fun e=>some (.Yd e)) fun y=>(app 96 acc [y.2]).bind fun z=>next (Xa (i+1),y.1,z) else some (.ok (ws,Term.mk t.op tx args ds acc))
def U4(F:Nat)(t:Term)(Zq:WS×U NM×Term->O (PR (WS×Term)))(tx:Y)(args:U Zi):WS×U NM×U Za->O (PR (WS×Term)):=fun(ws,c,ds)=>loop F (Zfp t Zq c tx args ds) (0,ws,[])
def Zfq(F:Nat)(Yk:UW)(WY:Za->U Y->O MB)(frL:Term->O MB)(t:Term)(Zq:WS×U NM×Term->O (PR (WS×Term)))(tk:MB)(c:U NM)(tx:Y):Int×MB×U Zi->(Int×MB×U Zi->O (PR (WS×Term)))->O (PR (WS×Term)):=fun(i,fr,acc) next=>
 bif decide (i<(t.args.length:Int)) then(Yf t.args i).bind fun x=>(ZFD F c fr x).bind fun y=>(app 56 acc [y.2]).bind fun z=>next (Xa (i+1),y.1,z)
 else bif t.op==4 then(Zlb F t.defs).bind fun cp=>(app 16 cp.1 cp.2).bind fun names=>(Yk tk c names (frL t)).bind fun bd=>(Zt1 F Yk WY Zq (bd.2::c) (fr,bd.1) t.defs).bind fun d=>JR d (fun e=>some (.Yd e)) fun d=>U4 F t Zq tx acc (d.1,bd.2::c,d.2)
 else U4 F t Zq tx acc ((fr,tk),c,[])
def Za0(F:Nat)(Yk:UW)(WY:Za->U Y->O MB)(frL:Term->O MB)(t:Term)(Zq:WS×U NM×Term->O (PR (WS×Term)))(tk:MB)(c:U NM):MB×Y->O (PR (WS×Term)):=fun(fr,tx)=>loop F (Zfq F Yk WY frL t Zq tk c tx) (0,fr,[])
def Zcl(F:Nat)(Yk:UW)(WY:Za->U Y->O MB)(frL:Term->O MB):WS×U NM×Term->(WS×U NM×Term->O (PR (WS×Term)))->O (PR (WS×Term)):=fun(ws,c,t) Zq=>
 bif !decide (t.text=⟨#[]⟩) then(Zma F ws.1 c t.text).bind fun y=>JR y (fun e=>some (.Yd e)) fun y=>Za0 F Yk WY frL t Zq ws.2 c y else Za0 F Yk WY frL t Zq ws.2 c (ws.1,⟨#[]⟩)
def Zt9(F:Nat)(Yk:UW)(WY:Za->U Y->O MB)(frL:Term->O MB):WS×U NM×Term->O (PR (WS×Term)):=loop F (Zcl F Yk WY frL)
def ZA3{wm:Nat}(WIN:ZqS wm)(frL:Term->O MB):Prop:=∀b3 q x,WIN (.func (.func 151) #[] #[(GY b3)]) [bx wm b3 (JX q x),YW wm ZB q x] (frL x)
def Zp6{F wm w cf:Nat}{ct:O Nat}{fv:FV wm}{WIN:ZqS wm}{Yk:UW}{WY:Za->U Y->O MB}{frL:Term->O MB}(hB:ZkF wm w cf ct fv WIN Yk)(hW:Zn6 WIN WY)(hW1:ZA3 WIN frL):∀Fu,Zn8 wm w cf ct fv (loop Fu (Zcl F Yk WY frL)):=by
 refine fun Fu=>Xd (body:=Zcl F Yk WY frL) (fun(x:WS×U NM×Term)(r:PR (WS×Term))=>∀{h:H}{S:U SE}{b:Nat}{p:TmP},wm<=h.size->Rd S (some b) x.2.1->ZB.F wm h p x.2.2->Yb (Wm wm w cf ct fv x.1.1 x.1.2 S) h ->
  WF XX 118 #[pV b,.agg (JX p x.2.2).toArray] wm h (PQ 147 (fun(r:WS×Term) v (Gb:U (Ast wm))=>∃(S':U SE) (q:TmP),(∀e∈S,e∈S')/\v=.agg (JX q r.2).toArray/\Gb=YW wm ZB q r.2::Wm wm w cf ct fv r.1.1 r.1.2 S') (Wm wm w cf ct fv x.1.1 x.1.2 S) h r)) ?_ Fu
 rintro Zq YL ⟨ws,c,t⟩ r hL h S b ⟨⟨pA,cA⟩,⟨pD,cD⟩,⟨pK,cK⟩⟩ Zv hr hF hO;have Zbk:Zn8 wm w cf ct fv Zq:=YL;dsimp only at hr hF hO;obtain⟨hsA,hsD,hsK⟩:=QC.1 hF;dsimp only at hsA hsD hsK;refine WF.begin (args:=[_,_]) (fn:=Tryz.f118) Kq0 (by exact rfl) Tryz.ntmps118 (by simp) ?_;simp only[ZE,ZJ,Nat.reduceAdd];obtain⟨T,hT,hS⟩:∃T,T=Ji (Wm wm w cf ct fv ws.1 ws.2 S)/\Sp wm T h (Wm wm w cf ct fv ws.1 ws.2 S) h:=⟨_,rfl,Sp.start Zv hO⟩
 refine r3 ?_;rintro _ h3 ⟨b3,eb3,rfl,hS⟩;refine r1 ?_;rintro _ h4 ⟨b4,eb4,rfl,hS⟩;refine r6 ?_;refine V2 (Qy ZOl (ZA (Zm fh rfl) Z0) rfl (cs':=[GX t.op,.string (⟨#[]⟩:Y),GW,GW,GW]) rfl)<|r1 ?_;rintro _ h5 ⟨b5,eb5,rfl,hS⟩;refine r1 ?_;rintro h6 hS;refine r2 ?_;refine WC.KJ (r:=r) (fun(q:MB×Y)(s:Fs)=>∃(K9:Fr) (h9:H),s=⟨K9,[],h9,none⟩/\Sp wm T h (bx wm b5 [GX t.op,.string q.2,GW,GW,GW]::bx wm b4 [GX 0,.string (⟨#[]⟩:Y),GW,GW,GW]::bx wm b3 [GX t.op,.string t.text,.slice pA t.args.length cA,.slice pD t.defs.length cD,.slice pK t.kids.length cK]::Wm wm w cf ct fv q.1 ws.2 S) h9/\K9.at 0=pV b/\K9.at 3=(GY b3)/\K9.at 4=(GY b4)/\K9.at 5=(GY b5)) (Za0 F Yk WY frL t Zq ws.2 c) ?_ ?_
 rotate_left
 ·refine WC.seq<|r3 ?_;refine V2 (Xo (Zm fh rfl) (UA rfl) ZeA)<|r2 ?_;refine cn hL ?_ ?_
  ·intro hc hL;obtain⟨y,hy,hL⟩:=bS hL;refine r4 ?_;rcases y with y|ek
   rotate_left
   ·replace hL:=Z9 hL;refine WO.WI gN (Yi.fn Zjg (Zb (Zm (Ya rfl fh) rfl) (Zb (Zm fh rfl) Zd))) hS (.c k3 (.c k3 (.c k3 (.c k3 .n)))) (fun g' hz hf hO=>Zj0 (hS.V6 hz) hr hO hy) ?_;rintro Zk2 hS
    repeat first|refine ZP.panic ?_|refine YG.panic ?_|refine ZO.panic ?_|refine YJ.panic ?_
    have hr':=Oi0 hL;subst hr';exact YK.ZmV hT hS
   replace hL:=Yv hL;refine V3 (Yi.fn Zjg (Zb (Zm (Ya rfl fh) rfl) (Zb (Zm fh rfl) Zd))) hS (.c k3 (.c k3 (.c k3 (.c k3 .n)))) (fun g' hz hf hO=>PQ.ok (Zj0 (hS.V6 hz) hr hO hy)) ?_;rintro _ h7 _ ⟨rfl,rfl⟩ hS;refine r2 ?_;rintro h8 hS;refine r1 ?_;exact YJ.Yc y hL ⟨_,_,rfl,hS.only (.c k0 (.c k4 (.c k4 (.c k0 (.c k0 (.c k0 (.c k0 .n))))))),(YM rfl (YA rfl (Ya rfl (Zg rfl fh)))),(YM rfl (YA rfl (Zg rfl fh))),(YM rfl (YA rfl fh)),(YM rfl fh)⟩
  ·intro hc hL;refine r1 ?_;exact YJ.Yc (ws.1,⟨#[]⟩) hL ⟨_,_,rfl,hS.only (.c k0 (.c k0 (.c k0 (.c k0 (.c k0 (.c k0 (.c k0 .n))))))),(YM rfl (Ya rfl fh)),(YM rfl fh),(YA rfl (Ya rfl (Zg rfl fh))),(Ya rfl (Zg rfl fh))⟩
 rintro⟨K9,tx⟩ s hL ⟨frx,h9,rfl,hS,e0,e3,e4,e5⟩;refine r8 ?_;refine r2 ?_;have hS:=hS.nil (e:=Zj);refine WC.loop (WL.lift hL (fun(q:Int×MB×U Zi)(s:Fs)=>match q with | (i,fr,acc)=>∃(Js:Fr) (h9:H) (a:O Addr) (n cc:Nat),s=⟨Js,[],h9,none⟩/\Sp wm T h (bx wm b5 [GX t.op,.string tx,.slice a n cc,GW,GW]::ow wm Zj a n cc acc::bx wm b4 [GX 0,.string (⟨#[]⟩:Y),GW,GW,GW]::bx wm b3 [GX t.op,.string t.text,.slice pA t.args.length cA,.slice pD t.defs.length cD,.slice pK t.kids.length cK]::Wm wm w cf ct fv fr ws.2 S) h9/\Js.at 0=pV b/\Js.at 3=(GY b3)/\Js.at 4=(GY b4)/\Js.at 5=(GY b5)/\Js.at 25=.slice pA t.args.length cA/\Js.at 26= GX (t.args.length:Int)/\Js.at 27= GX i) ⟨_,_,none,0,0,rfl,hS.only (.c k1 (.c k0 (.c k0 (.c k0 (.c k0 (.c k0 (.c k0 (.c k0 .n)))))))),(YA rfl e0),(YA rfl e3),(YA rfl e4),(YA rfl e5),Ya rfl fh,Zg rfl fh,fh⟩ ?_);clear hL hS e0 e3 e4 e5;rintro K7 ⟨i,fr,args⟩ s Jm hL ⟨Js,h10,aA,nA,ccA,rfl,hS,e0,e3,e4,e5,e25,e26,e27⟩;obtain rfl:=hS.on k1;refine r6 ?_;refine WC.U9 (Zm fh rfl) (fun hc=>?_) (fun hc=>?_)
 ·replace hL:=XI hc hL;refine r6 ?_;obtain⟨x,hx,hL⟩:=bS hL;obtain⟨b23,o24,⟨a25,c26⟩,J5,J7,J6,XY⟩:=Sl.at_ hsA hx;refine V2 (ZF Kq Xg (Zm (Zg rfl e25) rfl) (Zm (Zg rfl e27) rfl) rfl J5 hx) ?_;have KD:Sl Zj wm h a25 c26 x.kids:=YS.1 XY;refine V2 (YB UH Xg (Zm fh rfl) (At.fz hS.fz J6 J7) (j:=0) rfl rfl (ws:=[GX x.op,GX x.n,.string x.text,.slice a25 x.kids.length c26]) rfl)<|r1 ?_;rintro _ h28 ⟨b7,eb7,rfl,hS⟩;refine r1 ?_;rintro h29 hS;refine r2 ?_;refine WC.JK mixed Kq0<|r1 ?_;refine WX.wr (fun x=>x=b5) hS gN rfl (fun _ _ hR=>ZU ZAP (Zm fh rfl) (At.eqv (hR b5 rfl) (hS.UL k1)) (j:=2) rfl (v:=.slice aA args.length ccA) rfl) ?_ rfl rfl;rintro h30 e30 hS;refine r2 ?_;obtain⟨y,hy,hL⟩:=bS hL;refine WX.cl gN rfl (Yi.fn ZxY (Zb (Zm (Zg rfl fh) rfl) (Zb (Zm fh rfl) Zd))) hS (.c k5 (.c k5 (.c k5 (.c k5 .n)))) (fun g' hz hf hO=>ZzW (cf:=cf) (ct:=ct) (fv:=fv) (taken:=ws.2) hr F (fr,x) y hy (hS.V6 hz) ((hS.sl KD).mono hf) hO) ?_ rfl rfl [1] Kq0 (.c .z (hS.djs (.c k1 (.c k4 (.c k4 (.c k4 (.c k4 .n)))))) Xf.e);rintro _ h34 _ ⟨a31,c33,rfl,rfl⟩ hS;refine WX.hn gN rfl (Uj (e:=Zj) hS Kq Xg Zf8 rfl rfl rfl (ZA (Zm fh rfl) Z0) rfl [((a31,c33),y.2)] rfl (xs:=[y.2]) rfl (by intro q hq;simp only[Ks,Jx,or_false]at hq;subst hq;exact(YS.2 (hS.fsl k0))) rfl) ?_ Kq0;rintro _ h37 ⟨b36,ZDD,rfl,hS⟩;obtain⟨z,hz,hL⟩:=bS hL;refine WX.hv gN rfl (JY (e:=Zj) hS k8 Zkt (Zm (YA rfl fh) rfl) (Zm fh rfl) (hS.QF k0) (hS.on k0) hz) ?_ rfl Kq0 [] Kq0 Xf.e;rintro _ h41 ⟨a39,c40,rfl,hS⟩;refine WX.w gN rfl (YT ZtV (Zm (YM rfl (Ya rfl (Zg rfl e5))) rfl)) ?_ Kq0;refine WX.hu gN (Uy hS k8 ZmM (Zm fh rfl) (Zm (Zg rfl fh) rfl) (vs:=[.slice a39 z.length c40]) rfl rfl rfl rfl (cs':=[GX t.op,.string tx,.slice a39 z.length c40,GW,GW]) rfl) ?_ rfl Kq0 [] Kq0 Xf.e;rintro h42 hS;refine r6 ?_;refine r1 ?_;exact ZO.Yc (Jm _ _ hL ⟨_,_,a39,z.length,c40,rfl,hS.only (.c k0 (.c k0 (.c k7 (.c k7 (.c k2 (.c k2 (.c k2 (.c k2 .n)))))))),(YM rfl (YA rfl (Ya rfl e0))),(YM rfl (YA rfl (Ya rfl e3))),(YM rfl (YA rfl (Ya rfl e4))),(YM rfl (YA rfl (Ya rfl e5))),(YM rfl (YA rfl (Ya rfl e25))),(YM rfl (YA rfl (Ya rfl e26))),fh⟩)
 replace hL:=XJ hc hL;refine r4 ?_;refine r1 ?_;refine WC.fzn hS k1 ?_;rintro h43 ⟨hn43,hS⟩;refine r6 ?_;refine WC.KJ (r:=r) (fun(q:WS×U NM×U Za)(s:Fs)=>∃(K9:Fr) (h9:H) (S1:U SE) (b8:Nat) (rd:O Addr) (rcd:Nat),s=⟨K9,[],h9,none⟩/\(∀e∈S,e∈S1)/\Rd S1 (some b8) q.2.1/\Sp wm T h (bx wm b5 [GX t.op,.string tx,.slice aA args.length ccA,.slice rd q.2.2.length rcd,GW]::YW wm (Y8 Zj) (aA,ccA) args::YW wm (Y8 Zc) (rd,rcd) q.2.2::bx wm b4 [GX 0,.string (⟨#[]⟩:Y),GW,GW,GW]::bx wm b3 [GX t.op,.string t.text,.slice pA t.args.length cA,.slice pD t.defs.length cD,.slice pK t.kids.length cK]::Wm wm w cf ct fv q.1.1 q.1.2 S1) h9/\K9.at 3=(GY b3)/\K9.at 4=(GY b4)/\K9.at 5=(GY b5)/\K9.at 8=pV b8) (U4 F t Zq tx args) ?_ ?_
 rotate_left
 ·refine WC.seq<|r6 ?_;refine cn hL ?_ ?_
  ·intro hc hL;refine r4 ?_;obtain⟨cp,hcp,hL⟩:=bS hL;refine V3 (Yi.fn ZLm (Zb (Zm fh rfl) Zd)) hS .n (fun g' hz hf hO=>ZzF (hS.V6 hz) ((hS.sl hsD).mono hf) hcp) ?_;rintro _ h50 _ ⟨ra0,rn0,rc0,ra1,rn1,rc1,rfl,rfl⟩ hS;obtain rfl:=hS.on k0;obtain rfl:=hS.on k1;refine r1 ?_;refine V2 (Xk (Zm fh rfl) rfl)<|V2 (Xk (Zm (Zg rfl fh) rfl) rfl)<|r8 ?_;refine r1 ?_;obtain⟨names,hnm,hL⟩:=bS hL;refine WO.hv gN rfl (JY (e:=Zx) hS k0 XP (Zm (Zg rfl fh) rfl) (Zm fh rfl) (hS.QF k1) (hS.on k1) hnm) ?_;rintro _ h51 ⟨aN,cN,rfl,hS⟩;refine WO.fzn hS k0 ?_;rintro h52 ⟨ZQN,hS⟩;have hS:=hS.add (A:=YW wm ZB ((pA,cA),(pD,cD),(pK,cK)) t) (ZB.mono hS.fz hF) (fun _ z=>z);refine V2 (Zag (Zb (Zm (YM rfl (YM rfl (Ya rfl e3))) rfl) Zd)) ?_;obtain⟨bd,hbd,hL⟩:=bS hL;refine V3 (Yi.fn ZxW (Zb (Zm (YA rfl fh) rfl) (Zb (Zm (Zg rfl fh) rfl) (Zb (Zm fh rfl) Zd)))) hS (.c k6 (.c k0 (.c k5 (.c k5 (.c k5 (.c k5 .n)))))) (fun g' hz hf hO=>hB (hS.V6 hz) hr ((hS.fsl k1).mono hf) (hW1 b3 ((pA,cA),(pD,cD),(pK,cK)) t) hbd hO) ?_;rintro _ h53 _ ⟨S1,b1,hS1,rfl,hr1,rfl⟩ hS;refine r6 ?_;refine r1 ?_;obtain⟨d,hd,hL⟩:=bS hL;rcases d with d|ek
   rotate_left
   ·replace hL:=Z9 hL;refine WO.WI gN (Yi.fn Znf (Zb (Zm (Ya rfl fh) rfl) (Zb (Zm fh rfl) Zd))) hS (.c k2 (.c k2 (.c k2 (.c k2 .n)))) (fun g' hz hf hO=>Zp5 (F:=F) (WIN:=WIN) (Yk:=Yk) (WY:=WY) @hB hW Zbk F ((fr,bd.1),t.defs) _ hd (hS.V6 hz) hr1 ((hS.sl hsD).mono hf) hO) ?_;rintro Zk2 hS
    repeat first|refine ZP.panic ?_|refine YG.panic ?_|refine ZO.panic ?_|refine YJ.panic ?_
    have hr':=Oi0 hL;subst hr';exact YK.ZmV hT hS
   replace hL:=Yv hL;refine V3 (Yi.fn Znf (Zb (Zm (Ya rfl fh) rfl) (Zb (Zm fh rfl) Zd))) hS (.c k2 (.c k2 (.c k2 (.c k2 .n)))) (fun g' hz hf hO=>PQ.ok (Zp5 (F:=F) (WIN:=WIN) (Yk:=Yk) (WY:=WY) @hB hW Zbk F ((fr,bd.1),t.defs) _ hd (hS.V6 hz) hr1 ((hS.sl hsD).mono hf) hO)) ?_;rintro _ h54 _ ⟨S2,rd,rcd,hS2,rfl,rfl⟩ hS;refine r2 ?_;rintro h55 hS;refine r1 ?_;exact YJ.Yc (d.1,bd.2::c,d.2) hL ⟨_,_,S2,b1,rd,rcd,rfl,fun e he=>hS2 e (hS1 e he),hr1.mono hS2,hS.only (.c k0 (.c k9 (.c k0 (.c k8 (.c k4 (.c k0 (.c k0 (.c k0 (.c k0 .n))))))))),(YM rfl (YM rfl (YM rfl (Ya rfl e3)))),(YM rfl (YM rfl (YM rfl (Ya rfl e4)))),(YM rfl (YM rfl (YM rfl (Ya rfl e5)))),(YA rfl (Zg rfl fh))⟩
  ·intro hc hL;refine r1 ?_;have hS:=hS.add (A:=YW wm (Y8 Zc) (none,0) []) Sl.nil (fun _ z=>z);exact YJ.Yc ((fr,ws.2),c,[]) hL ⟨_,_,S,b,none,0,rfl,fun _ q=>q,hr,hS.only (.c k2 (.c k1 (.c k0 (.c k0 (.c k0 (.c k0 (.c k0 (.c k0 (.c k0 .n))))))))),(YA rfl (Ya rfl e3)),(YA rfl (Ya rfl e4)),(YA rfl (Ya rfl e5)),(Ya rfl (Zg rfl fh))⟩
 clear hL hS e0 e3 e4 e5;rintro⟨ws2,c2,ds⟩ s hL ⟨frz,h60,S1,b8,rd,rcd,rfl,hS1,hr8,hS,e3,e4,e5,e8⟩;dsimp only[U4]at hL hr8;refine r8 ?_;refine r2 ?_;have hS:=hS.nil (e:=ZB);refine WC.loop (WL.lift hL (fun(q:Int×WS×U Term)(s:Fs)=>match q with | (i,ws,acc)=>∃(Js:Fr) (h9:H) (a:O Addr) (n cc:Nat) (S2:U SE),s=⟨Js,[],h9,none⟩/\(∀e∈S1,e∈S2)/\Sp wm T h (bx wm b5 [GX t.op,.string tx,.slice aA args.length ccA,.slice rd ds.length rcd,.slice a n cc]::ow wm ZB a n cc acc::YW wm (Y8 Zj) (aA,ccA) args::YW wm (Y8 Zc) (rd,rcd) ds::bx wm b4 [GX 0,.string (⟨#[]⟩:Y),GW,GW,GW]::Wm wm w cf ct fv ws.1 ws.2 S2) h9/\Js.at 4=(GY b4)/\Js.at 5=(GY b5)/\Js.at 8=pV b8/\Js.at 62=.slice pK t.kids.length cK/\Js.at 63= GX (t.kids.length:Int)/\Js.at 64= GX i) ⟨_,_,none,0,0,S1,rfl,fun _ q=>q,hS.only (.c k1 (.c k0 (.c k0 (.c k0 (.c k0 (.c k1 (.c k1 (.c k1 (.c k1 .n))))))))),(YA rfl e4),(YA rfl e5),(YA rfl e8),Ya rfl fh,Zg rfl fh,fh⟩ ?_);clear hL hS e3 e4 e5 e8;rintro ZPZ ⟨i3,ws3,acc⟩ s ZCr hL ⟨Zd5,h61,aK,nK,ccK,S2,rfl,hS2,hS,e4,e5,e8,e62,e63,e64⟩;obtain rfl:=hS.on k1;refine r6 ?_;refine cn hL ?_ ?_
 ·intro hc hL;refine r6 ?_;obtain⟨x,hx,hL⟩:=bS hL;obtain⟨b23,o24,qx,J5,J7,J6,XY⟩:=Sl.at_ hsK hx;refine V2 (ZF WB Xj (Zm (Zg rfl e62) rfl) (Zm (Zg rfl e64) rfl) rfl J5 hx)<|V2 (YB WM Xj (Zm fh rfl) (At.fz hS.fz J6 J7) (j:=0) rfl rfl (ws:=JX qx x) rfl)<|r1 ?_;rintro _ h28 ⟨b12,ZIW,rfl,hS⟩;refine r1 ?_;rintro h29 hS;refine r2 ?_;obtain⟨y,hy,hL⟩:=bS hL;rcases y with y|ek
  rotate_left
  ·replace hL:=Z9 hL;obtain⟨Zk2,hSp,Zyi⟩:=PQ.Yd (Zbk _ _ hy hS.hw (hr8.mono hS2) (ZB.mono hS.fz XY) (hS.ZcY (.c k6 (.c k6 (.c k6 (.c k6 .n))))));refine WC.ZNY mixed (c:=4) Kq0<|PX.w rfl (YT Zh5 lk)<|PX.w rfl (ZU Zkv lk (hS.UL k1) (j:=4) rfl (v:=.slice aK acc.length ccK) rfl)<|PX.w rfl (Ym lk)<|PX.w rfl (YB WM Xj lk (hS.UL k0) (j:=0) rfl rfl (ws:=JX qx x) rfl)<|PX.call ⟨118,_,_,Zk2,rfl,Yi.fn Zb4 (Zb lk (Zb lk Zd)) _,Zyi,fun Qh=>?_⟩
   repeat first|refine ZP.panic ?_|refine YG.panic ?_|refine ZO.panic ?_|refine YJ.panic ?_
   have hr':=Oi0 hL;subst hr';exact YK.ZmV hT (hS.call (.c k6 (.c k6 (.c k6 (.c k6 .n)))) hSp)
  replace hL:=Yv hL;refine WC.JK mixed Kq0<|r1 ?_;refine WX.wr (fun x=>x=b5) hS gN rfl (fun _ _ hR=>ZU Zkv (Zm fh rfl) (At.eqv (hR b5 rfl) (hS.UL k1)) (j:=4) rfl (v:=.slice aK acc.length ccK) rfl) ?_ rfl rfl;rintro h30 e30 hS;refine r2 ?_;refine WX.cl gN rfl (Yi.fn Zb4 (Zb (Zm (Zg rfl fh) rfl) (Zb (Zm fh rfl) Zd))) hS (.c k6 (.c k6 (.c k6 (.c k6 .n)))) (fun g' hz hf hO=>PQ.ok (Zbk _ _ hy (hS.V6 hz) (hr8.mono hS2) (ZB.mono hf (ZB.mono hS.fz XY)) hO)) ?_ rfl rfl [1] Kq0 (.c .z (hS.djs (.c k1 (.c k5 (.c k5 (.c k5 (.c k5 .n)))))) Xf.e);rintro _ h34 _ ⟨S3,q3,hS3,rfl,rfl⟩ hS;refine WX.hn gN rfl (Uj (e:=ZB) hS WB Xj Zik rfl rfl rfl (ZA (Zm fh rfl) Z0) rfl [(q3,y.2)] rfl (xs:=[y.2]) rfl (by intro q hq;simp only[Ks,Jx,or_false]at hq;subst hq;exact hS.get k0) rfl) ?_ Kq0;rintro _ h37 ⟨b36,ZDD,rfl,hS⟩;obtain⟨z,hz,hL⟩:=bS hL;refine WX.hv gN rfl (JY (e:=ZB) hS k8 ZAE (Zm (YA rfl fh) rfl) (Zm fh rfl) (hS.QF k0) (hS.on k0) hz) ?_ rfl Kq0 [] Kq0 Xf.e;rintro _ h41 ⟨a39,c40,rfl,hS⟩;refine WX.w gN rfl (YT Zh5 (Zm (YM rfl (Ya rfl (Zg rfl e5))) rfl)) ?_ Kq0;refine WX.hu gN (Uy hS k8 Zrn (Zm fh rfl) (Zm (Zg rfl fh) rfl) (vs:=[.slice a39 z.length c40]) rfl rfl rfl rfl (cs':=[GX t.op,.string tx,.slice aA args.length ccA,.slice rd ds.length rcd,.slice a39 z.length c40]) rfl) ?_ rfl Kq0 [] Kq0 Xf.e;rintro h42 hS;refine r6 ?_;refine r1 ?_;exact ZO.Yc (ZCr _ _ hL ⟨_,_,a39,z.length,c40,S3,rfl,fun e he=>hS3 e (hS2 e he),hS.only (.c k0 (.c k0 (.c k7 (.c k7 (.c k7 (.c k2 (.c k2 (.c k2 (.c k2 .n))))))))),(YM rfl (YA rfl (Ya rfl e4))),(YM rfl (YA rfl (Ya rfl e5))),(YM rfl (YA rfl (Ya rfl e8))),(YM rfl (YA rfl (Ya rfl e62))),(YM rfl (YA rfl (Ya rfl e63))),fh⟩)
 ·intro hc hL;refine r4 ?_;refine r1 ?_;refine WC.fzn hS k1 ?_;rintro h43 ⟨hn43,hS⟩;refine r4 ?_;rintro h63 hS;refine r3 ?_;have hS:=hS.add (A:=YW wm ZB ((aA,ccA),(rd,rcd),(aK,ccK)) (Term.mk t.op tx args ds acc)) (QC.2 ⟨hS.fsl k3,hS.fsl k4,hS.fsl k1⟩) (fun _ z=>z);have hr':=Oi0 hL;subst hr';exact YK.Jr rfl (X4 (Ya rfl e4) (Jf WM Xj (hS.UL k1) (j:=0) rfl rfl (ws:=[GX t.op,.string tx,.slice aA args.length ccA,.slice rd ds.length rcd,.slice aK acc.length ccK]) rfl) Zk) ⟨_,⟨S2,((aA,ccA),(rd,rcd),(aK,ccK)),fun e he=>hS2 e (hS1 e he),rfl,rfl⟩,hT▸hS.only (.c k0 (.c k5 (.c k5 (.c k5 (.c k5 .n)))))⟩
end Go.Proofs.YtbnepjakjmnadaaGreat
end
end
section
set_option maxRecDepth 20000
noncomputable section
namespace Go.ZY
open Go.Lf
def Ztk{α:Type}:∀(Ga Gr:U α),Sel (Ga++Gr) Ga Gr
 | [],_=>.n
 | _::Ga,Gr=>.c .z (Ztk Ga Gr)
def ZAh{X:Ctx}{wm:Nat}{f:GR}{args:GT N}{h:H}{K:N->U (Ast wm)->Prop}{Ga:U (Ast wm)}(Gw:U (Ast wm))(Zv:wm<=h.size)(hO:Yb (Gw++Ga) h)(c:WR X f args wm h (CP K Ga h)):
 WR X f args wm h (CP (fun v Gb=>∃Gb',K v Gb'/\Gb=Gw++Gb') (Gw++Ga) h):=by
 obtain⟨e,h',⟨v,rfl,Gb,hk,hS⟩,hj⟩:=c;refine⟨_,h',⟨v,rfl,Gw++Gb,⟨Gb,hk,rfl⟩,?_⟩,hj⟩;have s:=Sp.start Zv hO;have s1:Sp wm (Ji (Gw++Ga)) h (Ga++Gw) h:=s.perm List.perm_append_comm;exact(s1.call (Ztk Ga Gw) hS).perm List.perm_append_comm
end Go.ZY
end
end
section
set_option maxRecDepth 20000
noncomputable section
namespace Go.Proofs.YtbnepjakjmnadaaGreat
open Go.ZY Go.Lf
section
def ZLl:(XX.fns.get 79).isSome=true:=Kq0
def ZLn:(XX.fns.get 68).isSome=true:=Kq0
def Zs9:YP XX.P 110=some (.agg #[.map none,.map none,.nilFunc]):=Kq0
instance:UM XX.P 110 (.agg #[.map none,.map none,.nilFunc]):=⟨Zs9⟩
def ZJk:Jq XX.P 110 [.map none,.map none,.nilFunc] [(0,1),(1,1),(2,1)]:=⟨_,_,Zs9,rfl,Tryz.underlying110,by kernel_rfl⟩
def Za5(F:Nat):UW:=fun tk _ names _=>(ZjZ F names).map fun m=>(tk,m)
def ZDN{F wm w cf:Nat}{ct:O Nat}{WIN:ZqS wm}:ZkF wm w cf ct FV0 WIN (Za5 F):=by
 intro h S b c names pa pc wv Gw wi free taken r Zv hr hsp _ hL hO;unfold Za5 at hL;obtain⟨m,hm,rfl⟩:=Option.map_eq_some_iff.1 hL;have hO':Yb (Wm wm w cf ct FV0 free taken S) h:=Yb.right hO;obtain⟨e,h',⟨v,rfl,Gb,⟨Gb',⟨S',b',h1,h2,h3,rfl⟩,rfl⟩,hS⟩,hj⟩:=ZAh Gw Zv hO (ZzR (wv:=wv) Zv hr hsp hO' hm);exact⟨_,h',⟨v,rfl,_,⟨S',b',h1,h2,h3,rfl⟩,hS⟩,hj⟩
def ZIm{F wm w:Nat}{ct cm:O Nat}{fv:FV wm}{WIN:ZqS wm}{Yk:UW}{WY:Za->U Y->O MB}{frL:Term->O MB}(hB:∀cf,ZkF wm w cf ct fv WIN Yk)(hW:Zn6 WIN WY)(hW1:ZA3 WIN frL)
 {taken:MB} {h:H} {t:Term} {p:TmP} {m:O Nat} {es:U (Y×EV)} {r:PR (WS×Term)} (Zv:wm<=h.size) (hF:ZB.F wm h p t) (hO:Yb [bx wm w [.map cm,.map ct,fv.v],fv.A,mp wm Value.string Value.bool ct taken,mp wm Value.string vvE m es,esA wm es] h) (hL:Zt9 F Yk WY frL (([],taken),[Zrx es],t)=some r):
  WF XX 79 #[pV w,.agg (JX p t).toArray,.map m] wm h (PQ 147 (fun(r:WS×Term) v (Gb:U (Ast wm))=>∃(cf:Nat) (S':U SE) (q:TmP),v=.agg (JX q r.2).toArray/\Gb=YW wm ZB q r.2::Wm wm w cf ct fv r.1.1 r.1.2 S') [bx wm w [.map cm,.map ct,fv.v],fv.A,mp wm Value.string Value.bool ct taken,mp wm Value.string vvE m es,esA wm es] h r):=by
 refine WF.begin (args:=[_,_,_]) (fn:=Tryz.f79) Kq0 (by exact rfl) Tryz.ntmps79 (by simp) ?_;simp only[ZE,ZJ,Nat.reduceAdd];obtain⟨T,hT,hS⟩:∃T,T=Ji (wm:=wm) [bx wm w [.map cm,.map ct,fv.v],fv.A,mp wm Value.string Value.bool ct taken,mp wm Value.string vvE m es,esA wm es]/\Sp wm T h [bx wm w [.map cm,.map ct,fv.v],fv.A,mp wm Value.string Value.bool ct taken,mp wm Value.string vvE m es,esA wm es] h:=⟨_,rfl,Sp.start Zv hO⟩
 refine r3 ?_;rintro _ h3 ⟨b4,eb4,rfl,hS⟩;refine r1 ?_;rintro _ h4 ⟨b6,eb6,rfl,hS⟩;refine r4 ?_;refine r1 ?_;refine V4 (Zhn Value.string Value.bool hS) ?_;rintro _ h5 ⟨cf,ecf,rfl,hS⟩;refine r3 ?_;rintro h6 hS;have hS:=ZGf (hS.only (.c k0 (.c k3 (.c k0 (.c k0 (.c k0 (.c k0 (.c k0 (.c k0 .n)))))))));refine r6 ?_;refine V2 (Qy ZAr (ZA (Zm (Zg rfl fh) rfl) (ZA (Zm fh rfl) Z0)) rfl (cs':=[pV w,Zdo none,.map m]) rfl)<|r1 ?_;rintro _ h7 ⟨bs,ebs,rfl,hS⟩;have hS:=hS.add (A:=stA wm w []) (fun x hx=>by cases hx) (fun i z=>by obtain⟨x,hx,_⟩:=z;cases hx);have hS:=ZwF (S:=[]) (b:=bs) (ar:=none) (m:=m) (es:=es) (hS.only (.c k1 (.c k6 (.c k6 (.c k0 (.c k0 (.c k0 (.c k2 (.c k0 (.c k0 .n))))))))));refine r1 ?_;rcases r with r|ek
 rotate_left
 ·refine WO.WI gN (Yi.fn Zb4 (Zb (Zm (Zg rfl fh) rfl) (Zb (Zm fh rfl) Zd))) hS (.c k1 (.c k1 (.c k1 (.c k0 .n)))) (fun g' hz hf hO=>Zp6 (F:=F) (WIN:=WIN) (Yk:=Yk) (WY:=WY) (frL:=frL) (hB cf) hW hW1 F (([],taken),[Zrx es],t) _ hL (b:=bs) (hS.V6 hz) (Rd.cons (e:=⟨bs,none,m,es⟩) Gz Rd.nil) (ZB.mono hf (ZB.mono hS.fz hF)) hO) ?_;rintro Zk2 hS
  repeat first|refine ZP.panic ?_|refine YG.panic ?_|refine ZO.panic ?_|refine YJ.panic ?_
  exact YK.ZmV hT hS
 refine V3 (Yi.fn Zb4 (Zb (Zm (Zg rfl fh) rfl) (Zb (Zm fh rfl) Zd))) hS (.c k1 (.c k1 (.c k1 (.c k0 .n)))) (fun g' hz hf hO=>PQ.ok (Zp6 (F:=F) (WIN:=WIN) (Yk:=Yk) (WY:=WY) (frL:=frL) (hB cf) hW hW1 F (([],taken),[Zrx es],t) _ hL (b:=bs) (hS.V6 hz) (Rd.cons (e:=⟨bs,none,m,es⟩) Gz Rd.nil) (ZB.mono hf (ZB.mono hS.fz hF)) hO)) ?_;rintro _ h8 _ ⟨S1,q,_,rfl,rfl⟩ hS;refine r1 ?_;rintro h9 hS;refine r3 ?_;exact YK.Jr rfl (X4 (YM rfl (Ya rfl fh)) (Jf WM Xj (hS.UL k0) (j:=0) rfl rfl (ws:=JX q r.2) rfl) Zk) ⟨_,⟨cf,S1,q,rfl,rfl⟩,hT▸hS.only (.c k1 (.c k1 (.c k1 (.c k1 (.c k1 .n)))))⟩
def Zvv(F:Nat)(t:Term):O MB:=((Zt9 F (Za5 F) (fun _ _=>none) (fun _=>none) (([],[]),[[]],t)).bind okP).map fun r=>r.1.1
def ZIo{F wm:Nat}{h:H}{t:Term}{pA pD pK:O Addr}{cA cD cK:Nat}{r:MB}(Zv:wm<=h.size)(hsA:Sl Zj wm h pA cA t.args)(hsD:Sl Zc wm h pD cD t.defs)(hsK:Sl ZB wm h pK cK t.kids)(hL:Zvv F t=some r):
 WR XX 68 #[.agg #[GX t.op,.string t.text,.slice pA t.args.length cA,.slice pD t.defs.length cD,.slice pK t.kids.length cK]] wm h (CP (fun v (Gb:U (Ast wm))=>∃(cf:Nat),v=.map (some cf)/\Gb=[mp wm Value.string Value.bool (some cf) r]) [] h):=by
 have hF:ZB.F wm h ((pA,cA),(pD,cD),(pK,cK)) t:=QC.2 ⟨hsA,hsD,hsK⟩;unfold Zvv at hL;obtain⟨r',hr',rfl⟩:=ZoJ hL;refine bg Tryz.ntmps68 Zv Yb.nil ?_;intro T hT hS;refine r3 ?_;rintro _ h3 ⟨b1,eb1,rfl,hS⟩;refine r4 ?_;refine r1 ?_;refine V2 (Qy ZJk Z0 rfl (cs':=[.map none,.map none,.nilFunc]) rfl)<|r1 ?_;rintro _ h4 ⟨bw,ebw,rfl,hS⟩;refine r6 ?_;refine r1 ?_;have hS:=hS.add (A:=esA wm []) (fun x hx=>by cases hx) (fun _ z=>z);have hS:=hS.add (A:=mp wm Value.string vvE none []) ZqW.nil (fun i z=>by cases z);have hS:=hS.add (A:=mp wm Value.string Value.bool none []) ZqW.nil (fun i z=>by cases z);have hS:=hS.add (A:=noA wm) trivial (fun i z=>z);refine V3 (Yi.fn ZLl (Zb (Zm (Zg rfl fh) rfl) (Zb (Zm fh rfl) (Zb (UA rfl) Zd)))) hS (.c k4 (.c k0 (.c k0 (.c k0 (.c k0 .n))))) (fun g' hz hf hO=>PQ.ok (ZIm (F:=F) (w:=bw) (fv:=FV0) (WIN:=fun _ _ _=>True) (Yk:=Za5 F) (WY:=fun _ _=>none) (frL:=fun _=>none) (fun cf=>@ZDN F wm bw cf none (fun _ _ _=>True)) (fun _ _ _ _ _ _ _=>trivial) (fun _ _ _=>trivial) (p:=((pA,cA),(pD,cD),(pK,cK))) (es:=[]) (hS.V6 hz) (ZB.mono hf (ZB.mono hS.fz hF)) hO hr')) ?_;rintro _ h8 _ ⟨cf,S1,q,rfl,rfl⟩ hS;refine r6 ?_;refine r1 ?_;refine V2 (ZU ZqL (Zm fh rfl) (Ztd hS k1) (j:=0) rfl (v:=.map (some cf)) rfl)<|r4 ?_;exact YK.Jr rfl (Zn (Zm fh rfl) Zk) ⟨_,⟨cf,rfl,rfl⟩,hT▸hS.only (.c k2 .n)⟩
end
section
def ZNJ(F:Nat)(t:Term):O Term:=((Zt9 F (Za5 F) (fun _ _=>none) (fun _=>none) (([],[]),[[]],t)).bind okP).map fun r=>r.2
end
section
open Go.ZY Go.RowKit Go.Maps Go.Sort Go.Shelf Go.Lf
def ZC3{wm m:Nat}{h:H}:Yx XX (.call 67 #[.map (some m)] wm h) (.fin (.ret (.func (.func 111) #[] #[(GY h.size)])) (h.push (.box m))):=by
 intro ρ args' w Zv hr hvs;refine(ZtD hr hvs).mono fun e w' ⟨v',p,l,he,hb,hp,hp2,hvr,ho⟩=>?_
 subst he;obtain⟨q1,q2⟩:=Zrq hr Zv hb hp hp2 ho;exact⟨_,.ret hvr,q1,q2⟩
def ZBU{ρ:ZY.Ren}{h:H}{w w':GS}{v:N}{ss L:U (U UInt8)}(h1:L≠[])(h2:L.mergeSort leB=L)(hp:ss.Perm L)
 (ho:w'.ownsRow w.heap.size 9 1 v ss.length ((ss.mergeSort fun x y=>decide (x<=y)).map encStr)):
 ∃p l,w.heap.size<=p/\p<w'.heap.size/\VR (ρ.add h.size (p,0) l) (.slice (some ⟨h.size,0,none⟩) L.length (2*L.length+1)) v/\QA (ρ.add h.size (p,0) l) w' p 0 l (.row (L.map encStr) true 1):=by
 have hm:(ss.mergeSort fun x y=>decide (x<=y))=L:=by
  have e1:ss.mergeSort leB=L.mergeSort leB:=mergeSort_of_perm hp;exact e1.trans h2
 rw[hm,hp.length_eq]at ho;obtain⟨_,⟨_,h0⟩|⟨g,cap,cur,rfl,hb,hg,c1,c2,c3,c4⟩⟩:=ho
 ·exact absurd (G3 h0) h1
 ·have hlt:g<w'.heap.size:=(Q3.1 hg).1;refine⟨g,(cur.size,1),hb,hlt,?_,?_⟩
  ·have:=VR.slice (ρ:=ρ.add h.size (g,0) (cur.size,1)) (i:=h.size) (b:=g) (d:=0) 0 L.length (2*L.length+1) cap (Ren.add_same _ _ _ _) ?_
   ·exact this
   ·rw[Ren.K3];refine⟨Kx c2 (by decide),?_⟩;rw[if_neg GZ];dsimp only;omega
  ·refine⟨cur,9,(0,0),hg,fun _=>⟨rfl,fun _=>rfl⟩,by simp;omega,fun k v v' a b=>?_⟩;rw[Nat.mul_one]at c4
   have:cur.toList[k]? =some v:=by
    have hk:(L.map encStr)[k]? =some v:=a;rw[<-c4,List.getElem?_take]at hk;split at hk
    ·exact hk
    ·cases hk
   rw[J1]at b;rw[<-G0,this]at b;cases b;rw[GG,Option.map_eq_some_iff]at a;obtain⟨x,_,rfl⟩:=a;exact VR.string _
def Zrh{ρ:ZY.Ren}{h:H}{i m clock:Nat}{args':GT N}{w:GS}{es:U GU}{ks L:U (U UInt8)}(hr:Rel ρ h w)(hi:h.at i=.box m)(hat:h.at m=.map es clock)(c1:Xt clock es=true)(c2:es.length<=1000000)(c3:Zbh es=some ks)(c4:nodupB ks=true)(hsz:Maps.size (Jl ks)<=1000000)(h1:L≠[])(h2:L.mergeSort leB=L)(hL:(strKeys (Jl ks)).Perm L)
 (hv:Ju ρ #[.func (.func 111) #[] #[(GY i)]] args'):
 CallsIn base 0 Tryz.prog 66 args' w (fun e w'=>∃v' p l,e=.returned v'/\Below w.heap.size w w'/\w.heap.size<=p/\p<w'.heap.size/\
  VR (ρ.add h.size (p,0) l) (.slice (some ⟨h.size,0,none⟩) L.length (2*L.length+1)) v'/\QA (ρ.add h.size (p,0) l) w' p 0 l (.row (L.map encStr) true 1)):=by
 obtain⟨b,d,rfl,hb⟩:∃b d,args'=#[.func (.func 111) #[] #[.pointer (some ⟨b,d+0,none⟩)]]/\ρ i=some (b,d):=by
  have h1:args'.size=1:=hv.1.symm;have h2:=hv.2 0 _ (args'[0]'GZ) (by rfl) (by simp[h1])
  have h3:args'=#[args'[0]'GZ]:=by
   apply Array.ext
   ·simp[h1]
   ·intro i hi _;obtain rfl:i=0:=GZ
    rfl
  generalize args'[0]'GZ=y at h2 h3;cases h2 with
  | func _ _ _ xs' ys' hf hx hy k1 k2=>
    have e1:xs'=#[]:=GF hx.symm;have hy:ys'.size=1:=hy.symm;have k3:=k2 0 _ (ys'[0]'GZ) (by rfl) (by simp[hy])
    have e2:ys'=#[ys'[0]'GZ]:=by
     apply Array.ext
     ·simp[hy]
     ·intro i hi _;obtain rfl:i=0:=GZ
      rfl
    generalize ys'[0]'GZ=z at k3 e2;cases k3 with
    | @ptr _ b d _ hb=>exact⟨b,d,by rw[h3,e1,e2],hb⟩
 have ho:=hr.obj _ _ _ hb;rw[hi]at ho;obtain⟨rfl,bm,el,hbm,hcell⟩:=ho;have hom:=hr.obj _ _ _ hbm;rw[hat]at hom;obtain⟨_,es',hw,hes⟩:=hom;have hown:=Zrs hw hes c1 c2 c3 c4;have hlt:=(hr.dom _ _ _ hb).2
 have hseq:SeqGives base 2 Tryz.prog 111 #[(GY b)] encStr (fun ss=>ss.Perm (strKeys (Jl ks))) (Maps.size (Jl ks)) w:=
  AnyZ.keys_gives (ρ:=ZcX) {ZtE with} base _ (inB Kq0) rfl GZ b bm _ _ w hlt (by simp[World.cell?,hcell]) hown
 have h1m:(1000000:Nat)<=maxLen:=by decide
 have cS:=AnyZ.sorted_in ZmH base 5 (inB Kq0) (inB Kq0) (inB Kq0) (inB Kq0) rfl GZ (sorts _) (enters_of Tryz.func110 Kq0 rfl) 111 #[(GY b)] (inB Kq0) (enters_of Tryz.func111 Kq0 rfl) _ _ GZ GZ _ hseq;refine CallsIn.mono (Zdc cS) ?_;rintro e w' ⟨v,ss,rfl,hS,hrow,_,hbel⟩;obtain⟨p,l,q1,q2,q3,q4⟩:=ZBU (ρ:=ρ) (h:=h) h1 h2 (hS.trans hL) hrow;exact⟨v,p,l,rfl,hbel,q1,q2,q3,q4⟩
def ZzG{wm i m clock:Nat}{h:H}{es:U GU}{ks L:U (U UInt8)}(hi:h.at i=.box m)(hat:h.at m=.map es clock)(c1:Xt clock es=true)(c2:es.length<=1000000)(c3:Zbh es=some ks)(c4:nodupB ks=true)(hsz:Maps.size (Jl ks)<=1000000)(h1:L≠[])(h2:L.mergeSort leB=L)(hL:(strKeys (Jl ks)).Perm L):
 Yx XX (.call 66 #[.func (.func 111) #[] #[(GY i)]] wm h) (.fin (.ret (.slice (some ⟨h.size,0,none⟩) L.length (2*L.length+1))) (h.push (.row (L.map encStr) true 1))):=by
 intro ρ args' w Zv hr hvs;refine(Zrh hr hi hat c1 c2 c3 c4 hsz h1 h2 hL hvs).mono fun e w' ⟨v',p,l,he,hb,hp,hp2,hvr,ho⟩=>?_
 subst he;obtain⟨q1,q2⟩:=Zrq hr Zv hb hp hp2 ho;exact⟨_,.ret hvr,q1,q2⟩
def kbs(l:U (Y×Z)):U (U UInt8):=l.map fun p=>p.1.data.toList
def ZhN(l:U (Y×Z)):U (U UInt8):=(kbs l).mergeSort leB
def ZaK(l:U (Y×Z)):U Y:=(ZhN l).map fun k=>⟨k.toArray⟩
def ZrI(ks:U (U UInt8)):(strKeys (Jl ks)).Perm ks:=by
 unfold Jl;show(((ks.map fun k=>(Lit.string k,DataW.nil (H:=Unit))).foldr DataW.insert []).map fun p=>strOf p.1).Perm ks;have h:=(Go.WideShapes.sorted_perm (ks.map fun k=>(Lit.string k,DataW.nil (H:=Unit)))).map fun p=>strOf p.1
 rw[List.map_map]at h
 have e:ks.map ((fun p:Lit×DataW Unit=>strOf p.1)∘fun k=>(Lit.string k,DataW.nil))=ks:=by
  conv=>rhs;rw[<-List.map_id ks]
  exact List.map_congr_left fun k _=>rfl
 rwa[e]at h
def ZuU(l:U (Y×Z)):(strKeys (Jl (kbs l))).Perm (ZhN l):=(ZrI _).trans (List.mergeSort_perm _ _).symm
def ZlU:∀a b c:U UInt8,leB a b=true->leB b c=true->leB a c=true:=fun a b c h1 h2=>by simp only[leB,decide_eq_true_eq]at *;exact List.le_trans h1 h2
def ZlV:∀a b:U UInt8,(leB a b||leB b a)=true:=fun a b=>by simp only[leB,Gv,decide_eq_true_eq];exact List.le_total a b
def Zou(l:U (Y×Z)):(ZhN l).mergeSort leB=ZhN l:=List.mergeSort_of_pairwise (List.pairwise_mergeSort ZlU ZlV _)
def Zit(l:U (Y×Z)):(ZhN l).length=l.length:=by unfold ZhN;rw[List.length_mergeSort];simp[kbs]
def ZoM{k:U UInt8}:∀{xs},k∉xs->ZlH k xs=true
 | [],_=>rfl
 | x::xs,h=>by
   unfold ZlH;rw[decide_eq_false (fun e=>h (by rw[e];simp))];exact ZoM fun hm=>h (KB _ hm)
def ZlJ:∀{xs:U (U UInt8)},xs.Nodup->nodupB xs=true
 | [],_=>rfl
 | x::xs,h=>by
   obtain⟨h1,h2⟩:=List.nodup_cons.1 h;unfold nodupB;rw[ZoM h1,ZlJ h2];rfl
def ZlI{b:Nat}:∀{es:U GU},b∉es.map (·.born)->KA b es=true
 | [],_=>rfl
 | e::es,h=>by
   unfold KA
   have:Nat.beq e.born b=false:=by
    cases hb:Nat.beq e.born b
    ·rfl
    ·exact absurd (by simp[Nb0 hb]) h
   rw[this];exact ZlI fun hm=>h (KB _ hm)
def Zgl{vv:Z->N}:∀(l:U (Y×Z))(bs:U Nat),bs.length=l.length->(Xy Value.string vv l bs).map (·.born)=bs
 | [],[],_=>rfl
 | [],_::_,h=>by cases h
 | _::_,[],h=>by cases h
 | p::l,b::bs,h=>by
   show b::(Xy Value.string vv l bs).map (·.born)=b::bs;rw[Zgl l bs (by simpa using h)]
def Zki{X8:Nat}:∀{es:U GU},(es.map (·.born)).Nodup->(∀b∈es.map (·.born),b<X8)->Xt X8 es=true
 | [],_,_=>rfl
 | e::es,h,hl=>by
   obtain⟨h1,h2⟩:=List.nodup_cons.1 h;unfold Xt;rw[ZlI h1,Zki h2 fun b hb=>hl b (KB _ hb)];have:Nat.blt e.born X8=true:=by rw[Jn];exact hl _ (by simp)
   rw[this];rfl
def Zo2{vv:Z->N}:∀(l:U (Y×Z))(bs:U Nat),bs.length=l.length->(∀p∈l,p.1.size<=1000000)->Zbh (Xy Value.string vv l bs)=some (kbs l)
 | [],[],_,_=>rfl
 | [],_::_,h,_=>by cases h
 | _::_,[],h,_=>by cases h
 | p::l,b::bs,h,hs=>by
   have i:=Zo2 (vv:=vv) l bs (by simpa using h) fun q hq=>hs q (KB _ hq)
   show(match ZxH (Value.string p.1),Zbh (Xy Value.string vv l bs) with|some k,some ks=>some (k::ks) | _,_=>none)=_
   have hk:ZxH (Value.string p.1)=some p.1.data.toList:=by
    have h1:=hs p (by simp);have:p.1.data.toList.length<=1000000:=by rw[JT];exact h1
    show(bif Nat.ble p.1.data.toList.length 1000000 then some p.1.data.toList else none)=_;rw[Nm0 this];rfl
   rw[hk,i];rfl
def ZrH(ks:U (U UInt8)):Maps.size (Jl ks)=ks.length:=by
 unfold Jl;rw[Maps.size_eq,(Go.WideShapes.sorted_perm _).length_eq,Ge]
def Zri{ρ:ZY.Ren}{h:H}{i m clock:Nat}{args':GT N}{w:GS}{es:U GU}{ks:U (U UInt8)}(hr:Rel ρ h w)(hi:h.at i=.box m)(hat:h.at m=.map es clock)(c1:Xt clock es=true)(c2:es.length<=1000000)(c3:Zbh es=some ks)(c4:nodupB ks=true)(hsz:Maps.size (Jl ks)<=1000000)(h1:ks=[])
 (hv:Ju ρ #[.func (.func 111) #[] #[(GY i)]] args'):
 CallsIn base 0 Tryz.prog 66 args' w (fun e w'=>e=.returned (GW)/\Below w.heap.size w w'):=by
 obtain⟨b,d,rfl,hb⟩:∃b d,args'=#[.func (.func 111) #[] #[.pointer (some ⟨b,d+0,none⟩)]]/\ρ i=some (b,d):=by
  have h1:args'.size=1:=hv.1.symm;have h2:=hv.2 0 _ (args'[0]'GZ) (by rfl) (by simp[h1])
  have h3:args'=#[args'[0]'GZ]:=by
   apply Array.ext
   ·simp[h1]
   ·intro i hi _;obtain rfl:i=0:=GZ
    rfl
  generalize args'[0]'GZ=y at h2 h3;cases h2 with
  | func _ _ _ xs' ys' hf hx hy k1 k2=>
    have e1:xs'=#[]:=GF hx.symm;have hy:ys'.size=1:=hy.symm;have k3:=k2 0 _ (ys'[0]'GZ) (by rfl) (by simp[hy])
    have e2:ys'=#[ys'[0]'GZ]:=by
     apply Array.ext
     ·simp[hy]
     ·intro i hi _;obtain rfl:i=0:=GZ
      rfl
    generalize ys'[0]'GZ=z at k3 e2;cases k3 with
    | @ptr _ b d _ hb=>exact⟨b,d,by rw[h3,e1,e2],hb⟩
 have ho:=hr.obj _ _ _ hb;rw[hi]at ho;obtain⟨rfl,bm,el,hbm,hcell⟩:=ho;have hom:=hr.obj _ _ _ hbm;rw[hat]at hom;obtain⟨_,es',hw,hes⟩:=hom;have hown:=Zrs hw hes c1 c2 c3 c4;have hlt:=(hr.dom _ _ _ hb).2
 have hseq:SeqGives base 2 Tryz.prog 111 #[(GY b)] encStr (fun ss=>ss.Perm (strKeys (Jl ks))) (Maps.size (Jl ks)) w:=
  AnyZ.keys_gives (ρ:=ZcX) {ZtE with} base _ (inB Kq0) rfl GZ b bm _ _ w hlt (by simp[World.cell?,hcell]) hown
 have h1m:(1000000:Nat)<=maxLen:=by decide
 have cS:=AnyZ.sorted_in ZmH base 5 (inB Kq0) (inB Kq0) (inB Kq0) (inB Kq0) rfl GZ (sorts _) (enters_of Tryz.func110 Kq0 rfl) 111 #[(GY b)] (inB Kq0) (enters_of Tryz.func111 Kq0 rfl) _ _ GZ GZ _ hseq;refine CallsIn.mono (Zdc cS) ?_;rintro e w' ⟨v,ss,rfl,hS,hrow,hnil,hbel⟩;subst h1;have:ss=[]:=hS.eq_nil;exact⟨by rw[hnil.2 this],hbel⟩
def ZzH{wm i m clock:Nat}{h:H}{es:U GU}{ks:U (U UInt8)}(hi:h.at i=.box m)(hat:h.at m=.map es clock)(c1:Xt clock es=true)(c2:es.length<=1000000)(c3:Zbh es=some ks)(c4:nodupB ks=true)(hsz:Maps.size (Jl ks)<=1000000)(h1:ks=[]):
 Yx XX (.call 66 #[.func (.func 111) #[] #[(GY i)]] wm h) (.fin (.ret (GW)) h):=by
 intro ρ args' w Zv hr hvs;refine(Zri hr hi hat c1 c2 c3 c4 hsz h1 hvs).mono fun e w' ⟨he,hb⟩=>?_
 subst he;refine⟨ρ,.ret (VR.ZN rfl),⟨fun i b d e=>?_,fun i b d e=>?_,hr.inj⟩,⟨Ren.le_refl ρ,K1 _,fun _ _=>rfl,fun _ _ x=>x,fun _ _ x=>x,hb.os,hb.tape,hb.output,hb.size,fun b hb' _=>hb.block b hb',fun i b d e e'=>by rw[e]at e';cases e'⟩⟩
 ·obtain⟨q1,q2⟩:=hr.dom i b d e;exact⟨q1,J0 q2 hb.size⟩
 ·exact(hr.obj i b d e).world (hb.block b (hr.dom i b d e).2)
end
end Go.Proofs.YtbnepjakjmnadaaGreat
end
end
