/- Part 16. -/
import Derived.Test.YtbnepjakjmnadaaGreatCn15
set_option linter.all false
set_option maxHeartbeats 2000000
section
set_option maxRecDepth 20000
noncomputable section
namespace Go.Proofs.YtbnepjakjmnadaaGreat
open Go.ZK Go.Lf
section
def ZrH:Int->O (Int×Int):=fun v16=>
 some (v16,0)
def Zju(Zmm:(Part×Int->O (Z×Int)))(x38:(U Part)):Int×Int->(Int×Int->O (Z×Int))->O (Z×Int):=fun(v47,v49) ZwU=>
 (bif decide (v47<(x38.length:Int)) then(YH x38 v47).bind fun x51=>(Zmm (x51,v49)).bind fun(v57,v58)=>(bif(!v57) then some (false,v58) else ZwU (XD (v47+1),v58)) else some (true,v49))
def Za3(F:Nat):Part×Int->(Part×Int->O (Z×Int))->O (Z×Int):=fun(v26,v28) Zmm=>
 (bif(!true) then some (false,XD (v28+1)) else(ZbO F v26).bind fun x38=>loop F (Zju Zmm x38) (0,XD (v28+1)))
def ZrI(F:Nat)(p0:Term):O (Int×Int):=
 (Zhm F p0).bind fun x3=>(bif(x3 !=0) then some (0,x3) else(loop F (Za3 F) ((Part.pr p0),0)).bind fun(v63,v64)=>(ZrH) v64)
def ZrG(F:Nat)(p0:Term):O (Int×Int):=
 (Zhm F p0).bind fun x3=>(bif(x3 !=0) then some (0,x3) else(ZrF F (Part.pr p0)).bind fun x4=>some (x4,0))
end
section
def ZHu{F wm h}{p0:Term}{Zf Ze Zu Zt Zq Zp}{r}(Zx:wm<=h.size)(Zl:Sl Zh wm h Zf Ze p0.args)(ZF:Sl Zc wm h Zu Zt p0.defs)(ZE:Sl Zv wm h Zq Zp p0.kids)(hL:ZrI F p0=some r):
 WR XX 19 #[.agg #[.int .i64 p0.op,.string p0.text,.slice Zf p0.args.length Ze,.slice Zu p0.defs.length Zt,.slice Zq p0.kids.length Zp]] wm h (CP (fun(v:N)(Gb:U (Ast wm))=>v=.tuple #[.int .i64 r.1,.int .i64 r.2]/\Gb=[]) [] h):=by
 refine WF.Qo (args:=[_]) (fn:=Tryz.f19) Kq0 (by exact rfl) Tryz.ntmps19 (by simp) ?_;simp only[Zn,Zw,Nat.reduceAdd];obtain⟨T,hT,hS⟩:∃T,T=QI (wm:=wm) []/\Sp wm T h [] h:=⟨_,rfl,Sp.start Zx Yh.nil⟩
 unfold ZrI at hL;refine r3 ?_;rintro _ h2 ⟨b1,eb1,rfl,hS⟩;refine r8 ?_;obtain⟨x3,hx3,hL⟩:=bS hL;refine WO.cp gN rfl (Yi.fn Zo4 (Zb lk Zd)) (Zgg (hS.slu Zl) (hS.slu ZF) (hS.slu ZE) hx3) ?_;refine r9 ?_;refine cn hL ?_ ?_
 ·intro hc hL;refine r9 ?_;have hr:=Oi0 hL;subst hr;exact ZO.gen rfl (ZC lk (ZC lk Zm)) rfl ⟨_,⟨rfl,rfl⟩,hT▸hS.only .n⟩
 ·intro hc hL;refine r5 ?_;rintro _ h5 ⟨b4,eb4,rfl,hS⟩;refine r1 ?_;rintro h6 hS;refine r6 ?_;refine V8 (XZ ZtW (ZG lk Ya) rfl (cs':=[.int .i64 p0.op,.string p0.text,.slice Zf p0.args.length Ze,.slice Zu p0.defs.length Zt,.slice Zq p0.kids.length Zp]) rfl) ?_;refine V8 (Zcf lk Kq0) ?_;refine WO.inl gN rfl (Yi.fn ZxU (Zb lk Zd)) (WF.begin (args:=[_]) (fn:=Tryz.f57) Kq0 (by exact rfl) Tryz.ntmps57 (by simp) ?_);simp only[Zn,Zw,Nat.reduceAdd];refine r3 ?_;rintro _ h8 ⟨b7,eb7,rfl,hS⟩;refine r5 ?_;refine V8 (UU (Zb lk Zd)) ?_;refine r4 ?_;refine Y6.JQ rfl (ZC lk Zm) ?_;refine r3 ?_;refine WC.ZwD (first:=[]) (cap:=[.pointer (some ⟨b7,0,none⟩)]) hS lk Zrq ?_;intro h9 l10 ZrR Zst Ztf hS;refine WR.ZFT (r:=r) (fun(v16:Int)(v:N)(h14:H)=>v=.tuple #[]/\Sp wm T h [bx wm b1 [.int .i64 p0.op,.string p0.text,.slice Zf p0.args.length Ze,.slice Zu p0.defs.length Zt,.slice Zq p0.kids.length Zp],bx wm b4 [.int .i64 v16],bx wm b7 [.iface 78 (.agg #[.int .i64 p0.op,.string p0.text,.slice Zf p0.args.length Ze,.slice Zu p0.defs.length Zt,.slice Zq p0.kids.length Zp])],ob wm l10 Zst,ob wm ZrR .deferred] h14) (ZrH) ?_ (WF.begin (args:=[_,_]) (fn:=Tryz.f100) Kq0 (by exact rfl) Tryz.ntmps100 (by simp) ?_)
  ·clear hL hS;rintro v16 v h14 hL ⟨rfl,hS⟩;dsimp only[ZrH]at hL;refine RgE.sp Ztf hS k3 ?_;rintro h17 hS;refine r10 ?_;refine ZO.Zfj hS k3 ?_;rintro h18 hS;have hr:=Oi0 hL;subst hr;exact ZO.gen rfl (ZC lk (ZC lk Zm)) rfl ⟨_,⟨rfl,rfl⟩,hT▸hS.only .n⟩
  ·skip;simp only[Zn,Zw,Nat.reduceAdd];refine r3 ?_;rintro _ h20 ⟨b19,ZLI,rfl,hS⟩;refine r5 ?_;rintro _ h22 ⟨b21,ZLH,rfl,hS⟩;refine r4 ?_;refine V8 (UU (Zb lk (Zb lk Zd))) ?_;refine r1 ?_;rintro h23 hS;refine r5 ?_;have hS:=hS.add (A:=YB wm (Y4 Zh) (Zf,Ze) p0.args) (hS.sl Zl) (fun _ z=>z);have hS:=hS.add (A:=YB wm (Y4 Zc) (Zu,Zt) p0.defs) (hS.sl ZF) (fun _ z=>z);have hS:=hS.add (A:=YB wm (Y4 Zv) (Zq,Zp) p0.kids) (hS.sl ZE) (fun _ z=>z)
   have ZF8:∀(Fr:Nat)(x:Part×Int)(r:Z×Int),loop Fr (Za3 F) x=some r->match x with | (v26,v28)=>∀{h:H}(q27:PtP),wm<=h.size->Yh (wm:=wm) [YB wm ZU q27 v26,bx wm b1 [.int .i64 p0.op,.string p0.text,.slice Zf p0.args.length Ze,.slice Zu p0.defs.length Zt,.slice Zq p0.kids.length Zp],bx wm b4 [.int .i64 v28],bx wm b7 [.iface 78 (.agg #[.int .i64 p0.op,.string p0.text,.slice Zf p0.args.length Ze,.slice Zu p0.defs.length Zt,.slice Zq p0.kids.length Zp])],bx wm b19 [.func (.yield l10) #[] #[]],bx wm b21 [.func (.func 101) #[] #[.pointer (some ⟨b19,0,none⟩),.pointer (some ⟨b21,0,none⟩)]],YB wm (Y4 Zh) (Zf,Ze) p0.args,YB wm (Y4 Zc) (Zu,Zt) p0.defs,YB wm (Y4 Zv) (Zq,Zp) p0.kids,ob wm l10 Zst,ob wm ZrR .deferred] h->WR XX 101 #[KV q27 v26,.pointer (some ⟨b19,0,none⟩),.pointer (some ⟨b21,0,none⟩)] wm h (CP (fun(v:N)(Gb:U (Ast wm))=>match r with | (v33,v34)=>v=.bool v33/\Gb=[bx wm b1 [.int .i64 p0.op,.string p0.text,.slice Zf p0.args.length Ze,.slice Zu p0.defs.length Zt,.slice Zq p0.kids.length Zp],bx wm b4 [.int .i64 v34],bx wm b7 [.iface 78 (.agg #[.int .i64 p0.op,.string p0.text,.slice Zf p0.args.length Ze,.slice Zu p0.defs.length Zt,.slice Zq p0.kids.length Zp])],bx wm b19 [.func (.yield l10) #[] #[]],bx wm b21 [.func (.func 101) #[] #[.pointer (some ⟨b19,0,none⟩),.pointer (some ⟨b21,0,none⟩)]],YB wm (Y4 Zh) (Zf,Ze) p0.args,YB wm (Y4 Zc) (Zu,Zt) p0.defs,YB wm (Y4 Zv) (Zq,Zp) p0.kids,ob wm l10 Zst,ob wm ZrR .deferred]) [YB wm ZU q27 v26,bx wm b1 [.int .i64 p0.op,.string p0.text,.slice Zf p0.args.length Ze,.slice Zu p0.defs.length Zt,.slice Zq p0.kids.length Zp],bx wm b4 [.int .i64 v28],bx wm b7 [.iface 78 (.agg #[.int .i64 p0.op,.string p0.text,.slice Zf p0.args.length Ze,.slice Zu p0.defs.length Zt,.slice Zq p0.kids.length Zp])],bx wm b19 [.func (.yield l10) #[] #[]],bx wm b21 [.func (.func 101) #[] #[.pointer (some ⟨b19,0,none⟩),.pointer (some ⟨b21,0,none⟩)]],YB wm (Y4 Zh) (Zf,Ze) p0.args,YB wm (Y4 Zc) (Zu,Zt) p0.defs,YB wm (Y4 Zv) (Zq,Zp) p0.kids,ob wm l10 Zst,ob wm ZrR .deferred] h):=by
    clear hL hS;refine Qa _ ?_;rintro Zmm ZBW ⟨v26,v28⟩ r hL h q27 Zx hO;dsimp only[Za3]at hL;obtain⟨T,hT,hS⟩:∃T,T=QI (wm:=wm) [YB wm ZU q27 v26,bx wm b1 [.int .i64 p0.op,.string p0.text,.slice Zf p0.args.length Ze,.slice Zu p0.defs.length Zt,.slice Zq p0.kids.length Zp],bx wm b4 [.int .i64 v28],bx wm b7 [.iface 78 (.agg #[.int .i64 p0.op,.string p0.text,.slice Zf p0.args.length Ze,.slice Zu p0.defs.length Zt,.slice Zq p0.kids.length Zp])],bx wm b19 [.func (.yield l10) #[] #[]],bx wm b21 [.func (.func 101) #[] #[.pointer (some ⟨b19,0,none⟩),.pointer (some ⟨b21,0,none⟩)]],YB wm (Y4 Zh) (Zf,Ze) p0.args,YB wm (Y4 Zc) (Zu,Zt) p0.defs,YB wm (Y4 Zv) (Zq,Zp) p0.kids,ob wm l10 Zst,ob wm ZrR .deferred]/\Sp wm T h [YB wm ZU q27 v26,bx wm b1 [.int .i64 p0.op,.string p0.text,.slice Zf p0.args.length Ze,.slice Zu p0.defs.length Zt,.slice Zq p0.kids.length Zp],bx wm b4 [.int .i64 v28],bx wm b7 [.iface 78 (.agg #[.int .i64 p0.op,.string p0.text,.slice Zf p0.args.length Ze,.slice Zu p0.defs.length Zt,.slice Zq p0.kids.length Zp])],bx wm b19 [.func (.yield l10) #[] #[]],bx wm b21 [.func (.func 101) #[] #[.pointer (some ⟨b19,0,none⟩),.pointer (some ⟨b21,0,none⟩)]],YB wm (Y4 Zh) (Zf,Ze) p0.args,YB wm (Y4 Zc) (Zu,Zt) p0.defs,YB wm (Y4 Zv) (Zq,Zp) p0.kids,ob wm l10 Zst,ob wm ZrR .deferred] h:=⟨_,rfl,Sp.start Zx hO⟩
    refine WF.begin (args:=[_,_,_]) (fn:=Tryz.f101) Kq0 (by exact rfl) Tryz.ntmps101 (by simp) ?_;simp only[Zn,Zw,Nat.reduceAdd];refine r9 ?_;refine V8 (ZW (Zk (Yt rfl fh) Z7)) ?_;refine WO.ZIR gN rfl lk (Zb (Zk fh Z7) Zd) hS k9 Ztf rfl rfl ?_;refine r1 ?_;refine AsK.sp Ztf hS k9 ?_;rintro h35 hS;refine r5 ?_;rintro h36 hS;refine r2 ?_;refine BdK.sp Ztf hS k1 ?_;rintro h37 hS;refine r3 ?_;refine cn hL ?_ ?_
    ·intro hc hL;refine r7 ?_;have hr:=Oi0 hL;subst hr;exact Y6.JQ rfl (ZC lk Zm) ⟨_,⟨rfl,rfl⟩,hT▸hS.only (.c k3 (.c k1 (.c k2 (.c k2 (.c k2 (.c k2 (.c k2 (.c k2 (.c k0 (.c k1 .n))))))))))⟩
    ·intro hc hL;refine r5 ?_;refine V8 (ZW (Zk (Yt rfl (Z9 rfl (Zj rfl fh))) Z7)) ?_;obtain⟨x38,hx38,hL⟩:=bS hL;refine WO.ZcQ gN rfl (Zk fh Z7) hS (hS.get k2) hx38 ?_;rintro h41 a39 c40 hS;refine r5 ?_;refine WC.loop (WL.lift hL (fun p s=>match p with | (v47,v49)=>∃ZbY h42,s=⟨ZbY,[],h42,none⟩/\Sp wm T h [bx wm b21 [.func (.func 101) #[] #[.pointer (some ⟨b19,0,none⟩),.pointer (some ⟨b21,0,none⟩)]],bx wm b19 [.func (.yield l10) #[] #[]],bx wm b1 [.int .i64 p0.op,.string p0.text,.slice Zf p0.args.length Ze,.slice Zu p0.defs.length Zt,.slice Zq p0.kids.length Zp],bx wm b4 [.int .i64 v49],bx wm b7 [.iface 78 (.agg #[.int .i64 p0.op,.string p0.text,.slice Zf p0.args.length Ze,.slice Zu p0.defs.length Zt,.slice Zq p0.kids.length Zp])],ow wm ZU a39 x38.length c40 x38,YB wm (Y4 Zh) (Zf,Ze) p0.args,YB wm (Y4 Zc) (Zu,Zt) p0.defs,YB wm (Y4 Zv) (Zq,Zp) p0.kids,ob wm l10 Zst,ob wm ZrR .deferred] h42/\ZbY.at 2=.pointer (some ⟨b21,0,none⟩)/\ZbY.at 12=.slice a39 x38.length c40/\ZbY.at 13=.int .i64 (x38.length:Int)/\ZbY.at 14=.int .i64 v47) ⟨_,_,rfl,hS.only (.c k7 (.c k6 (.c k4 (.c k2 (.c k3 (.c k0 (.c k2 (.c k2 (.c k2 (.c k0 (.c k1 .n))))))))))),X9⟩ ?_);clear hL hS;rintro ZwU ⟨v47,v49⟩ s ZBQ hL ⟨ZbY,h42,rfl,hS,e44,e45,e46,e48⟩;dsimp only[Zju]at hL;refine r6 ?_;refine cn hL ?_ ?_
     ·intro hc hL;refine r6 ?_;obtain⟨x51,ZoM,hL⟩:=bS hL;obtain⟨b52,o53,q54,ZKG,ZLi,ZKW⟩:=Src.at_ (hS.UN k5) ZoM;refine V8 (Z8 Kt WQ lk lk rfl ZKG ZoM) ?_;have hS:=hS.add (A:=YB wm ZU q54 x51) ZKW (fun _ z=>z);refine V8 (Ye Zd9 (Zk fh rfl) ZLi (j:=0) rfl (v:=KV q54 x51) rfl) ?_;refine V8 (Z5 (Zk fh Z7)) ?_;refine r5 ?_;refine V8 (ZW (Zk (Zj rfl fh) Z7)) ?_;obtain⟨⟨v57,v58⟩,Zxl,hL⟩:=bS hL;dsimp only at hL;refine V9 (Yi.clo (first:=[]) (cap:=[.pointer (some ⟨b19,0,none⟩),.pointer (some ⟨b21,0,none⟩)]) lk Zac (Zb (Zk fh Z7) Zd) rfl) hS (.c k0 (.c k2 (.c k2 (.c k2 (.c k1 (.c k0 (.c k1 (.c k1 (.c k1 (.c k1 (.c k1 .n))))))))))) (fun g' hz hf hO=>ZBW _ _ Zxl q54 (hS.Vc hz) hO) ?_;rintro _ h59 _ ⟨rfl,rfl⟩ hS;refine r3 ?_;refine cn hL ?_ ?_
      ·intro hc hL;refine KJ ?_;have hr:=Oi0 hL;subst hr;exact Y6.JQ rfl (ZC lk Zm) ⟨_,⟨rfl,rfl⟩,hT▸hS.only (.c k0 (.c k0 (.c k0 (.c k0 (.c k0 (.c k0 (.c k0 (.c k0 (.c k0 (.c k0 .n))))))))))⟩
      ·intro hc hL;refine r7 ?_;exact ZV.Yf (ZBQ _ _ hL ⟨_,_,rfl,hS.only (.c k4 (.c k3 (.c k0 (.c k0 (.c k0 (.c k5 (.c k0 (.c k0 (.c k0 (.c k0 (.c k0 .n))))))))))),X9⟩)
     ·intro hc hL;refine KJ ?_;have hr:=Oi0 hL;subst hr;exact Y6.JQ rfl (ZC lk Zm) ⟨_,⟨rfl,rfl⟩,hT▸hS.only (.c k2 (.c k2 (.c k2 (.c k1 (.c k0 (.c k1 (.c k1 (.c k1 (.c k1 (.c k1 .n))))))))))⟩
   have hS:=hS.add (A:=YB wm ZU (((Zf,Ze),(Zu,Zt),(Zq,Zp)),(none,0)) (Part.pr p0)) (Zoz (hS.fsl k2) (hS.fsl k1) (hS.fsl k0)) (fun _ z=>z);obtain⟨⟨v63,v64⟩,ZBD,hL⟩:=bS hL;dsimp only at hL;refine V9 (Yi.clo (first:=[]) (cap:=[.pointer (some ⟨b19,0,none⟩),.pointer (some ⟨b21,0,none⟩)]) lk Zac lks rfl) hS (.c k0 (.c k9 (.c k8 (.c k7 (.c k4 (.c k3 (.c k2 (.c k1 (.c k0 (.c k0 (.c k0 .n))))))))))) (fun g' hz hf hO=>ZF8 _ _ _ ZBD (((Zf,Ze),(Zu,Zt),(Zq,Zp)),(none,0)) (hS.Vc hz) hO) ?_;rintro _ h65 _ ⟨rfl,rfl⟩ hS;refine r1 ?_;refine Y6.Yf ?_;exact Y6.gen (vs:=[]) rfl Zm rfl ⟨_,hL,⟨rfl,hS.only (.c k0 (.c k0 (.c k0 (.c k5 (.c k5 .n)))))⟩⟩
def Zy6{F h}{p0:Term}{Zf Ze Zu Zt Zq Zp}{r}(Zl:Sl Zh h.size h Zf Ze p0.args)(ZF:Sl Zc h.size h Zu Zt p0.defs)(ZE:Sl Zv h.size h Zq Zp p0.kids)(hL:ZrI F p0=some r):Pure XX 19 #[.agg #[V4 p0.op,.string p0.text,.slice Zf p0.args.length Ze,.slice Zu p0.defs.length Zt,.slice Zq p0.kids.length Zp]] h (.tuple #[V4 r.1,V4 r.2]):=
 WR.WA rfl (ZHu V7 Zl ZF ZE hL)
def ZHt{F wm h}{p0:Term}{Zf Ze Zu Zt Zq Zp}{r}(Zx:wm<=h.size)(Zl:Sl Zh wm h Zf Ze p0.args)(ZF:Sl Zc wm h Zu Zt p0.defs)(ZE:Sl Zv wm h Zq Zp p0.kids)(hL:ZrG F p0=some r):
 WR XX 21 #[.agg #[V4 p0.op,.string p0.text,.slice Zf p0.args.length Ze,.slice Zu p0.defs.length Zt,.slice Zq p0.kids.length Zp]] wm h (CP (fun v (Gb:U (Ast wm))=>v=.tuple #[V4 r.1,V4 r.2]/\Gb=[]) [] h):=by
 refine bg Tryz.ntmps21 Zx Yh.nil ?_;intro T hT hS;unfold ZrG at hL;refine r3 ?_;rintro _ h2 ⟨b1,eb1,rfl,hS⟩;refine r8 ?_;obtain⟨x3,hx3,hL⟩:=bS hL;refine WO.cp gN rfl (Yi.fn Zo4 (Zb (Zk fh rfl) Zd)) (Zgg (hS.slu Zl) (hS.slu ZF) (hS.slu ZE) hx3)<|r9 ?_;refine cn hL ?_ ?_
 ·intro hc hL;refine r9 ?_;have hr:=Oi0 hL;subst hr;exact Y6.gen (vs:=[V4 0,V4 x3]) rfl (ZC (Zk (Zj rfl fh) rfl) (ZC (Zk fh rfl) Zm)) rfl ⟨_,⟨rfl,rfl⟩,hT▸hS.only .n⟩
 ·intro hc hL;refine r5 ?_;refine V8 (XZ ZtW (ZG (Zk fh rfl) Ya) rfl (cs':=[V4 p0.op,.string p0.text,.slice Zf p0.args.length Ze,.slice Zu p0.defs.length Zt,.slice Zq p0.kids.length Zp]) rfl)<|V8 (Zcf (Zk fh rfl) Kq0) ?_;obtain⟨x4,hx4,hL⟩:=bS hL;refine WO.cp gN rfl (Yi.fn ZxT (Zb (Zk fh rfl) Zd)) (ZyV (p0:=(Part.pr p0)) (Jl:=(((Zf,Ze),(Zu,Zt),(Zq,Zp)),(none,0))) (ZU.up hS.hw (Zoz (hS.sl Zl) (hS.sl ZF) (hS.sl ZE))) hx4)<|r5 ?_;have hr:=Oi0 hL;subst hr;exact Y6.gen (vs:=[V4 x4,V4 0]) rfl (ZC (Zk (Zj rfl fh) rfl) (ZC (Zk fh rfl) Zm)) rfl ⟨_,⟨rfl,rfl⟩,hT▸hS.only .n⟩
def Zy4{F h}{p0:Term}{Zf Ze Zu Zt Zq Zp}{r}(Zl:Sl Zh h.size h Zf Ze p0.args)(ZF:Sl Zc h.size h Zu Zt p0.defs)(ZE:Sl Zv h.size h Zq Zp p0.kids)(hL:ZrG F p0=some r):Pure XX 21 #[.agg #[V4 p0.op,.string p0.text,.slice Zf p0.args.length Ze,.slice Zu p0.defs.length Zt,.slice Zq p0.kids.length Zp]] h (.tuple #[V4 r.1,V4 r.2]):=
 WR.WA rfl (ZHt V7 Zl ZF ZE hL)
end
section
end
section
end
section
end
section
end
section
end
section
end
section
end
section
end
section
end
section
end
section
end
section
end
section
end
section
end
section
end
section
end
section
end
section
end
section
def ZeY(p0:Zg)(ZR:(Zg->O Zg)):Int×(U Zg)->(Int×(U Zg)->O Zg)->O Zg:=fun(v15,v17) ZaV=>
 (bif decide (v15<(p0.kids.length:Int)) then(YH p0.kids v15).bind fun WM=>(ZR WM).bind fun x30=>(app 56 v17 [x30]).bind fun z38=>ZaV (XD (v15+1),z38) else some (Zg.mk p0.op p0.n p0.text v17))
def ZdZ(F:Nat):Zg->(Zg->O Zg)->O Zg:=fun p0 ZR=>
 loop F (ZeY p0 ZR) (0,[])
def Ztt(F:Nat)(p0:Zg):O Zg:=
 loop F (ZdZ F) p0
end
section
def Zza{F wm:Nat}:∀(Fr:Nat)(p0:Zg)(r:Zg),loop Fr (ZdZ F) p0=some r->(∀{h:H}{Zf:O Addr}{Ze:Nat}(Zx:wm<=h.size)(Zl:Sl Zh wm h Zf Ze p0.kids),WR XX 148 #[.agg #[V4 p0.op,V4 p0.n,.string p0.text,.slice Zf p0.kids.length Ze]] wm h (CP (fun v (Gb:U (Ast wm))=>∃XU XT,v=.agg #[V4 r.op,V4 r.n,.string r.text,.slice XU r.kids.length XT]/\Gb=[YB wm (Y4 Zh) (XU,XT) r.kids]) [] h)):=by
 refine Qa _ ?_;rintro ZR XY p0 r hL h Zf Ze Zx Zl;refine bg Tryz.ntmps148 Zx Yh.nil ?_;intro T hT hS;refine r3 ?_;rintro _ h3 ⟨b2,eb2,rfl,hS⟩;refine r1 ?_;rintro _ h5 ⟨b4,eb4,rfl,hS⟩;refine r10 ?_;refine V8 (XZ ZtX (ZG lk (ZG lk (ZG lk Ya))) rfl (cs':=[V4 p0.op,V4 p0.n,.string p0.text,V3]) rfl)<|r1 ?_;rintro _ h7 ⟨b6,eb6,rfl,hS⟩;refine r1 ?_;rintro h8 hS;refine r12 ?_;have hS:=hS.nil (e:=Zh);refine WC.loop (WL.lift hL (fun p s=>match p with | (v15,v17)=>∃XB h9 a18 c19 n20,s=⟨XB,[],h9,none⟩/\Sp wm T h [bx wm b4 [V4 0,V4 0,.string (⟨#[]⟩:Y),V3],ow wm Zh a18 n20 c19 v17,bx wm b6 [V4 p0.op,V4 p0.n,.string p0.text,.slice a18 n20 c19]] h9/\XB.at 2=(V5 b4)/\XB.at 3=(V5 b6)/\XB.at 14=.slice Zf p0.kids.length Ze/\XB.at 15= V4 (p0.kids.length:Int)/\XB.at 16= V4 v15) ⟨_,_,none,0,0,rfl,hS.only (.c k2 (.c k0 (.c k0 .n))),X9⟩ ?_);rintro ZaV ⟨v15,v17⟩ s QA hL ⟨XB,h9,a18,c19,n20,rfl,hS,e11,e12,e13,e14,e16⟩;obtain rfl:=hS.on k1;refine r6 ?_;refine cn hL ?_ ?_
 ·intro hc hL;refine r6 ?_;obtain⟨WM,ZbT,hL⟩:=bS hL;obtain⟨b23,o24,⟨a25,c26⟩,Jw,Jz,Jy,XH⟩:=Sl.at_ Zl ZbT;replace XH:=YJ.1 XH;refine V8 (Z8 Kr Xb lk lk rfl Jw ZbT) ?_;have Zax:Sl Zh wm h a25 c26 WM.kids:=XH;refine V8 (Yq Ux Xb (Zk fh rfl) (At.fz hS.fz Jy Jz) (j:=0) rfl rfl (ws:=[V4 WM.op,V4 WM.n,.string WM.text,.slice a25 WM.kids.length c26]) rfl)<|r1 ?_;rintro _ h28 ⟨b27,ZPc,rfl,hS⟩;refine r1 ?_;rintro h29 hS;refine r2 ?_;refine WC.JZ mixed Kq0<|r3 ?_;obtain⟨x30,ZoN,hL⟩:=bS hL;refine WX.cl0 gN rfl (Yi.fn ZxY (Zb lk Zd)) hS .n (fun g' hz hf hO=>(XY _ _ ZoN) (hS.Vc hz) ((hS.sl Zax).mono hf)) ?_ rfl rfl;rintro _ h34 _ ⟨a31,c33,rfl,rfl⟩ hS;refine WX.hn gN rfl (Zam (e:=Zh) hS Kr Xb ZfI rfl rfl rfl (ZG lk Ya) rfl [((a31,c33),x30)] rfl (xs:=[x30]) rfl (by intro q hq;simp only[Kx,Gi,or_false]at hq;subst hq;exact(YJ.2 (hS.fsl k0))) rfl) ?_ rfl;rintro _ h37 ⟨b36,ZCT,rfl,hS⟩;obtain⟨z38,ZFU,hL⟩:=bS hL;refine WX.hv gN rfl (Zan (e:=Zh) hS k4 Zj2 lk lk (hS.UN k0) (hS.on k0) ZFU) ?_ rfl rfl [] Kq0 X6.e;rintro _ h41 ⟨a39,c40,rfl,hS⟩;refine WX.w gN rfl (YV ZmM lk) ?_ Kq0;refine WX.hu gN (WT hS k5 Zl7 lk lk (vs:=[.slice a39 z38.length c40]) rfl rfl rfl rfl (cs':=[V4 p0.op,V4 p0.n,.string p0.text,.slice a39 z38.length c40]) rfl) ?_ rfl Kq0 [] Kq0 X6.e;rintro h42 hS;refine r7 ?_;exact ZV.Yf (QA _ _ hL ⟨_,_,a39,c40,z38.length,rfl,hS.only (.c k5 (.c k1 (.c k0 .n))),X9⟩)
 ·intro hc hL;refine r9 ?_;rintro h43 hS;refine r2 ?_;refine WC.fzn hS k1 ?_;rintro h44 ⟨hn45,hS⟩;refine r1 ?_;have hr:=Oi0 hL;subst hr;exact Y6.JQ rfl (Xa (Z9 rfl e11) (Qe Ux Xb (hS.J6 k1) (j:=0) rfl rfl (ws:=[V4 p0.op,V4 p0.n,.string p0.text,.slice a18 v17.length c19]) rfl) Zm) ⟨_,⟨a18,c19,rfl,rfl⟩,hT▸hS.only (.c k0 .n)⟩
def ZCG{F wm h}{p0:Zg}{Zf Ze}{r}(Zx:wm<=h.size)(Zl:Sl Zh wm h Zf Ze p0.kids)(hL:Ztt F p0=some r):
 WR XX 148 #[.agg #[V4 p0.op,V4 p0.n,.string p0.text,.slice Zf p0.kids.length Ze]] wm h (CP (fun v (Gb:U (Ast wm))=>∃XU XT,v=.agg #[V4 r.op,V4 r.n,.string r.text,.slice XU r.kids.length XT]/\Gb=[YB wm (Y4 Zh) (XU,XT) r.kids]) [] h):=
 Zza F p0 r hL Zx Zl
end
section
end
section
end
section
def Zpt(p0:Y):O Zg:=
 some (Zg.mk 2 0 p0 [])
end
section
def Ztq{wm h}{p0:Y}{r}(Zx:wm<=h.size)(hL:Zpt p0=some r):
 WR XX 172 #[.string p0] wm h (CP (fun v (Gb:U (Ast wm))=>∃XU XT,v=.agg #[V4 r.op,V4 r.n,.string r.text,.slice XU r.kids.length XT]/\Gb=[YB wm (Y4 Zh) (XU,XT) r.kids]) [] h):=by
 refine bg Tryz.ntmps172 Zx Yh.nil ?_;intro T hT hS;unfold Zpt at hL;refine r3 ?_;rintro _ h2 ⟨b1,eb1,rfl,hS⟩;refine r5 ?_;refine V8 (XZ ZtX (ZG lk (ZG lk Ya)) rfl (cs':=[V4 2,V4 0,.string p0,V3]) rfl)<|r1 ?_;rintro h3 hS;refine r3 ?_;have hS:=hS.add (A:=YB wm (Y4 Zh) (none,0) []) Sl.nil (fun _ z=>z);have hr:=Oi0 hL;subst hr;exact Y6.JQ rfl (Xa (Z9 rfl fh) (Qe Ux Xb (hS.J6 k1) (j:=0) rfl rfl (ws:=[V4 2,V4 0,.string p0,V3]) rfl) Zm) ⟨_,⟨none,0,rfl,rfl⟩,hT▸hS.only (.c k0 .n)⟩
end
section
end
section
end
end Go.Proofs.YtbnepjakjmnadaaGreat
end
end
section
set_option maxRecDepth 20000
noncomputable section
namespace Go.ZK
open Go.Lf
section
variable{X:Ctx}{n wm:Nat}{rd:O Nat}{ops:GZ Oper}{l:U Oper}{fr:Fr}{ds:U V2}{h h0 h1 h2:H}{ty:J}{p:String}{af:GZ Edge}{T:Nat->Prop}{G Gr Ga:U (Ast wm)}{d:Nat}
def ZB5(o:Oper)(k:Nat):Z:=o.after.toList.any fun e=>Region.binds .any e&&Nat.beq e.on k
def ZFE(ops:U Oper)(c i:Nat)(o:Oper):Z:=
 Zad i o&&bif Nat.ble i c then o.op.operands.toList.all fun x=>match x with
  | .tmp t=>Qy (fun k o'=>!isT o'.dst t||ZB5 o k) ops 0
  | _=>true
 else ZB5 o c
def ZDQ(ops:U Oper)(c:Nat):Z:=Qy (ZFE ops c) ops 0&&Qy (Zfg ops) ops 0
def Zlj{o:Oper}{k:Nat}(h:ZB5 o k=true):∃e∈o.after,Region.binds .any e=true/\e.on=k:=by
 unfold ZB5 at h;rw[List.any_eq_true]at h;obtain⟨e,he,h⟩:=h;rw[Ba0]at h;exact⟨e,by simpa using he,h.1,Nb0 h.2⟩
structure PX(X:Ctx)(n:Nat)(h:H)(c:Nat)(l:List Oper)(fr:Fr)(Q:Fr->Oper->Prop):Prop where
 out:∃(fs:Nat->Fr) (vs:Nat->Value) (o:Oper),fs 0=fr/\l[c]? =some o/\Q (fs c) o/\∀k,k<c->∃d op ty p af,l[k]? =some ⟨some d,op,ty,p,af,none⟩/\d<n/\Xx X h (YI (fs k)) ⟨some d,op,ty,p,af,none⟩=some (.val (vs k),.none)/\fs (k+1)=Tr.set (fs k) d (vs k)
def PX.w{c:Nat}{op:Op}{v:N}{Q:Fr->Oper->Prop}(hd:Nat.blt d n=true)(ha:Xx X h (YI fr) ⟨some d,op,ty,p,af,none⟩=some (.val v,.none))(k:PX X n h c l (Tr.set fr d v) Q):PX X n h (c+1) (⟨some d,op,ty,p,af,none⟩::l) fr Q:=by
 obtain⟨fs,vs,o,e0,ho,hq,hk⟩:=k;refine⟨fun k=>match k with|0=>fr|k+1=>fs k,fun k=>match k with|0=>v|k+1=>vs k,o,rfl,by simpa using ho,hq,fun k hk'=>?_⟩;cases k with
 | zero=>exact⟨d,op,ty,p,af,rfl,by rwa[G0]at hd,ha,e0⟩
 | succ k=>
   obtain⟨d',op',ty',p',af',q1,q2,q3,q4⟩:=hk k V6;exact⟨d',op',ty',p',af',by simpa using q1,q2,q3,q4⟩
def PX.call{o:Oper}{Q:Fr->Oper->Prop}(hq:Q fr o):PX X n h 0 (o::l) fr Q:=⟨⟨fun _=>fr,fun _=>undef,o,rfl,rfl,hq,fun k hk=>absurd hk (Nat.not_lt_zero _)⟩⟩
def ZvG{fr fr':Fr}{x:GV}(hx:∀t,x=.tmp t->fr.at t=fr'.at t):YI fr x=YI fr' x:=by
 cases x with
 | tmp t=>
   have:=hx t rfl;show(bif XG (fr.at t) then none else some (fr.at t))=(bif XG (fr'.at t) then none else some (fr'.at t));rw[this]
 | const v=>rfl
 | func f=>rfl
 | global g=>rfl
def Zvz{ih:Ql->O YL}{o:Oper}{v:N}(hg:o.guard=none)(ha:Xx X h (YI fr) o=some (.val v,.none))(ho:o.dst=some d)(hd:d<n):JO X (fun _=>false) ih n wm rd ops.toList o ⟨fr,ds,h,none⟩=some (.normal,⟨Tr.set fr d v,ds,h,none⟩):=by
 have g:=ZX.none (ops:=ops) (fr:=fr) hg;unfold JO;rw[g.1,g.2];dsimp only[QP,Cq0,Cq1];rw[ha];dsimp only;unfold Eff.apply WI;dsimp only;rw[ho];unfold Zgy;have hb:Nat.blt d n=true:=by rw[G0];exact hd
 simp[Jp,hb,allowed]
def Zcb(ops:GZ Oper)(k:Nat):O Tmp:=(ops.toList[k]?).bind (·.dst)
def frP(ops:GZ Oper)(fr:Fr):Nat->Fr
 | 0=>fr
 | k+1=>match Zcb ops k with
   | some d=>Tr.set (frP ops fr k) d Znr
   | none=>frP ops fr k
def Zrx{t:Nat}:∀m,XG ((frP ops fr m).at t)=false->(∀k,k<m->Zcb ops k≠some t)/\(frP ops fr m).at t=fr.at t
 | 0,_=>⟨fun k hk=>absurd hk (Nat.not_lt_zero _),rfl⟩
 | m+1,ha=>by
   unfold frP at ha ⊢;cases e:Zcb ops m with
   | none=>
     rw[e]at ha;obtain⟨i1,i2⟩:=Zrx m ha;refine⟨fun k hk=>?_,i2⟩;rcases Nat.lt_or_eq_of_le (Nat.le_of_lt_succ hk) with z|z
     ·exact i1 k z
     ·subst z;rw[e];exact fun z=>by cases z
   | some d=>
     rw[e]at ha;dsimp only at ha ⊢;by_cases ht:t=d
     ·subst ht;simp[Fr.at,Tr.XE,Znr,XG]at ha
     ·have hh:Fr.at (Tr.set (frP ops fr m) d Znr) t=(frP ops fr m).at t:=by simp[Fr.at,Tr.XE,ht]
      rw[hh]at ha ⊢;obtain⟨i1,i2⟩:=Zrx m ha;refine⟨fun k hk=>?_,i2⟩;rcases Nat.lt_or_eq_of_le (Nat.le_of_lt_succ hk) with z|z
      ·exact i1 k z
      ·subst z;rw[e];exact fun z=>ht (Oi0 z).symm
def WC.ZLN{R:XX->Fs->Prop}{id c:Nat}(hm:X.P.follows .mixedOrders=true)(hp:ZDQ ops.toList c=true)(k:PX X n h c ops.toList fr (fun fr' o=>∃f args v h2,o.guard=none/\Xx X h (YI fr') o=some (.enter f args,.none)/\Ym X (.call f args wm h) (.fin (.Z6 v) h2)/\∀Xm,R (.panic v) ⟨Xm,ds,h2,none⟩)):WC X n wm rd (.region id ops true) ⟨fr,ds,h,none⟩ R:=by
 obtain⟨fs,vs,oc,e0,hoc,⟨f,args,v,h2,hg,hcall,ZxL,hR⟩,hk⟩:=k;unfold ZDQ at hp;rw[Ba0]at hp;have hpl:=Yx _ _ hp.1;have hdst:=Yx _ _ hp.2;simp only[JT]at hpl hdst;have hget:∀{k:Nat}{o:Oper},ops[k]? =some o->ops.toList[k]? =some o:=fun h=>by rwa[G7]
 have hcs:c<ops.size:=by
  have:=Li0 hoc;obtain⟨q,_⟩:=this
  simpa using q
 have uniq:∀{j k t},Zcb ops j=some t->Zcb ops k=some t->j=k:=fun{j k t} hj hk'=>by
  unfold Zcb at hj hk';cases e1:ops.toList[j]? with
  | none=>rw[e1]at hj;cases hj
  | some o1=>
    cases e2:ops.toList[k]? with
    | none=>rw[e2]at hk';cases hk'
    | some o2=>
      rw[e1]at hj;rw[e2]at hk';have hj:o1.dst=some t:=hj;have hk':o2.dst=some t:=hk';have:=hdst k o2 e2;unfold Zfg at this;rw[hk']at this;dsimp only at this;have:=Yx _ _ this j o1 e1;rw[KU.2 hj,Cq1,JT]at this;exact Nb0 this
 have stage:∀m,m<=c->(∀k t,k<m->Zcb ops k=some t->(fs m).at t=vs k)/\(∀t,(∀k,k<m->Zcb ops k≠some t)->(fs m).at t=fr.at t):=by
  intro m
  induction m with
  | zero=>intro _;exact⟨fun k t hk'=>absurd hk' (Nat.not_lt_zero _),fun t _=>by rw[e0]⟩
  | succ m ih=>
    intro hm';obtain⟨i1,i2⟩:=ih V6;obtain⟨d,op,ty,p,af,q1,q2,q3,q4⟩:=hk m V6;have hdm:Zcb ops m=some d:=by unfold Zcb;rw[q1];rfl
    have hat:∀t,(fs (m+1)).at t=if t=d then vs m else(fs m).at t:=fun t=>by
     rw[q4];show Fr.at (Tr.set (fs m) d (vs m)) t=_;by_cases e:t=d
     ·subst e;simp[Fr.at,Tr.XE]
     ·have e':¬ d=t:=fun z=>e z.symm
      simp[Fr.at,Tr.XE,e]
    refine⟨fun k t hk' ht=>?_,fun t ht=>?_⟩
    ·rw[hat];by_cases e:t=d
     ·subst e;rw[if_pos rfl,uniq ht hdm]
     ·rw[if_neg e];refine i1 k t ?_ ht;rcases Nat.lt_or_eq_of_le (Nat.le_of_lt_succ hk') with z|z
      ·exact z
      ·subst z;rw[hdm]at ht;cases ht;exact absurd rfl e
    ·rw[hat,if_neg fun e=>ht m V6 (by rw[hdm,e]),i2 t fun k hk'=>ht k V6]
 refine⟨.panic v,_,hR (frP ops fr c),fun ρ a w F Zx hi hF=>?_⟩;refine wpIn_region_any hm ?_;have hi':Inv ρ n {fr:=fr,ds:=ds,h:=h} a {w with drawn:=w.drawn+1}:=⟨⟨hi.rel.dom,fun i b d e=>(hi.rel.obj i b d e).world rfl,hi.rel.inj⟩,hi.fr,hi.ds⟩
 have main:∀(fuel:Nat)(listed:GZ Z),listed.size=ops.size->((List.range ops.size).filter (fun k=>!listed.getD k true)).length<=fuel->(∀j,c<=j->¬ Data.SL listed j) ->
  ∀ρ' frS a' w',Inv ρ' n ⟨frS,ds,h,none⟩ a' w'->Stp wm ρ h {w with drawn:=w.drawn+1} ρ' h w'->((∀k t,k<c->Data.SL listed k->Zcb ops k=some t->frS.at t=vs k)/\(∀t,(∀k,k<c->Data.SL listed k->Zcb ops k≠some t)->frS.at t=fr.at t)) ->
  wpAnyIn F 0 X.P .any ops (XJ wm n ρ h w (.panic v) ⟨frP ops fr c,ds,h2,none⟩) fuel listed a' w':=by
  intro fuel
  induction fuel with
  | zero=>
    intro listed hsz hn hc;exfalso
    have hmem:c∈(List.range ops.size).filter (fun k=>!listed.getD k true):=by
     rw[GR];exact⟨GK.2 hcs,by rw[(Data.ZbD hsz hcs).2 (hc c V7)];rfl⟩
    have:=List.length_pos_of_mem hmem;omega
  | succ fuel ih=>
    intro listed hsz hn hc ρ' frS a' w' hinv hst hfs;refine⟨fun hnil=>?_,fun i hi=>?_⟩
    ·exfalso
     have:∀k,k<=c->Data.SL listed k:=by
      intro k
      induction k using Nat.strongRecOn with
      | ind k ihk=>
        intro hkc;apply Classical.byContradiction;intro hno;have hks:k<ops.size:=V6
        obtain⟨o,ho⟩:∃o,ops[k]? =some o:=⟨ops[k],by simp[hks]⟩
        have:k∈Region.ready .any ops listed:=mem_ready.2 ⟨(Data.ZbD hsz hks).2 hno,o,ho,fun e he hb=>by
         have hp1:=hpl k o (hget ho);unfold ZFE at hp1;rw[Ba0]at hp1;have he1:=hp1.1;unfold Zad at he1;rw[Ks]at he1;have:=he1 e (by simpa using he);rw[hb,Cq1,G0]at this;exact ihk e.on this V6⟩
        rw[hnil]at this;cases this
     exact hc c V7 (this c V7)
    ·obtain⟨q1,o,ho,hr⟩:=mem_ready.1 hi;have him:i<ops.size:=(J0.1 ho).1;have hno:¬ Data.SL listed i:=(Data.ZbD hsz him).1 q1;have hp1:=hpl i o (hget ho);unfold ZFE at hp1;rw[Ba0]at hp1;unfold wpOpIn;rw[ho];dsimp only;by_cases hic:i<=c
     ·have hle:Nat.ble i c=true:=Nm0 hic;have hlk:=hp1.2;rw[hle,Cq1,Ks]at hlk
      have ZEl:Xx X h (YI frS) o=Xx X h (YI (fs i)) o:=ZlL X h o fun x hx=>ZvG fun t ht=>by
       subst ht;have hall:=hlk (.tmp t) (by simpa using hx);have hall:=Yx _ _ hall;simp only[JT]at hall
       have Zay:∀k,Zcb ops k=some t->k<i/\Data.SL listed k:=fun k hkt=>by
        unfold Zcb at hkt;cases e1:ops.toList[k]? with
        | none=>rw[e1]at hkt;cases hkt
        | some o1=>
          rw[e1]at hkt;have hkt:o1.dst=some t:=hkt;have:=hall k o1 e1;rw[KU.2 hkt,QP,Bool.false_or]at this;obtain⟨e,he,hb,rfl⟩:=Zlj this;have he1:=hp1.1;unfold Zad at he1;rw[Ks]at he1;have h3:=he1 e (by simpa using he);rw[hb,Cq1,G0]at h3;exact⟨h3,hr e he hb⟩
       by_cases hex:∃k,Zcb ops k=some t
       ·obtain⟨k,hkt⟩:=hex;obtain⟨k1,k2⟩:=Zay k hkt;rw[hfs.1 k t V6 k2 hkt,(stage i hic).1 k t k1 hkt]
       ·rw[hfs.2 t fun k _ _ z=>hex ⟨k,z⟩,(stage i hic).2 t fun k _ z=>hex ⟨k,z⟩]
      rcases Nat.lt_or_eq_of_le hic with hlt|rfl
      ·obtain⟨d,op,ty,p,af,z1,z2,z3,z4⟩:=hk i hlt;have eo:o=⟨some d,op,ty,p,af,none⟩:=by have:=hget ho;rw[z1]at this;exact(Oi0 this).symm
       subst eo;have hdi:Zcb ops i=some d:=by unfold Zcb;rw[z1];rfl
       have hS:∀k,Data.SL (listed.setIfInBounds i true) k↔Data.SL listed k\/k=i:=by
        intro k;unfold Data.SL;by_cases hki:k=i
        ·subst hki;simp[Q2,show k<listed.size by omega]
        ·rw[getD_set_ne false (Ne.symm hki)];simp[hki]
       refine Uk (KQ X) (Zvz (ih:=fun _=>none) (rd:=rd) rfl (ZEl.trans z3) rfl z2) hinv (KB Zx V7) (hF.mono hst.ext) (fun _ ρ2 a2 w2 Zli Zc9=>?_) (fun v he=>by cases he);refine ih (listed.setIfInBounds i true) (by simpa using hsz) ?_ (fun j hj z=>?_) ρ2 (Tr.set frS d (vs i)) a2 w2 Zli (hst.trans hi'.rel.lt Zc9) ⟨fun k t hkc hSk hkt=>?_,fun t ht=>?_⟩
       ·have heq:(List.range ops.size).filter (fun k=>!(listed.setIfInBounds i true).getD k true)=((List.range ops.size).filter (fun k=>!listed.getD k true)).filter (fun k=>k≠i):=by
         rw[List.filter_filter];apply List.filter_congr;intro k hk';rw[GK]at hk';by_cases hki:k=i
         ·subst hki;simp[Q2,show k<listed.size by omega]
         ·rw[getD_set_ne true (Ne.symm hki)];simp[hki]
        rw[heq]
        have hmem:i∈(List.range ops.size).filter (fun k=>!listed.getD k true):=by
         rw[GR];exact⟨GK.2 him,by rw[q1];rfl⟩
        have:(((List.range ops.size).filter (fun k=>!listed.getD k true)).filter (fun k=>k≠i)).length<((List.range ops.size).filter (fun k=>!listed.getD k true)).length:=
         List.length_filter_lt_length_iff_exists.2 ⟨i,hmem,by simp⟩
        omega
       ·rcases(hS j).1 z with z|z
        ·exact hc j hj z
        ·omega
       ·show Fr.at (Tr.set frS d (vs i)) t=vs k;by_cases e:t=d
        ·subst e;rw[uniq hkt hdi];simp[Fr.at,Tr.XE]
        ·have:Fr.at (Tr.set frS d (vs i)) t=frS.at t:=by simp[Fr.at,Tr.XE,e]
         rw[this];refine hfs.1 k t hkc ?_ hkt;rcases(hS k).1 hSk with z|z
         ·exact z
         ·subst z;rw[hdi]at hkt;cases hkt;exact absurd rfl e
       ·have e:¬ t=d:=fun e=>ht i hlt ((hS i).2 (.inr rfl)) (by rw[hdi,e])
        have:Fr.at (Tr.set frS d (vs i)) t=frS.at t:=by simp[Fr.at,Tr.XE,e]
        show Fr.at (Tr.set frS d (vs i)) t=fr.at t;rw[this];exact hfs.2 t fun k hkc hSk=>ht k hkc ((hS k).2 (.inl hSk))
      ·have eo:o=oc:=by have:=hget ho;rw[hoc]at this;exact(Oi0 this).symm
       subst eo;have g:=ZX.none (ops:=ops) (fr:=frS) hg
       have ZOy:JO X (fun _=>false) (QD (.call f args wm h) (.fin (.Z6 v) h2)) n wm rd ops.toList o ⟨frS,ds,h,none⟩=some (.panic v,⟨frS,ds,h2,none⟩):=by
        unfold JO;rw[g.1,g.2];dsimp only[QP,Cq0,Cq1];rw[ZEl.trans hcall];dsimp only[QP,Cq0,Cq1];rw[show Eff.apply wm h Eff.none=some h from rfl];unfold WI;dsimp only[Jp,Cq0];rw[Y2]
        rfl
       refine Uk (Y1 ZxL) ZOy hinv Zx (hF.mono hst.ext) (fun he=>by cases he) (fun v' he ρ2 v2 a2 w2 hv Zli Zc9=>?_);cases he;have QO:=hst.trans hi'.rel.lt Zc9;exact⟨ρ2,.panic hv,⟨Zli.rel,⟨Zli.fr.size,fun t ht=>(by obtain⟨z1,z2⟩:=Zrx i ht;have z3:=hfs.2 t fun k hk' _=>z1 k hk';show VR ρ2 ((frP ops fr i).at t) _;rw[z2,<-z3];refine Zli.fr.val t ?_;show XG (frS.at t)=false;rw[z3,<-z2];exact ht)⟩,Zli.ds⟩,⟨QO.ext,QO.size,QO.keep,QO.own,QO.live,QO.os,QO.tape,QO.output,QO.Xc,QO.frame,QO.JH⟩⟩
     ·have hle:Nat.ble i c=false:=by
       cases z:Nat.ble i c
       ·rfl
       ·exact absurd (Nl0 z) hic
      have hlk:=hp1.2;rw[hle,Cq0]at hlk;obtain⟨e,he,hb,hec⟩:=Zlj hlk;have:=hr e he hb;rw[hec]at this;exact absurd this (hc c V7)
 have hno:∀k,¬ Data.SL (Array.replicate ops.size false) k:=by
  intro k;unfold Data.SL;rw[Q2,Array.getElem?_replicate];split<;>simp
 exact main ops.size _ (by simp) (KB (List.length_filter_le _ _) (by simp)) (fun j _=>hno j) ρ fr a _ hi' (Stp.refl _ _ _ _) ⟨fun k t _ z=>absurd z (hno k),fun t _=>rfl⟩
end
section
variable{P:GW}
def ZbK(o:O Nat):N:=.pointer (o.map fun b=>⟨b,0,none⟩)
abbrev pV(b:Nat):N:=(V5 b)
def Zz4{t e:J}{x:GV}{o:O Nat}(hu:P.underlying t=some (.pointer e)):Qk P .neq t x (.const (.pointer none)) (ZbK o) (.pointer none)=some (.val (.bool o.isSome),.none):=by
 cases o with
 | some b=>
   have hp:(plain (ZbK (some b))&&plain (.pointer none))=false:=rfl;unfold Qk;rw[hp,Cq0];have:ZbP P t (ZbK (some b)) (.pointer none)=some false:=by unfold ZbP;rw[hu];rfl
   rw[this];rfl
 | none=>
   unfold Qk;rw[show(plain (ZbK none)&&plain (.pointer none))=true from rfl,Cq1];unfold Wo
   have h1:Zy P (eqGuard .neq t x (.const (.pointer none)) (ZbK none) (.pointer none))=some (.ok ()):=by
    cases x<;>rfl
   rw[prb h1]
   have h2:Zy P (Op.equal t (ZbK none) (.pointer none))=some (.ok true):=by
    show Zy P (Op.equalIn (9999+1) t (.pointer none) (.pointer none))=_;unfold Op.equalIn;rw[prb (YN hu)];rfl
   have:Zy P (binOp .neq t (ZbK none) (.pointer none))=some (.ok (.bool false)):=by
    show Zy P (do pure (Value.bool (!(<-Op.equal t (ZbK none) (.pointer none)))):Sem N)=_;rw[prb h2];rfl
   rw[this];rfl
def ZiE{κ ν μ:Type}[DecidableEq κ](f:ν->μ)(l:U (κ×ν))(k:κ):Yk (l.map fun q=>(q.1,f q.2)) k=(Yk l k).map fun q=>(q.1,f q.2):=by
 induction l with
 | nil=>rfl
 | cons p l ih=>
   simp only[G8,Yk];by_cases h:p.1=k
   ·rw[if_pos h,if_pos h];rfl
   ·rw[if_neg h,if_neg h,ih];cases Yk l k<;>rfl
def ZuO{κ ν μ:Type}[DecidableEq κ](f:ν->μ)(l:U (κ×ν))(k:κ):ZP (l.map fun q=>(q.1,f q.2)) k=(ZP l k).map f:=by
 unfold ZP;rw[ZiE];cases Yk l k<;>rfl
end
end Go.ZK
end
end
section
set_option maxRecDepth 20000
noncomputable section
namespace Go.Proofs.YtbnepjakjmnadaaGreat
open Go.ZK Go.Lf
section
abbrev EV:=SlP×Zg
def vvE(q:EV):N:=.agg (ZsI q.1 q.2).toArray
def ev0:EV:=((none,0),⟨0,0,⟨#[]⟩,[]⟩)
structure SE where
 b:Nat
 ar:Option Nat
 m:Option Nat
 es:List (ByteArray×EV)
def ZsJ(w:Nat)(e:SE):U N:=[pV w,ZbK e.ar,.map e.m]
def stA(wm w:Nat)(S:U SE):Ast wm where
 P:=fun h=>∀e∈S,(h.at e.b=.row (ZsJ w e) true 0/\wm<=e.b)/\ZnD Value.string vvE wm h e.m e.es/\∀x∈e.es,Zcr wm h x.2.1 x.2.2
 fp:=fun i=>∃e∈S,i=e.b\/e.m=some i
 loc:=fun f k s e he=>⟨⟨by rw[k e.b ⟨e,he,.inl rfl⟩];exact(s e he).1.1,(s e he).1.2⟩,⟨(s e he).2.1.at_.keep fun i hi=>k i ⟨e,he,.inr hi⟩,(s e he).2.1.low⟩,fun x hx=>((s e he).2.2 x hx).mono f⟩
 own:=fun{h i} s ⟨e,he,hi⟩=>by
  rcases hi with rfl|hi
  ·exact⟨(s e he).1.2,by rw[(s e he).1.1];rfl⟩
  ·refine⟨(s e he).2.1.low i hi,?_⟩;rcases(s e he).2.1.at_.mem with⟨q,_⟩|⟨j,bs,Qb,q,h1,_⟩
   ·rw[q]at hi;cases hi
   ·rw[q]at hi;cases hi;rw[h1];rfl
abbrev NM:=U (Y×Zg)
def Zov(es:U (Y×EV)):NM:=es.map fun q=>(q.1,q.2.2)
inductive Rd(S:List SE):Option Nat->List NM->Prop
 | nil:Rd S none []
 | cons {e:SE} {c:List NM} (he:e∈S) (hr:Rd S e.ar c):Rd S (some e.b) (Zov e.es::c)
def Rd.mono{S S':U SE}(hs:∀e∈S,e∈S'){o:O Nat}{c:U NM}(r:Rd S o c):Rd S' o c:=by
 induction r with
 | nil=>exact .nil
 | cons he _ ih=>exact .cons (hs _ he) ih
def ZFi:XX.P.underlying 111=some (.pointer 164):=Kq0
def ZqJ:XX.P.underlying 115=some (.map 9 36):=Kq0
def Zyq:Zr XX.P 164 0 0:=Zr.of Kq0
instance:QJ XX.P 164 0 0:=⟨Zyq⟩
def Zph:Zr XX.P 164 1 1:=Zr.of Kq0
instance:QJ XX.P 164 1 1:=⟨Zph⟩
def Zpg:Zr XX.P 164 2 2:=Zr.of Kq0
instance:QJ XX.P 164 2 2:=⟨Zpg⟩
def ZyE:Zr XX.P 110 0 0:=Zr.of Kq0
instance:QJ XX.P 110 0 0:=⟨ZyE⟩
def Zjd:Zr XX.P 110 1 1:=Zr.of Kq0
instance:QJ XX.P 110 1 1:=⟨Zjd⟩
def ZyD:Zr XX.P 110 2 2:=Zr.of Kq0
instance:QJ XX.P 110 2 2:=⟨ZyD⟩
def ZzZ:Yy XX.P 111=some false:=Kq0
instance:Wx XX.P 111:=⟨ZzZ⟩
def Zbh:Yy XX.P 107=some false:=Kq0
instance:Wx XX.P 107:=⟨Zbh⟩
def Znu:Yy XX.P 108=some false:=Kq0
instance:Wx XX.P 108:=⟨Znu⟩
def ZzY:Yy XX.P 115=some false:=Kq0
instance:Wx XX.P 115:=⟨ZzY⟩
def ZAH:YM XX.P 36=some (vvE ev0):=ZfI
section
variable{wm w:Nat}{S:U SE}{h h0:H}{T:Nat->Prop}{G Gr:U (Ast wm)}{e:SE}
def Zeo(s:Sp wm T h0 G h)(p:Pk G (stA wm w S) Gr)(he:e∈S):At h e.b 0 (ZsJ w e):=At.box (s.get p e he).1.1
def ZFs(s:Sp wm T h0 G h)(p:Pk G (stA wm w S) Gr)(he:e∈S):MapAt Value.string vvE h e.m e.es:=(s.get p e he).2.1.at_
end
def ZjC(x:Y):U NM->(U NM->O (Zg×Z))->O (Zg×Z):=fun c next=>match c with
 | []=>some (⟨0,0,⟨#[]⟩,[]⟩,false)
 | m::r=>bif(ZP m x).isSome then some ((ZP m x).getD ⟨0,0,⟨#[]⟩,[]⟩,true) else next r
def Zg5(F:Nat)(c:U NM)(x:Y):O (Zg×Z):=loop F (ZjC x) c
def Zxv:(XX.fns.get 147).isSome=true:=Kq0
end
section
def Ztu{F wm w:Nat}{S:U SE}{h:H}{o:O Nat}{c:U NM}{x:Y}{r:Zg×Z}(Zx:wm<=h.size)(hr:Rd S o c)(hO:Yh (wm:=wm) [stA wm w S] h)(hL:Zg5 F c x=some r):
 WR XX 147 #[ZbK o,.string x] wm h (CP (fun(v:N)(Gb:U (Ast wm))=>∃(ra:O Addr) (rc:Nat),v=.tuple #[.agg #[.int .i64 r.1.op,.int .i64 r.1.n,.string r.1.text,.slice ra r.1.kids.length rc],.bool r.2]/\Gb=[YB wm (Y4 Zh) (ra,rc) r.1.kids,stA wm w S]) [stA wm w S] h):=by
 refine WF.begin (args:=[_,_]) (fn:=Tryz.f147) Kq0 (by exact rfl) Tryz.ntmps147 (by simp) ?_;simp only[Zn,Zw,Nat.reduceAdd];obtain⟨T,hT,hS⟩:∃T,T=QI (wm:=wm) [stA wm w S]/\Sp wm T h [stA wm w S] h:=⟨_,rfl,Sp.start Zx hO⟩
 unfold Zg5 at hL;refine r3 ?_;rintro _ h4 ⟨b3,eb3,rfl,hS⟩;refine r8 ?_;refine r3 ?_;refine WC.loop (WL.lift hL (fun(c:U NM)(s:Fs)=>∃(fr6:Fr) (h5:H) (o:O Nat),s=⟨fr6,[],h5,none⟩/\Sp wm T h [bx wm b3 [.int .i64 0,.int .i64 0,.string (⟨#[]⟩:Y),.slice none 0 0],stA wm w S] h5/\Rd S o c/\fr6.at 1=.string x/\fr6.at 4=.pointer (some ⟨b3,0,none⟩)/\fr6.at 6=ZbK o) ⟨_,_,o,rfl,hS.only (.c k0 (.c k0 .n)),hr,Yt rfl fh,Z9 rfl (Zj rfl fh),fh⟩ ?_);clear hL hS;rintro ZR c s XY hL ⟨fr6,h5,o,rfl,hS,hr,e1,e4,e6⟩;refine r2 ?_;refine WC.region ?_;refine V8 (ZW (Zk e6 rfl)) ?_;refine V8 (YW (Zk fh rfl) (UO rfl) (Zz4 ZFi)) ?_;refine WO.nil ?_;refine ZH.Yf ?_;refine WC.UJ (Zk fh rfl) (fun hc=>?_) (fun hc=>?_)
 ·cases hr with
  | nil=>cases hc
  | @cons e c he hr=>
  dsimp only[ZjC]at hL;rw[show ZP (Zov e.es) x=(ZP e.es x).map (·.2) from ZuO (fun q:EV=>q.2) e.es x]at hL;refine WC.skip ?_;refine ZH.Yf ?_;refine WC.seq ?_;refine WC.block ?_;refine WC.seq ?_;refine WC.region ?_;refine V8 (ZW (Zk (Z9 rfl e6) rfl)) ?_;refine V8 (ZjZ (Zk fh rfl)) ?_;refine V8 (YV Zpg (Zk fh rfl)) ?_;refine V8 (Ye ZzY (Zk fh rfl) (Zeo hS k1 he) (j:=2) rfl (v:=.map e.m) rfl) ?_;refine V8 (ZW (Zk (Yt rfl (Z9 rfl e1)) rfl)) ?_;refine V8 (Zt0 Uu ZqJ ZAH (Zk (Zj rfl fh) rfl) (Zk fh rfl) (ZFs hS k1 he)) ?_;generalize hq:(ZP e.es x).getD ev0=q;refine r1 ?_;refine V8 (Xj lk rfl) ?_;refine V8 (Xj lk rfl) ?_;refine r1 ?_;rintro _ h8 ⟨b7,eb7,rfl,hS⟩;refine r1 ?_;rintro h9 hS;refine r8 ?_;refine WC.UJ lk (fun hc=>?_) (fun hc=>?_)
  ·rw[show((ZP e.es x).map (·.2)).isSome=(ZP e.es x).isSome by cases ZP e.es x<;>rfl]at hL;replace hL:=Xe hc hL;obtain⟨q',hq'⟩:=GI.1 hc;have hqq:q=q':=by rw[<-hq,hq'];rfl
   subst hqq
   have hmem:(x,q)∈e.es:=by
    unfold ZP at hq';cases hf:Yk e.es x with
    | none=>rw[hf]at hq';cases hq'
    | some z=>rw[hf]at hq';cases hq';exact List.mem_of_getElem? (ZaW hf)
   refine r4 ?_;rintro h10 hS;refine r8 ?_;refine r1 ?_;have hS:=hS.add (A:=YB wm (Y4 Zh) (q.1.1,q.1.2) q.2.kids) (YJ.1 ((hS.get k2 e he).2.2 _ hmem)) (fun _ z=>z);have hr:(q.2,true)=r:=by have:=Oi0 hL;rw[hq']at this;exact this
   subst hr;exact Y6.gen (vs:=[.agg #[.int .i64 q.2.op,.int .i64 q.2.n,.string q.2.text,.slice q.1.1 q.2.kids.length q.1.2],.bool true]) rfl (Xa (YU rfl (YU rfl e4)) (Qe Ux Xb (hS.J6 k1) (j:=0) rfl rfl (ws:=[.int .i64 q.2.op,.int .i64 q.2.n,.string q.2.text,.slice q.1.1 q.2.kids.length q.1.2]) rfl) (ZC (Zk fh rfl) Zm)) rfl ⟨_,⟨q.1.1,q.1.2,rfl,rfl⟩,hT▸hS.only (.c k0 (.c k2 .n))⟩
  ·rw[show((ZP e.es x).map (·.2)).isSome=(ZP e.es x).isSome by cases ZP e.es x<;>rfl]at hL;replace hL:=Xf hc hL;refine WC.skip ?_;refine Yu.Yf ?_;refine ZH.Yf ?_;refine WC.region ?_;refine V8 (ZW (Zk (YU rfl (Yt rfl (Z9 rfl e6))) rfl)) ?_;refine V8 (ZjZ (Zk fh rfl)) ?_;refine V8 (YV Zph (Zk fh rfl)) ?_;refine V8 (Ye ZzZ (Zk fh rfl) (Zeo hS k2 he) (j:=1) rfl (v:=ZbK e.ar) rfl) ?_;refine V8 (Z5 (Zk fh rfl)) ?_;refine WO.nil ?_;exact ZV.Yf (XY _ _ hL ⟨_,_,e.ar,rfl,hS.only (.c k1 (.c k1 .n)),hr,YU rfl (YU rfl (Z9 rfl (Zj rfl e1))),YU rfl (YU rfl (Z9 rfl (Zj rfl e4))),fh⟩)
 ·cases hr with
  | cons he hr=>cases hc
  | nil=>
  dsimp only[ZjC]at hL;refine WC.exit ?_;refine ZH.exit ?_;refine ZV.exit ?_;refine r4 ?_;refine V8 (XZ ZtX Ya rfl (cs':=[.int .i64 0,.int .i64 0,.string (⟨#[]⟩:Y),.slice none 0 0]) rfl) ?_;refine r1 ?_;rintro h22 hS;refine r4 ?_;have hS:=hS.add (A:=YB wm (Y4 Zh) (none,0) []) Sl.nil (fun _ z=>z);have hr:=Oi0 hL;subst hr;exact Y6.gen (vs:=[.agg #[.int .i64 0,.int .i64 0,.string (⟨#[]⟩:Y),.slice none 0 0],.bool false]) rfl (Xa (Yt rfl e4) (Qe Ux Xb (hS.J6 k1) (j:=0) rfl rfl (ws:=[.int .i64 0,.int .i64 0,.string (⟨#[]⟩:Y),.slice none 0 0]) rfl) (ZC lk Zm)) rfl ⟨_,⟨none,0,rfl,rfl⟩,hT▸hS.only (.c k0 (.c k1 .n))⟩
abbrev MB:=U (Y×Z)
structure FV(wm:Nat) where
 v:Value
 A:Ast wm
def noA(wm:Nat):Ast wm:=⟨fun _=>True,fun _=>False,fun _ _ _=>trivial,fun _ z=>z.elim⟩
abbrev FV0{wm:Nat}:FV wm:=⟨.nilFunc,noA wm⟩
def wbA(wm w cf:Nat)(ct:O Nat)(fv:FV wm):Ast wm where
 P:=fun h=>(bx wm w [.map (some cf),.map ct,fv.v]).P h/\fv.A.P h
 fp:=fun i=>i=w\/fv.A.fp i
 loc:=fun f k s=>⟨(bx wm w _).loc f (fun i hi=>k i (.inl hi)) s.1,fv.A.loc f (fun i hi=>k i (.inr hi)) s.2⟩
 own:=fun s hi=>hi.elim (fun e=>(bx wm w _).own s.1 e) (fun e=>fv.A.own s.2 e)
section
variable{wm w cf:Nat}{ct:O Nat}{fv:FV wm}{h h0:H}{T:Nat->Prop}{G Gr:U (Ast wm)}
def ZgL(s:Sp wm T h0 G h)(p:Pk G (wbA wm w cf ct fv) Gr):At h w 0 [.map (some cf),.map ct,fv.v]:=At.box (s.get p).1.1
def ZE7(hS:Sp wm T h0 ([bx wm w [.map (some cf),.map ct,fv.v],fv.A]++Gr) h):Sp wm T h0 ([wbA wm w cf ct fv]++Gr) h:=
 hS.say (Yh.one ⟨hS.get (Gr:=_) k0,hS.get (Gr:=_) k1⟩) fun i hi=>by
   obtain⟨A,hA,hi⟩:=hi;rw[G6.1 hA]at hi;rcases hi with rfl|hi
   ·exact⟨_,Gs,rfl⟩
   ·exact⟨fv.A,by simp,hi⟩
end
abbrev Uc(wm w cf:Nat)(ct:O Nat)(fv:FV wm)(free taken:MB)(S:U SE):U (Ast wm):=
 [wbA wm w cf ct fv,mp wm Value.string Value.bool (some cf) free,mp wm Value.string Value.bool ct taken,stA wm w S]
def ZiT:(XX.fns.get 149).isSome=true:=Kq0
def okP{α:Type}:PR α->O α
 | .ok a=>some a
 | .Z6 _=>none
def Zit{α β:Type}{x:O (PR α)}{f:α->β}{r:β}(h:((x.bind okP).map f)=some r):∃a,x=some (.ok a)/\f a=r:=by
 cases x with
 | none=>cases h
 | some p=>
   cases p with
   | ok a=>exact⟨a,rfl,Oi0 h⟩
   | Z6 e=>cases h
def Y6.Zmh{X:Ctx}{fn:Func}{β:Type}{wm:Nat}{t:J}{K:β->N->U (Ast wm)->Prop}{Ga G:U (Ast wm)}{h0 h:H}{T:Nat->Prop}{k:Int}{fr:Fr}{wr:O Nat}(hT:T=QI Ga)(hS:Sp wm T h0 G h):Y6 X fn (PQ t K Ga h0 (.Z6 k)) (.panic (pv t k)) ⟨fr,[],h,wr⟩:=⟨⟨rfl,rfl,hT▸hS.only .n⟩⟩
def Zlv(F:Nat)(free:MB)(c:U NM)(x:Y):O (PR (MB×Y)):=
 (Zg5 F c x).bind fun y=>bif !y.2 then some (.ok (YT free x true,x)) else bif y.1.op !=2 then some (.Z6 7) else some (.ok (free,y.1.text))
def ZjB(F:Nat)(free:MB)(c:U NM)(x:Y):O (MB×Y):=((Zlv F free c x).bind okP).map id
def ZjA{F wm w cf:Nat}{ct:O Nat}{fv:FV wm}{free taken:MB}{S:U SE}{h:H}{b:Nat}{c:U NM}{x:Y}{r:PR (MB×Y)}(Zx:wm<=h.size)(hr:Rd S (some b) c)(hO:Yh (Uc wm w cf ct fv free taken S) h)(hL:Zlv F free c x=some r):
 WF XX 149 #[pV b,.string x] wm h (PQ 147 (fun(r:MB×Y) v (Gb:U (Ast wm))=>v=.string r.2/\Gb=Uc wm w cf ct fv r.1 taken S) (Uc wm w cf ct fv free taken S) h r):=by
 refine WF.begin (args:=[_,_]) (fn:=Tryz.f149) Kq0 (by exact rfl) Tryz.ntmps149 (by simp) ?_;simp only[Zn,Zw,Nat.reduceAdd];obtain⟨T,hT,hS⟩:∃T,T=QI (Uc wm w cf ct fv free taken S)/\Sp wm T h (Uc wm w cf ct fv free taken S) h:=⟨_,rfl,Sp.start Zx hO⟩
 unfold Zlv at hL
 obtain⟨e,he,hbe,ar,c',hc',hr'⟩:∃e,e∈S/\e.b=b/\∃ar c',c=Zov e.es::c'/\e.ar=ar:=by
  cases hr with
  | @cons e c' he hr=>exact⟨e,he,rfl,_,c',rfl,rfl⟩
 subst hbe;refine r8 ?_;refine r1 ?_;obtain⟨y,hy,hL⟩:=bS hL;refine V9 (Yi.fn Zxv (Zb (Zk (Zj rfl fh) rfl) (Zb (Zk fh rfl) Zd))) hS (.c k3 .n) (fun g' hz hf hO=>Ztu (hS.Vc hz) hr hO hy) ?_;rintro _ h5 _ ⟨ra,rc,rfl,rfl⟩ hS;refine r1 ?_;refine V8 (Xj (Zk fh rfl) rfl)<|V8 (Xj (Zk (Zj rfl fh) rfl) rfl)<|r1 ?_;rintro _ h8 ⟨b7,eb7,rfl,hS⟩;refine r1 ?_;rintro h9 hS;refine r8 ?_;refine r2 ?_;refine cn hL ?_ ?_
 ·intro hc hL;refine r4 ?_;refine r1 ?_;refine V8 (Ye Zbh (Zk fh rfl) (Zeo hS k2 he) (j:=0) rfl (v:=pV w) rfl)<|r2 ?_;refine V8 (Ye Zj3 (Zk fh rfl) (ZgL hS k3) (j:=0) rfl (v:=.map (some cf)) rfl)<|r1 ?_;refine WO.hu gN (ZbE (kv:=Value.string) (vv:=Value.bool) (v:=true) hS k4 Uu Je (Zk (Zj rfl fh) rfl) (Zk fh rfl) (UO rfl)) ?_;rintro h10 hS;refine r8 ?_;refine r2 ?_;have hr:=Oi0 hL;subst hr;exact Y6.JQ rfl (ZC (Zk fh rfl) Zm) ⟨_,⟨rfl,rfl⟩,hT▸hS.only (.c k4 (.c k0 (.c k3 (.c k2 .n))))⟩
 ·intro hc hL;refine r8 ?_;refine r2 ?_;refine cn hL ?_ ?_
  ·intro hc hL;refine WC.region<|WO.WH gN (Yi.fn ZeI (Zb (UO rfl) Zd)) hS .n (fun g' hz hf hO=>Za2 (p0:=7) (hS.Vc hz) rfl) ?_;rintro h12 hS;refine ZH.panic ?_;have hr:=Oi0 hL;subst hr;exact Y6.Zmh hT hS
  ·intro hc hL;refine r8 ?_;refine r2 ?_;have hr:=Oi0 hL;subst hr;exact Y6.JQ rfl (ZC (Zk fh rfl) Zm) ⟨_,⟨rfl,rfl⟩,hT▸hS.only (.c k3 (.c k3 (.c k3 (.c k2 .n))))⟩
def ZmW{F wm w cf:Nat}{ct:O Nat}{fv:FV wm}{free taken:MB}{S:U SE}{h:H}{b:Nat}{c:U NM}{x:Y}{r:MB×Y}(Zx:wm<=h.size)(hr:Rd S (some b) c)(hO:Yh (Uc wm w cf ct fv free taken S) h)(hL:ZjB F free c x=some r):
 WR XX 149 #[pV b,.string x] wm h (CP (fun v (Gb:U (Ast wm))=>v=.string r.2/\Gb=Uc wm w cf ct fv r.1 taken S) (Uc wm w cf ct fv free taken S) h):=by
 obtain⟨a,ha,rfl⟩:=Zit hL;exact PQ.ok (ZjA Zx hr hO ha)
end
section
def Zxw:(XX.fns.get 117).isSome=true:=Kq0
def ZjF(e:Zg)(ZR:MB×Zg->O (MB×Zg)):Int×MB×U Zg->(Int×MB×U Zg->O (MB×Zg))->O (MB×Zg):=fun(i,fr,acc) ZwY=>
 bif decide (i<(e.kids.length:Int)) then(YH e.kids i).bind fun x=>(ZR (fr,x)).bind fun y=>(app 56 acc [y.2]).bind fun z=>ZwY (XD (i+1),y.1,z) else some (fr,Zg.mk e.op e.n ⟨#[]⟩ acc)
def Zd0(F:Nat)(c:U NM):MB×Zg->(MB×Zg->O (MB×Zg))->O (MB×Zg):=fun(fr,e) ZR=>
 bif e.op==2 then(Zg5 F c e.text).bind fun y=>bif y.2 then(Ztt F y.1).bind fun z=>some (fr,z) else some (YT fr e.text true,e) else loop F (ZjF e ZR) (0,fr,[])
def ZEB(F:Nat)(c:U NM)(fr:MB)(e:Zg):O (MB×Zg):=loop F (Zd0 F c) (fr,e)
def Zzd{F wm w cf:Nat}{ct:O Nat}{fv:FV wm}{taken:MB}{S:U SE}{b:Nat}{c:U NM}(hr:Rd S (some b) c):∀(Fr:Nat)(x:MB×Zg)(r:MB×Zg),loop Fr (Zd0 F c) x=some r->(match x with | (free,p0)=>∀{h:H}{pa:O Addr}{pc:Nat}(Zx:wm<=h.size)(hsp:Sl Zh wm h pa pc p0.kids)(hO:Yh (Uc wm w cf ct fv free taken S) h),WR XX 117 #[pV b,.agg #[V4 p0.op,V4 p0.n,.string p0.text,.slice pa p0.kids.length pc]] wm h (CP (fun v (Gb:U (Ast wm))=>∃(ra:O Addr) (rc:Nat),v=.agg #[V4 r.2.op,V4 r.2.n,.string r.2.text,.slice ra r.2.kids.length rc]/\Gb=YB wm (Y4 Zh) (ra,rc) r.2.kids::Uc wm w cf ct fv r.1 taken S) (Uc wm w cf ct fv free taken S) h)):=by
 obtain⟨e,he,hbe⟩:∃e,e∈S/\e.b=b:=by
  cases hr with
  | @cons e c' he hr=>exact⟨e,he,rfl⟩
 subst hbe;refine Qa _ ?_;rintro ZR XY ⟨free,p0⟩ r hL h pa pc Zx hsp hO;refine WF.begin (args:=[_,_]) (fn:=Tryz.f117) Kq0 (by exact rfl) Tryz.ntmps117 (by simp) ?_;simp only[Zn,Zw,Nat.reduceAdd];obtain⟨T,hT,hS⟩:∃T,T=QI (Uc wm w cf ct fv free taken S)/\Sp wm T h (Uc wm w cf ct fv free taken S) h:=⟨_,rfl,Sp.start Zx hO⟩
 refine r3 ?_;rintro _ h3 ⟨b2,eb2,rfl,hS⟩;refine r1 ?_;rintro _ h5 ⟨b4,eb4,rfl,hS⟩;refine r8 ?_;refine r2 ?_;refine cn hL ?_ ?_
 ·intro hc hL;obtain⟨y,hy,hL⟩:=bS hL;refine r4 ?_;refine r1 ?_;refine V9 (Yi.fn Zxv (Zb (Zk (Z9 rfl fh) rfl) (Zb (Zk fh rfl) Zd))) hS (.c k5 .n) (fun g' hz hf hO=>Ztu (hS.Vc hz) hr hO hy) ?_;rintro _ h6 _ ⟨ra,rc,rfl,rfl⟩ hS;refine r1 ?_;refine V8 (Xj (Zk fh rfl) rfl)<|V8 (Xj (Zk (Zj rfl fh) rfl) rfl)<|r1 ?_;rintro _ h8 ⟨b7,eb7,rfl,hS⟩;refine r1 ?_;rintro h9 hS;refine r8 ?_;refine r1 ?_;refine cn hL ?_ ?_
  ·intro hc hL;obtain⟨z,hz,hL⟩:=bS hL;refine r3 ?_;refine V9 (Yi.fn ZxY (Zb (Zk fh rfl) Zd)) hS .n (fun g' hz' hf hO=>ZCG (by rw[hz'];exact hS.hw) ((hS.fsl k1).mono hf) hz) ?_;rintro _ h10 _ ⟨ra2,rc2,rfl,rfl⟩ hS;refine r1 ?_;rintro h11 hS;refine r4 ?_;refine r1 ?_;have hr:=Oi0 hL;subst hr;exact Y6.JQ rfl (Xa (YU rfl (Yt rfl (Z9 rfl (Zj rfl fh)))) (Qe Ux Xb (hS.J6 k0) (j:=0) rfl rfl (ws:=[V4 z.op,V4 z.n,.string z.text,.slice ra2 z.kids.length rc2]) rfl) Zm) ⟨_,⟨ra2,rc2,rfl,rfl⟩,hT▸hS.only (.c k1 (.c k5 (.c k5 (.c k5 (.c k3 .n)))))⟩
  ·intro hc hL;refine r3 ?_;refine WC.JZ mixed Kq0<|r3 ?_;refine Vb (Ye Zbh (Zk fh rfl) (Zeo hS k2 he) (j:=0) rfl (v:=pV w) rfl)<|r2 ?_;refine Vb (Ye Zj3 (Zk fh rfl) (ZgL hS k5) (j:=0) rfl (v:=.map (some cf)) rfl)<|r2 ?_;refine WX.hu gN (ZbE (kv:=Value.string) (vv:=Value.bool) (k:=p0.text) (v:=true) hS k6 Uu Je (Zk (Z9 rfl fh) rfl) (Zk fh rfl) (UO rfl)) ?_ rfl rfl [] Kq0 X6.e;rintro h10 hS;refine r6 ?_;rintro h11 hS;refine r4 ?_;have hS:=hS.add (A:=YB wm (Y4 Zh) (pa,pc) p0.kids) (hS.sl hsp) (fun _ z=>z);have hr:=Oi0 hL;subst hr;exact Y6.JQ rfl (Xa (YU rfl (YU rfl (Yt rfl (Z9 rfl (Zj rfl fh))))) (Qe Ux Xb (hS.J6 k1) (j:=0) rfl rfl (ws:=[V4 p0.op,V4 p0.n,.string p0.text,.slice pa p0.kids.length pc]) rfl) Zm) ⟨_,⟨pa,pc,rfl,rfl⟩,hT▸hS.only (.c k0 (.c k6 (.c k1 (.c k5 (.c k3 .n)))))⟩
 ·intro hc hL;refine r8 ?_;refine V8 (XZ ZtX (ZG (Zk (Z9 rfl fh) rfl) (ZG (Zk fh rfl) Ya)) rfl (cs':=[V4 p0.op,V4 p0.n,.string (⟨#[]⟩:Y),V3]) rfl)<|r1 ?_;rintro _ h7 ⟨b7,eb7,rfl,hS⟩;refine r1 ?_;rintro h8 hS;refine r12 ?_;have hS:=hS.nil (e:=Zh);refine WC.loop (WL.lift hL (fun(p:Int×MB×U Zg)(s:Fs)=>match p with | (i,fr,acc)=>∃(XB:Fr) (h9:H) (a18:O Addr) (c19:Nat) (n20:Nat),s=⟨XB,[],h9,none⟩/\Sp wm T h (bx wm b4 [V4 0,V4 0,.string (⟨#[]⟩:Y),V3]::ow wm Zh a18 n20 c19 acc::bx wm b7 [V4 p0.op,V4 p0.n,.string (⟨#[]⟩:Y),.slice a18 n20 c19]::Uc wm w cf ct fv fr taken S) h9/\XB.at 0=pV e.b/\XB.at 4=(V5 b4)/\XB.at 7=(V5 b7)/\XB.at 39=.slice pa p0.kids.length pc/\XB.at 40= V4 (p0.kids.length:Int)/\XB.at 41= V4 i) ⟨_,_,none,0,0,rfl,hS.only (.c k2 (.c k0 (.c k0 (.c k1 (.c k1 (.c k1 (.c k1 .n))))))),(YU rfl (YU rfl fh)),(YU rfl (Yt rfl (Zj rfl fh))),(Yt rfl fh),(Z9 rfl fh),(Zj rfl fh),fh⟩ ?_);rintro ZaV ⟨i,fr,acc⟩ s QA hL ⟨XB,h9,a18,c19,n20,rfl,hS,e0,e4,e7,e39,e40,e41⟩;obtain rfl:=hS.on k1;refine r6 ?_;refine cn hL ?_ ?_
  ·intro hc hL;refine r6 ?_;obtain⟨WM,ZbT,hL⟩:=bS hL;obtain⟨b23,o24,⟨a25,c26⟩,Jw,Jz,Jy,XH⟩:=Sl.at_ hsp ZbT;replace XH:=YJ.1 XH;refine V8 (Z8 Kr Xb (Zk (Zj rfl e39) rfl) (Zk (Zj rfl e41) rfl) rfl Jw ZbT) ?_;have Zax:Sl Zh wm h a25 c26 WM.kids:=XH;refine V8 (Yq Ux Xb (Zk fh rfl) (At.fz hS.fz Jy Jz) (j:=0) rfl rfl (ws:=[V4 WM.op,V4 WM.n,.string WM.text,.slice a25 WM.kids.length c26]) rfl)<|r1 ?_;rintro _ h28 ⟨b27,ZPc,rfl,hS⟩;refine r1 ?_;rintro h29 hS;refine r2 ?_;refine WC.JZ mixed Kq0<|r1 ?_;refine WX.wr (fun x=>x=b7) hS gN rfl (fun _ _ hR=>Ye ZzX (Zk fh rfl) (At.eqv (hR b7 rfl) (hS.J6 k3)) (j:=3) rfl (v:=.slice a18 acc.length c19) rfl) ?_ rfl rfl;rintro h30 e30 hS;refine r2 ?_;obtain⟨x30,ZoN,hL⟩:=bS hL;refine WX.cl gN rfl (Yi.fn Zxw (Zb (Zk (Zj rfl fh) rfl) (Zb (Zk fh rfl) Zd))) hS (.c k4 (.c k4 (.c k4 (.c k4 .n)))) (fun g' hz hf hO=>(XY _ _ ZoN) (hS.Vc hz) ((hS.sl Zax).mono hf) hO) ?_ rfl rfl [1] Kq0 (.c .z (hS.djs (.c k3 (.c k3 (.c k3 (.c k3 (.c k3 .n)))))) X6.e);rintro _ h34 _ ⟨a31,c33,rfl,rfl⟩ hS;refine WX.hn gN rfl (Zam (e:=Zh) hS Kr Xb ZfI rfl rfl rfl (ZG (Zk fh rfl) Ya) rfl [((a31,c33),x30.2)] rfl (xs:=[x30.2]) rfl (by intro q hq;simp only[Kx,Gi,or_false]at hq;subst hq;exact(YJ.2 (hS.fsl k0))) rfl) ?_ Kq0;rintro _ h37 ⟨b36,ZCT,rfl,hS⟩;obtain⟨z38,ZFU,hL⟩:=bS hL;refine WX.hv gN rfl (Zan (e:=Zh) hS k8 Zj2 (Zk (Yt rfl fh) rfl) (Zk fh rfl) (hS.UN k0) (hS.on k0) ZFU) ?_ rfl Kq0 [] Kq0 X6.e;rintro _ h41 ⟨a39,c40,rfl,hS⟩;refine WX.w gN rfl (YV ZmM (Zk (YU rfl (Z9 rfl (Zj rfl e7))) rfl)) ?_ Kq0;refine WX.hu gN (WT hS k9 Zl7 (Zk fh rfl) (Zk (Zj rfl fh) rfl) (vs:=[.slice a39 z38.length c40]) rfl rfl rfl rfl (cs':=[V4 p0.op,V4 p0.n,.string (⟨#[]⟩:Y),.slice a39 z38.length c40]) rfl) ?_ rfl Kq0 [] Kq0 X6.e;rintro h42 hS;refine r6 ?_;refine r1 ?_;exact ZV.Yf (QA _ _ hL ⟨_,_,a39,c40,z38.length,rfl,hS.only (.c k9 (.c k1 (.c k0 (.c k2 (.c k2 (.c k2 (.c k2 .n))))))),(YU rfl (Yt rfl (Z9 rfl e0))),(YU rfl (Yt rfl (Z9 rfl e4))),(YU rfl (Yt rfl (Z9 rfl e7))),(YU rfl (Yt rfl (Z9 rfl e39))),(YU rfl (Yt rfl (Z9 rfl e40))),fh⟩)
  ·intro hc hL;refine r8 ?_;refine r1 ?_;rintro h43 hS;refine r2 ?_;refine WC.fzn hS k1 ?_;rintro h44 ⟨hn45,hS⟩;refine r1 ?_;have hr:=Oi0 hL;subst hr;exact Y6.JQ rfl (Xa (Z9 rfl e4) (Qe Ux Xb (hS.J6 k1) (j:=0) rfl rfl (ws:=[V4 p0.op,V4 p0.n,.string (⟨#[]⟩:Y),.slice a18 acc.length c19]) rfl) Zm) ⟨_,⟨a18,c19,rfl,rfl⟩,hT▸hS.only (.c k0 (.c k2 (.c k2 (.c k2 (.c k2 .n)))))⟩
end
end Go.Proofs.YtbnepjakjmnadaaGreat
end
end
section
set_option maxRecDepth 20000
noncomputable section
namespace Go.ZK
open Go.Lf
variable{P:GW}
def ZvN{t:J}{x:GV}{a b c}(hu:P.underlying t=some (.func a b c)):Qk P .neq t x (.const .nilFunc) .nilFunc .nilFunc=some (.val (.bool false),.none):=by
 unfold Qk;rw[show(plain .nilFunc&&plain .nilFunc)=true from rfl,Cq1];unfold Wo
 have h1:Zy P (eqGuard .neq t x (.const .nilFunc) .nilFunc .nilFunc)=some (.ok ()):=by
  cases x<;>rfl
 rw[prb h1]
 have h2:Zy P (Op.equal t .nilFunc .nilFunc)=some (.ok true):=by
  show Zy P (Op.equalIn (9999+1) t .nilFunc .nilFunc)=_;unfold Op.equalIn;rw[prb (YN hu)];rfl
 have:Zy P (binOp .neq t .nilFunc .nilFunc)=some (.ok (.bool false)):=by
  show Zy P (do pure (Value.bool (!(<-Op.equal t .nilFunc .nilFunc))):Sem N)=_;rw[prb h2];rfl
 rw[this];rfl
def Zk7{κ ν μ:Type}[DecidableEq κ](f:ν->μ)(l:U (κ×ν))(k:κ)(x:ν):(YT l k x).map (fun q=>(q.1,f q.2))=YT (l.map fun q=>(q.1,f q.2)) k (f x):=by
 unfold YT;rw[ZiE];cases h:Yk l k with
 | none=>simp
 | some q=>
   simp only[Option.map_some];refine GF fun i=>?_
   simp only[GC,List.getElem?_modify];by_cases hi:q.1=i
   ·subst hi;simp only[if_pos];cases l[q.1]?<;>rfl
   ·simp only[if_neg hi];cases l[i]?<;>rfl
def ZiB{κ ν:Type}[DecidableEq κ]{l:U (κ×ν)}{k:κ}{x:ν}{q:κ×ν}(h:q∈YT l k x):q∈l\/q.2=x:=by
 unfold YT at h;cases hf:Yk l k with
 | none=>
   rw[hf]at h;rcases Q1.1 h with h|h
   ·exact .inl h
   ·rw[G6.1 h];exact .inr rfl
 | some p=>
   rw[hf]at h;obtain⟨i,hi⟩:=GA h;rw[List.getElem?_modify]at hi;cases hl:l[i]? with
   | none=>rw[hl]at hi;cases hi
   | some y=>
     rw[hl]at hi;have hi:some (if p.1=i then(y.1,x) else y)=some q:=hi;by_cases hp:p.1=i
     ·rw[if_pos hp]at hi;cases hi;exact .inr rfl
     ·rw[if_neg hp]at hi;cases hi;exact .inl (List.mem_of_getElem? hl)
end Go.ZK
end
end
section
set_option maxRecDepth 20000
noncomputable section
namespace Go.Proofs.YtbnepjakjmnadaaGreat
open Go.ZK Go.Lf
section
def Zxu:(XX.fns.get 150).isSome=true:=Kq0
def Ztd:(XX.fns.get 172).isSome=true:=Kq0
def Zwf:∃a b c,XX.P.underlying 108=some (.func a b c):=⟨_,_,_,Tryz.underlying108⟩
def Zsx:YM XX.P 164=some (.agg #[.pointer none,.pointer none,.map none]):=Kq0
instance:Uy XX.P 164 (.agg #[.pointer none,.pointer none,.map none]):=⟨Zsx⟩
def Zr2:JK XX.P 164 [.pointer none,.pointer none,.map none] [(0,1),(1,1),(2,1)]:=⟨_,_,Zsx,rfl,Tryz.underlying164,by kernel_rfl⟩
def esA(wm:Nat)(es:U (Y×EV)):Ast wm where
 P:=fun h=>∀x∈es,Zcr wm h x.2.1 x.2.2
 fp:=fun _=>False
 loc:=fun f _ s x hx=>(s x hx).mono f
 own:=fun _ z=>z.elim
def ZqL{wm w:Nat}{S:U SE}{h h0:H}{T:Nat->Prop}{Gr:U (Ast wm)}{b:Nat}{ar m:O Nat}{es:U (Y×EV)}
 (hS:Sp wm T h0 ([bx wm b [pV w,ZbK ar,.map m],mp wm Value.string vvE m es,esA wm es,stA wm w S]++Gr) h):Sp wm T h0 ([stA wm w (⟨b,ar,m,es⟩::S)]++Gr) h:=by
 have h1:=hS.get (Gr:=_) k0;have h2:=hS.get (Gr:=_) k1;have h3:=hS.get (Gr:=_) k2;have h4:=hS.get (Gr:=_) k3;refine hS.say (Yh.one fun x hx=>?_) fun i hi=>?_
 ·rcases Kx.1 hx with rfl|hx
  ·exact⟨⟨h1.1,h1.2⟩,h2,h3⟩
  ·exact h4 x hx
 ·obtain⟨A,hA,hi⟩:=hi;rw[G6.1 hA]at hi;obtain⟨x,hx,hi⟩:=hi;rcases Kx.1 hx with rfl|hx
  ·rcases hi with rfl|hi
   ·exact⟨_,Gs,rfl⟩
   ·exact⟨_,Kf _ Gs,hi⟩
  ·exact⟨stA wm w S,by simp,x,hx,hi⟩
def KG(names to:U Y):Int×NM->(Int×NM->O NM)->O NM:=fun(i,m) next=>bif decide (i<(names.length:Int)) then(YH names i).bind fun x=>(YH to i).bind fun y=>(Zpt y).bind fun z=>next (XD (i+1),YT m x z) else some m
def Zjz(F:Nat)(names:U Y):O NM:=loop F (KG names names) (0,[])
def Zy8{F wm w cf:Nat}{ct:O Nat}{free taken:MB}{S:U SE}{h:H}{b:Nat}{c:U NM}{names:U Y}{pa:O Addr}{pc:Nat}{wv:N}{r:NM}(Zx:wm<=h.size)(hr:Rd S (some b) c)(hsp:Sl YG wm h pa pc names)(hO:Yh (Uc wm w cf ct FV0 free taken S) h)(hL:Zjz F names=some r):
 WR XX 150 #[pV b,.slice pa names.length pc,wv] wm h (CP (fun v (Gb:U (Ast wm))=>∃(S':U SE) (b':Nat),(∀e∈S,e∈S')/\v=ZbK (some b')/\Rd S' (some b') (r::c)/\Gb=Uc wm w cf ct FV0 free taken S') (Uc wm w cf ct FV0 free taken S) h):=by
 refine WF.begin (args:=[_,_,_]) (fn:=Tryz.f150) Kq0 (by exact rfl) Tryz.ntmps150 (by simp) ?_;simp only[Zn,Zw,Nat.reduceAdd];obtain⟨T,hT,hS⟩:∃T,T=QI (Uc wm w cf ct FV0 free taken S)/\Sp wm T h (Uc wm w cf ct FV0 free taken S) h:=⟨_,rfl,Sp.start Zx hO⟩
 unfold Zjz at hL
 obtain⟨e,he,hbe⟩:∃e,e∈S/\e.b=b:=by
  cases hr with
  | @cons e c' he hr=>exact⟨e,he,rfl⟩
 subst hbe;refine r16 ?_;refine r1 ?_;refine V8 (Ye Zbh (Zk fh rfl) (Zeo hS k3 he) (j:=0) rfl (v:=pV w) rfl)<|r2 ?_;refine V8 (Ye Znu (Zk fh rfl) (ZgL hS k0) (j:=2) rfl (v:=.nilFunc) rfl) ?_;obtain⟨ua,ub,uc,hu⟩:=Zwf;refine V8 (YW (Zk fh rfl) (UO rfl) (ZvN hu))<|r2 ?_;refine WC.UJ (Zk fh rfl) (fun hc=>?_) (fun hc=>?_)
 ·cases hc
 ·refine WC.skip<|r6 ?_;refine V8 (Ye Zbh (Zk fh rfl) (Zeo hS k3 he) (j:=0) rfl (v:=pV w) rfl)<|r1 ?_;refine Va (Zep Value.string vvE hS) ?_;rintro _ h2 ⟨bm,ebm,rfl,hS⟩;refine V8 (XZ Zr2 (ZG (Zk (Z9 rfl fh) rfl) (ZG (Zk (Zj rfl fh) rfl) (ZG (Zk fh rfl) Ya))) rfl (cs':=[pV w,pV e.b,.map (some bm)]) rfl)<|r1 ?_;rintro _ h3 ⟨bs,ebs,rfl,hS⟩;refine r12 ?_;have hS:=hS.add (A:=esA wm []) (fun x hx=>by cases hx) (fun _ z=>z);refine WC.loop (WL.lift hL (fun(p:Int×NM)(s:Fs)=>match p with | (i,m)=>∃(XB:Fr) (h9:H) (es:U (Y×EV)),s=⟨XB,[],h9,none⟩/\Sp wm T h (bx wm bs [pV w,pV e.b,.map (some bm)]::mp wm Value.string vvE (some bm) es::esA wm es::Uc wm w cf ct FV0 free taken S) h9/\Zov es=m/\XB.at 7=.slice pa names.length pc/\XB.at 8=(V5 bs)/\XB.at 39=.slice pa names.length pc/\XB.at 40= V4 (names.length:Int)/\XB.at 41= V4 i) ⟨_,_,[],rfl,hS.only (.c k1 (.c k1 (.c k0 (.c k0 (.c k0 (.c k0 (.c k0 .n))))))),rfl,(YU rfl (YU rfl (Yt rfl fh))),(Z9 rfl (Zj rfl fh)),(Z9 rfl fh),(Zj rfl fh),fh⟩ ?_);rintro ZaV ⟨i,m⟩ s QA hL ⟨XB,h9,es,rfl,hS,rfl,e7,e8,e39,e40,e41⟩;refine r6 ?_;refine cn hL ?_ ?_
  ·intro hc hL;refine r6 ?_;refine r1 ?_;obtain⟨WM,ZbT,hL⟩:=bS hL;obtain⟨b23,o24,_,Jw,Jz,Jy,XH⟩:=Sl.at_ hsp ZbT;refine V8 (Z8 Wy Kv (Zk (Z9 rfl e39) rfl) (Zk (Z9 rfl e41) rfl) rfl Jw ZbT)<|V8 (Ye Zde (Zk fh rfl) (At.fz hS.fz Jy Jz) (j:=0) rfl (v:=.string WM) rfl)<|r4 ?_;refine WC.JZ mixed Kq0<|r6 ?_;refine r1 ?_;obtain⟨x25,hx25,hL⟩:=bS hL;obtain⟨b26,o27,_,Zx9,Zyg,ZEy,ZKZ⟩:=Sl.at_ hsp hx25;refine Vb (Z8 Wy Kv (Zk (Zj rfl fh) rfl) (Zk fh rfl) rfl Zx9 hx25)<|Vb (Ye Zde (Zk fh rfl) (At.fz hS.fz ZEy Zyg) (j:=0) rfl (v:=.string x25) rfl) ?_;obtain⟨z,hz,hL⟩:=bS hL;refine WX.cl0 gN rfl (Yi.fn Ztd (Zb (Zk fh rfl) Zd)) hS .n (fun g' hz' hf hO=>Ztq (by rw[hz'];exact hS.hw) hz) ?_ rfl rfl;rintro _ h34 _ ⟨a31,c33,rfl,rfl⟩ hS;refine WX.hu gN (ZbE (kv:=Value.string) (vv:=vvE) (k:=WM) (v:=((a31,c33),z)) hS k2 Uu ZqJ (Zk (Yt rfl (Z9 rfl fh)) rfl) (Zk (Yt rfl (Zj rfl fh)) rfl) (Zk fh rfl)) ?_ rfl Kq0 [] Kq0 X6.e;rintro h35 hS
   have hS:=hS.add (A:=esA wm (YT es WM ((a31,c33),z))) (fun x hx=>by
    rcases ZiB hx with q|q
    ·exact hS.get k3 x q
    ·rw[q];exact YJ.2 (hS.fsl k1)) (fun _ z=>z)
   refine r6 ?_;refine r1 ?_;exact ZV.Yf (QA _ _ hL ⟨_,_,YT es WM ((a31,c33),z),rfl,hS.only (.c k3 (.c k1 (.c k0 (.c k2 (.c k2 (.c k2 (.c k2 .n))))))),Zk7 (fun q:EV=>q.2) es WM ((a31,c33),z),(YU rfl (YU rfl (Z9 rfl e7))),(YU rfl (YU rfl (Z9 rfl e8))),(YU rfl (YU rfl (Z9 rfl e39))),(YU rfl (YU rfl (Z9 rfl e40))),fh⟩)
  ·intro hc hL;refine r12 ?_;have hr':=Oi0 hL;subst hr';have hS:=ZqL (S:=S) (b:=bs) (ar:=some e.b) (m:=some bm) (es:=es) (hS.only (.c k0 (.c k0 (.c k0 (.c k3 (.c k0 (.c k0 (.c k0 .n))))))));exact Y6.JQ rfl (ZC (Zk fh rfl) Zm) ⟨_,⟨⟨bs,some e.b,some bm,es⟩::S,bs,fun x hx=>Kf _ hx,rfl,Rd.cons (e:=⟨bs,some e.b,some bm,es⟩) Gs (hr.mono fun x hx=>Kf _ hx),rfl⟩,hT▸hS.only (.c k1 (.c k1 (.c k1 (.c k0 .n))))⟩
end
section
def ZbV:(XX.fns.get 118).isSome=true:=Kq0
def Zxt:(XX.fns.get 173).isSome=true:=Kq0
abbrev WS:=MB×MB
abbrev UB:=MB->U NM->U Y->O MB->O (MB×NM)
def ZcS(F:Nat)(ci:U NM)(i:Int)(next:Int×MB×U Z4->O (PR (WS×Za)))(js:U Z4)(m:Z4)(tx:Y):Int×MB×U Y->(Int×MB×U Y->O (PR (WS×Za)))->O (PR (WS×Za)):=fun(j,fr,ns) ZwY=>
 bif decide (j<(m.names.length:Int)) then(YH m.names j).bind fun x=>(ZjB F fr ci x).bind fun y=>(app 16 ns [y.2]).bind fun z=>ZwY (XD (j+1),y.1,z) else(app 40 js [Z4.mk tx ns]).bind fun z=>next (XD (i+1),fr,z)
def ZcT(F:Nat)(Uh:WS×U NM×Term->O (PR (WS×Term)))(c ci:U NM)(tk:MB)(p0:Za):Int×MB×U Z4->(Int×MB×U Z4->O (PR (WS×Za)))->O (PR (WS×Za)):=fun(i,fr,js) next=>
 bif decide (i<(p0.joins.length:Int)) then(YH p0.joins i).bind fun m=>(ZjB F fr c m.text).bind fun y=>loop F (ZcS F ci i next js m y.2) (0,y.1,[]) else(YH p0.kids 0).bind fun k=>(Uh ((fr,tk),ci,k)).bind fun z=>JL z (fun e=>some (.Z6 e)) fun z=>some (.ok (z.1,Za.mk p0.form ⟨#[]⟩ js [] [z.2]))
def ZeX(F:Nat)(Yd:UB)(Wz:Za->U Y->O MB)(Uh:WS×U NM×Term->O (PR (WS×Term)))(ws:WS)(c:U NM)(p0:Za):Int×U Y->(Int×U Y->O (PR (WS×Za)))->O (PR (WS×Za)):=fun(i,names) next=>
 bif decide (i<(p0.joins.length:Int)) then(YH p0.joins i).bind fun m=>(app 16 names m.names).bind fun z=>next (XD (i+1),z) else(Yd ws.2 c names (Wz p0 names)).bind fun bd=>loop F (ZcT F Uh c (bd.2::c) bd.1 p0) (0,ws.1,[])
def Zlu(F:Nat)(Yd:UB)(Wz:Za->U Y->O MB)(Uh:WS×U NM×Term->O (PR (WS×Term)))(ws:WS)(c:U NM)(p0:Za):O (PR (WS×Za)):=loop F (ZeX F Yd Wz Uh ws c p0) (0,[])
abbrev Zhp(wm:Nat):=N->U (Ast wm)->O MB->Prop
def ZgI(wm w cf:Nat)(ct:O Nat)(fv:FV wm)(KI:Zhp wm)(Yd:UB):Prop:=
 ∀{h:H}{S:U SE}{b:Nat}{c:U NM}{names:U Y}{pa:O Addr}{pc:Nat}{wv:N}{Gw:U (Ast wm)}{wi:O MB}{free taken:MB}{r:MB×NM},wm<=h.size->Rd S (some b) c->Sl YG wm h pa pc names->KI wv Gw wi->Yd taken c names wi=some r->Yh (Gw++Uc wm w cf ct fv free taken S) h ->
   WR XX 150 #[pV b,.slice pa names.length pc,wv] wm h (CP (fun v (Gb:U (Ast wm))=>∃(S':U SE) (b':Nat),(∀e∈S,e∈S')/\v=ZbK (some b')/\Rd S' (some b') (r.2::c)/\Gb=Gw++Uc wm w cf ct fv free r.1 S') (Gw++Uc wm w cf ct fv free taken S) h)
def ZnB(wm w cf:Nat)(ct:O Nat)(fv:FV wm)(Uh:WS×U NM×Term->O (PR (WS×Term))):Prop:=
 ∀(x:WS×U NM×Term)(r:PR (WS×Term)),Uh x=some r->∀{h:H}{S:U SE}{b:Nat}{p:TmP},wm<=h.size->Rd S (some b) x.2.1->Zv.F wm h p x.2.2->Yh (Uc wm w cf ct fv x.1.1 x.1.2 S) h ->
   WF XX 118 #[pV b,.agg (Ja p x.2.2).toArray] wm h (PQ 147 (fun(r:WS×Term) v (Gb:U (Ast wm))=>∃(S':U SE) (q:TmP),(∀e∈S,e∈S')/\v=.agg (Ja q r.2).toArray/\Gb=YB wm Zv q r.2::Uc wm w cf ct fv r.1.1 r.1.2 S') (Uc wm w cf ct fv x.1.1 x.1.2 S) h r)
abbrev ZMF(wm b3:Nat)(p:TmP)(x:Za)(b6:Nat)(a:O Addr)(c:Nat)(names:U Y):U (Ast wm):=[bx wm b3 (Ky p x),YB wm Zc p x,bx wm b6 [.slice a names.length c],YB wm (Y4 YG) (a,c) names]
def ZnA{wm:Nat}(KI:Zhp wm)(Wz:Za->U Y->O MB):Prop:=∀b3 p x b6 a c names,KI (.func (.func 180) #[] #[(V5 b3),(V5 b6)]) (ZMF wm b3 p x b6 a c names) (Wz x names)
def Ztp{F wm w cf:Nat}{ct:O Nat}{fv:FV wm}{KI:Zhp wm}{Yd:UB}{Wz:Za->U Y->O MB}{Uh:WS×U NM×Term->O (PR (WS×Term))}(hB:ZgI wm w cf ct fv KI Yd)(hW:ZnA KI Wz)(Zbs:ZnB wm w cf ct fv Uh)
 {ws:WS} {S:U SE} {h:H} {b:Nat} {c:U NM} {p0:Za} {p:TmP} {r:PR (WS×Za)} (Zx:wm<=h.size) (hr:Rd S (some b) c) (hF:Zc.F wm h p p0) (hO:Yh (Uc wm w cf ct fv ws.1 ws.2 S) h) (hL:Zlu F Yd Wz Uh ws c p0=some r):
  WF XX 173 #[pV b,.agg (Ky p p0).toArray] wm h (PQ 147 (fun(r:WS×Za) v (Gb:U (Ast wm))=>∃(S':U SE) (q:TmP),(∀e∈S,e∈S')/\v=.agg (Ky q r.2).toArray/\Gb=YB wm Zc q r.2::Uc wm w cf ct fv r.1.1 r.1.2 S') (Uc wm w cf ct fv ws.1 ws.2 S) h r):=by
 obtain⟨⟨pj,cj⟩,⟨pd,cd⟩,⟨pk,ck⟩⟩:=p;obtain⟨hsj,hsd,hsk⟩:=ZY.1 hF;dsimp only at hsj hsd hsk;refine WF.begin (args:=[_,_]) (fn:=Tryz.f173) Kq0 (by exact rfl) Tryz.ntmps173 (by simp) ?_;simp only[Zn,Zw,Nat.reduceAdd];obtain⟨T,hT,hS⟩:∃T,T=QI (Uc wm w cf ct fv ws.1 ws.2 S)/\Sp wm T h (Uc wm w cf ct fv ws.1 ws.2 S) h:=⟨_,rfl,Sp.start Zx hO⟩
 unfold Zlu at hL;refine WC.seq<|WC.region<|Va (Zib hS (Zk fh rfl) (vs:=[V4 p0.form,.string p0.text,.slice pj p0.joins.length cj,.slice pd p0.defs.length cd,.slice pk p0.kids.length ck]) rfl) ?_;rintro _ h3 ⟨b3,eb3,rfl,hS⟩;refine Va (KO hS WK (vs:=[V4 0,.string (⟨#[]⟩:Y),V3,V3,V3]) rfl) ?_;rintro _ h4 ⟨b4,eb4,rfl,hS⟩;refine WO.nil<|ZH.Yf<|WC.seq<|WC.region<|V8 (YV Zpj (Zk (Zj rfl fh) rfl))<|V8 (Ye Zsg (Zk fh rfl) (hS.J6 k1) (j:=0) rfl (v:= V4 p0.form) rfl)<|V8 (XZ ZzE (ZG (Zk fh rfl) Ya) rfl (cs':=[V4 p0.form,.string (⟨#[]⟩:Y),V3,V3,V3]) rfl)<|Va (KO hS WK (vs:=[V4 0,.string (⟨#[]⟩:Y),V3,V3,V3]) rfl) ?_;rintro _ h5 ⟨b5,eb5,rfl,hS⟩;refine WO.hu gN (WT hS k0 Yo (Zk fh rfl) (Zk (Zj rfl fh) rfl) (vs:=[V4 p0.form,.string (⟨#[]⟩:Y),V3,V3,V3]) rfl rfl rfl rfl (cs':=[V4 p0.form,.string (⟨#[]⟩:Y),V3,V3,V3]) rfl) ?_;rintro h6 hS;refine WO.nil<|ZH.Yf<|WC.seq<|WC.region<|Va (KO hS Zv1 (vs:=[V3]) rfl) ?_;rintro _ h7 ⟨b6,eb6,rfl,hS⟩;refine WO.nil<|ZH.Yf<|WC.seq<|WC.seq<|WC.region<|V8 (YV ZbZ (Zk (Yt rfl (Z9 rfl fh)) rfl))<|V8 (Ye Znt (Zk fh rfl) (hS.J6 k3) (j:=2) rfl (v:=.slice pj p0.joins.length cj) rfl)<|V8 (Zfo Un (Zk fh rfl) rfl)<|V8 (ZW (UO rfl))<|WO.nil<|ZH.Yf<|WC.block ?_;have hS:=hS.nil (e:=YG);refine WC.loop (WL.lift hL (fun(q:Int×U Y)(s:Fs)=>match q with | (i,names)=>∃(XB:Fr) (h9:H) (a:O Addr) (n cc:Nat),s=⟨XB,[],h9,none⟩/\Sp wm T h (bx wm b6 [.slice a n cc]::ow wm YG a n cc names::bx wm b5 [V4 p0.form,.string (⟨#[]⟩:Y),V3,V3,V3]::bx wm b4 [V4 0,.string (⟨#[]⟩:Y),V3,V3,V3]::bx wm b3 [V4 p0.form,.string p0.text,.slice pj p0.joins.length cj,.slice pd p0.defs.length cd,.slice pk p0.kids.length ck]::Uc wm w cf ct fv ws.1 ws.2 S) h9/\XB.at 0=pV b/\XB.at 3=(V5 b3)/\XB.at 4=(V5 b4)/\XB.at 5=(V5 b5)/\XB.at 6=(V5 b6)/\XB.at 19=.slice pj p0.joins.length cj/\XB.at 20= V4 (p0.joins.length:Int)/\XB.at 21= V4 i) ⟨_,_,none,0,0,rfl,hS.only (.c k1 (.c k0 (.c k0 (.c k0 (.c k0 (.c k0 (.c k0 (.c k0 (.c k0 .n))))))))),(YU rfl (Yt rfl fh)),(YU rfl (Z9 rfl fh)),(YU rfl (Zj rfl fh)),(Yt rfl (Zj rfl fh)),(Yt rfl fh),(Z9 rfl fh),(Zj rfl fh),fh⟩ ?_);rintro ZaV ⟨i,names⟩ s QA hL ⟨XB,h9,a,n,cc,rfl,hS,e0,e3,e4,e5,e6,e19,e20,e21⟩;obtain rfl:=hS.on k1;refine WC.seq<|WC.region<|V8 (YW (Zk e21 rfl) (Zk e20 rfl) Zfu)<|WO.nil<|ZH.Yf<|WC.seq<|WC.UJ (Zk fh rfl) (fun hc=>?_) (fun hc=>?_)
 ·replace hL:=Xe hc hL;refine WC.skip<|ZH.Yf<|WC.seq<|WC.block<|WC.seq<|WC.region ?_;obtain⟨m,hm,hL⟩:=bS hL;obtain⟨b23,o24,⟨a25,c26⟩,Jw,Jz,Jy,XH⟩:=Sl.at_ hsj hm;refine V8 (Z8 Un Xn (Zk (Zj rfl e19) rfl) (Zk (Zj rfl e21) rfl) rfl Jw hm) ?_;have Zax:Sl YG wm h a25 c26 m.names:=XH;refine V8 (Yq Zbg Xn (Zk fh rfl) (At.fz hS.fz Jy Jz) (j:=0) rfl rfl (ws:=[.string m.text,.slice a25 m.names.length c26]) rfl)<|Va (KO hS Zct (vs:=[.string (⟨#[]⟩:Y),V3]) rfl) ?_;rintro _ h28 ⟨b8,eb8,rfl,hS⟩;refine WO.hu gN (WT hS k0 Xn (Zk fh rfl) (Zk (Zj rfl fh) rfl) (vs:=[.string m.text,.slice a25 m.names.length c26]) rfl rfl rfl rfl (cs':=[.string m.text,.slice a25 m.names.length c26]) rfl) ?_;rintro h29 hS;refine WO.nil<|ZH.Yf<|WC.region<|V8 (Ye Zcj (Zk (Yt rfl e6) rfl) (hS.J6 k1) (j:=0) rfl (v:=.slice a names.length cc) rfl)<|V8 (YV ZeT (Zk (Zj rfl fh) rfl))<|V8 (Ye Zcj (Zk fh rfl) (hS.J6 k0) (j:=1) rfl (v:=.slice a25 m.names.length c26) rfl) ?_;obtain⟨z,hz,hL⟩:=bS hL;refine WO.hv gN rfl (Zan (e:=YG) hS k2 ZaG (Zk (Z9 rfl fh) rfl) (Zk fh rfl) (Sl.src (hS.sl Zax)) rfl hz) ?_;rintro _ h30 ⟨a39,c40,rfl,hS⟩;refine WO.hu gN (WT hS k2 Zh5 (Zk (YU rfl e6) rfl) (Zk fh rfl) (vs:=[.slice a39 z.length c40]) rfl rfl rfl rfl (cs':=[.slice a39 z.length c40]) rfl) ?_;rintro h31 hS;exact WO.nil<|Yu.Yf<|ZH.Yf<|WC.region<|V8 (YW (Zk (YU rfl e21) rfl) (UO rfl) Kn)<|V8 (ZW (Zk fh rfl))<|WO.nil<|ZV.Yf (QA _ _ hL ⟨_,_,a39,z.length,c40,rfl,hS.only (.c k0 (.c k0 (.c k1 (.c k1 (.c k1 (.c k1 (.c k1 (.c k1 (.c k1 .n))))))))),(YU rfl (Z9 rfl e0)),(YU rfl (Z9 rfl e3)),(YU rfl (Z9 rfl e4)),(YU rfl (Z9 rfl e5)),(YU rfl (Z9 rfl e6)),(YU rfl (Z9 rfl e19)),(YU rfl (Z9 rfl e20)),fh⟩)
 ·replace hL:=Xf hc hL;refine WC.exit<|ZH.exit<|ZV.exit<|Yu.here<|ZH.Yf<|WC.fzn hS k1 ?_;rintro h40 ⟨ZSq,hS⟩;have hS:=hS.add (A:=YB wm Zc ((pj,cj),(pd,cd),(pk,ck)) p0) (Zc.mono hS.fz hF) (fun _ z=>z);obtain⟨bd,hbd,hL⟩:=bS hL;refine WC.seq<|WC.region<|V8 (ZW (Zk (Zj rfl e0) rfl))<|V8 (Ye Zcj (Zk (Z9 rfl e6) rfl) (hS.J6 k2) (j:=0) rfl (v:=.slice a names.length cc) rfl)<|V8 (UU (Zb (Zk (Z9 rfl (Zj rfl e3)) rfl) (Zb (Zk (Z9 rfl (Zj rfl e6)) rfl) Zd)))<|V9 (Yi.fn Zxu (Zb (Zk (Z9 rfl fh) rfl) (Zb (Zk (Zj rfl fh) rfl) (Zb (Zk fh rfl) Zd)))) hS (.c k5 (.c k0 (.c k1 (.c k0 (.c k2 (.c k2 (.c k2 (.c k2 .n)))))))) (fun g' hz hf hO=>hB (hS.Vc hz) hr ((hS.fsl k1).mono hf) (hW b3 ((pj,cj),(pd,cd),(pk,ck)) p0 b6 a cc names) hbd hO) ?_;rintro _ h41 _ ⟨S1,b1,hS1,rfl,hr1,rfl⟩ hS;refine V8 (Z5 (Zk fh rfl))<|WO.nil<|ZH.Yf<|WC.seq<|WC.seq<|WC.region<|V8 (YV ZbZ (Zk (Yt rfl (Z9 rfl e3)) rfl))<|V8 (Ye Znt (Zk fh rfl) (hS.J6 k0) (j:=2) rfl (v:=.slice pj p0.joins.length cj) rfl)<|r4 ?_;refine r1 ?_;have hS:=hS.nil (e:=ZT);refine WC.loop (WL.lift hL (fun(q:Int×MB×U Z4)(s:Fs)=>match q with | (i,fr,js)=>∃(UE:Fr) (h9:H) (a:O Addr) (n cc:Nat),s=⟨UE,[],h9,none⟩/\Sp wm T h (bx wm b5 [V4 p0.form,.string (⟨#[]⟩:Y),.slice a n cc,V3,V3]::ow wm ZT a n cc js::bx wm b4 [V4 0,.string (⟨#[]⟩:Y),V3,V3,V3]::bx wm b3 [V4 p0.form,.string p0.text,.slice pj p0.joins.length cj,.slice pd p0.defs.length cd,.slice pk p0.kids.length ck]::Uc wm w cf ct fv fr bd.1 S1) h9/\UE.at 0=pV b/\UE.at 3=(V5 b3)/\UE.at 4=(V5 b4)/\UE.at 5=(V5 b5)/\UE.at 9=pV b1/\UE.at 35=.slice pj p0.joins.length cj/\UE.at 36= V4 (p0.joins.length:Int)/\UE.at 37= V4 i) ⟨_,_,none,0,0,rfl,hS.only (.c k9 (.c k0 (.c k8 (.c k0 (.c k3 (.c k3 (.c k3 (.c k3 .n)))))))),(YU rfl (Z9 rfl e0)),(YU rfl (Z9 rfl e3)),(YU rfl (Z9 rfl e4)),(YU rfl (Z9 rfl e5)),(Yt rfl fh),(Z9 rfl fh),(Zj rfl fh),fh⟩ ?_);rintro ZNP ⟨i2,fr,js⟩ s ZBU hL ⟨UE,h42,a2,n2,cc2,rfl,hS,e0,e3,e4,e5,e9,e35,e36,e37⟩;obtain rfl:=hS.on k1;refine r6 ?_;refine WC.UJ (Zk fh rfl) (fun hc=>?_) (fun hc=>?_)
  ·replace hL:=Xe hc hL;refine r3 ?_;refine WC.block<|WC.seq<|WC.region ?_;obtain⟨m,hm,hL⟩:=bS hL;obtain⟨b23,o24,⟨a25,c26⟩,Jw,Jz,Jy,XH⟩:=Sl.at_ hsj hm;refine V8 (Z8 Un Xn (Zk (Zj rfl e35) rfl) (Zk (Zj rfl e37) rfl) rfl Jw hm) ?_;have Zax:Sl YG wm h a25 c26 m.names:=XH;refine V8 (Yq Zbg Xn (Zk fh rfl) (At.fz hS.fz Jy Jz) (j:=0) rfl rfl (ws:=[.string m.text,.slice a25 m.names.length c26]) rfl)<|Va (KO hS Zct (vs:=[.string (⟨#[]⟩:Y),V3]) rfl) ?_;rintro _ h28 ⟨b11,ZPf,rfl,hS⟩;refine WO.hu gN (WT hS k0 Xn (Zk fh rfl) (Zk (Zj rfl fh) rfl) (vs:=[.string m.text,.slice a25 m.names.length c26]) rfl rfl rfl rfl (cs':=[.string m.text,.slice a25 m.names.length c26]) rfl) ?_;rintro h29 hS;refine WO.nil<|ZH.Yf<|WC.seq<|WC.region<|V8 (ZW (Zk (Yt rfl e0) rfl))<|V8 (YV Zpi (Zk (Zj rfl fh) rfl))<|V8 (Ye Zde (Zk fh rfl) (hS.J6 k0) (j:=0) rfl (v:=.string m.text) rfl) ?_;obtain⟨y,hy,hL⟩:=bS hL;refine V9 (Yi.fn ZiT (Zb (Zk (Z9 rfl fh) rfl) (Zb (Zk fh rfl) Zd))) hS (.c k5 (.c k5 (.c k5 (.c k5 .n)))) (fun g' hz hf hO=>ZmW (hS.Vc hz) (hr.mono hS1) hO hy) ?_;rintro _ h43 _ ⟨rfl,rfl⟩ hS;refine V8 (XZ ZH1 (ZG (Zk fh rfl) Ya) rfl (cs':=[.string y.2,V3]) rfl)<|Va (KO hS Zct (vs:=[.string (⟨#[]⟩:Y),V3]) rfl) ?_;rintro _ h44 ⟨b12,ZHG,rfl,hS⟩;refine WO.hu gN (WT hS k0 Xn (Zk fh rfl) (Zk (Zj rfl fh) rfl) (vs:=[.string y.2,V3]) rfl rfl rfl rfl (cs':=[.string y.2,V3]) rfl) ?_;rintro h45 hS;refine WO.nil<|ZH.Yf<|WC.seq<|WC.seq<|WC.region<|V8 (YV ZeT (Zk (Yt rfl (Z9 rfl fh)) rfl))<|V8 (Ye Zcj (Zk fh rfl) (hS.J6 k5) (j:=1) rfl (v:=.slice a25 m.names.length c26) rfl)<|V8 (Zfo Wy (Zk fh rfl) rfl)<|V8 (ZW (UO rfl))<|WO.nil<|ZH.Yf<|WC.block ?_;have hS:=hS.nil (e:=YG);refine WC.loop (WL.lift hL (fun(q:Int×MB×U Y)(s:Fs)=>match q with | (j,fr,ns)=>∃(ZdU:Fr) (h9:H) (a:O Addr) (n cc:Nat),s=⟨ZdU,[],h9,none⟩/\Sp wm T h (bx wm b12 [.string y.2,.slice a n cc]::ow wm YG a n cc ns::bx wm b5 [V4 p0.form,.string (⟨#[]⟩:Y),.slice a2 js.length cc2,V3,V3]::ow wm ZT a2 js.length cc2 js::bx wm b4 [V4 0,.string (⟨#[]⟩:Y),V3,V3,V3]::bx wm b3 [V4 p0.form,.string p0.text,.slice pj p0.joins.length cj,.slice pd p0.defs.length cd,.slice pk p0.kids.length ck]::Uc wm w cf ct fv fr bd.1 S1) h9/\ZdU.at 0=pV b/\ZdU.at 3=(V5 b3)/\ZdU.at 4=(V5 b4)/\ZdU.at 5=(V5 b5)/\ZdU.at 9=pV b1/\ZdU.at 35=.slice pj p0.joins.length cj/\ZdU.at 36= V4 (p0.joins.length:Int)/\ZdU.at 37= V4 i2/\ZdU.at 12=(V5 b12)/\ZdU.at 47=.slice a25 m.names.length c26/\ZdU.at 48= V4 (m.names.length:Int)/\ZdU.at 49= V4 j) ⟨_,_,none,0,0,rfl,hS.only (.c k1 (.c k0 (.c k5 (.c k5 (.c k5 (.c k5 (.c k0 (.c k0 (.c k0 (.c k0 .n)))))))))),(YU rfl (Yt rfl (Z9 rfl e0))),(YU rfl (Yt rfl (Z9 rfl e3))),(YU rfl (Yt rfl (Z9 rfl e4))),(YU rfl (Yt rfl (Z9 rfl e5))),(YU rfl (Yt rfl (Z9 rfl e9))),(YU rfl (Yt rfl (Z9 rfl e35))),(YU rfl (Yt rfl (Z9 rfl e36))),(YU rfl (Yt rfl (Z9 rfl e37))),(Yt rfl fh),(Z9 rfl fh),(Zj rfl fh),fh⟩ ?_);clear hL hS e0 e3 e4 e5 e9 e35 e36 e37;rintro ZNO ⟨j3,fr3,ns⟩ s ZBR hL ⟨ZdU,h46,a3,n3,cc3,rfl,hS,e0,e3,e4,e5,e9,e35,e36,e37,e12,e47,e48,e49⟩;obtain rfl:=hS.on k1;refine r6 ?_;refine WC.UJ lk (fun hc=>?_) (fun hc=>?_)
   ·replace hL:=Xe hc hL;refine r6 ?_;obtain⟨x,hx,hL⟩:=bS hL;obtain⟨b33,o34,_,Zx8,Zyf,Zye,Zyc⟩:=Sl.at_ Zax hx;refine V8 (Z8 Wy Kv lk lk rfl Zx8 hx)<|V8 (Ye Zde (Zk fh rfl) (At.fz hS.fz Zye Zyf) (j:=0) rfl (v:=.string x) rfl)<|r3 ?_;refine WC.JZ mixed Kq0<|r1 ?_;refine WX.wr (fun x=>x=b12) hS gN rfl (fun _ _ hR=>Ye Zcj (Zk fh rfl) (At.eqv (hR b12 rfl) (hS.J6 k0)) (j:=1) rfl (v:=.slice a3 ns.length cc3) rfl) ?_ rfl rfl;rintro h47 ZT9 hS;refine r2 ?_;obtain⟨y2,hy2,hL⟩:=bS hL;refine WX.cl gN rfl (Yi.fn ZiT (Zb lk (Zb lk Zd))) hS (.c k6 (.c k6 (.c k6 (.c k6 .n)))) (fun g' hz hf hO=>ZmW (hS.Vc hz) hr1 hO hy2) ?_ rfl rfl [1] Kq0 (.c .z (hS.djs (.c k0 (.c k5 (.c k5 (.c k5 (.c k5 .n)))))) X6.e);rintro _ h48 _ ⟨rfl,rfl⟩ hS;refine WX.hn gN rfl (Zam (e:=YG) hS Wy Kv ZnO rfl rfl rfl (ZG lk Ya) rfl [((),y2.2)] rfl (xs:=[y2.2]) rfl (by intro q hq;exact trivial) rfl) ?_ Kq0;rintro _ h49 ⟨b58,ZTS,rfl,hS⟩;obtain⟨z,hz,hL⟩:=bS hL;refine WX.hv gN rfl (Zan (e:=YG) hS k6 ZaG lk lk (hS.UN k0) (hS.on k0) hz) ?_ rfl Kq0 [] Kq0 X6.e;rintro _ h50 ⟨a39,c40,rfl,hS⟩;refine WX.w gN rfl (YV ZeT lk) ?_ Kq0;refine WX.hu gN (WT hS k6 Zh5 lk lk (vs:=[.slice a39 z.length c40]) rfl rfl rfl rfl (cs':=[.string y.2,.slice a39 z.length c40]) rfl) ?_ rfl Kq0 [] Kq0 X6.e;rintro h51 hS;refine r4 ?_;refine r1 ?_;exact V8 (ZW (Zk fh rfl))<|WO.nil<|ZV.Yf (ZBR _ _ hL ⟨_,_,a39,z.length,c40,rfl,hS.only (.c k0 (.c k0 (.c k5 (.c k5 (.c k5 (.c k5 (.c k1 (.c k1 (.c k1 (.c k1 .n)))))))))),(YU rfl (Yt rfl (Z9 rfl e0))),(YU rfl (Yt rfl (Z9 rfl e3))),(YU rfl (Yt rfl (Z9 rfl e4))),(YU rfl (Yt rfl (Z9 rfl e5))),(YU rfl (Yt rfl (Z9 rfl e9))),(YU rfl (Yt rfl (Z9 rfl e35))),(YU rfl (Yt rfl (Z9 rfl e36))),(YU rfl (Yt rfl (Z9 rfl e37))),(YU rfl (Yt rfl (Z9 rfl e12))),(YU rfl (Yt rfl (Z9 rfl e47))),(YU rfl (Yt rfl (Z9 rfl e48))),fh⟩)
   ·replace hL:=Xf hc hL;refine WC.exit<|ZH.exit<|ZV.exit<|Yu.here<|ZH.Yf<|WC.fzn hS k1 ?_;rintro h52 ⟨ZOk,hS⟩;refine WC.region<|V8 (YV ZbZ (Zk (Zj rfl e5) rfl))<|V8 (Ye Znt (Zk fh rfl) (hS.J6 k2) (j:=2) rfl (v:=.slice a2 js.length cc2) rfl)<|V8 (Yq Zbg Xn (Zk (Z9 rfl (Zj rfl e12)) rfl) (hS.J6 k1) (j:=0) rfl rfl (ws:=[.string y.2,.slice a3 ns.length cc3]) rfl)<|Va (Zam (e:=ZT) hS Un Xn Zct rfl rfl rfl (ZG (Zk fh rfl) Ya) rfl [((a3,cc3),⟨y.2,ns⟩)] rfl (xs:=[⟨y.2,ns⟩]) rfl (by intro q hq;simp only[Kx,Gi,or_false]at hq;subst hq;exact hS.fsl k0) rfl) ?_;rintro _ h53 ⟨b65,ZTR,rfl,hS⟩;obtain⟨z,hz,hL⟩:=bS hL;refine WO.hv gN rfl (Zan (e:=ZT) hS k4 Zsb (Zk (Z9 rfl fh) rfl) (Zk fh rfl) (hS.UN k0) (hS.on k0) hz) ?_;rintro _ h54 ⟨a39,c40,rfl,hS⟩;refine V8 (YV ZbZ (Zk (Yt rfl (Z9 rfl e5)) rfl))<|WO.hu gN (WT hS k4 ZsG (Zk fh rfl) (Zk (Zj rfl fh) rfl) (vs:=[.slice a39 z.length c40]) rfl rfl rfl rfl (cs':=[V4 p0.form,.string (⟨#[]⟩:Y),.slice a39 z.length c40,V3,V3]) rfl) ?_;rintro h55 hS;exact WO.nil<|Yu.Yf<|ZH.Yf<|WC.region<|V8 (YW (Zk (Yt rfl (Z9 rfl (Zj rfl e37))) rfl) (UO rfl) Kn)<|V8 (ZW (Zk fh rfl))<|WO.nil<|ZV.Yf (ZBU _ _ hL ⟨_,_,a39,z.length,c40,rfl,hS.only (.c k0 (.c k0 (.c k3 (.c k3 (.c k3 (.c k3 (.c k3 (.c k3 .n)))))))),(YU rfl (Zj rfl e0)),(YU rfl (Zj rfl e3)),(YU rfl (Zj rfl e4)),(YU rfl (Zj rfl e5)),(YU rfl (Zj rfl e9)),(YU rfl (Zj rfl e35)),(YU rfl (Zj rfl e36)),fh⟩)
  ·replace hL:=Xf hc hL;refine WC.exit<|ZH.exit<|ZV.exit<|Yu.here<|ZH.Yf<|WC.seq<|WC.region<|V8 (ZW (Zk (Zj rfl e9) rfl))<|V8 (YV ZeU (Zk (Z9 rfl e3) rfl))<|V8 (Ye ZlN (Zk fh rfl) (hS.J6 k3) (j:=4) rfl (v:=.slice pk p0.kids.length ck) rfl) ?_;obtain⟨kd,hkd,hL⟩:=bS hL;obtain⟨b23,o24,pkd,Jw,Jz,Jy,XH⟩:=Sl.at_ hsk hkd;refine V8 (Z8 Zbj Xp (Zk fh rfl) (UO rfl) rfl Jw hkd)<|V8 (Yq UK Xp (Zk fh rfl) (At.fz hS.fz Jy Jz) (j:=0) rfl rfl (ws:=Ja pkd kd) rfl) ?_;obtain⟨z,hz,hL⟩:=bS hL;rcases z with z|ek
   rotate_left
   ·replace hL:=Z0 hL;refine WO.WH gN (Yi.fn ZbV (Zb (Zk (Yt rfl fh) rfl) (Zb (Zk fh rfl) Zd))) hS (.c k4 (.c k4 (.c k4 (.c k4 .n)))) (fun g' hz' hf hO=>Zbs _ _ hz (by rw[hz'];exact hS.hw) hr1 (Zv.mono hf (Zv.mono hS.fz XH)) hO) ?_;rintro Zkr hS
    repeat first|refine ZH.panic ?_|refine Yu.panic ?_|refine ZV.panic ?_|refine Xi.panic ?_
    have hr':=Oi0 hL;subst hr';exact Y6.Zmh hT hS
   replace hL:=Yn hL;refine V9 (Yi.fn ZbV (Zb (Zk (Yt rfl fh) rfl) (Zb (Zk fh rfl) Zd))) hS (.c k4 (.c k4 (.c k4 (.c k4 .n)))) (fun g' hz' hf hO=>PQ.ok (Zbs _ _ hz (by rw[hz'];exact hS.hw) hr1 (Zv.mono hf (Zv.mono hS.fz XH)) hO)) ?_;rintro _ h60 _ ⟨S2,q2,hS2,rfl,rfl⟩ hS;refine Va (Zam (e:=Zv) hS Zbj Xp ZhR rfl rfl rfl (ZG (Zk fh rfl) Ya) rfl [(q2,z.2)] rfl (xs:=[z.2]) rfl (by intro q hq;simp only[Kx,Gi,or_false]at hq;subst hq;exact hS.get k0) rfl) ?_;rintro _ h61 ⟨bk,ebk,rfl,hS⟩;refine V8 (YV ZeU (Zk (YU rfl e5) rfl))<|WO.hu gN (WT hS k6 ZqT (Zk fh rfl) (Zk (Zj rfl fh) rfl) (vs:=[.slice (some ⟨bk,0,none⟩) 1 (2*1)]) rfl rfl rfl rfl (cs':=[V4 p0.form,.string (⟨#[]⟩:Y),.slice a2 js.length cc2,V3,.slice (some ⟨bk,0,none⟩) 1 (2*1)]) rfl) ?_;rintro h62 hS;refine WO.nil<|ZH.Yf<|WC.seq<|WC.region<|V8 (Yq JE Yo (Zk (YU rfl (Zj rfl e5)) rfl) (hS.J6 k0) (j:=0) rfl rfl (ws:=[V4 p0.form,.string (⟨#[]⟩:Y),.slice a2 js.length cc2,V3,.slice (some ⟨bk,0,none⟩) 1 (2*1)]) rfl)<|WO.hu gN (WT hS k8 Yo (Zk (YU rfl (Z9 rfl e4)) rfl) (Zk fh rfl) (vs:=[V4 p0.form,.string (⟨#[]⟩:Y),.slice a2 js.length cc2,V3,.slice (some ⟨bk,0,none⟩) 1 (2*1)]) rfl rfl rfl rfl (cs':=[V4 p0.form,.string (⟨#[]⟩:Y),.slice a2 js.length cc2,V3,.slice (some ⟨bk,0,none⟩) 1 (2*1)]) rfl) ?_;rintro h63 hS;refine WO.nil<|ZH.Yf<|WC.fzn hS k8 ?_;rintro h64 ⟨ZSp,hS⟩;refine WC.fzn hS k3 ?_;rintro h65 ⟨ZKn,hS⟩;refine r1 ?_;have hS:=hS.add (A:=YB wm Zc ((a2,cc2),(none,0),(some ⟨bk,0,none⟩,2*1)) (Za.mk p0.form ⟨#[]⟩ js [] [z.2])) (ZY.2 ⟨hS.fsl k1,Sl.nil,hS.fsl k0⟩) (fun _ z=>z);have hr':=Oi0 hL;subst hr';exact Y6.JQ rfl (Xa (YU rfl (Z9 rfl e4)) (Qe JE Yo (hS.J6 k3) (j:=0) rfl rfl (ws:=[V4 p0.form,.string (⟨#[]⟩:Y),.slice a2 js.length cc2,V3,.slice (some ⟨bk,0,none⟩) 1 (2*1)]) rfl) Zm) ⟨_,⟨S2,((a2,cc2),(none,0),(some ⟨bk,0,none⟩,2*1)),fun e he=>hS2 e (hS1 e he),rfl,rfl⟩,hT▸hS.only (.c k0 (.c k5 (.c k5 (.c k5 (.c k5 .n)))))⟩
def ZmD:(XX.fns.get 152).isSome=true:=Kq0
def Zjy(F:Nat)(Yd:UB)(Wz:Za->U Y->O MB)(Uh:WS×U NM×Term->O (PR (WS×Term)))(c:U NM)(l:U Za)(ZR:WS×U Za->O (PR (WS×U Za))):Int×WS×U Za->(Int×WS×U Za->O (PR (WS×U Za)))->O (PR (WS×U Za)):=fun(i,ws,acc) next=>
 bif decide (i<(l.length:Int)) then(YH l i).bind fun x=>bif x.form==2 then(ZjB F ws.1 c x.text).bind fun y=>(ZR ((y.1,ws.2),x.defs)).bind fun d=>JL d (fun e=>some (.Z6 e)) fun d=>(YH x.kids 0).bind fun k=>(Uh (d.1,c,k)).bind fun z=>JL z (fun e=>some (.Z6 e)) fun z=>(app 96 acc [Za.mk x.form y.2 [] d.2 [z.2]]).bind fun a=>next (XD (i+1),z.1,a) else(Zlu F Yd Wz Uh ws c x).bind fun z=>JL z (fun e=>some (.Z6 e)) fun z=>(app 96 acc [z.2]).bind fun a=>next (XD (i+1),z.1,a) else some (.ok (ws,acc))
def Zb5(F:Nat)(Yd:UB)(Wz:Za->U Y->O MB)(Uh:WS×U NM×Term->O (PR (WS×Term)))(c:U NM):WS×U Za->(WS×U Za->O (PR (WS×U Za)))->O (PR (WS×U Za)):=fun(ws,l) ZR=>
 loop F (Zjy F Yd Wz Uh c l ZR) (0,ws,[])
def Zts(F:Nat)(Yd:UB)(Wz:Za->U Y->O MB)(Uh:WS×U NM×Term->O (PR (WS×Term)))(c:U NM)(ws:WS)(l:U Za):O (PR (WS×U Za)):=loop F (Zb5 F Yd Wz Uh c) (ws,l)
def Zpu{F wm w cf:Nat}{ct:O Nat}{fv:FV wm}{KI:Zhp wm}{Yd:UB}{Wz:Za->U Y->O MB}{Uh:WS×U NM×Term->O (PR (WS×Term))}(hB:ZgI wm w cf ct fv KI Yd)(hW:ZnA KI Wz)(Zbs:ZnB wm w cf ct fv Uh){b:Nat}{c:U NM}:
 ∀(Fr:Nat)(x:WS×U Za)(r:PR (WS×U Za)),loop Fr (Zb5 F Yd Wz Uh c) x=some r->(∀{h:H}{S:U SE}{pa:O Addr}{pc:Nat},wm<=h.size->Rd S (some b) c->Sl Zc wm h pa pc x.2->Yh (Uc wm w cf ct fv x.1.1 x.1.2 S) h->WF XX 152 #[pV b,.slice pa x.2.length pc] wm h (PQ 147 (fun(r:WS×U Za) v (Gb:U (Ast wm))=>∃(S':U SE) (ra:O Addr) (rc:Nat),(∀e∈S,e∈S')/\v=.slice ra r.2.length rc/\Gb=YB wm (Y4 Zc) (ra,rc) r.2::Uc wm w cf ct fv r.1.1 r.1.2 S') (Uc wm w cf ct fv x.1.1 x.1.2 S) h r)):=by
 refine Qa _ ?_;rintro ZR XY ⟨ws,l⟩ r hL h S pa pc Zx hr hsp hO;dsimp only at hsp hO;refine WF.begin (args:=[_,_]) (fn:=Tryz.f152) Kq0 (by exact rfl) Tryz.ntmps152 (by simp) ?_;simp only[Zn,Zw,Nat.reduceAdd];obtain⟨T,hT,hS⟩:∃T,T=QI (Uc wm w cf ct fv ws.1 ws.2 S)/\Sp wm T h (Uc wm w cf ct fv ws.1 ws.2 S) h:=⟨_,rfl,Sp.start Zx hO⟩
 refine r16 ?_;refine r3 ?_;have hS:=hS.nil (e:=Zc);refine WC.loop (WL.lift hL (fun(q:Int×WS×U Za)(s:Fs)=>match q with | (i,ws,acc)=>∃(XB:Fr) (h9:H) (a:O Addr) (n cc:Nat) (S1:U SE),s=⟨XB,[],h9,none⟩/\(∀e∈S,e∈S1)/\Sp wm T h (ow wm Zc a n cc acc::Uc wm w cf ct fv ws.1 ws.2 S1) h9/\XB.at 0=pV b/\XB.at 5=.slice a n cc/\XB.at 9=.slice pa l.length pc/\XB.at 10= V4 (l.length:Int)/\XB.at 11= V4 i) ⟨_,_,none,0,0,S,rfl,fun _ q=>q,hS.only (.c k0 (.c k0 (.c k0 (.c k0 (.c k0 .n))))),(Yt rfl (Z9 rfl fh)),(Z9 rfl (Zj rfl fh)),(Z9 rfl fh),(Zj rfl fh),fh⟩ ?_);rintro ZaV ⟨i,ws,acc⟩ s QA hL ⟨XB,h9,a,n,cc,S1,rfl,hS1,hS,e0,e5,e9,e10,e11⟩;obtain rfl:=hS.on k0;refine r6 ?_;refine cn hL ?_ ?_
 ·intro hc hL;refine r6 ?_;obtain⟨x,hx,hL⟩:=bS hL;obtain⟨b23,o24,⟨⟨a1,c1⟩,⟨a2,c2⟩,⟨a3,c3⟩⟩,Jw,Jz,Jy,XH⟩:=Sl.at_ hsp hx;obtain⟨hsj,hsd,hsk⟩:=ZY.1 XH;dsimp only at hsj hsd hsk;refine V8 (Z8 Um Yo (Zk (Zj rfl e9) rfl) (Zk (Zj rfl e11) rfl) rfl Jw hx)<|V8 (Yq JE Yo (Zk fh rfl) (At.fz hS.fz Jy Jz) (j:=0) rfl rfl (ws:=[V4 x.form,.string x.text,.slice a1 x.joins.length c1,.slice a2 x.defs.length c2,.slice a3 x.kids.length c3]) rfl)<|r1 ?_;rintro _ h28 ⟨b7,eb7,rfl,hS⟩;refine r1 ?_;rintro h29 hS;refine r8 ?_;refine r2 ?_;refine cn hL ?_ ?_
  ·intro hc hL;refine r1 ?_;refine WC.JZ mixed Kq0<|r1 ?_;refine WX.wr (fun x=>x=b7) hS gN rfl (fun _ _ hR=>Ye Zsg (Zk fh rfl) (At.eqv (hR b7 rfl) (hS.J6 k0)) (j:=0) rfl (v:= V4 x.form) rfl) ?_ rfl rfl;rintro h30 e30 hS;refine r3 ?_;obtain⟨y,hy,hL⟩:=bS hL;refine WX.cl gN rfl (Yi.fn ZiT (Zb (Zk (Z9 rfl fh) rfl) (Zb (Zk fh rfl) Zd))) hS (.c k2 (.c k2 (.c k2 (.c k2 .n)))) (fun g' hz hf hO=>ZmW (hS.Vc hz) (hr.mono hS1) hO hy) ?_ rfl rfl [1] Kq0 (.c .z (hS.djs (.c k0 (.c k1 (.c k1 (.c k1 (.c k1 .n)))))) X6.e);rintro _ h31 _ ⟨rfl,rfl⟩ hS;refine WX.w gN rfl (XZ ZzE (ZG (Zk (Yt rfl fh) rfl) (ZG (Zk fh rfl) Ya)) rfl (cs':=[V4 x.form,.string y.2,V3,V3,V3]) rfl) ?_ Kq0;refine WX.hn gN rfl (KO hS WK (vs:=[V4 0,.string (⟨#[]⟩:Y),V3,V3,V3]) rfl) ?_ Kq0;rintro _ h32 ⟨b8,eb8,rfl,hS⟩;refine WX.hu gN (WT hS k0 Yo (Zk fh rfl) (Zk (Zj rfl fh) rfl) (vs:=[V4 x.form,.string y.2,V3,V3,V3]) rfl rfl rfl rfl (cs':=[V4 x.form,.string y.2,V3,V3,V3]) rfl) ?_ rfl Kq0 [] Kq0 X6.e;rintro h33 hS;refine r6 ?_;refine r1 ?_;obtain⟨d,hd,hL⟩:=bS hL;rcases d with d|ek
   rotate_left
   ·replace hL:=Z0 hL;refine WO.WH gN (Yi.fn ZmD (Zb (Zk (Z9 rfl fh) rfl) (Zb (Zk fh rfl) Zd))) hS (.c k1 (.c k1 (.c k1 (.c k1 .n)))) (fun g' hz hf hO=>XY _ _ hd (hS.Vc hz) (hr.mono hS1) ((hS.sl hsd).mono hf) hO) ?_;rintro Zkr hS
    repeat first|refine ZH.panic ?_|refine Yu.panic ?_|refine ZV.panic ?_|refine Xi.panic ?_
    have hr':=Oi0 hL;subst hr';exact Y6.Zmh hT hS
   replace hL:=Yn hL;refine V9 (Yi.fn ZmD (Zb (Zk (Z9 rfl fh) rfl) (Zb (Zk fh rfl) Zd))) hS (.c k1 (.c k1 (.c k1 (.c k1 .n)))) (fun g' hz hf hO=>PQ.ok (XY _ _ hd (hS.Vc hz) (hr.mono hS1) ((hS.sl hsd).mono hf) hO)) ?_;rintro _ h34 _ ⟨S2,rd,rcd,hS2,rfl,rfl⟩ hS;refine r2 ?_;rintro h35 hS;refine r6 ?_;refine r1 ?_;obtain⟨kd,hkd,hL⟩:=bS hL;obtain⟨b33,o34,pkd,Zx8,Zyf,Zye,Zyc⟩:=Sl.at_ hsk hkd;refine V8 (Z8 Zbj Xp (Zk fh rfl) (UO rfl) rfl Zx8 hkd)<|V8 (Yq UK Xp (Zk fh rfl) (At.fz hS.fz Zye Zyf) (j:=0) rfl rfl (ws:=Ja pkd kd) rfl) ?_;obtain⟨z,hz,hL⟩:=bS hL;rcases z with z|ek
   rotate_left
   ·replace hL:=Z0 hL;refine WO.WH gN (Yi.fn ZbV (Zb (Zk (Yt rfl fh) rfl) (Zb (Zk fh rfl) Zd))) hS (.c k2 (.c k2 (.c k2 (.c k2 .n)))) (fun g' hz' hf hO=>Zbs _ _ hz (by rw[hz'];exact hS.hw) ((hr.mono hS1).mono hS2) (Zv.mono hf (Zv.mono hS.fz Zyc)) hO) ?_;rintro Zkr hS
    repeat first|refine ZH.panic ?_|refine Yu.panic ?_|refine ZV.panic ?_|refine Xi.panic ?_
    have hr':=Oi0 hL;subst hr';exact Y6.Zmh hT hS
   replace hL:=Yn hL;refine V9 (Yi.fn ZbV (Zb (Zk (Yt rfl fh) rfl) (Zb (Zk fh rfl) Zd))) hS (.c k2 (.c k2 (.c k2 (.c k2 .n)))) (fun g' hz' hf hO=>PQ.ok (Zbs _ _ hz (by rw[hz'];exact hS.hw) ((hr.mono hS1).mono hS2) (Zv.mono hf (Zv.mono hS.fz Zyc)) hO)) ?_;rintro _ h36 _ ⟨S3,q2,hS3,rfl,rfl⟩ hS;refine Va (Zam (e:=Zv) hS Zbj Xp ZhR rfl rfl rfl (ZG (Zk fh rfl) Ya) rfl [(q2,z.2)] rfl (xs:=[z.2]) rfl (by intro q hq;simp only[Kx,Gi,or_false]at hq;subst hq;exact hS.get k0) rfl) ?_;rintro _ h37 ⟨bk,ebk,rfl,hS⟩;refine r2 ?_;rintro h38 hS;refine r2 ?_;refine WC.fzn hS k1 ?_;rintro h39 ⟨ZSr,hS⟩;refine r4 ?_;refine Va (Zam (e:=Zc) hS Um Yo WK rfl rfl rfl (ZG (Zk fh rfl) Ya) rfl [(((none,0),(rd,rcd),(some ⟨bk,0,none⟩,2*1)),Za.mk x.form y.2 [] d.2 [z.2])] rfl (xs:=[Za.mk x.form y.2 [] d.2 [z.2]]) rfl (by intro q hq;simp only[Kx,Gi,or_false]at hq;subst hq;exact ZY.2 ⟨Sl.nil,hS.fsl k7,hS.fsl k0⟩) rfl) ?_;rintro _ h40 ⟨b40,ZTV,rfl,hS⟩;obtain⟨z2,hz2,hL⟩:=bS hL;refine WO.hv gN rfl (Zan (e:=Zc) hS k10 Zfq (Zk (Z9 rfl fh) rfl) (Zk fh rfl) (hS.UN k0) (hS.on k0) hz2) ?_;rintro _ h41 ⟨a41,c41,rfl,hS⟩;refine r8 ?_;refine r3 ?_;exact ZV.Yf (QA _ _ hL ⟨_,_,a41,z2.length,c41,S3,rfl,fun e he=>hS3 e (hS2 e (hS1 e he)),hS.only (.c k0 (.c k4 (.c k4 (.c k4 (.c k4 .n))))),(YU rfl (YU rfl (YU rfl (YU rfl (Z9 rfl (Zj rfl e0)))))),(Z9 rfl fh),(YU rfl (YU rfl (YU rfl (YU rfl (Z9 rfl (Zj rfl e9)))))),(YU rfl (YU rfl (YU rfl (YU rfl (Z9 rfl (Zj rfl e10)))))),fh⟩)
  ·intro hc hL;refine r6 ?_;obtain⟨z,hz,hL⟩:=bS hL;rcases z with z|ek
   rotate_left
   ·replace hL:=Z0 hL;refine WO.WH gN (Yi.fn Zxt (Zb (Zk (Zj rfl fh) rfl) (Zb (Zk fh rfl) Zd))) hS (.c k2 (.c k2 (.c k2 (.c k2 .n)))) (fun g' hz' hf hO=>Ztp (F:=F) (KI:=KI) (Yd:=Yd) (Wz:=Wz) @hB hW Zbs (p:=((a1,c1),(a2,c2),(a3,c3))) (by rw[hz'];exact hS.hw) (hr.mono hS1) (Zc.mono hf (Zc.mono hS.fz XH)) hO hz) ?_;rintro Zkr hS
    repeat first|refine ZH.panic ?_|refine Yu.panic ?_|refine ZV.panic ?_|refine Xi.panic ?_
    have hr':=Oi0 hL;subst hr';exact Y6.Zmh hT hS
   replace hL:=Yn hL;refine V9 (Yi.fn Zxt (Zb (Zk (Zj rfl fh) rfl) (Zb (Zk fh rfl) Zd))) hS (.c k2 (.c k2 (.c k2 (.c k2 .n)))) (fun g' hz' hf hO=>PQ.ok (Ztp (F:=F) (KI:=KI) (Yd:=Yd) (Wz:=Wz) @hB hW Zbs (p:=((a1,c1),(a2,c2),(a3,c3))) (by rw[hz'];exact hS.hw) (hr.mono hS1) (Zc.mono hf (Zc.mono hS.fz XH)) hO hz)) ?_;rintro _ h36 _ ⟨S3,q2,hS3,rfl,rfl⟩ hS;refine Va (Zam (e:=Zc) hS Um Yo WK rfl rfl rfl (ZG (Zk fh rfl) Ya) rfl [(q2,z.2)] rfl (xs:=[z.2]) rfl (by intro q hq;simp only[Kx,Gi,or_false]at hq;subst hq;exact hS.get k0) rfl) ?_;rintro _ h37 ⟨bk,ebk,rfl,hS⟩;obtain⟨z2,hz2,hL⟩:=bS hL;refine WO.hv gN rfl (Zan (e:=Zc) hS k7 Zfq (Zk (Yt rfl fh) rfl) (Zk fh rfl) (hS.UN k0) (hS.on k0) hz2) ?_;rintro _ h41 ⟨a41,c41,rfl,hS⟩;refine r8 ?_;exact ZV.Yf (QA _ _ hL ⟨_,_,a41,z2.length,c41,S3,rfl,fun e he=>hS3 e (hS1 e he),hS.only (.c k0 (.c k2 (.c k2 (.c k2 (.c k2 .n))))),(YU rfl (YU rfl e0)),(Z9 rfl fh),(YU rfl (YU rfl e9)),(YU rfl (YU rfl e10)),fh⟩)
 ·intro hc hL;refine r8 ?_;refine r3 ?_;refine WC.fzn hS k0 ?_;rintro h65 ⟨ZKn,hS⟩;refine r1 ?_;have hr':=Oi0 hL;subst hr';exact Y6.JQ rfl (ZC (Zk fh rfl) Zm) ⟨_,⟨S1,a,cc,hS1,rfl,rfl⟩,hT▸hS.only (.c k0 (.c k0 (.c k0 (.c k0 (.c k0 .n)))))⟩
def ZJS:(XX.fns.get 70).isSome=true:=Kq0
def Ze3(t:Term)(ZR:WS×U NM×Term->O (PR (WS×Term)))(c:U NM)(tx:Y)(args:U Zg)(ds:U Za):Int×WS×U Term->(Int×WS×U Term->O (PR (WS×Term)))->O (PR (WS×Term)):=fun(i,ws,acc) next=>
 bif decide (i<(t.kids.length:Int)) then(YH t.kids i).bind fun x=>(ZR (ws,c,x)).bind fun y=>JL y (fun e=>some (.Z6 e)) fun y=>(app 96 acc [y.2]).bind fun z=>next (XD (i+1),y.1,z) else some (.ok (ws,Term.mk t.op tx args ds acc))
def UZ(F:Nat)(t:Term)(ZR:WS×U NM×Term->O (PR (WS×Term)))(tx:Y)(args:U Zg):WS×U NM×U Za->O (PR (WS×Term)):=fun(ws,c,ds)=>loop F (Ze3 t ZR c tx args ds) (0,ws,[])
def Ze4(F:Nat)(Yd:UB)(Wz:Za->U Y->O MB)(frL:Term->O MB)(t:Term)(ZR:WS×U NM×Term->O (PR (WS×Term)))(tk:MB)(c:U NM)(tx:Y):Int×MB×U Zg->(Int×MB×U Zg->O (PR (WS×Term)))->O (PR (WS×Term)):=fun(i,fr,acc) next=>
 bif decide (i<(t.args.length:Int)) then(YH t.args i).bind fun x=>(ZEB F c fr x).bind fun y=>(app 56 acc [y.2]).bind fun z=>next (XD (i+1),y.1,z)
 else bif t.op==4 then(ZrC F t.defs).bind fun cp=>(app 16 cp.1 cp.2).bind fun names=>(Yd tk c names (frL t)).bind fun bd=>(Zts F Yd Wz ZR (bd.2::c) (fr,bd.1) t.defs).bind fun d=>JL d (fun e=>some (.Z6 e)) fun d=>UZ F t ZR tx acc (d.1,bd.2::c,d.2)
 else UZ F t ZR tx acc ((fr,tk),c,[])
def Za4(F:Nat)(Yd:UB)(Wz:Za->U Y->O MB)(frL:Term->O MB)(t:Term)(ZR:WS×U NM×Term->O (PR (WS×Term)))(tk:MB)(c:U NM):MB×Y->O (PR (WS×Term)):=fun(fr,tx)=>loop F (Ze4 F Yd Wz frL t ZR tk c tx) (0,fr,[])
def Zb8(F:Nat)(Yd:UB)(Wz:Za->U Y->O MB)(frL:Term->O MB):WS×U NM×Term->(WS×U NM×Term->O (PR (WS×Term)))->O (PR (WS×Term)):=fun(ws,c,t) ZR=>
 bif !decide (t.text=⟨#[]⟩) then(Zlv F ws.1 c t.text).bind fun y=>JL y (fun e=>some (.Z6 e)) fun y=>Za4 F Yd Wz frL t ZR ws.2 c y else Za4 F Yd Wz frL t ZR ws.2 c (ws.1,⟨#[]⟩)
def ZjE(F:Nat)(Yd:UB)(Wz:Za->U Y->O MB)(frL:Term->O MB):WS×U NM×Term->O (PR (WS×Term)):=loop F (Zb8 F Yd Wz frL)
def ZAb{wm:Nat}(KI:Zhp wm)(frL:Term->O MB):Prop:=∀b3 q x,KI (.func (.func 151) #[] #[(V5 b3)]) [bx wm b3 (Ja q x),YB wm Zv q x] (frL x)
def Zpv{F wm w cf:Nat}{ct:O Nat}{fv:FV wm}{KI:Zhp wm}{Yd:UB}{Wz:Za->U Y->O MB}{frL:Term->O MB}(hB:ZgI wm w cf ct fv KI Yd)(hW:ZnA KI Wz)(hW1:ZAb KI frL):∀Fu,ZnB wm w cf ct fv (loop Fu (Zb8 F Yd Wz frL)):=by
 refine fun Fu=>Qa (body:=Zb8 F Yd Wz frL) (fun(x:WS×U NM×Term)(r:PR (WS×Term))=>∀{h:H}{S:U SE}{b:Nat}{p:TmP},wm<=h.size->Rd S (some b) x.2.1->Zv.F wm h p x.2.2->Yh (Uc wm w cf ct fv x.1.1 x.1.2 S) h ->
  WF XX 118 #[pV b,.agg (Ja p x.2.2).toArray] wm h (PQ 147 (fun(r:WS×Term) v (Gb:U (Ast wm))=>∃(S':U SE) (q:TmP),(∀e∈S,e∈S')/\v=.agg (Ja q r.2).toArray/\Gb=YB wm Zv q r.2::Uc wm w cf ct fv r.1.1 r.1.2 S') (Uc wm w cf ct fv x.1.1 x.1.2 S) h r)) ?_ Fu
 rintro ZR XY ⟨ws,c,t⟩ r hL h S b ⟨⟨pA,cA⟩,⟨pD,cD⟩,⟨pK,cK⟩⟩ Zx hr hF hO;have Zbs:ZnB wm w cf ct fv ZR:=XY;dsimp only at hr hF hO;obtain⟨hsA,hsD,hsK⟩:=Jf.1 hF;dsimp only at hsA hsD hsK;refine WF.begin (args:=[_,_]) (fn:=Tryz.f118) Kq0 (by exact rfl) Tryz.ntmps118 (by simp) ?_;simp only[Zn,Zw,Nat.reduceAdd];obtain⟨T,hT,hS⟩:∃T,T=QI (Uc wm w cf ct fv ws.1 ws.2 S)/\Sp wm T h (Uc wm w cf ct fv ws.1 ws.2 S) h:=⟨_,rfl,Sp.start Zx hO⟩
 refine r3 ?_;rintro _ h3 ⟨b3,eb3,rfl,hS⟩;refine r1 ?_;rintro _ h4 ⟨b4,eb4,rfl,hS⟩;refine r6 ?_;refine V8 (XZ ZzC (ZG (Zk fh rfl) Ya) rfl (cs':=[V4 t.op,.string (⟨#[]⟩:Y),V3,V3,V3]) rfl)<|r1 ?_;rintro _ h5 ⟨b5,eb5,rfl,hS⟩;refine r1 ?_;rintro h6 hS;refine r2 ?_;refine WC.ZfQ (r:=r) (fun(q:MB×Y)(s:Fs)=>∃(Wj:Fr) (h9:H),s=⟨Wj,[],h9,none⟩/\Sp wm T h (bx wm b5 [V4 t.op,.string q.2,V3,V3,V3]::bx wm b4 [V4 0,.string (⟨#[]⟩:Y),V3,V3,V3]::bx wm b3 [V4 t.op,.string t.text,.slice pA t.args.length cA,.slice pD t.defs.length cD,.slice pK t.kids.length cK]::Uc wm w cf ct fv q.1 ws.2 S) h9/\Wj.at 0=pV b/\Wj.at 3=(V5 b3)/\Wj.at 4=(V5 b4)/\Wj.at 5=(V5 b5)) (Za4 F Yd Wz frL t ZR ws.2 c) ?_ ?_
 rotate_left
 ·refine WC.seq<|r3 ?_;refine V8 (YW (Zk fh rfl) (UO rfl) Ub)<|r2 ?_;refine cn hL ?_ ?_
  ·intro hc hL;obtain⟨y,hy,hL⟩:=bS hL;refine r4 ?_;rcases y with y|ek
   rotate_left
   ·replace hL:=Z0 hL;refine WO.WH gN (Yi.fn ZiT (Zb (Zk (Z9 rfl fh) rfl) (Zb (Zk fh rfl) Zd))) hS (.c k3 (.c k3 (.c k3 (.c k3 .n)))) (fun g' hz hf hO=>ZjA (hS.Vc hz) hr hO hy) ?_;rintro Zkr hS
    repeat first|refine ZH.panic ?_|refine Yu.panic ?_|refine ZV.panic ?_|refine Xi.panic ?_
    have hr':=Oi0 hL;subst hr';exact Y6.Zmh hT hS
   replace hL:=Yn hL;refine V9 (Yi.fn ZiT (Zb (Zk (Z9 rfl fh) rfl) (Zb (Zk fh rfl) Zd))) hS (.c k3 (.c k3 (.c k3 (.c k3 .n)))) (fun g' hz hf hO=>PQ.ok (ZjA (hS.Vc hz) hr hO hy)) ?_;rintro _ h7 _ ⟨rfl,rfl⟩ hS;refine r2 ?_;rintro h8 hS;refine r1 ?_;exact Xi.Yf y hL ⟨_,_,rfl,hS.only (.c k0 (.c k4 (.c k4 (.c k0 (.c k0 (.c k0 (.c k0 .n))))))),(YU rfl (Yt rfl (Z9 rfl (Zj rfl fh)))),(YU rfl (Yt rfl (Zj rfl fh))),(YU rfl (Yt rfl fh)),(YU rfl fh)⟩
  ·intro hc hL;refine r1 ?_;exact Xi.Yf (ws.1,⟨#[]⟩) hL ⟨_,_,rfl,hS.only (.c k0 (.c k0 (.c k0 (.c k0 (.c k0 (.c k0 (.c k0 .n))))))),(YU rfl (Z9 rfl fh)),(YU rfl fh),(Yt rfl (Z9 rfl (Zj rfl fh))),(Z9 rfl (Zj rfl fh))⟩
 rintro⟨Wj,tx⟩ s hL ⟨frx,h9,rfl,hS,e0,e3,e4,e5⟩;refine r8 ?_;refine r2 ?_;have hS:=hS.nil (e:=Zh);refine WC.loop (WL.lift hL (fun(q:Int×MB×U Zg)(s:Fs)=>match q with | (i,fr,acc)=>∃(UE:Fr) (h9:H) (a:O Addr) (n cc:Nat),s=⟨UE,[],h9,none⟩/\Sp wm T h (bx wm b5 [V4 t.op,.string tx,.slice a n cc,V3,V3]::ow wm Zh a n cc acc::bx wm b4 [V4 0,.string (⟨#[]⟩:Y),V3,V3,V3]::bx wm b3 [V4 t.op,.string t.text,.slice pA t.args.length cA,.slice pD t.defs.length cD,.slice pK t.kids.length cK]::Uc wm w cf ct fv fr ws.2 S) h9/\UE.at 0=pV b/\UE.at 3=(V5 b3)/\UE.at 4=(V5 b4)/\UE.at 5=(V5 b5)/\UE.at 25=.slice pA t.args.length cA/\UE.at 26= V4 (t.args.length:Int)/\UE.at 27= V4 i) ⟨_,_,none,0,0,rfl,hS.only (.c k1 (.c k0 (.c k0 (.c k0 (.c k0 (.c k0 (.c k0 (.c k0 .n)))))))),(Yt rfl e0),(Yt rfl e3),(Yt rfl e4),(Yt rfl e5),Z9 rfl fh,Zj rfl fh,fh⟩ ?_);clear hL hS e0 e3 e4 e5;rintro ZaV ⟨i,fr,args⟩ s QA hL ⟨UE,h10,aA,nA,ccA,rfl,hS,e0,e3,e4,e5,e25,e26,e27⟩;obtain rfl:=hS.on k1;refine r6 ?_;refine WC.UJ (Zk fh rfl) (fun hc=>?_) (fun hc=>?_)
 ·replace hL:=Xe hc hL;refine r6 ?_;obtain⟨x,hx,hL⟩:=bS hL;obtain⟨b23,o24,⟨a25,c26⟩,Jw,Jz,Jy,XH⟩:=Sl.at_ hsA hx;refine V8 (Z8 Kr Xb (Zk (Zj rfl e25) rfl) (Zk (Zj rfl e27) rfl) rfl Jw hx) ?_;have Zax:Sl Zh wm h a25 c26 x.kids:=YJ.1 XH;refine V8 (Yq Ux Xb (Zk fh rfl) (At.fz hS.fz Jy Jz) (j:=0) rfl rfl (ws:=[V4 x.op,V4 x.n,.string x.text,.slice a25 x.kids.length c26]) rfl)<|r1 ?_;rintro _ h28 ⟨b7,eb7,rfl,hS⟩;refine r1 ?_;rintro h29 hS;refine r2 ?_;refine WC.JZ mixed Kq0<|r1 ?_;refine WX.wr (fun x=>x=b5) hS gN rfl (fun _ _ hR=>Ye ZzX (Zk fh rfl) (At.eqv (hR b5 rfl) (hS.J6 k1)) (j:=2) rfl (v:=.slice aA args.length ccA) rfl) ?_ rfl rfl;rintro h30 e30 hS;refine r2 ?_;obtain⟨y,hy,hL⟩:=bS hL;refine WX.cl gN rfl (Yi.fn Zxw (Zb (Zk (Zj rfl fh) rfl) (Zb (Zk fh rfl) Zd))) hS (.c k5 (.c k5 (.c k5 (.c k5 .n)))) (fun g' hz hf hO=>Zzd (cf:=cf) (ct:=ct) (fv:=fv) (taken:=ws.2) hr F (fr,x) y hy (hS.Vc hz) ((hS.sl Zax).mono hf) hO) ?_ rfl rfl [1] Kq0 (.c .z (hS.djs (.c k1 (.c k4 (.c k4 (.c k4 (.c k4 .n)))))) X6.e);rintro _ h34 _ ⟨a31,c33,rfl,rfl⟩ hS;refine WX.hn gN rfl (Zam (e:=Zh) hS Kr Xb ZfI rfl rfl rfl (ZG (Zk fh rfl) Ya) rfl [((a31,c33),y.2)] rfl (xs:=[y.2]) rfl (by intro q hq;simp only[Kx,Gi,or_false]at hq;subst hq;exact(YJ.2 (hS.fsl k0))) rfl) ?_ Kq0;rintro _ h37 ⟨b36,ZCT,rfl,hS⟩;obtain⟨z,hz,hL⟩:=bS hL;refine WX.hv gN rfl (Zan (e:=Zh) hS k8 Zj2 (Zk (Yt rfl fh) rfl) (Zk fh rfl) (hS.UN k0) (hS.on k0) hz) ?_ rfl Kq0 [] Kq0 X6.e;rintro _ h41 ⟨a39,c40,rfl,hS⟩;refine WX.w gN rfl (YV Ztm (Zk (YU rfl (Z9 rfl (Zj rfl e5))) rfl)) ?_ Kq0;refine WX.hu gN (WT hS k8 Zl7 (Zk fh rfl) (Zk (Zj rfl fh) rfl) (vs:=[.slice a39 z.length c40]) rfl rfl rfl rfl (cs':=[V4 t.op,.string tx,.slice a39 z.length c40,V3,V3]) rfl) ?_ rfl Kq0 [] Kq0 X6.e;rintro h42 hS;refine r6 ?_;refine r1 ?_;exact ZV.Yf (QA _ _ hL ⟨_,_,a39,z.length,c40,rfl,hS.only (.c k0 (.c k0 (.c k7 (.c k7 (.c k2 (.c k2 (.c k2 (.c k2 .n)))))))),(YU rfl (Yt rfl (Z9 rfl e0))),(YU rfl (Yt rfl (Z9 rfl e3))),(YU rfl (Yt rfl (Z9 rfl e4))),(YU rfl (Yt rfl (Z9 rfl e5))),(YU rfl (Yt rfl (Z9 rfl e25))),(YU rfl (Yt rfl (Z9 rfl e26))),fh⟩)
 replace hL:=Xf hc hL;refine r4 ?_;refine r1 ?_;refine WC.fzn hS k1 ?_;rintro h43 ⟨hn43,hS⟩;refine r6 ?_;refine WC.ZfQ (r:=r) (fun(q:WS×U NM×U Za)(s:Fs)=>∃(Wj:Fr) (h9:H) (S1:U SE) (b8:Nat) (rd:O Addr) (rcd:Nat),s=⟨Wj,[],h9,none⟩/\(∀e∈S,e∈S1)/\Rd S1 (some b8) q.2.1/\Sp wm T h (bx wm b5 [V4 t.op,.string tx,.slice aA args.length ccA,.slice rd q.2.2.length rcd,V3]::YB wm (Y4 Zh) (aA,ccA) args::YB wm (Y4 Zc) (rd,rcd) q.2.2::bx wm b4 [V4 0,.string (⟨#[]⟩:Y),V3,V3,V3]::bx wm b3 [V4 t.op,.string t.text,.slice pA t.args.length cA,.slice pD t.defs.length cD,.slice pK t.kids.length cK]::Uc wm w cf ct fv q.1.1 q.1.2 S1) h9/\Wj.at 3=(V5 b3)/\Wj.at 4=(V5 b4)/\Wj.at 5=(V5 b5)/\Wj.at 8=pV b8) (UZ F t ZR tx args) ?_ ?_
 rotate_left
 ·refine WC.seq<|r6 ?_;refine cn hL ?_ ?_
  ·intro hc hL;refine r4 ?_;obtain⟨cp,hcp,hL⟩:=bS hL;refine V9 (Yi.fn ZJS (Zb (Zk fh rfl) Zd)) hS .n (fun g' hz hf hO=>ZHd (hS.Vc hz) ((hS.sl hsD).mono hf) hcp) ?_;rintro _ h50 _ ⟨ra0,rn0,rc0,ra1,rn1,rc1,rfl,rfl⟩ hS;obtain rfl:=hS.on k0;obtain rfl:=hS.on k1;refine r1 ?_;refine V8 (Xj (Zk fh rfl) rfl)<|V8 (Xj (Zk (Zj rfl fh) rfl) rfl)<|r8 ?_;refine r1 ?_;obtain⟨names,hnm,hL⟩:=bS hL;refine WO.hv gN rfl (Zan (e:=YG) hS k0 ZaG (Zk (Zj rfl fh) rfl) (Zk fh rfl) (hS.UN k1) (hS.on k1) hnm) ?_;rintro _ h51 ⟨aN,cN,rfl,hS⟩;refine WO.fzn hS k0 ?_;rintro h52 ⟨ZOk,hS⟩;have hS:=hS.add (A:=YB wm Zv ((pA,cA),(pD,cD),(pK,cK)) t) (Zv.mono hS.fz hF) (fun _ z=>z);refine V8 (UU (Zb (Zk (YU rfl (YU rfl (Z9 rfl e3))) rfl) Zd)) ?_;obtain⟨bd,hbd,hL⟩:=bS hL;refine V9 (Yi.fn Zxu (Zb (Zk (Yt rfl fh) rfl) (Zb (Zk (Zj rfl fh) rfl) (Zb (Zk fh rfl) Zd)))) hS (.c k6 (.c k0 (.c k5 (.c k5 (.c k5 (.c k5 .n)))))) (fun g' hz hf hO=>hB (hS.Vc hz) hr ((hS.fsl k1).mono hf) (hW1 b3 ((pA,cA),(pD,cD),(pK,cK)) t) hbd hO) ?_;rintro _ h53 _ ⟨S1,b1,hS1,rfl,hr1,rfl⟩ hS;refine r6 ?_;refine r1 ?_;obtain⟨d,hd,hL⟩:=bS hL;rcases d with d|ek
   rotate_left
   ·replace hL:=Z0 hL;refine WO.WH gN (Yi.fn ZmD (Zb (Zk (Z9 rfl fh) rfl) (Zb (Zk fh rfl) Zd))) hS (.c k2 (.c k2 (.c k2 (.c k2 .n)))) (fun g' hz hf hO=>Zpu (F:=F) (KI:=KI) (Yd:=Yd) (Wz:=Wz) @hB hW Zbs F ((fr,bd.1),t.defs) _ hd (hS.Vc hz) hr1 ((hS.sl hsD).mono hf) hO) ?_;rintro Zkr hS
    repeat first|refine ZH.panic ?_|refine Yu.panic ?_|refine ZV.panic ?_|refine Xi.panic ?_
    have hr':=Oi0 hL;subst hr';exact Y6.Zmh hT hS
   replace hL:=Yn hL;refine V9 (Yi.fn ZmD (Zb (Zk (Z9 rfl fh) rfl) (Zb (Zk fh rfl) Zd))) hS (.c k2 (.c k2 (.c k2 (.c k2 .n)))) (fun g' hz hf hO=>PQ.ok (Zpu (F:=F) (KI:=KI) (Yd:=Yd) (Wz:=Wz) @hB hW Zbs F ((fr,bd.1),t.defs) _ hd (hS.Vc hz) hr1 ((hS.sl hsD).mono hf) hO)) ?_;rintro _ h54 _ ⟨S2,rd,rcd,hS2,rfl,rfl⟩ hS;refine r2 ?_;rintro h55 hS;refine r1 ?_;exact Xi.Yf (d.1,bd.2::c,d.2) hL ⟨_,_,S2,b1,rd,rcd,rfl,fun e he=>hS2 e (hS1 e he),hr1.mono hS2,hS.only (.c k0 (.c k9 (.c k0 (.c k8 (.c k4 (.c k0 (.c k0 (.c k0 (.c k0 .n))))))))),(YU rfl (YU rfl (YU rfl (Z9 rfl e3)))),(YU rfl (YU rfl (YU rfl (Z9 rfl e4)))),(YU rfl (YU rfl (YU rfl (Z9 rfl e5)))),(Yt rfl (Zj rfl fh))⟩
  ·intro hc hL;refine r1 ?_;have hS:=hS.add (A:=YB wm (Y4 Zc) (none,0) []) Sl.nil (fun _ z=>z);exact Xi.Yf ((fr,ws.2),c,[]) hL ⟨_,_,S,b,none,0,rfl,fun _ q=>q,hr,hS.only (.c k2 (.c k1 (.c k0 (.c k0 (.c k0 (.c k0 (.c k0 (.c k0 (.c k0 .n))))))))),(Yt rfl (Z9 rfl e3)),(Yt rfl (Z9 rfl e4)),(Yt rfl (Z9 rfl e5)),(Z9 rfl (Zj rfl fh))⟩
 clear hL hS e0 e3 e4 e5;rintro⟨ws2,c2,ds⟩ s hL ⟨frz,h60,S1,b8,rd,rcd,rfl,hS1,hr8,hS,e3,e4,e5,e8⟩;dsimp only[UZ]at hL hr8;refine r8 ?_;refine r2 ?_;have hS:=hS.nil (e:=Zv);refine WC.loop (WL.lift hL (fun(q:Int×WS×U Term)(s:Fs)=>match q with | (i,ws,acc)=>∃(UE:Fr) (h9:H) (a:O Addr) (n cc:Nat) (S2:U SE),s=⟨UE,[],h9,none⟩/\(∀e∈S1,e∈S2)/\Sp wm T h (bx wm b5 [V4 t.op,.string tx,.slice aA args.length ccA,.slice rd ds.length rcd,.slice a n cc]::ow wm Zv a n cc acc::YB wm (Y4 Zh) (aA,ccA) args::YB wm (Y4 Zc) (rd,rcd) ds::bx wm b4 [V4 0,.string (⟨#[]⟩:Y),V3,V3,V3]::Uc wm w cf ct fv ws.1 ws.2 S2) h9/\UE.at 4=(V5 b4)/\UE.at 5=(V5 b5)/\UE.at 8=pV b8/\UE.at 62=.slice pK t.kids.length cK/\UE.at 63= V4 (t.kids.length:Int)/\UE.at 64= V4 i) ⟨_,_,none,0,0,S1,rfl,fun _ q=>q,hS.only (.c k1 (.c k0 (.c k0 (.c k0 (.c k0 (.c k1 (.c k1 (.c k1 (.c k1 .n))))))))),(Yt rfl e4),(Yt rfl e5),(Yt rfl e8),Z9 rfl fh,Zj rfl fh,fh⟩ ?_);clear hL hS e3 e4 e5 e8;rintro ZNN ⟨i3,ws3,acc⟩ s ZBN hL ⟨ZdU,h61,aK,nK,ccK,S2,rfl,hS2,hS,e4,e5,e8,e62,e63,e64⟩;obtain rfl:=hS.on k1;refine r6 ?_;refine cn hL ?_ ?_
 ·intro hc hL;refine r6 ?_;obtain⟨x,hx,hL⟩:=bS hL;obtain⟨b23,o24,qx,Jw,Jz,Jy,XH⟩:=Sl.at_ hsK hx;refine V8 (Z8 Zbj Xp (Zk (Zj rfl e62) rfl) (Zk (Zj rfl e64) rfl) rfl Jw hx)<|V8 (Yq UK Xp (Zk fh rfl) (At.fz hS.fz Jy Jz) (j:=0) rfl rfl (ws:=Ja qx x) rfl)<|r1 ?_;rintro _ h28 ⟨b12,ZHG,rfl,hS⟩;refine r1 ?_;rintro h29 hS;refine r2 ?_;obtain⟨y,hy,hL⟩:=bS hL;rcases y with y|ek
  rotate_left
  ·replace hL:=Z0 hL;obtain⟨Zkr,hSp,ZxL⟩:=PQ.Z6 (Zbs _ _ hy hS.hw (hr8.mono hS2) (Zv.mono hS.fz XH) (hS.Za0 (.c k6 (.c k6 (.c k6 (.c k6 .n))))));refine WC.ZLN mixed (c:=4) Kq0<|PX.w rfl (YV ZhB lk)<|PX.w rfl (Ye ZlN lk (hS.J6 k1) (j:=4) rfl (v:=.slice aK acc.length ccK) rfl)<|PX.w rfl (ZW lk)<|PX.w rfl (Yq UK Xp lk (hS.J6 k0) (j:=0) rfl rfl (ws:=Ja qx x) rfl)<|PX.call ⟨118,_,_,Zkr,rfl,Yi.fn ZbV (Zb lk (Zb lk Zd)) _,ZxL,fun Xm=>?_⟩
   repeat first|refine ZH.panic ?_|refine Yu.panic ?_|refine ZV.panic ?_|refine Xi.panic ?_
   have hr':=Oi0 hL;subst hr';exact Y6.Zmh hT (hS.call (.c k6 (.c k6 (.c k6 (.c k6 .n)))) hSp)
  replace hL:=Yn hL;refine WC.JZ mixed Kq0<|r1 ?_;refine WX.wr (fun x=>x=b5) hS gN rfl (fun _ _ hR=>Ye ZlN (Zk fh rfl) (At.eqv (hR b5 rfl) (hS.J6 k1)) (j:=4) rfl (v:=.slice aK acc.length ccK) rfl) ?_ rfl rfl;rintro h30 e30 hS;refine r2 ?_;refine WX.cl gN rfl (Yi.fn ZbV (Zb (Zk (Zj rfl fh) rfl) (Zb (Zk fh rfl) Zd))) hS (.c k6 (.c k6 (.c k6 (.c k6 .n)))) (fun g' hz hf hO=>PQ.ok (Zbs _ _ hy (hS.Vc hz) (hr8.mono hS2) (Zv.mono hf (Zv.mono hS.fz XH)) hO)) ?_ rfl rfl [1] Kq0 (.c .z (hS.djs (.c k1 (.c k5 (.c k5 (.c k5 (.c k5 .n)))))) X6.e);rintro _ h34 _ ⟨S3,q3,hS3,rfl,rfl⟩ hS;refine WX.hn gN rfl (Zam (e:=Zv) hS Zbj Xp ZhR rfl rfl rfl (ZG (Zk fh rfl) Ya) rfl [(q3,y.2)] rfl (xs:=[y.2]) rfl (by intro q hq;simp only[Kx,Gi,or_false]at hq;subst hq;exact hS.get k0) rfl) ?_ Kq0;rintro _ h37 ⟨b36,ZCT,rfl,hS⟩;obtain⟨z,hz,hL⟩:=bS hL;refine WX.hv gN rfl (Zan (e:=Zv) hS k8 ZzN (Zk (Yt rfl fh) rfl) (Zk fh rfl) (hS.UN k0) (hS.on k0) hz) ?_ rfl Kq0 [] Kq0 X6.e;rintro _ h41 ⟨a39,c40,rfl,hS⟩;refine WX.w gN rfl (YV ZhB (Zk (YU rfl (Z9 rfl (Zj rfl e5))) rfl)) ?_ Kq0;refine WX.hu gN (WT hS k8 ZqT (Zk fh rfl) (Zk (Zj rfl fh) rfl) (vs:=[.slice a39 z.length c40]) rfl rfl rfl rfl (cs':=[V4 t.op,.string tx,.slice aA args.length ccA,.slice rd ds.length rcd,.slice a39 z.length c40]) rfl) ?_ rfl Kq0 [] Kq0 X6.e;rintro h42 hS;refine r6 ?_;refine r1 ?_;exact ZV.Yf (ZBN _ _ hL ⟨_,_,a39,z.length,c40,S3,rfl,fun e he=>hS3 e (hS2 e he),hS.only (.c k0 (.c k0 (.c k7 (.c k7 (.c k7 (.c k2 (.c k2 (.c k2 (.c k2 .n))))))))),(YU rfl (Yt rfl (Z9 rfl e4))),(YU rfl (Yt rfl (Z9 rfl e5))),(YU rfl (Yt rfl (Z9 rfl e8))),(YU rfl (Yt rfl (Z9 rfl e62))),(YU rfl (Yt rfl (Z9 rfl e63))),fh⟩)
 ·intro hc hL;refine r4 ?_;refine r1 ?_;refine WC.fzn hS k1 ?_;rintro h43 ⟨hn43,hS⟩;refine r4 ?_;rintro h63 hS;refine r3 ?_;have hS:=hS.add (A:=YB wm Zv ((aA,ccA),(rd,rcd),(aK,ccK)) (Term.mk t.op tx args ds acc)) (Jf.2 ⟨hS.fsl k3,hS.fsl k4,hS.fsl k1⟩) (fun _ z=>z);have hr':=Oi0 hL;subst hr';exact Y6.JQ rfl (Xa (Z9 rfl e4) (Qe UK Xp (hS.J6 k1) (j:=0) rfl rfl (ws:=[V4 t.op,.string tx,.slice aA args.length ccA,.slice rd ds.length rcd,.slice aK acc.length ccK]) rfl) Zm) ⟨_,⟨S2,((aA,ccA),(rd,rcd),(aK,ccK)),fun e he=>hS2 e (hS1 e he),rfl,rfl⟩,hT▸hS.only (.c k0 (.c k5 (.c k5 (.c k5 (.c k5 .n)))))⟩
end
end Go.Proofs.YtbnepjakjmnadaaGreat
end
end
section
set_option maxRecDepth 20000
noncomputable section
namespace Go.ZK
open Go.Lf
def Zma{α:Type}:∀(Ga Gr:U α),Sel (Ga++Gr) Ga Gr
 | [],_=>.n
 | _::Ga,Gr=>.c .z (Zma Ga Gr)
def Zzu{X:Ctx}{wm:Nat}{f:GX}{args:GZ N}{h:H}{K:N->U (Ast wm)->Prop}{Ga:U (Ast wm)}(Gw:U (Ast wm))(Zx:wm<=h.size)(hO:Yh (Gw++Ga) h)(c:WR X f args wm h (CP K Ga h)):
 WR X f args wm h (CP (fun v Gb=>∃Gb',K v Gb'/\Gb=Gw++Gb') (Gw++Ga) h):=by
 obtain⟨e,h',⟨v,rfl,Gb,hk,hS⟩,hj⟩:=c;refine⟨_,h',⟨v,rfl,Gw++Gb,⟨Gb,hk,rfl⟩,?_⟩,hj⟩;have s:=Sp.start Zx hO;have s1:Sp wm (QI (Gw++Ga)) h (Ga++Gw) h:=s.perm List.perm_append_comm;exact(s1.call (Zma Ga Gw) hS).perm List.perm_append_comm
end Go.ZK
end
end
section
set_option maxRecDepth 20000
noncomputable section
namespace Go.Proofs.YtbnepjakjmnadaaGreat
open Go.ZK Go.Lf
section
def ZEf:(XX.fns.get 79).isSome=true:=Kq0
def ZEg:(XX.fns.get 68).isSome=true:=Kq0
def ZsA:YM XX.P 110=some (.agg #[.map none,.map none,.nilFunc]):=Kq0
instance:Uy XX.P 110 (.agg #[.map none,.map none,.nilFunc]):=⟨ZsA⟩
def ZzF:JK XX.P 110 [.map none,.map none,.nilFunc] [(0,1),(1,1),(2,1)]:=⟨_,_,ZsA,rfl,Tryz.underlying110,by kernel_rfl⟩
def Za9(F:Nat):UB:=fun tk _ names _=>(Zjz F names).map fun m=>(tk,m)
def ZC7{F wm w cf:Nat}{ct:O Nat}{KI:Zhp wm}:ZgI wm w cf ct FV0 KI (Za9 F):=by
 intro h S b c names pa pc wv Gw wi free taken r Zx hr hsp _ hL hO;unfold Za9 at hL;obtain⟨m,hm,rfl⟩:=Option.map_eq_some_iff.1 hL;have hO':Yh (Uc wm w cf ct FV0 free taken S) h:=Yh.right hO;obtain⟨e,h',⟨v,rfl,Gb,⟨Gb',⟨S',b',h1,h2,h3,rfl⟩,rfl⟩,hS⟩,hj⟩:=Zzu Gw Zx hO (Zy8 (wv:=wv) Zx hr hsp hO' hm);exact⟨_,h',⟨v,rfl,_,⟨S',b',h1,h2,h3,rfl⟩,hS⟩,hj⟩
def ZyO{F wm w:Nat}{ct cm:O Nat}{fv:FV wm}{KI:Zhp wm}{Yd:UB}{Wz:Za->U Y->O MB}{frL:Term->O MB}(hB:∀cf,ZgI wm w cf ct fv KI Yd)(hW:ZnA KI Wz)(hW1:ZAb KI frL)
 {taken:MB} {h:H} {t:Term} {p:TmP} {m:O Nat} {es:U (Y×EV)} {r:PR (WS×Term)} (Zx:wm<=h.size) (hF:Zv.F wm h p t) (hO:Yh [bx wm w [.map cm,.map ct,fv.v],fv.A,mp wm Value.string Value.bool ct taken,mp wm Value.string vvE m es,esA wm es] h) (hL:ZjE F Yd Wz frL (([],taken),[Zov es],t)=some r):
  WF XX 79 #[pV w,.agg (Ja p t).toArray,.map m] wm h (PQ 147 (fun(r:WS×Term) v (Gb:U (Ast wm))=>∃(cf:Nat) (S':U SE) (q:TmP),v=.agg (Ja q r.2).toArray/\Gb=YB wm Zv q r.2::Uc wm w cf ct fv r.1.1 r.1.2 S') [bx wm w [.map cm,.map ct,fv.v],fv.A,mp wm Value.string Value.bool ct taken,mp wm Value.string vvE m es,esA wm es] h r):=by
 refine WF.begin (args:=[_,_,_]) (fn:=Tryz.f79) Kq0 (by exact rfl) Tryz.ntmps79 (by simp) ?_;simp only[Zn,Zw,Nat.reduceAdd];obtain⟨T,hT,hS⟩:∃T,T=QI (wm:=wm) [bx wm w [.map cm,.map ct,fv.v],fv.A,mp wm Value.string Value.bool ct taken,mp wm Value.string vvE m es,esA wm es]/\Sp wm T h [bx wm w [.map cm,.map ct,fv.v],fv.A,mp wm Value.string Value.bool ct taken,mp wm Value.string vvE m es,esA wm es] h:=⟨_,rfl,Sp.start Zx hO⟩
 refine r3 ?_;rintro _ h3 ⟨b4,eb4,rfl,hS⟩;refine r1 ?_;rintro _ h4 ⟨b6,eb6,rfl,hS⟩;refine r4 ?_;refine r1 ?_;refine Va (Zep Value.string Value.bool hS) ?_;rintro _ h5 ⟨cf,ecf,rfl,hS⟩;refine r3 ?_;rintro h6 hS;have hS:=ZE7 (hS.only (.c k0 (.c k3 (.c k0 (.c k0 (.c k0 (.c k0 (.c k0 (.c k0 .n)))))))));refine r6 ?_;refine V8 (XZ Zr2 (ZG (Zk (Zj rfl fh) rfl) (ZG (Zk fh rfl) Ya)) rfl (cs':=[pV w,ZbK none,.map m]) rfl)<|r1 ?_;rintro _ h7 ⟨bs,ebs,rfl,hS⟩;have hS:=hS.add (A:=stA wm w []) (fun x hx=>by cases hx) (fun i z=>by obtain⟨x,hx,_⟩:=z;cases hx);have hS:=ZqL (S:=[]) (b:=bs) (ar:=none) (m:=m) (es:=es) (hS.only (.c k1 (.c k6 (.c k6 (.c k0 (.c k0 (.c k0 (.c k2 (.c k0 (.c k0 .n))))))))));refine r1 ?_;rcases r with r|ek
 rotate_left
 ·refine WO.WH gN (Yi.fn ZbV (Zb (Zk (Zj rfl fh) rfl) (Zb (Zk fh rfl) Zd))) hS (.c k1 (.c k1 (.c k1 (.c k0 .n)))) (fun g' hz hf hO=>Zpv (F:=F) (KI:=KI) (Yd:=Yd) (Wz:=Wz) (frL:=frL) (hB cf) hW hW1 F (([],taken),[Zov es],t) _ hL (b:=bs) (hS.Vc hz) (Rd.cons (e:=⟨bs,none,m,es⟩) Gs Rd.nil) (Zv.mono hf (Zv.mono hS.fz hF)) hO) ?_;rintro Zkr hS
  repeat first|refine ZH.panic ?_|refine Yu.panic ?_|refine ZV.panic ?_|refine Xi.panic ?_
  exact Y6.Zmh hT hS
 refine V9 (Yi.fn ZbV (Zb (Zk (Zj rfl fh) rfl) (Zb (Zk fh rfl) Zd))) hS (.c k1 (.c k1 (.c k1 (.c k0 .n)))) (fun g' hz hf hO=>PQ.ok (Zpv (F:=F) (KI:=KI) (Yd:=Yd) (Wz:=Wz) (frL:=frL) (hB cf) hW hW1 F (([],taken),[Zov es],t) _ hL (b:=bs) (hS.Vc hz) (Rd.cons (e:=⟨bs,none,m,es⟩) Gs Rd.nil) (Zv.mono hf (Zv.mono hS.fz hF)) hO)) ?_;rintro _ h8 _ ⟨S1,q,_,rfl,rfl⟩ hS;refine r1 ?_;rintro h9 hS;refine r3 ?_;exact Y6.JQ rfl (Xa (YU rfl (Z9 rfl fh)) (Qe UK Xp (hS.J6 k0) (j:=0) rfl rfl (ws:=Ja q r.2) rfl) Zm) ⟨_,⟨cf,S1,q,rfl,rfl⟩,hT▸hS.only (.c k1 (.c k1 (.c k1 (.c k1 (.c k1 .n)))))⟩
def ZrD(F:Nat)(t:Term):O MB:=((ZjE F (Za9 F) (fun _ _=>none) (fun _=>none) (([],[]),[[]],t)).bind okP).map fun r=>r.1.1
def ZyQ{F wm:Nat}{h:H}{t:Term}{pA pD pK:O Addr}{cA cD cK:Nat}{r:MB}(Zx:wm<=h.size)(hsA:Sl Zh wm h pA cA t.args)(hsD:Sl Zc wm h pD cD t.defs)(hsK:Sl Zv wm h pK cK t.kids)(hL:ZrD F t=some r):
 WR XX 68 #[.agg #[V4 t.op,.string t.text,.slice pA t.args.length cA,.slice pD t.defs.length cD,.slice pK t.kids.length cK]] wm h (CP (fun v (Gb:U (Ast wm))=>∃(cf:Nat),v=.map (some cf)/\Gb=[mp wm Value.string Value.bool (some cf) r]) [] h):=by
 have hF:Zv.F wm h ((pA,cA),(pD,cD),(pK,cK)) t:=Jf.2 ⟨hsA,hsD,hsK⟩;unfold ZrD at hL;obtain⟨r',hr',rfl⟩:=Zit hL;refine bg Tryz.ntmps68 Zx Yh.nil ?_;intro T hT hS;refine r3 ?_;rintro _ h3 ⟨b1,eb1,rfl,hS⟩;refine r4 ?_;refine r1 ?_;refine V8 (XZ ZzF Ya rfl (cs':=[.map none,.map none,.nilFunc]) rfl)<|r1 ?_;rintro _ h4 ⟨bw,ebw,rfl,hS⟩;refine r6 ?_;refine r1 ?_;have hS:=hS.add (A:=esA wm []) (fun x hx=>by cases hx) (fun _ z=>z);have hS:=hS.add (A:=mp wm Value.string vvE none []) ZnD.nil (fun i z=>by cases z);have hS:=hS.add (A:=mp wm Value.string Value.bool none []) ZnD.nil (fun i z=>by cases z);have hS:=hS.add (A:=noA wm) trivial (fun i z=>z);refine V9 (Yi.fn ZEf (Zb (Zk (Zj rfl fh) rfl) (Zb (Zk fh rfl) (Zb (UO rfl) Zd)))) hS (.c k4 (.c k0 (.c k0 (.c k0 (.c k0 .n))))) (fun g' hz hf hO=>PQ.ok (ZyO (F:=F) (w:=bw) (fv:=FV0) (KI:=fun _ _ _=>True) (Yd:=Za9 F) (Wz:=fun _ _=>none) (frL:=fun _=>none) (fun cf=>@ZC7 F wm bw cf none (fun _ _ _=>True)) (fun _ _ _ _ _ _ _=>trivial) (fun _ _ _=>trivial) (p:=((pA,cA),(pD,cD),(pK,cK))) (es:=[]) (hS.Vc hz) (Zv.mono hf (Zv.mono hS.fz hF)) hO hr')) ?_;rintro _ h8 _ ⟨cf,S1,q,rfl,rfl⟩ hS;refine r6 ?_;refine r1 ?_;refine V8 (Ye Zj3 (Zk fh rfl) (ZgL hS k1) (j:=0) rfl (v:=.map (some cf)) rfl)<|r4 ?_;exact Y6.JQ rfl (ZC (Zk fh rfl) Zm) ⟨_,⟨cf,rfl,rfl⟩,hT▸hS.only (.c k2 .n)⟩
end
section
def ZLy(F:Nat)(t:Term):O Term:=((ZjE F (Za9 F) (fun _ _=>none) (fun _=>none) (([],[]),[[]],t)).bind okP).map fun r=>r.2
end
section
open Go.ZK Go.RowKit Go.Maps Go.Sort Go.Shelf Go.Lf
def ZCu{wm m:Nat}{h:H}:Ym XX (.call 67 #[.map (some m)] wm h) (.fin (.ret (.func (.func 111) #[] #[(V5 h.size)])) (h.push (.box m))):=by
 intro ρ args' w Zx hr hvs;refine(Zs2 hr hvs).mono fun e w' ⟨v',p,l,he,hb,hp,hp2,hvr,ho⟩=>?_
 subst he;obtain⟨q1,q2⟩:=ZqX hr Zx hb hp hp2 ho;exact⟨_,.ret hvr,q1,q2⟩
def ZA9{ρ:ZK.Ren}{h:H}{w w':GY}{v:N}{ss L:U (U UInt8)}(h1:L≠[])(h2:L.mergeSort leB=L)(hp:ss.Perm L)
 (ho:w'.ownsRow w.heap.size 9 1 v ss.length ((ss.mergeSort fun x y=>decide (x<=y)).map encStr)):
 ∃p l,w.heap.size<=p/\p<w'.heap.size/\VR (ρ.add h.size (p,0) l) (.slice (some ⟨h.size,0,none⟩) L.length (2*L.length+1)) v/\Qz (ρ.add h.size (p,0) l) w' p 0 l (.row (L.map encStr) true 1):=by
 have hm:(ss.mergeSort fun x y=>decide (x<=y))=L:=by
  have e1:ss.mergeSort leB=L.mergeSort leB:=mergeSort_of_perm hp;exact e1.trans h2
 rw[hm,hp.length_eq]at ho;obtain⟨_,⟨_,h0⟩|⟨g,cap,cur,rfl,hb,hg,c1,c2,c3,c4⟩⟩:=ho
 ·exact absurd (G9 h0) h1
 ·have hlt:g<w'.heap.size:=(J0.1 hg).1;refine⟨g,(cur.size,1),hb,hlt,?_,?_⟩
  ·have:=VR.slice (ρ:=ρ.add h.size (g,0) (cur.size,1)) (i:=h.size) (b:=g) (d:=0) 0 L.length (2*L.length+1) cap (Ren.add_same _ _ _ _) ?_
   ·exact this
   ·rw[Ren.K6];refine⟨KB c2 (by decide),?_⟩;rw[if_neg V6];dsimp only;omega
  ·refine⟨cur,9,(0,0),hg,fun _=>⟨rfl,fun _=>rfl⟩,by simp;omega,fun k v v' a b=>?_⟩;rw[Nat.mul_one]at c4
   have:cur.toList[k]? =some v:=by
    have hk:(L.map encStr)[k]? =some v:=a;rw[<-c4,List.getElem?_take]at hk;split at hk
    ·exact hk
    ·cases hk
   rw[JT]at b;rw[<-G7,this]at b;cases b;rw[GC,Option.map_eq_some_iff]at a;obtain⟨x,_,rfl⟩:=a;exact VR.string _
def ZqN{ρ:ZK.Ren}{h:H}{i m clock:Nat}{args':GZ N}{w:GY}{es:U V0}{ks L:U (U UInt8)}(hr:Rel ρ h w)(hi:h.at i=.box m)(hat:h.at m=.map es clock)(c1:Xw clock es=true)(c2:es.length<=1000000)(c3:Zbp es=some ks)(c4:nodupB ks=true)(hsz:Maps.size (Jh ks)<=1000000)(h1:L≠[])(h2:L.mergeSort leB=L)(hL:(strKeys (Jh ks)).Perm L)
 (hv:Jo ρ #[.func (.func 111) #[] #[(V5 i)]] args'):
 CallsIn base 0 Tryz.prog 66 args' w (fun e w'=>∃v' p l,e=.returned v'/\Below w.heap.size w w'/\w.heap.size<=p/\p<w'.heap.size/\
  VR (ρ.add h.size (p,0) l) (.slice (some ⟨h.size,0,none⟩) L.length (2*L.length+1)) v'/\Qz (ρ.add h.size (p,0) l) w' p 0 l (.row (L.map encStr) true 1)):=by
 obtain⟨b,d,rfl,hb⟩:∃b d,args'=#[.func (.func 111) #[] #[.pointer (some ⟨b,d+0,none⟩)]]/\ρ i=some (b,d):=by
  have h1:args'.size=1:=hv.1.symm;have h2:=hv.2 0 _ (args'[0]'V6) (by rfl) (by simp[h1])
  have h3:args'=#[args'[0]'V6]:=by
   apply Array.ext
   ·simp[h1]
   ·intro i hi _;obtain rfl:i=0:=V6
    rfl
  generalize args'[0]'V6=y at h2 h3;cases h2 with
  | func _ _ _ xs' ys' hf hx hy k1 k2=>
    have e1:xs'=#[]:=GN hx.symm;have hy:ys'.size=1:=hy.symm;have k3:=k2 0 _ (ys'[0]'V6) (by rfl) (by simp[hy])
    have e2:ys'=#[ys'[0]'V6]:=by
     apply Array.ext
     ·simp[hy]
     ·intro i hi _;obtain rfl:i=0:=V6
      rfl
    generalize ys'[0]'V6=z at k3 e2;cases k3 with
    | @ptr _ b d _ hb=>exact⟨b,d,by rw[h3,e1,e2],hb⟩
 have ho:=hr.obj _ _ _ hb;rw[hi]at ho;obtain⟨rfl,bm,el,hbm,hcell⟩:=ho;have hom:=hr.obj _ _ _ hbm;rw[hat]at hom;obtain⟨_,es',hw,hes⟩:=hom;have hown:=ZqZ hw hes c1 c2 c3 c4;have hlt:=(hr.dom _ _ _ hb).2
 have hseq:SeqGives base 2 Tryz.prog 111 #[(V5 b)] encStr (fun ss=>ss.Perm (strKeys (Jh ks))) (Maps.size (Jh ks)) w:=
  AnyZ.keys_gives (ρ:=ZcP) {Zs3 with} base _ (inB Kq0) rfl V6 b bm _ _ w hlt (by simp[World.cell?,hcell]) hown
 have h1m:(1000000:Nat)<=maxLen:=by decide
 have cS:=AnyZ.sorted_in Zl2 base 5 (inB Kq0) (inB Kq0) (inB Kq0) (inB Kq0) rfl V6 (sorts _) (enters_of Tryz.func110 Kq0 rfl) 111 #[(V5 b)] (inB Kq0) (enters_of Tryz.func111 Kq0 rfl) _ _ V6 V6 _ hseq;refine CallsIn.mono (Zc1 cS) ?_;rintro e w' ⟨v,ss,rfl,hS,hrow,_,hbel⟩;obtain⟨p,l,q1,q2,q3,q4⟩:=ZA9 (ρ:=ρ) (h:=h) h1 h2 (hS.trans hL) hrow;exact⟨v,p,l,rfl,hbel,q1,q2,q3,q4⟩
def ZyR{wm i m clock:Nat}{h:H}{es:U V0}{ks L:U (U UInt8)}(hi:h.at i=.box m)(hat:h.at m=.map es clock)(c1:Xw clock es=true)(c2:es.length<=1000000)(c3:Zbp es=some ks)(c4:nodupB ks=true)(hsz:Maps.size (Jh ks)<=1000000)(h1:L≠[])(h2:L.mergeSort leB=L)(hL:(strKeys (Jh ks)).Perm L):
 Ym XX (.call 66 #[.func (.func 111) #[] #[(V5 i)]] wm h) (.fin (.ret (.slice (some ⟨h.size,0,none⟩) L.length (2*L.length+1))) (h.push (.row (L.map encStr) true 1))):=by
 intro ρ args' w Zx hr hvs;refine(ZqN hr hi hat c1 c2 c3 c4 hsz h1 h2 hL hvs).mono fun e w' ⟨v',p,l,he,hb,hp,hp2,hvr,ho⟩=>?_
 subst he;obtain⟨q1,q2⟩:=ZqX hr Zx hb hp hp2 ho;exact⟨_,.ret hvr,q1,q2⟩
def kbs(l:U (Y×Z)):U (U UInt8):=l.map fun p=>p.1.data.toList
def Zhh(l:U (Y×Z)):U (U UInt8):=(kbs l).mergeSort leB
def Zak(l:U (Y×Z)):U Y:=(Zhh l).map fun k=>⟨k.toArray⟩
def Zrd(ks:U (U UInt8)):(strKeys (Jh ks)).Perm ks:=by
 unfold Jh;show(((ks.map fun k=>(Lit.string k,DataW.nil (H:=Unit))).foldr DataW.insert []).map fun p=>strOf p.1).Perm ks;have h:=(Go.WideShapes.sorted_perm (ks.map fun k=>(Lit.string k,DataW.nil (H:=Unit)))).map fun p=>strOf p.1
 rw[Gd]at h
 have e:ks.map ((fun p:Lit×DataW Unit=>strOf p.1)∘fun k=>(Lit.string k,DataW.nil))=ks:=by
  conv=>rhs;rw[<-List.map_id ks]
  exact Gt fun k _=>rfl
 rwa[e]at h
def Zuz(l:U (Y×Z)):(strKeys (Jh (kbs l))).Perm (Zhh l):=(Zrd _).trans (List.mergeSort_perm _ _).symm
def Zld:∀a b c:U UInt8,leB a b=true->leB b c=true->leB a c=true:=fun a b c h1 h2=>by simp only[leB,decide_eq_true_eq]at *;exact List.le_trans h1 h2
def Zle:∀a b:U UInt8,(leB a b||leB b a)=true:=fun a b=>by simp only[leB,GB,decide_eq_true_eq];exact List.le_total a b
def Zn4(l:U (Y×Z)):(Zhh l).mergeSort leB=Zhh l:=List.mergeSort_of_pairwise (List.pairwise_mergeSort Zld Zle _)
def Zh0(l:U (Y×Z)):(Zhh l).length=l.length:=by unfold Zhh;rw[List.length_mergeSort];simp[kbs]
def Zoq{k:U UInt8}:∀{xs},k∉xs->Zk3 k xs=true
 | [],_=>rfl
 | x::xs,h=>by
   unfold Zk3;rw[decide_eq_false (fun e=>h (by rw[e];simp))];exact Zoq fun hm=>h (Kf _ hm)
def Zk5:∀{xs:U (U UInt8)},xs.Nodup->nodupB xs=true
 | [],_=>rfl
 | x::xs,h=>by
   obtain⟨h1,h2⟩:=GD.1 h;unfold nodupB;rw[Zoq h1,Zk5 h2];rfl
def Zk4{b:Nat}:∀{es:U V0},b∉es.map (·.born)->KA b es=true
 | [],_=>rfl
 | e::es,h=>by
   unfold KA
   have:Nat.beq e.born b=false:=by
    cases hb:Nat.beq e.born b
    ·rfl
    ·exact absurd (by simp[Nb0 hb]) h
   rw[this];exact Zk4 fun hm=>h (Kf _ hm)
def ZfW{vv:Z->N}:∀(l:U (Y×Z))(bs:U Nat),bs.length=l.length->(XA Value.string vv l bs).map (·.born)=bs
 | [],[],_=>rfl
 | [],_::_,h=>by cases h
 | _::_,[],h=>by cases h
 | p::l,b::bs,h=>by
   show b::(XA Value.string vv l bs).map (·.born)=b::bs;rw[ZfW l bs (by simpa using h)]
def ZjT{Qb:Nat}:∀{es:U V0},(es.map (·.born)).Nodup->(∀b∈es.map (·.born),b<Qb)->Xw Qb es=true
 | [],_,_=>rfl
 | e::es,h,hl=>by
   obtain⟨h1,h2⟩:=GD.1 h;unfold Xw;rw[Zk4 h1,ZjT h2 fun b hb=>hl b (Kf _ hb)];have:Nat.blt e.born Qb=true:=by rw[G0];exact hl _ (by simp)
   rw[this];rfl
def ZoH{vv:Z->N}:∀(l:U (Y×Z))(bs:U Nat),bs.length=l.length->(∀p∈l,p.1.size<=1000000)->Zbp (XA Value.string vv l bs)=some (kbs l)
 | [],[],_,_=>rfl
 | [],_::_,h,_=>by cases h
 | _::_,[],h,_=>by cases h
 | p::l,b::bs,h,hs=>by
   have i:=ZoH (vv:=vv) l bs (by simpa using h) fun q hq=>hs q (Kf _ hq)
   show(match Zxi (Value.string p.1),Zbp (XA Value.string vv l bs) with|some k,some ks=>some (k::ks) | _,_=>none)=_
   have hk:Zxi (Value.string p.1)=some p.1.data.toList:=by
    have h1:=hs p (by simp);have:p.1.data.toList.length<=1000000:=by rw[G5];exact h1
    show(bif Nat.ble p.1.data.toList.length 1000000 then some p.1.data.toList else none)=_;rw[Nm0 this];rfl
   rw[hk,i];rfl
def Zrc(ks:U (U UInt8)):Maps.size (Jh ks)=ks.length:=by
 unfold Jh;rw[Maps.size_eq,(Go.WideShapes.sorted_perm _).length_eq,Gc]
def ZqO{ρ:ZK.Ren}{h:H}{i m clock:Nat}{args':GZ N}{w:GY}{es:U V0}{ks:U (U UInt8)}(hr:Rel ρ h w)(hi:h.at i=.box m)(hat:h.at m=.map es clock)(c1:Xw clock es=true)(c2:es.length<=1000000)(c3:Zbp es=some ks)(c4:nodupB ks=true)(hsz:Maps.size (Jh ks)<=1000000)(h1:ks=[])
 (hv:Jo ρ #[.func (.func 111) #[] #[(V5 i)]] args'):
 CallsIn base 0 Tryz.prog 66 args' w (fun e w'=>e=.returned (V3)/\Below w.heap.size w w'):=by
 obtain⟨b,d,rfl,hb⟩:∃b d,args'=#[.func (.func 111) #[] #[.pointer (some ⟨b,d+0,none⟩)]]/\ρ i=some (b,d):=by
  have h1:args'.size=1:=hv.1.symm;have h2:=hv.2 0 _ (args'[0]'V6) (by rfl) (by simp[h1])
  have h3:args'=#[args'[0]'V6]:=by
   apply Array.ext
   ·simp[h1]
   ·intro i hi _;obtain rfl:i=0:=V6
    rfl
  generalize args'[0]'V6=y at h2 h3;cases h2 with
  | func _ _ _ xs' ys' hf hx hy k1 k2=>
    have e1:xs'=#[]:=GN hx.symm;have hy:ys'.size=1:=hy.symm;have k3:=k2 0 _ (ys'[0]'V6) (by rfl) (by simp[hy])
    have e2:ys'=#[ys'[0]'V6]:=by
     apply Array.ext
     ·simp[hy]
     ·intro i hi _;obtain rfl:i=0:=V6
      rfl
    generalize ys'[0]'V6=z at k3 e2;cases k3 with
    | @ptr _ b d _ hb=>exact⟨b,d,by rw[h3,e1,e2],hb⟩
 have ho:=hr.obj _ _ _ hb;rw[hi]at ho;obtain⟨rfl,bm,el,hbm,hcell⟩:=ho;have hom:=hr.obj _ _ _ hbm;rw[hat]at hom;obtain⟨_,es',hw,hes⟩:=hom;have hown:=ZqZ hw hes c1 c2 c3 c4;have hlt:=(hr.dom _ _ _ hb).2
 have hseq:SeqGives base 2 Tryz.prog 111 #[(V5 b)] encStr (fun ss=>ss.Perm (strKeys (Jh ks))) (Maps.size (Jh ks)) w:=
  AnyZ.keys_gives (ρ:=ZcP) {Zs3 with} base _ (inB Kq0) rfl V6 b bm _ _ w hlt (by simp[World.cell?,hcell]) hown
 have h1m:(1000000:Nat)<=maxLen:=by decide
 have cS:=AnyZ.sorted_in Zl2 base 5 (inB Kq0) (inB Kq0) (inB Kq0) (inB Kq0) rfl V6 (sorts _) (enters_of Tryz.func110 Kq0 rfl) 111 #[(V5 b)] (inB Kq0) (enters_of Tryz.func111 Kq0 rfl) _ _ V6 V6 _ hseq;refine CallsIn.mono (Zc1 cS) ?_;rintro e w' ⟨v,ss,rfl,hS,hrow,hnil,hbel⟩;subst h1;have:ss=[]:=hS.eq_nil;exact⟨by rw[hnil.2 this],hbel⟩
def ZyS{wm i m clock:Nat}{h:H}{es:U V0}{ks:U (U UInt8)}(hi:h.at i=.box m)(hat:h.at m=.map es clock)(c1:Xw clock es=true)(c2:es.length<=1000000)(c3:Zbp es=some ks)(c4:nodupB ks=true)(hsz:Maps.size (Jh ks)<=1000000)(h1:ks=[]):
 Ym XX (.call 66 #[.func (.func 111) #[] #[(V5 i)]] wm h) (.fin (.ret (V3)) h):=by
 intro ρ args' w Zx hr hvs;refine(ZqO hr hi hat c1 c2 c3 c4 hsz h1 hvs).mono fun e w' ⟨he,hb⟩=>?_
 subst he;refine⟨ρ,.ret (VR.ZL rfl),⟨fun i b d e=>?_,fun i b d e=>?_,hr.inj⟩,⟨Ren.le_refl ρ,K1 _,fun _ _=>rfl,fun _ _ x=>x,fun _ _ x=>x,hb.os,hb.tape,hb.output,hb.size,fun b hb' _=>hb.block b hb',fun i b d e e'=>by rw[e]at e';cases e'⟩⟩
 ·obtain⟨q1,q2⟩:=hr.dom i b d e;exact⟨q1,Jx q2 hb.size⟩
 ·exact(hr.obj i b d e).world (hb.block b (hr.dom i b d e).2)
end
end Go.Proofs.YtbnepjakjmnadaaGreat
end
end
