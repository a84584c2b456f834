/- Part 16. -/
import Derived.Test.YtbnepjakjmnadaaGreatLa15
set_option linter.all false
set_option maxHeartbeats 2000000
section
set_option maxRecDepth 20000
noncomputable section
namespace Go.Proofs.YtbnepjakjmnadaaGreat
open Go.ZP Go.Lf
section
def ZzA{F wm h}{p0:Part}{Jq:PtP}{r}(Zy:wm<=h.size)(ZeS:Z4.F wm h Jq p0)(hL:ZzB F p0=some r):
 WF XX 61 #[K8 Jq p0] wm h (PQ 147 (fun(r:Unit) v (Gb:U (Ast wm))=>v=.tuple #[]/\Gb=[]) [] h r):=by
 refine WF.QC (args:=[_]) (fn:=Tryz.f61) Kq0 (by exact rfl) Tryz.ntmps61 (by simp) ?_;simp only[Zq,Zx,Nat.reduceAdd];obtain⟨T,hT,hS⟩:∃T,T=QF (wm:=wm) []/\Sp wm T h [] h:=⟨_,rfl,Sp.start Zy Yp.nil⟩
 unfold ZzB at hL;refine WC.seq<|WC.region<|Ve (U3 hS ZEo (vs:=[V8 0]) rfl) ?_;rintro _ h2 ⟨b1,eb1,rfl,hS⟩;refine WO.hu gN (JO hS k0 ZwW (Zj fh rfl) (J2 rfl) (vs:=[V8 0]) rfl rfl rfl rfl (cs':=[V8 0]) rfl) ?_;rintro h3 hS;refine WO.nil<|ZB.Yc<|WC.seq<|WC.seq<|WC.region<|Vc (ZO (Zj (Zg rfl fh) Yb))<|WO.ZGZ gN rfl (Yo.fn ZyC (Zb (Zj fh Yb) Zd)) (WF.QC (args:=[_]) (fn:=Tryz.f57) Kq0 (by exact rfl) Tryz.ntmps57 (by simp) ?_);simp only[Zq,Zx,Nat.reduceAdd];refine WC.seq<|WC.region<|Ve (ZgR hS (Zj fh Yb) (vs:=[K8 Jq p0]) ZlG) ?_;rintro _ h5 ⟨b4,eb4,rfl,hS⟩;refine Vc (ZW (J2 rfl))<|WO.nil<|ZB.Yc<|WC.seq<|WC.region<|Vc (WZ (Zb (Zj (Zg rfl fh) rfl) Zd))<|Vc (ZW (Zj fh rfl))<|WO.nil<|ZB.Yc<|WC.ret<|Z0.Zvz rfl (ZG (Zj fh rfl) Zk) rfl<|WO.nil<|ZB.Yc<|WC.block<|WC.Zro (first:=[]) (cap:=[(V9 b4)]) hS (Zj fh rfl) Zr2 ?_;intro h6 l7 df8 LO9 ZlM hS;refine WF.ZxZ (r:=r) (fun(v13:Int)(v:N)(h11:H)=>v=.tuple #[]/\Sp wm T h [bx wm b1 [V8 v13],bx wm b4 [K8 Jq p0],ob wm l7 LO9,ob wm df8 .deferred] h11) (Zjx F p0) ?_ (WF.QC (args:=[_,_]) (fn:=Tryz.f100) Kq0 (by exact rfl) Tryz.ntmps100 (by simp) ?_)
 ·rintro v13 v h11 hL ⟨rfl,hS⟩;refine RgS.sp ZlM hS k2 ?_;rintro h14 hS;refine Yy.Yc<|ZB.Yc<|WC.seq<|WC.region<|Vc (ZO (Zj (Z8 rfl (Zg rfl fh)) Yb)) ?_;obtain⟨x15,Zhh,hL⟩:=bS hL;refine WO.cp gN rfl (Yo.fn ZFi (Zb (Zj fh Yb) Zd)) (ZId (Jq:=Jq) (Z4.up hS.hw (Z4.mono hS.fz ZeS)) Zhh)<|Vc (Y5 (Zj fh rfl) (J2 rfl) Zks) ?_;obtain⟨x16,hx16,hL⟩:=bS hL;rcases x16 with y17|e18
  ·skip;replace hL:=Yw hL;refine Vd (Yo.fn YZ (Zb (Zj fh rfl) Zd)) hS .n (fun g' hz hf hO=>(PQ.ok (YF (hS.Vg hz) hx16))) ?_;rintro _ h19 _ ⟨rfl,rfl⟩ hS;refine WO.nil<|ZB.Yc<|WC.seq<|WC.region<|Vc (ZO (Zj (YC rfl (Z8 rfl (Zg rfl fh))) Yb))<|WO.ZGZ gN rfl (Yo.fn ZyC (Zb (Zj fh Yb) Zd)) (WF.QC (args:=[_]) (fn:=Tryz.f57) Kq0 (by exact rfl) Tryz.ntmps57 (by simp) ?_);simp only[Zq,Zx,Nat.reduceAdd];refine WC.seq<|WC.region<|Ve (ZgR hS (Zj fh Yb) (vs:=[K8 Jq p0]) ZlG) ?_;rintro _ h22 ⟨b21,ZM8,rfl,hS⟩;refine Vc (ZW (J2 rfl))<|WO.nil<|ZB.Yc<|WC.seq<|WC.region<|Vc (WZ (Zb (Zj (Zg rfl fh) rfl) Zd))<|Vc (ZW (Zj fh rfl))<|WO.nil<|ZB.Yc<|WC.ret<|Z0.Zvz rfl (ZG (Zj fh rfl) Zk) rfl<|WO.nil<|ZB.Yc<|WC.block<|WC.Zro (first:=[]) (cap:=[(V9 b21)]) hS (Zj fh rfl) Zr2 ?_;intro h23 l24 ZRe ZqU Zi9 hS;refine WF.ZxZ (r:=r) (fun(_:Unit)(v:N)(h28:H)=>v=.tuple #[]/\Sp wm T h [bx wm b1 [V8 v13],bx wm b4 [K8 Jq p0],bx wm b21 [K8 Jq p0],ob wm l24 ZqU,ob wm ZRe .deferred,ob wm df8 .deferred] h28) (Zse) ?_ (WF.QC (args:=[_,_]) (fn:=Tryz.f100) Kq0 (by exact rfl) Tryz.ntmps100 (by simp) ?_)
   ·rintro _ v h28 hL ⟨rfl,hS⟩;refine RgS.sp Zi9 hS k3 ?_;rintro h30 hS;refine Yy.Yc<|Z0.Yc<|Z0.Zhi hS k3 ?_;rintro h31 hS;refine Z0.Zhi hS k3 ?_;rintro h32 hS;have hr:=Oi0 hL;subst hr;exact Z0.WV rfl Zk rfl ⟨_,⟨rfl,rfl⟩,hT▸hS.only .n⟩
   ·skip;simp only[Zq,Zx,Nat.reduceAdd];refine WC.seq<|WC.region<|Ve (ZgR hS (Zj (Zg rfl fh) rfl) (vs:=[.func (.yield l24) #[] #[]]) rfl) ?_;rintro _ h34 ⟨b33,ZQX,rfl,hS⟩;refine WO.nil<|ZB.Yc<|WC.seq<|WC.region<|Ve (U3 hS Zmk (vs:=[.nilFunc]) rfl) ?_;rintro _ h36 ⟨b35,ZV0,rfl,hS⟩;refine WO.nil<|ZB.Yc<|WC.seq<|WC.region<|Vc (WZ (Zb (Zj (Zg rfl fh) rfl) (Zb (Zj fh rfl) Zd)))<|WO.hu gN (JO hS k0 Zmz (Zj (Zg rfl fh) rfl) (Zj fh rfl) (vs:=[.func (.func 101) #[] #[(V9 b33),(V9 b35)]]) rfl rfl rfl rfl (cs':=[.func (.func 101) #[] #[(V9 b33),(V9 b35)]]) rfl) ?_;rintro h37 hS;refine WO.nil<|ZB.Yc<|WC.region<|Vc (Yt Zem (Zj (Zg rfl fh) rfl) (hS.Jp k0) (j:=0) rfl (v:=.func (.func 101) #[] #[(V9 b33),(V9 b35)]) rfl)<|Vc (Yt Zen (Zj (YC rfl fh) rfl) (hS.Jp k4) (j:=0) rfl (v:=K8 Jq p0) rfl) ?_;have hS:=hS.add (A:=Yi wm Z4 Jq p0) (Z4.mono hS.fz ZeS) (fun _ z=>z)
    have Zyj:∀(Fr:Nat)(v40:Part)(r:(PR Z)),loop Fr (Zea F) v40=some r->∀{h:H}(q41:PtP),wm<=h.size->Yp (wm:=wm) [Yi wm Z4 q41 v40,bx wm b1 [V8 v13],bx wm b4 [K8 Jq p0],bx wm b21 [K8 Jq p0],bx wm b33 [.func (.yield l24) #[] #[]],bx wm b35 [.func (.func 101) #[] #[(V9 b33),(V9 b35)]],Yi wm Z4 Jq p0,ob wm l24 ZqU] h->WF XX 101 #[K8 q41 v40,(V9 b33),(V9 b35)] wm h (PQ 147 (fun(v46:Z) v (Gb:U (Ast wm))=>v=.bool v46/\Gb=[bx wm b1 [V8 v13],bx wm b4 [K8 Jq p0],bx wm b21 [K8 Jq p0],bx wm b33 [.func (.yield l24) #[] #[]],bx wm b35 [.func (.func 101) #[] #[(V9 b33),(V9 b35)]],Yi wm Z4 Jq p0,ob wm l24 ZqU]) [Yi wm Z4 q41 v40,bx wm b1 [V8 v13],bx wm b4 [K8 Jq p0],bx wm b21 [K8 Jq p0],bx wm b33 [.func (.yield l24) #[] #[]],bx wm b35 [.func (.func 101) #[] #[(V9 b33),(V9 b35)]],Yi wm Z4 Jq p0,ob wm l24 ZqU] h r):=by
     refine XU _ ?_;rintro WQ ZtK v40 r hL h q41 Zy hO;obtain⟨T,hT,hS⟩:∃T,T=QF (wm:=wm) [Yi wm Z4 q41 v40,bx wm b1 [V8 v13],bx wm b4 [K8 Jq p0],bx wm b21 [K8 Jq p0],bx wm b33 [.func (.yield l24) #[] #[]],bx wm b35 [.func (.func 101) #[] #[(V9 b33),(V9 b35)]],Yi wm Z4 Jq p0,ob wm l24 ZqU]/\Sp wm T h [Yi wm Z4 q41 v40,bx wm b1 [V8 v13],bx wm b4 [K8 Jq p0],bx wm b21 [K8 Jq p0],bx wm b33 [.func (.yield l24) #[] #[]],bx wm b35 [.func (.func 101) #[] #[(V9 b33),(V9 b35)]],Yi wm Z4 Jq p0,ob wm l24 ZqU] h:=⟨_,rfl,Sp.start Zy hO⟩
     refine WF.QC (args:=[_,_,_]) (fn:=Tryz.f101) Kq0 (by exact rfl) Tryz.ntmps101 (by simp) ?_;simp only[Zq,Zx,Nat.reduceAdd];refine WC.seq<|WC.region<|Vc (ZW (J2 rfl))<|WO.nil<|ZB.Yc<|WC.seq<|WC.seq<|WC.region<|Vc (Yt Zem (Zj (Z8 rfl fh) rfl) (hS.Jp k4) (j:=0) rfl (v:=.func (.yield l24) #[] #[]) rfl)<|Vc (ZO (Zj (YC rfl fh) Yb))<|WO.ZFV gN rfl (Zj (Zg rfl fh) rfl) (Zb (Zj fh Yb) Zd) hS k7 Zi9 rfl rfl<|WC.region<|Vc (ZW (Zj fh Yb))<|WO.nil<|AsZ.sp Zi9 hS k7 ?_;rintro h47 hS;refine WC.jnP (r:=r) (fun(_:Unit)(s:Fs)=>∃ZMU h48,s=⟨ZMU,[],h48,none⟩/\Sp wm T h [bx wm b1 [V8 v13],bx wm b4 [K8 Jq p0],bx wm b21 [K8 Jq p0],bx wm b33 [.func (.yield l24) #[] #[]],bx wm b35 [.func (.func 101) #[] #[(V9 b33),(V9 b35)]],Yi wm Z4 Jq p0,Yi wm Z4 q41 v40,ob wm l24 (bsy ZqU)] h48) (KQ F v40 WQ) ?_ ?_
     ·rintro _ s hL ⟨ZMU,h48,rfl,hS⟩;refine BdZ.sp Zi9 hS k7 ?_;rintro h50 hS;refine Vc (Zcv (Zj fh rfl))<|WO.nil<|ZB.Yc<|WC.Uc (Zj fh rfl) (fun hc=>?_) (fun hc=>?_)
      ·replace hL:=Xp hc hL;refine WC.seq<|WC.region<|Vc (ZW (J2 rfl))<|WO.nil<|ZB.Yc<|WC.ret<|ZB.ret ?_;have hr:=Oi0 hL;subst hr;exact Z0.WV rfl (ZG (Zj fh rfl) Zk) rfl ⟨_,⟨rfl,rfl⟩,hT▸hS.only (.c k1 (.c k1 (.c k1 (.c k1 (.c k1 (.c k1 (.c k0 .n)))))))⟩
      ·replace hL:=Xq hc hL;refine WC.skip<|ZB.Yc<|WC.seq<|WC.seq<|WC.region<|Vc (ZO (Zj (YC rfl (Z8 rfl (Zg rfl fh))) Yb)) ?_;obtain⟨x51,Zvp,hL⟩:=bS hL;refine WO.Zc5 gN rfl (Zj fh Yb) hS (hS.get k7) Zvp ?_;rintro h54 a52 c53 hS;refine Vc (Zaf KE (Zj fh rfl) rfl)<|Vc (ZO (J2 rfl))<|WO.nil<|ZB.Yc<|WC.block<|WC.loop (WL.lift hL (fun v60 s=>∃ZvC h55,s=⟨ZvC,[],h55,none⟩/\Sp wm T h [bx wm b35 [.func (.func 101) #[] #[(V9 b33),(V9 b35)]],bx wm b33 [.func (.yield l24) #[] #[]],bx wm b1 [V8 v13],bx wm b4 [K8 Jq p0],bx wm b21 [K8 Jq p0],ow wm Z4 a52 x51.length c53 x51,Yi wm Z4 Jq p0,ob wm l24 ZqU] h55/\ZvC.at 2=(V9 b35)/\ZvC.at 12=.slice a52 x51.length c53/\ZvC.at 13= V8 (x51.length:Int)/\ZvC.at 14= V8 v60) ⟨_,_,rfl,hS.only (.c k6 (.c k5 (.c k2 (.c k2 (.c k2 (.c k0 (.c k1 (.c k0 .n)))))))),(YJ rfl (Zg rfl fh)),(Z8 rfl fh),(Zg rfl fh),fh⟩ ?_);rintro Zxw v60 s ZCB hL ⟨ZvC,h55,rfl,hS,e57,e58,e59,e61⟩;refine WC.seq<|WC.region<|Vc (Y5 (Zj e61 rfl) (Zj e59 rfl) ZaR)<|WO.nil<|ZB.Yc<|WC.seq<|WC.Uc (Zj fh rfl) (fun hc=>?_) (fun hc=>?_)
       ·replace hL:=Xp hc hL;refine WC.skip<|ZB.Yc<|WC.seq<|WC.block<|WC.seq<|WC.region ?_;obtain⟨x63,ZKK,hL⟩:=bS hL;obtain⟨b64,o65,q66,ZLR,ZMx,ZMa⟩:=Src.at_ (hS.U8 k5) ZKK;refine Vc (Yf KE Kk (Zj (Zg rfl e58) rfl) (Zj (Zg rfl e61) rfl) rfl ZLR ZKK) ?_;have hS:=hS.add (A:=Yi wm Z4 q66 x63) ZMa (fun _ z=>z);refine Vc (Yt Zen (Zj fh rfl) ZMx (j:=0) rfl (v:=K8 q66 x63) rfl)<|Vc (ZW (Zj fh Yb))<|WO.nil<|ZB.Yc<|WC.seq<|WC.region<|Vc (Yt Zem (Zj (YC rfl e57) rfl) (hS.Jp k1) (j:=0) rfl (v:=.func (.func 101) #[] #[(V9 b33),(V9 b35)]) rfl)<|Vc (ZO (Zj (Zg rfl fh) Yb)) ?_;obtain⟨y67,Zvm,hL⟩:=bS hL;rcases y67 with v72|e68
        ·skip;replace hL:=Yw hL;refine Vd (Yo.clo (first:=[]) (cap:=[(V9 b33),(V9 b35)]) (Zj (Zg rfl fh) rfl) Zan (Zb (Zj fh Yb) Zd) rfl) hS (.c k0 (.c k2 (.c k2 (.c k2 (.c k1 (.c k0 (.c k1 (.c k1 .n)))))))) (fun g' hz hf hO=>PQ.ok (ZtK _ _ Zvm q66 (hS.Vg hz) hO)) ?_;rintro _ h73 _ ⟨rfl,rfl⟩ hS;refine Vc (Zcv (Zj fh rfl))<|WO.nil<|ZB.Yc<|WC.Uc (Zj fh rfl) (fun hc=>?_) (fun hc=>?_)
         ·replace hL:=Xp hc hL;refine WC.seq<|WC.region<|Vc (ZW (J2 rfl))<|WO.nil<|ZB.Yc<|WC.ret<|Yy.ret<|ZB.ret<|Ya.ret<|Yy.ret<|ZB.ret ?_;have hr:=Oi0 hL;subst hr;exact Z0.WV rfl (ZG (Zj fh rfl) Zk) rfl ⟨_,⟨rfl,rfl⟩,hT▸hS.only (.c k0 (.c k0 (.c k0 (.c k0 (.c k0 (.c k0 (.c k0 .n)))))))⟩
         ·replace hL:=Xq hc hL;exact WC.skip<|Yy.Yc<|ZB.Yc<|WC.region<|Vc (Y5 (Zj (YJ rfl e61) rfl) (J2 rfl) UB)<|Vc (ZO (Zj fh rfl))<|WO.nil<|Ya.Yc (ZCB _ _ hL ⟨_,_,rfl,hS.only (.c k4 (.c k3 (.c k0 (.c k0 (.c k0 (.c k2 (.c k0 (.c k0 .n)))))))),(YJ rfl (Z8 rfl e57)),(YJ rfl (Z8 rfl e58)),(YJ rfl (Z8 rfl e59)),fh⟩)
        ·skip;replace hL:=Z7 hL;refine WO.Kg gN (Yo.clo (first:=[]) (cap:=[(V9 b33),(V9 b35)]) (Zj (Zg rfl fh) rfl) Zan (Zb (Zj fh Yb) Zd) rfl) hS (.c k0 (.c k2 (.c k2 (.c k2 (.c k1 (.c k0 (.c k1 (.c k1 .n)))))))) (fun g' hz hf hO=>ZtK _ _ Zvm q66 (hS.Vg hz) hO) ?_;rintro h74 hS;refine ZB.panic<|Yy.panic<|ZB.panic<|Ya.panic<|Yy.panic<|ZB.panic<|Z0.KU ?_;have hr:=Oi0 hL;subst hr;exact Y7.Z9 ⟨rfl,hT▸hS.only .n⟩
       ·replace hL:=Xq hc hL;refine WC.exit<|ZB.exit<|Ya.exit<|Yy.here<|ZB.Yc<|WC.seq<|WC.region<|Vc (ZW (J2 rfl))<|WO.nil<|ZB.Yc<|WC.ret ?_;have hr:=Oi0 hL;subst hr;exact Z0.WV rfl (ZG (Zj fh rfl) Zk) rfl ⟨_,⟨rfl,rfl⟩,hT▸hS.only (.c k2 (.c k2 (.c k2 (.c k1 (.c k0 (.c k1 (.c k1 .n)))))))⟩
     ·skip;refine WC.block<|WC.seq<|WC.region<|Vc (ZO (Zj fh Yb)) ?_;rcases v40 with v75|v76|v77
      ·replace hL:=Ziw hL;obtain⟨⟨⟨a78,c79⟩,⟨a80,c81⟩,⟨a82,c83⟩⟩,⟨a84,c85⟩⟩:=q41;have hS:=hS.add (A:=Yi wm (YB Zh) (a78,c79) v75.args) (ZeH (hS.get k1)).1 (fun _ z=>z);have hS:=hS.add (A:=Yi wm (YB Zc) (a80,c81) v75.defs) (ZeH (hS.get k2)).2.1 (fun _ z=>z);have hS:=hS.add (A:=Yi wm (YB Zm) (a82,c83) v75.kids) (ZeH (hS.get k3)).2.2 (fun _ z=>z);refine Vc (Zkk Tryz.underlying78 rfl (Zj fh rfl))<|Vc (ZO (Zj fh rfl))<|Vc (Xg (Zj fh rfl) (v:=.agg #[V8 v75.op,.string v75.text,.slice a78 v75.args.length c79,.slice a80 v75.defs.length c81,.slice a82 v75.kids.length c83]) rfl)<|Vc (Xg (Zj (Zg rfl fh) rfl) (v:=.bool true) rfl)<|Ve (U3 hS ZaX (vs:=[V8 0,.string (⟨#[]⟩:Y),V7,V7,V7]) rfl) ?_;rintro _ h87 ⟨b86,ZQT,rfl,hS⟩;refine WO.hu gN (JO hS k0 Zmx (Zj fh rfl) (Zj (Z8 rfl fh) rfl) (vs:=[V8 v75.op,.string v75.text,.slice a78 v75.args.length c79,.slice a80 v75.defs.length c81,.slice a82 v75.kids.length c83]) rfl rfl rfl rfl (cs':=[V8 v75.op,.string v75.text,.slice a78 v75.args.length c79,.slice a80 v75.defs.length c81,.slice a82 v75.kids.length c83]) rfl) ?_;rintro h88 hS;refine Vc (ZW (Zj (Zg rfl fh) rfl))<|WO.nil<|ZB.Yc<|WC.seq<|WC.region<|Vc (ZO (Zj fh rfl))<|Vc (ZO (Zj fh rfl))<|WO.gv (Zn.yes rfl rfl rfl fh) rfl (fun hg=>(YI K9 (Zj (Z8 rfl (Zg rfl fh)) rfl)))<|WO.gv (Zn.yes rfl rfl rfl (Zg rfl fh)) rfl (fun hg=>(YI ZhB (WG fh rfl hg)))<|WO.gv (Zn.yes rfl rfl rfl (Z8 rfl fh)) rfl (fun hg=>(Yt Zup (WG fh rfl hg) (hS.Jp k0) (j:=0) rfl (v:= V8 v75.op) rfl))<|WO.gv (Zn.yes rfl rfl rfl (Z8 rfl (Zg rfl fh))) rfl (fun hg=>(Y5 (WG fh rfl hg) (J2 rfl) ZaS))<|Vc (ZnT (Zj (YC rfl fh) rfl) (ZzY fh) (J2 rfl))<|WO.nil<|ZB.Yc<|WC.Uc (Zj fh rfl) (fun hc=>?_) (fun hc=>?_)
       ·replace hL:=Xp hc hL;refine WC.region<|Vc (YI K9 (Zj (YJ rfl fh) rfl))<|Vc (YI Zc6 (Zj fh rfl))<|Vc (Yt Zme (Zj fh rfl) (hS.Jp k0) (j:=3) rfl (v:=.slice a80 v75.defs.length c81) rfl) ?_;obtain⟨x89,ZKE,hL⟩:=bS hL;rcases x89 with y90|e91
        ·skip;replace hL:=Yw hL;refine Vd (Yo.fn Zf8 (Zb (Zj fh rfl) Zd)) hS .n (fun g' hz hf hO=>(PQ.ok (Zde (hS.Vg hz) ((hS.Uo k2).mono hf) ZKE))) ?_;rintro _ h92 _ ⟨rfl,rfl⟩ hS;exact WO.nil<|Yy.Yc<|JnP.Yc _ hL ⟨_,_,rfl,hS.only (.c k6 (.c k6 (.c k6 (.c k6 (.c k6 (.c k6 (.c k5 (.c k4 .n))))))))⟩
        ·skip;replace hL:=Z7 hL;refine WO.Kg gN (Yo.fn Zf8 (Zb (Zj fh rfl) Zd)) hS .n (fun g' hz hf hO=>Zde (hS.Vg hz) ((hS.Uo k2).mono hf) ZKE) ?_;rintro h94 hS;refine Yy.panic<|JnP.pass (by intro e;cases e)<|BdZ.Z9 Zi9 hS k4<|ZB.panic<|ZB.panic<|Z0.KU ?_;have hr:=Oi0 hL;subst hr;exact Y7.Z9 ⟨rfl,hT▸hS.only .n⟩
       ·replace hL:=Xq hc hL;exact WC.skip<|Yy.Yc<|JnP.Yc _ hL ⟨_,_,rfl,hS.only (.c k6 (.c k6 (.c k6 (.c k6 (.c k6 (.c k6 (.c k5 (.c k4 .n))))))))⟩
      ·replace hL:=Zix hL;obtain⟨⟨⟨a95,c96⟩,⟨a97,c98⟩,⟨a99,ZIK⟩⟩,⟨ZD5,ZDO⟩⟩:=q41;have hS:=hS.add (A:=Yi wm (YB Zh) (ZD5,ZDO) v76.kids) (ZmI (hS.get k1)) (fun _ z=>z);refine Vc (Zkl Tryz.underlying78 rfl ZaX Kq0 (Zj fh rfl))<|Vc (ZO (Zj fh rfl))<|Vc (Xg (Zj fh rfl) (v:=.agg #[V8 0,.string (⟨#[]⟩:Y),V7,V7,V7]) rfl)<|Vc (Xg (Zj (Zg rfl fh) rfl) (v:=.bool false) rfl)<|Ve (U3 hS ZaX (vs:=[V8 0,.string (⟨#[]⟩:Y),V7,V7,V7]) rfl) ?_;rintro _ ZVF ⟨ZXa,ZSO,rfl,hS⟩;refine WO.hu gN (JO hS k0 Zmx (Zj fh rfl) (Zj (Z8 rfl fh) rfl) (vs:=[V8 0,.string (⟨#[]⟩:Y),V7,V7,V7]) rfl rfl rfl rfl (cs':=[V8 0,.string (⟨#[]⟩:Y),V7,V7,V7]) rfl) ?_;rintro ZVE hS;refine Vc (ZW (Zj (Zg rfl fh) rfl))<|WO.nil<|ZB.Yc<|WC.seq<|WC.region<|Vc (ZO (Zj fh rfl))<|Vc (ZO (Zj fh rfl))<|WO.gv (Zn.yes rfl rfl rfl fh) rfl (fun hg=>(YI K9 (Zj (Z8 rfl (Zg rfl fh)) rfl)))<|WO.gv (Zn.yes rfl rfl rfl (Zg rfl fh)) rfl (fun hg=>(YI ZhB (WG fh rfl hg)))<|WO.gv (Zn.yes rfl rfl rfl (Z8 rfl fh)) rfl (fun hg=>(Yt Zup (WG fh rfl hg) (hS.Jp k0) (j:=0) rfl (v:= V8 0) rfl))<|WO.gv (Zn.yes rfl rfl rfl (Z8 rfl (Zg rfl fh))) rfl (fun hg=>(Y5 (WG fh rfl hg) (J2 rfl) ZaS))<|Vc (ZnT (Zj (YC rfl fh) rfl) (ZzY fh) (J2 rfl))<|WO.nil<|ZB.Yc<|WC.Uc (Zj fh rfl) (fun hc=>?_) (fun hc=>?_)
       ·replace hL:=Xp hc hL;refine WC.region<|Vc (YI K9 (Zj (YJ rfl fh) rfl))<|Vc (YI Zc6 (Zj fh rfl))<|Vc (Yt Zme (Zj fh rfl) (hS.Jp k0) (j:=3) rfl (v:= V7) rfl) ?_;obtain⟨ZF5,ZE5,hL⟩:=bS hL;rcases ZF5 with ZOF|e108
        ·skip;replace hL:=Yw hL;refine Vd (Yo.fn Zf8 (Zb (Zj fh rfl) Zd)) hS .n (fun g' hz hf hO=>(PQ.ok (Zde (hS.Vg hz) Sl.nil ZE5))) ?_;rintro _ ZVD _ ⟨rfl,rfl⟩ hS;exact WO.nil<|Yy.Yc<|JnP.Yc _ hL ⟨_,_,rfl,hS.only (.c k4 (.c k4 (.c k4 (.c k4 (.c k4 (.c k4 (.c k3 (.c k2 .n))))))))⟩
        ·skip;replace hL:=Z7 hL;refine WO.Kg gN (Yo.fn Zf8 (Zb (Zj fh rfl) Zd)) hS .n (fun g' hz hf hO=>Zde (hS.Vg hz) Sl.nil ZE5) ?_;rintro ZQK hS;refine Yy.panic<|JnP.pass (by intro e;cases e)<|BdZ.Z9 Zi9 hS k2<|ZB.panic<|ZB.panic<|Z0.KU ?_;have hr:=Oi0 hL;subst hr;exact Y7.Z9 ⟨rfl,hT▸hS.only .n⟩
       ·replace hL:=Xq hc hL;exact WC.skip<|Yy.Yc<|JnP.Yc _ hL ⟨_,_,rfl,hS.only (.c k4 (.c k4 (.c k4 (.c k4 (.c k4 (.c k4 (.c k3 (.c k2 .n))))))))⟩
      ·replace hL:=Ziy hL;obtain⟨⟨⟨ZAY,ZAl⟩,⟨ZAX,ZAk⟩,⟨a116,c117⟩⟩,⟨ZXd,c119⟩⟩:=q41;have hS:=hS.add (A:=Yi wm (YB Yj) (ZAY,ZAl) v77.joins) (ZeI (hS.get k1)).1 (fun _ z=>z);have hS:=hS.add (A:=Yi wm (YB Zc) (ZAX,ZAk) v77.defs) (ZeI (hS.get k2)).2.1 (fun _ z=>z);have hS:=hS.add (A:=Yi wm (YB Zm) (a116,c117) v77.kids) (ZeI (hS.get k3)).2.2 (fun _ z=>z);refine Vc (Zkl Tryz.underlying78 rfl ZaX Kq0 (Zj fh rfl))<|Vc (ZO (Zj fh rfl))<|Vc (Xg (Zj fh rfl) (v:=.agg #[V8 0,.string (⟨#[]⟩:Y),V7,V7,V7]) rfl)<|Vc (Xg (Zj (Zg rfl fh) rfl) (v:=.bool false) rfl)<|Ve (U3 hS ZaX (vs:=[V8 0,.string (⟨#[]⟩:Y),V7,V7,V7]) rfl) ?_;rintro _ ZVy ⟨ZW6,ZSK,rfl,hS⟩;refine WO.hu gN (JO hS k0 Zmx (Zj fh rfl) (Zj (Z8 rfl fh) rfl) (vs:=[V8 0,.string (⟨#[]⟩:Y),V7,V7,V7]) rfl rfl rfl rfl (cs':=[V8 0,.string (⟨#[]⟩:Y),V7,V7,V7]) rfl) ?_;rintro h122 hS;refine Vc (ZW (Zj (Zg rfl fh) rfl))<|WO.nil<|ZB.Yc<|WC.seq<|WC.region<|Vc (ZO (Zj fh rfl))<|Vc (ZO (Zj fh rfl))<|WO.gv (Zn.yes rfl rfl rfl fh) rfl (fun hg=>(YI K9 (Zj (Z8 rfl (Zg rfl fh)) rfl)))<|WO.gv (Zn.yes rfl rfl rfl (Zg rfl fh)) rfl (fun hg=>(YI ZhB (WG fh rfl hg)))<|WO.gv (Zn.yes rfl rfl rfl (Z8 rfl fh)) rfl (fun hg=>(Yt Zup (WG fh rfl hg) (hS.Jp k0) (j:=0) rfl (v:= V8 0) rfl))<|WO.gv (Zn.yes rfl rfl rfl (Z8 rfl (Zg rfl fh))) rfl (fun hg=>(Y5 (WG fh rfl hg) (J2 rfl) ZaS))<|Vc (ZnT (Zj (YC rfl fh) rfl) (ZzY fh) (J2 rfl))<|WO.nil<|ZB.Yc<|WC.Uc (Zj fh rfl) (fun hc=>?_) (fun hc=>?_)
       ·replace hL:=Xp hc hL;refine WC.region<|Vc (YI K9 (Zj (YJ rfl fh) rfl))<|Vc (YI Zc6 (Zj fh rfl))<|Vc (Yt Zme (Zj fh rfl) (hS.Jp k0) (j:=3) rfl (v:= V7) rfl) ?_;obtain⟨Zww,ZE3,hL⟩:=bS hL;rcases Zww with ZOE|e125
        ·skip;replace hL:=Yw hL;refine Vd (Yo.fn Zf8 (Zb (Zj fh rfl) Zd)) hS .n (fun g' hz hf hO=>(PQ.ok (Zde (hS.Vg hz) Sl.nil ZE3))) ?_;rintro _ ZVv _ ⟨rfl,rfl⟩ hS;exact WO.nil<|Yy.Yc<|JnP.Yc _ hL ⟨_,_,rfl,hS.only (.c k6 (.c k6 (.c k6 (.c k6 (.c k6 (.c k6 (.c k5 (.c k4 .n))))))))⟩
        ·skip;replace hL:=Z7 hL;refine WO.Kg gN (Yo.fn Zf8 (Zb (Zj fh rfl) Zd)) hS .n (fun g' hz hf hO=>Zde (hS.Vg hz) Sl.nil ZE3) ?_;rintro h128 hS;refine Yy.panic<|JnP.pass (by intro e;cases e)<|BdZ.Z9 Zi9 hS k4<|ZB.panic<|ZB.panic<|Z0.KU ?_;have hr:=Oi0 hL;subst hr;exact Y7.Z9 ⟨rfl,hT▸hS.only .n⟩
       ·replace hL:=Xq hc hL;exact WC.skip<|Yy.Yc<|JnP.Yc _ hL ⟨_,_,rfl,hS.only (.c k6 (.c k6 (.c k6 (.c k6 (.c k6 (.c k6 (.c k5 (.c k4 .n))))))))⟩
    have hS:=hS.add (A:=Yi wm Z4 Jq p0) (hS.get k0) (fun _ z=>z);obtain⟨ZF0,ZE2,hL⟩:=bS hL;rcases ZF0 with ZOV|ZNb
    ·skip;replace hL:=Yw hL;refine Vd (Yo.clo (first:=[]) (cap:=[(V9 b33),(V9 b35)]) (Zj (Zg rfl fh) rfl) Zan (Zb (Zj fh Yb) Zd) rfl) hS (.c k1 (.c k6 (.c k6 (.c k5 (.c k2 (.c k1 (.c k0 (.c k0 .n)))))))) (fun g' hz hf hO=>PQ.ok (Zyj _ _ _ ZE2 Jq (hS.Vg hz) hO)) ?_;rintro _ ZVu _ ⟨rfl,rfl⟩ hS;exact WO.nil<|Z0.Yc<|Z0.Zvz rfl Zk rfl ⟨_,hL,⟨rfl,hS.only (.c k0 (.c k0 (.c k0 (.c k3 (.c k3 (.c k3 .n))))))⟩⟩
    ·skip;replace hL:=Z7 hL;refine WO.Kg gN (Yo.clo (first:=[]) (cap:=[(V9 b33),(V9 b35)]) (Zj (Zg rfl fh) rfl) Zan (Zb (Zj fh Yb) Zd) rfl) hS (.c k1 (.c k6 (.c k6 (.c k5 (.c k2 (.c k1 (.c k0 (.c k0 .n)))))))) (fun g' hz hf hO=>Zyj _ _ _ ZE2 Jq (hS.Vg hz) hO) ?_;rintro ZVt hS;refine Z0.KU<|Y7.ZGA<|Yy.panic<|Z0.KU<|Y7.Zhi hS k0 ?_;rintro ZVs hS;refine Y7.Zhi hS k0 ?_;rintro ZVr hS;refine Y7.Z9 ?_;have hr:=Oi0 hL;subst hr;exact⟨rfl,hT▸hS.only .n⟩
  ·skip;replace hL:=Z7 hL;obtain rfl:=XG hx16;refine WO.Kg gN (Yo.fn YZ (Zb (Zj fh rfl) Zd)) hS .n (fun g' hz hf hO=>YF (hS.Vg hz) hx16) ?_;rintro ZCZ hS;refine ZB.panic<|Z0.KU<|Y7.Zhi hS k2 ?_;rintro ZVq hS;refine Y7.Z9 ?_;have hr:=Oi0 hL;subst hr;exact⟨rfl,hT▸hS.only .n⟩
 ·skip;simp only[Zq,Zx,Nat.reduceAdd];refine WC.seq<|WC.region<|Ve (ZgR hS (Zj (Zg rfl fh) rfl) (vs:=[.func (.yield l7) #[] #[]]) rfl) ?_;rintro _ ZVp ⟨Zau,ZSI,rfl,hS⟩;refine WO.nil<|ZB.Yc<|WC.seq<|WC.region<|Ve (U3 hS Zmk (vs:=[.nilFunc]) rfl) ?_;rintro _ ZVo ⟨KY,ZSH,rfl,hS⟩;refine WO.nil<|ZB.Yc<|WC.seq<|WC.region<|Vc (WZ (Zb (Zj (Zg rfl fh) rfl) (Zb (Zj fh rfl) Zd)))<|WO.hu gN (JO hS k0 Zmz (Zj (Zg rfl fh) rfl) (Zj fh rfl) (vs:=[.func (.func 101) #[] #[(V9 Zau),(V9 KY)]]) rfl rfl rfl rfl (cs':=[.func (.func 101) #[] #[(V9 Zau),(V9 KY)]]) rfl) ?_;rintro ZVn hS;refine WO.nil<|ZB.Yc<|WC.region<|Vc (Yt Zem (Zj (Zg rfl fh) rfl) (hS.Jp k0) (j:=0) rfl (v:=.func (.func 101) #[] #[(V9 Zau),(V9 KY)]) rfl)<|Vc (Yt Zen (Zj (YC rfl fh) rfl) (hS.Jp k4) (j:=0) rfl (v:=K8 Jq p0) rfl) ?_;have hS:=hS.add (A:=Yi wm Z4 Jq p0) (Z4.mono hS.fz ZeS) (fun _ z=>z)
  have ZtI:∀(Fr:Nat)(x:Part×Int)(r:(PR (Z×Int))),loop Fr (Zck F) x=some r->match x with | (v148,ZfS)=>∀{h:H}(ZoD:PtP),wm<=h.size->Yp (wm:=wm) [Yi wm Z4 ZoD v148,bx wm b1 [V8 ZfS],bx wm b4 [K8 Jq p0],bx wm Zau [.func (.yield l7) #[] #[]],bx wm KY [.func (.func 101) #[] #[(V9 Zau),(V9 KY)]],Yi wm Z4 Jq p0,ob wm l7 LO9] h->WF XX 101 #[K8 ZoD v148,(V9 Zau),(V9 KY)] wm h (PQ 147 (fun(r:Z×Int) v (Gb:U (Ast wm))=>match r with | (ZwD,ZOU)=>v=.bool ZwD/\Gb=[bx wm b1 [V8 ZOU],bx wm b4 [K8 Jq p0],bx wm Zau [.func (.yield l7) #[] #[]],bx wm KY [.func (.func 101) #[] #[(V9 Zau),(V9 KY)]],Yi wm Z4 Jq p0,ob wm l7 LO9]) [Yi wm Z4 ZoD v148,bx wm b1 [V8 ZfS],bx wm b4 [K8 Jq p0],bx wm Zau [.func (.yield l7) #[] #[]],bx wm KY [.func (.func 101) #[] #[(V9 Zau),(V9 KY)]],Yi wm Z4 Jq p0,ob wm l7 LO9] h r):=by
   refine XU _ ?_;rintro Zhx Zpi ⟨v148,ZfS⟩ r hL h ZoD Zy hO;obtain⟨T,hT,hS⟩:∃T,T=QF (wm:=wm) [Yi wm Z4 ZoD v148,bx wm b1 [V8 ZfS],bx wm b4 [K8 Jq p0],bx wm Zau [.func (.yield l7) #[] #[]],bx wm KY [.func (.func 101) #[] #[(V9 Zau),(V9 KY)]],Yi wm Z4 Jq p0,ob wm l7 LO9]/\Sp wm T h [Yi wm Z4 ZoD v148,bx wm b1 [V8 ZfS],bx wm b4 [K8 Jq p0],bx wm Zau [.func (.yield l7) #[] #[]],bx wm KY [.func (.func 101) #[] #[(V9 Zau),(V9 KY)]],Yi wm Z4 Jq p0,ob wm l7 LO9] h:=⟨_,rfl,Sp.start Zy hO⟩
   refine WF.QC (args:=[_,_,_]) (fn:=Tryz.f101) Kq0 (by exact rfl) Tryz.ntmps101 (by simp) ?_;simp only[Zq,Zx,Nat.reduceAdd];refine WC.seq<|WC.region<|Vc (ZW (J2 rfl))<|WO.nil<|ZB.Yc<|WC.seq<|WC.seq<|WC.region<|Vc (Yt Zem (Zj (Z8 rfl fh) rfl) (hS.Jp k3) (j:=0) rfl (v:=.func (.yield l7) #[] #[]) rfl)<|Vc (ZO (Zj (YC rfl fh) Yb))<|WO.ZFV gN rfl (Zj (Zg rfl fh) rfl) (Zb (Zj fh Yb) Zd) hS k6 ZlM rfl rfl<|WC.region<|Vc (ZW (Zj fh Yb))<|WO.nil<|AsZ.sp ZlM hS k6 ?_;rintro ZVj hS;refine WC.block<|WC.seq<|WC.region<|Vc (Yt ZI3 (Zj (YC rfl fh) rfl) (hS.Jp k2) (j:=0) rfl (v:= V8 ZfS) rfl)<|Vc (Y5 (Zj fh rfl) (J2 rfl) UB)<|WO.hu gN (JO hS k2 ZwW (Zj (YC rfl (Z8 rfl fh)) rfl) (Zj fh rfl) (vs:=[V8 (YX (ZfS+1))]) rfl rfl rfl rfl (cs':=[V8 (YX (ZfS+1))]) rfl) ?_;rintro ZVi hS;refine WO.nil<|ZB.Yc<|WC.seq<|WC.region<|Vc (Yt ZI3 (Zj (YC rfl (Z8 rfl fh)) rfl) (hS.Jp k0) (j:=0) rfl (v:= V8 (YX (ZfS+1))) rfl)<|Vc (Y5 (Zj fh rfl) (J2 rfl) Zks) ?_;obtain⟨x159,hx159,hL⟩:=bS hL;rcases x159 with y160|ZQ9
   ·skip;replace hL:=Yw hL;refine Vd (Yo.fn YZ (Zb (Zj fh rfl) Zd)) hS .n (fun g' hz hf hO=>(PQ.ok (YF (hS.Vg hz) hx159))) ?_;rintro _ ZVf _ ⟨rfl,rfl⟩ hS;refine WO.nil<|ZB.Yc<|WC.region<|Vc (ZO (Zj (YC rfl (Zg rfl fh)) Yb)) ?_;obtain⟨ZF4,ZE0,hL⟩:=bS hL;rcases ZF4 with ZOD|e166
    ·skip;replace hL:=Yw hL;refine Vd (Yo.fn ZyM (Zb (Zj fh Yb) Zd)) hS .n (fun g' hz hf hO=>(PQ.ok (Zt9 (Jq:=ZoD) (hS.Vg hz) (Z4.mono hf (hS.get k2)) ZE0))) ?_;rintro _ ZVe _ ⟨rfl,rfl⟩ hS;refine WO.nil<|Yy.Yc<|BdZ.sp ZlM hS k1 ?_;rintro ZVd hS;refine Vc (Zcv (Zj fh rfl))<|WO.nil<|ZB.Yc<|WC.Uc (Zj fh rfl) (fun hc=>?_) (fun hc=>?_)
     ·replace hL:=Xp hc hL;refine WC.seq<|WC.region<|Vc (ZW (J2 rfl))<|WO.nil<|ZB.Yc<|WC.ret<|ZB.ret ?_;have hr:=Oi0 hL;subst hr;exact Z0.WV rfl (ZG (Zj fh rfl) Zk) rfl ⟨_,⟨rfl,rfl⟩,hT▸hS.only (.c k1 (.c k2 (.c k2 (.c k2 (.c k2 (.c k0 .n))))))⟩
     ·replace hL:=Xq hc hL;refine WC.skip<|ZB.Yc<|WC.seq<|WC.seq<|WC.region<|Vc (ZO (Zj (YC rfl (Z8 rfl (Zg rfl fh))) Yb)) ?_;obtain⟨Zmm,ZKT,hL⟩:=bS hL;refine WO.Zc5 gN rfl (Zj fh Yb) hS (hS.get k2) ZKT ?_;rintro ZVc a171 ZNt hS;refine Vc (Zaf KE (Zj fh rfl) rfl)<|Vc (ZO (J2 rfl))<|WO.nil<|ZB.Yc<|WC.block<|WC.loop (WL.lift hL (fun p s=>match p with | (ZfR,ZwC)=>∃ZlP ZHU,s=⟨ZlP,[],ZHU,none⟩/\Sp wm T h [bx wm KY [.func (.func 101) #[] #[(V9 Zau),(V9 KY)]],bx wm Zau [.func (.yield l7) #[] #[]],bx wm b1 [V8 ZwC],bx wm b4 [K8 Jq p0],ow wm Z4 a171 Zmm.length ZNt Zmm,Yi wm Z4 Jq p0,ob wm l7 LO9] ZHU/\ZlP.at 2=(V9 KY)/\ZlP.at 12=.slice a171 Zmm.length ZNt/\ZlP.at 13= V8 (Zmm.length:Int)/\ZlP.at 14= V8 ZfR) ⟨_,_,rfl,hS.only (.c k6 (.c k5 (.c k2 (.c k3 (.c k0 (.c k2 (.c k0 .n))))))),(YJ rfl (Zg rfl fh)),(Z8 rfl fh),(Zg rfl fh),fh⟩ ?_);rintro ZtA ⟨ZfR,ZwC⟩ s Zyo hL ⟨ZlP,ZHU,rfl,hS,ZIx,ZNa,ZIw,ZIv⟩;refine WC.seq<|WC.region<|Vc (Y5 (Zj ZIv rfl) (Zj ZIw rfl) ZaR)<|WO.nil<|ZB.Yc<|WC.seq<|WC.Uc (Zj fh rfl) (fun hc=>?_) (fun hc=>?_)
      ·replace hL:=Xp hc hL;refine WC.skip<|ZB.Yc<|WC.seq<|WC.block<|WC.seq<|WC.region ?_;obtain⟨ZBF,ZEY,hL⟩:=bS hL;obtain⟨ZW0,ZTW,ZB1,ZHw,ZHM,ZHF⟩:=Src.at_ (hS.U8 k4) ZEY;refine Vc (Yf KE Kk (Zj (Zg rfl ZNa) rfl) (Zj (Zg rfl ZIv) rfl) rfl ZHw ZEY) ?_;have hS:=hS.add (A:=Yi wm Z4 ZB1 ZBF) ZHF (fun _ z=>z);refine Vc (Yt Zen (Zj fh rfl) ZHM (j:=0) rfl (v:=K8 ZB1 ZBF) rfl)<|Vc (ZW (Zj fh Yb))<|WO.nil<|ZB.Yc<|WC.seq<|WC.region<|Vc (Yt Zem (Zj (YC rfl ZIx) rfl) (hS.Jp k1) (j:=0) rfl (v:=.func (.func 101) #[] #[(V9 Zau),(V9 KY)]) rfl)<|Vc (ZO (Zj (Zg rfl fh) Yb)) ?_;obtain⟨ZFZ,ZEX,hL⟩:=bS hL;rcases ZFZ with⟨Zoj,v193⟩|ZIu
       ·skip;replace hL:=Yw hL;dsimp only at hL;refine Vd (Yo.clo (first:=[]) (cap:=[(V9 Zau),(V9 KY)]) (Zj (Zg rfl fh) rfl) Zan (Zb (Zj fh Yb) Zd) rfl) hS (.c k0 (.c k2 (.c k2 (.c k1 (.c k0 (.c k1 (.c k1 .n))))))) (fun g' hz hf hO=>PQ.ok (Zpi _ _ ZEX ZB1 (hS.Vg hz) hO)) ?_;rintro _ ZU9 _ ⟨rfl,rfl⟩ hS;refine Vc (Zcv (Zj fh rfl))<|WO.nil<|ZB.Yc<|WC.Uc (Zj fh rfl) (fun hc=>?_) (fun hc=>?_)
        ·replace hL:=Xp hc hL;refine WC.seq<|WC.region<|Vc (ZW (J2 rfl))<|WO.nil<|ZB.Yc<|WC.ret<|Yy.ret<|ZB.ret<|Ya.ret<|Yy.ret<|ZB.ret ?_;have hr:=Oi0 hL;subst hr;exact Z0.WV rfl (ZG (Zj fh rfl) Zk) rfl ⟨_,⟨rfl,rfl⟩,hT▸hS.only (.c k0 (.c k0 (.c k0 (.c k0 (.c k0 (.c k0 .n))))))⟩
        ·replace hL:=Xq hc hL;exact WC.skip<|Yy.Yc<|ZB.Yc<|WC.region<|Vc (Y5 (Zj (YJ rfl ZIv) rfl) (J2 rfl) UB)<|Vc (ZO (Zj fh rfl))<|WO.nil<|Ya.Yc (Zyo _ _ hL ⟨_,_,rfl,hS.only (.c k3 (.c k2 (.c k0 (.c k0 (.c k2 (.c k0 (.c k0 .n))))))),(YJ rfl (Z8 rfl ZIx)),(YJ rfl (Z8 rfl ZNa)),(YJ rfl (Z8 rfl ZIw)),fh⟩)
       ·skip;replace hL:=Z7 hL;refine WO.Kg gN (Yo.clo (first:=[]) (cap:=[(V9 Zau),(V9 KY)]) (Zj (Zg rfl fh) rfl) Zan (Zb (Zj fh Yb) Zd) rfl) hS (.c k0 (.c k2 (.c k2 (.c k1 (.c k0 (.c k1 (.c k1 .n))))))) (fun g' hz hf hO=>Zpi _ _ ZEX ZB1 (hS.Vg hz) hO) ?_;rintro ZU8 hS;refine ZB.panic<|Yy.panic<|ZB.panic<|Ya.panic<|Yy.panic<|ZB.panic<|Z0.KU ?_;have hr:=Oi0 hL;subst hr;exact Y7.Z9 ⟨rfl,hT▸hS.only .n⟩
      ·replace hL:=Xq hc hL;refine WC.exit<|ZB.exit<|Ya.exit<|Yy.here<|ZB.Yc<|WC.seq<|WC.region<|Vc (ZW (J2 rfl))<|WO.nil<|ZB.Yc<|WC.ret ?_;have hr:=Oi0 hL;subst hr;exact Z0.WV rfl (ZG (Zj fh rfl) Zk) rfl ⟨_,⟨rfl,rfl⟩,hT▸hS.only (.c k2 (.c k2 (.c k1 (.c k0 (.c k1 (.c k1 .n))))))⟩
    ·skip;replace hL:=Z7 hL;refine WO.Kg gN (Yo.fn ZyM (Zb (Zj fh Yb) Zd)) hS .n (fun g' hz hf hO=>Zt9 (Jq:=ZoD) (hS.Vg hz) (Z4.mono hf (hS.get k2)) ZE0) ?_;rintro ZU7 hS;refine Yy.panic<|BdZ.Z9 ZlM hS k1<|ZB.panic<|ZB.panic<|Z0.KU ?_;have hr:=Oi0 hL;subst hr;exact Y7.Z9 ⟨rfl,hT▸hS.only .n⟩
   ·skip;replace hL:=Z7 hL;obtain rfl:=XG hx159;refine WO.Kg gN (Yo.fn YZ (Zb (Zj fh rfl) Zd)) hS .n (fun g' hz hf hO=>YF (hS.Vg hz) hx159) ?_;rintro ZU6 hS;refine ZB.panic<|Yy.panic<|BdZ.Z9 ZlM hS k1<|ZB.panic<|ZB.panic<|Z0.KU ?_;have hr:=Oi0 hL;subst hr;exact Y7.Z9 ⟨rfl,hT▸hS.only .n⟩
  have hS:=hS.add (A:=Yi wm Z4 Jq p0) (hS.get k0) (fun _ z=>z);obtain⟨ZFY,ZEV,hL⟩:=bS hL;rcases ZFY with⟨v203,Zmo⟩|e199
  ·skip;replace hL:=Yw hL;dsimp only at hL;refine Vd (Yo.clo (first:=[]) (cap:=[(V9 Zau),(V9 KY)]) (Zj (Zg rfl fh) rfl) Zan (Zb (Zj fh Yb) Zd) rfl) hS (.c k1 (.c k6 (.c k5 (.c k2 (.c k1 (.c k0 (.c k0 .n))))))) (fun g' hz hf hO=>PQ.ok (ZtI _ _ _ ZEV Jq (hS.Vg hz) hO)) ?_;rintro _ ZU3 _ ⟨rfl,rfl⟩ hS;exact WO.nil<|Z0.Yc<|Z0.Zvz rfl Zk rfl ⟨_,hL,⟨rfl,hS.only (.c k0 (.c k0 (.c k3 (.c k3 .n))))⟩⟩
  ·skip;replace hL:=Z7 hL;refine WO.Kg gN (Yo.clo (first:=[]) (cap:=[(V9 Zau),(V9 KY)]) (Zj (Zg rfl fh) rfl) Zan (Zb (Zj fh Yb) Zd) rfl) hS (.c k1 (.c k6 (.c k5 (.c k2 (.c k1 (.c k0 (.c k0 .n))))))) (fun g' hz hf hO=>ZtI _ _ _ ZEV Jq (hS.Vg hz) hO) ?_;rintro ZQH hS;refine Z0.KU<|Y7.ZGA<|Yy.panic<|ZB.panic<|Z0.KU<|Y7.Zhi hS k0 ?_;rintro ZU2 hS;refine Y7.Z9 ?_;have hr:=Oi0 hL;subst hr;exact⟨rfl,hT▸hS.only .n⟩
end
section
def ZjJ(F:Nat)(p0:Term):O Int:=
 (ZzB F (Part.pr p0)).bind fun x5=>JS x5 (fun e7=>some e7) (fun y6=>some 0)
end
section
def ZIj{F wm h}{p0:Term}{Zf Ze ZA Zz Zw Zv}{r}(Zy:wm<=h.size)(Zt:Sl Zh wm h Zf Ze p0.args)(ZV:Sl Zc wm h ZA Zz p0.defs)(ZU:Sl Zm wm h Zw Zv p0.kids)(hL:ZjJ F p0=some r):
 WR XX 23 #[.agg #[V8 p0.op,.string p0.text,.slice Zf p0.args.length Ze,.slice ZA p0.defs.length Zz,.slice Zw p0.kids.length Zv]] wm h (CP (fun v (Gb:U (Ast wm))=>v= V8 r/\Gb=[]) [] h):=by
 refine WF.QC (args:=[_]) (fn:=Tryz.f23) Kq0 (by exact rfl) Tryz.ntmps23 (by simp) ?_;simp only[Zq,Zx,Nat.reduceAdd];obtain⟨T,hT,hS⟩:∃T,T=QF (wm:=wm) []/\Sp wm T h [] h:=⟨_,rfl,Sp.start Zy Yp.nil⟩
 unfold ZjJ at hL;refine r3 ?_;rintro _ h2 ⟨b1,eb1,rfl,hS⟩;refine r1 ?_;rintro _ h4 ⟨b3,eb3,rfl,hS⟩;refine r4 ?_;refine WO.ZRd gN ZQQ (Zj fh rfl)<|r5 ?_;refine Vc (XL ZAn (ZF (Zj fh rfl) Z5) rfl (cs':=[V8 p0.op,.string p0.text,.slice Zf p0.args.length Ze,.slice ZA p0.defs.length Zz,.slice Zw p0.kids.length Zv]) rfl)<|Vc (Zej (Zj fh rfl) Kq0) ?_;obtain⟨x5,hx5,hL⟩:=bS hL;rcases x5 with y6|e7
 ·skip;replace hL:=Yw hL;refine Vd (Yo.fn ZFh (Zb (Zj fh rfl) Zd)) hS .n (fun g' hz hf hO=>(PQ.ok (ZzA (p0:=(Part.pr p0)) (Jq:=(((Zf,Ze),(ZA,Zz),(Zw,Zv)),(none,0))) (hS.Vg hz) (Z4.mono hf (ZtB (hS.sl Zt) (hS.sl ZV) (hS.sl ZU))) hx5))) ?_;rintro _ h8 _ ⟨rfl,rfl⟩ hS;refine r5 ?_;rintro h10 hS;refine r3 ?_;refine Z0.ofP<|Y7.ZNg («YH»:=[(V9 b3)]) (fn2:=Tryz.f60) Kq0 (by exact rfl) Tryz.ntmps60 (by simp) rfl ?_;simp only[Zq,Zx,Nat.reduceAdd];refine DC.seq<|DC.rec .ret (Tr.set (Tr.set (Tr.set .nil 0 ((V9 b3))) 5 (.nilIface)) 2 (.nilIface)) (by exact rfl) rfl ?_;refine⟨rfl,?_⟩;refine DC.seq<|DC.rgn rfl<|r2 ?_;refine Vc (Y5 (Zj fh rfl) (J2 rfl) (ZsS ZEw))<|r1 ?_;refine⟨rfl,?_⟩;refine DC.Zue (Zj fh rfl) rfl<|DC.skip ?_;refine⟨rfl,rfl,?_⟩;refine Y7.ofL ?_ rfl;have hr:=Oi0 hL;subst hr;exact Z0.gen rfl (YP (YC rfl fh) (Zdm ZAJ (hS.Jp k0) (j:=0) rfl (v:= V8 0) rfl) Zk) rfl ⟨_,⟨rfl,rfl⟩,hT▸hS.only .n⟩
 ·skip;replace hL:=Z7 hL;refine WO.Kg gN (Yo.fn ZFh (Zb (Zj fh rfl) Zd)) hS .n (fun g' hz hf hO=>ZzA (p0:=(Part.pr p0)) (Jq:=(((Zf,Ze),(ZA,Zz),(Zw,Zv)),(none,0))) (hS.Vg hz) (Z4.mono hf (ZtB (hS.sl Zt) (hS.sl ZV) (hS.sl ZU))) hx5) ?_;rintro h11 hS;refine ZB.panic<|Z0.KU<|Y7.ZNg («YH»:=[(V9 b3)]) (fn2:=Tryz.f60) Kq0 (by exact rfl) Tryz.ntmps60 (by simp) rfl ?_;simp only[Zq,Zx,Nat.reduceAdd];refine DC.seq<|DC.rec (.rcv (pv 147 e7)) (Tr.set (Tr.set (Tr.set .nil 0 ((V9 b3))) 5 (.iface 147 (.agg #[V8 e7]))) 2 (.iface 147 (.agg #[V8 e7]))) (by exact rfl) rfl ?_;refine⟨rfl,?_⟩;refine DC.seq<|DC.rgn rfl<|r2 ?_;refine Vc (Y5 (Zj fh rfl) (J2 rfl) (Zwd rfl ZEw))<|r1 ?_;refine⟨rfl,?_⟩;refine DC.ZAd (Zj fh rfl) rfl<|DC.seq<|DC.rgn rfl<|r2 ?_;refine Vc (Zkk Tryz.underlying147 rfl (Zj fh rfl))<|r4 ?_;rintro _ h13 ⟨b12,ZIs,rfl,hS⟩;refine r1 ?_;rintro h14 hS;refine r2 ?_;refine⟨rfl,?_⟩;refine DC.seq<|DC.seq<|DC.rgn rfl<|r4 ?_;refine⟨rfl,?_⟩;refine DC.Zue (Zj fh rfl) rfl<|DC.skip ?_;refine⟨rfl,?_⟩;refine DC.rgn rfl<|r6 ?_;rintro h15 hS;refine r1 ?_;refine⟨rfl,rfl,?_⟩;refine Y7.ofL ?_ rfl;have hr:=Oi0 hL;subst hr;exact Z0.gen rfl (YP (Z8 rfl (Zg rfl fh)) (Zdm ZAJ (hS.Jp k0) (j:=0) rfl (v:= V8 e7) rfl) Zk) rfl ⟨_,⟨rfl,rfl⟩,hT▸hS.only .n⟩
def ZjI{F h}{p0:Term}{Zf Ze ZA Zz Zw Zv}{r}(Zt:Sl Zh h.size h Zf Ze p0.args)(ZV:Sl Zc h.size h ZA Zz p0.defs)(ZU:Sl Zm h.size h Zw Zv p0.kids)(hL:ZjJ F p0=some r):Pure XX 23 #[.agg #[V8 p0.op,.string p0.text,.slice Zf p0.args.length Ze,.slice ZA p0.defs.length Zz,.slice Zw p0.kids.length Zv]] h (V8 r):=
 WR.ZeE rfl (ZIj Vb Zt ZV ZU hL)
end
section
def Zsj:Int->O (Int×Int):=fun v16=>
 some (v16,0)
def ZjK(ZmP:(Part×Int->O (Z×Int)))(x38:(U Part)):Int×Int->(Int×Int->O (Z×Int))->O (Z×Int):=fun(v47,v49) Zxy=>
 (bif decide (v47<(x38.length:Int)) then(ZN x38 v47).bind fun x51=>(ZmP (x51,v49)).bind fun(v57,v58)=>(bif(!v57) then some (false,v58) else Zxy (YX (v47+1),v58)) else some (true,v49))
def Zbg(F:Nat):Part×Int->(Part×Int->O (Z×Int))->O (Z×Int):=fun(v26,v28) ZmP=>
 (bif(!true) then some (false,YX (v28+1)) else(ZbX F v26).bind fun x38=>loop F (ZjK ZmP x38) (0,YX (v28+1)))
def Zsk(F:Nat)(p0:Term):O (Int×Int):=
 (ZjJ F p0).bind fun x3=>(bif(x3 !=0) then some (0,x3) else(loop F (Zbg F) ((Part.pr p0),0)).bind fun(v63,v64)=>(Zsj) v64)
end
section
def ZIk{F wm h}{p0:Term}{Zf Ze ZA Zz Zw Zv}{r}(Zy:wm<=h.size)(Zt:Sl Zh wm h Zf Ze p0.args)(ZV:Sl Zc wm h ZA Zz p0.defs)(ZU:Sl Zm wm h Zw Zv p0.kids)(hL:Zsk F p0=some r):
 WR XX 19 #[.agg #[.int .i64 p0.op,.string p0.text,.slice Zf p0.args.length Ze,.slice ZA p0.defs.length Zz,.slice Zw p0.kids.length Zv]] wm h (CP (fun(v:N)(Gb:U (Ast wm))=>v=.tuple #[.int .i64 r.1,.int .i64 r.2]/\Gb=[]) [] h):=by
 refine WF.QC (args:=[_]) (fn:=Tryz.f19) Kq0 (by exact rfl) Tryz.ntmps19 (by simp) ?_;simp only[Zq,Zx,Nat.reduceAdd];obtain⟨T,hT,hS⟩:∃T,T=QF (wm:=wm) []/\Sp wm T h [] h:=⟨_,rfl,Sp.start Zy Yp.nil⟩
 unfold Zsk at hL;refine r3 ?_;rintro _ h2 ⟨b1,eb1,rfl,hS⟩;refine r8 ?_;obtain⟨x3,hx3,hL⟩:=bS hL;refine WO.cp gN rfl (Yo.fn ZtN (Zb lk Zd)) (ZjI (hS.slu Zt) (hS.slu ZV) (hS.slu ZU) hx3) ?_;refine r9 ?_;refine cn hL ?_ ?_
 ·intro hc hL;refine r9 ?_;have hr:=Oi0 hL;subst hr;exact Z0.gen rfl (ZG lk (ZG lk Zk)) rfl ⟨_,⟨rfl,rfl⟩,hT▸hS.only .n⟩
 ·intro hc hL;refine r5 ?_;rintro _ h5 ⟨b4,eb4,rfl,hS⟩;refine r1 ?_;rintro h6 hS;refine r6 ?_;refine Vc (XL ZAn (ZF lk Z5) rfl (cs':=[.int .i64 p0.op,.string p0.text,.slice Zf p0.args.length Ze,.slice ZA p0.defs.length Zz,.slice Zw p0.kids.length Zv]) rfl) ?_;refine Vc (Zej lk Kq0) ?_;refine WO.inl gN rfl (Yo.fn ZyC (Zb lk Zd)) (WF.begin (args:=[_]) (fn:=Tryz.f57) Kq0 (by exact rfl) Tryz.ntmps57 (by simp) ?_);simp only[Zq,Zx,Nat.reduceAdd];refine r3 ?_;rintro _ h8 ⟨b7,eb7,rfl,hS⟩;refine r5 ?_;refine Vc (WZ (Zb lk Zd)) ?_;refine r4 ?_;refine Y0.Jb rfl (ZG lk Zk) ?_;refine r3 ?_;refine WC.Zxa (first:=[]) (cap:=[.pointer (some ⟨b7,0,none⟩)]) hS lk Zr2 ?_;intro h9 l10 Zsr ZsZ ZtP hS;refine WR.ZKx (r:=r) (fun(v16:Int)(v:N)(h14:H)=>v=.tuple #[]/\Sp wm T h [bx wm b1 [.int .i64 p0.op,.string p0.text,.slice Zf p0.args.length Ze,.slice ZA p0.defs.length Zz,.slice Zw p0.kids.length Zv],bx wm b4 [.int .i64 v16],bx wm b7 [.iface 78 (.agg #[.int .i64 p0.op,.string p0.text,.slice Zf p0.args.length Ze,.slice ZA p0.defs.length Zz,.slice Zw p0.kids.length Zv])],ob wm l10 ZsZ,ob wm Zsr .deferred] h14) (Zsj) ?_ (WF.begin (args:=[_,_]) (fn:=Tryz.f100) Kq0 (by exact rfl) Tryz.ntmps100 (by simp) ?_)
  ·clear hL hS;rintro v16 v h14 hL ⟨rfl,hS⟩;dsimp only[Zsj]at hL;refine RgE.sp ZtP hS k3 ?_;rintro h17 hS;refine r10 ?_;refine Z0.Zhi hS k3 ?_;rintro h18 hS;have hr:=Oi0 hL;subst hr;exact Z0.gen rfl (ZG lk (ZG lk Zk)) rfl ⟨_,⟨rfl,rfl⟩,hT▸hS.only .n⟩
  ·skip;simp only[Zq,Zx,Nat.reduceAdd];refine r3 ?_;rintro _ h20 ⟨b19,ZQ2,rfl,hS⟩;refine r5 ?_;rintro _ h22 ⟨b21,ZM8,rfl,hS⟩;refine r4 ?_;refine Vc (WZ (Zb lk (Zb lk Zd))) ?_;refine r1 ?_;rintro h23 hS;refine r5 ?_;have hS:=hS.add (A:=Yi wm (YB Zh) (Zf,Ze) p0.args) (hS.sl Zt) (fun _ z=>z);have hS:=hS.add (A:=Yi wm (YB Zc) (ZA,Zz) p0.defs) (hS.sl ZV) (fun _ z=>z);have hS:=hS.add (A:=Yi wm (YB Zm) (Zw,Zv) p0.kids) (hS.sl ZU) (fun _ z=>z)
   have ZHd:∀(Fr:Nat)(x:Part×Int)(r:Z×Int),loop Fr (Zbg F) x=some r->match x with | (v26,v28)=>∀{h:H}(q27:PtP),wm<=h.size->Yp (wm:=wm) [Yi wm Z4 q27 v26,bx wm b1 [.int .i64 p0.op,.string p0.text,.slice Zf p0.args.length Ze,.slice ZA p0.defs.length Zz,.slice Zw p0.kids.length Zv],bx wm b4 [.int .i64 v28],bx wm b7 [.iface 78 (.agg #[.int .i64 p0.op,.string p0.text,.slice Zf p0.args.length Ze,.slice ZA p0.defs.length Zz,.slice Zw p0.kids.length Zv])],bx wm b19 [.func (.yield l10) #[] #[]],bx wm b21 [.func (.func 101) #[] #[.pointer (some ⟨b19,0,none⟩),.pointer (some ⟨b21,0,none⟩)]],Yi wm (YB Zh) (Zf,Ze) p0.args,Yi wm (YB Zc) (ZA,Zz) p0.defs,Yi wm (YB Zm) (Zw,Zv) p0.kids,ob wm l10 ZsZ,ob wm Zsr .deferred] h->WR XX 101 #[K8 q27 v26,.pointer (some ⟨b19,0,none⟩),.pointer (some ⟨b21,0,none⟩)] wm h (CP (fun(v:N)(Gb:U (Ast wm))=>match r with | (v33,v34)=>v=.bool v33/\Gb=[bx wm b1 [.int .i64 p0.op,.string p0.text,.slice Zf p0.args.length Ze,.slice ZA p0.defs.length Zz,.slice Zw p0.kids.length Zv],bx wm b4 [.int .i64 v34],bx wm b7 [.iface 78 (.agg #[.int .i64 p0.op,.string p0.text,.slice Zf p0.args.length Ze,.slice ZA p0.defs.length Zz,.slice Zw p0.kids.length Zv])],bx wm b19 [.func (.yield l10) #[] #[]],bx wm b21 [.func (.func 101) #[] #[.pointer (some ⟨b19,0,none⟩),.pointer (some ⟨b21,0,none⟩)]],Yi wm (YB Zh) (Zf,Ze) p0.args,Yi wm (YB Zc) (ZA,Zz) p0.defs,Yi wm (YB Zm) (Zw,Zv) p0.kids,ob wm l10 ZsZ,ob wm Zsr .deferred]) [Yi wm Z4 q27 v26,bx wm b1 [.int .i64 p0.op,.string p0.text,.slice Zf p0.args.length Ze,.slice ZA p0.defs.length Zz,.slice Zw p0.kids.length Zv],bx wm b4 [.int .i64 v28],bx wm b7 [.iface 78 (.agg #[.int .i64 p0.op,.string p0.text,.slice Zf p0.args.length Ze,.slice ZA p0.defs.length Zz,.slice Zw p0.kids.length Zv])],bx wm b19 [.func (.yield l10) #[] #[]],bx wm b21 [.func (.func 101) #[] #[.pointer (some ⟨b19,0,none⟩),.pointer (some ⟨b21,0,none⟩)]],Yi wm (YB Zh) (Zf,Ze) p0.args,Yi wm (YB Zc) (ZA,Zz) p0.defs,Yi wm (YB Zm) (Zw,Zv) p0.kids,ob wm l10 ZsZ,ob wm Zsr .deferred] h):=by
    clear hL hS;refine XU _ ?_;rintro ZmP ZCK ⟨v26,v28⟩ r hL h q27 Zy hO;dsimp only[Zbg]at hL;obtain⟨T,hT,hS⟩:∃T,T=QF (wm:=wm) [Yi wm Z4 q27 v26,bx wm b1 [.int .i64 p0.op,.string p0.text,.slice Zf p0.args.length Ze,.slice ZA p0.defs.length Zz,.slice Zw p0.kids.length Zv],bx wm b4 [.int .i64 v28],bx wm b7 [.iface 78 (.agg #[.int .i64 p0.op,.string p0.text,.slice Zf p0.args.length Ze,.slice ZA p0.defs.length Zz,.slice Zw p0.kids.length Zv])],bx wm b19 [.func (.yield l10) #[] #[]],bx wm b21 [.func (.func 101) #[] #[.pointer (some ⟨b19,0,none⟩),.pointer (some ⟨b21,0,none⟩)]],Yi wm (YB Zh) (Zf,Ze) p0.args,Yi wm (YB Zc) (ZA,Zz) p0.defs,Yi wm (YB Zm) (Zw,Zv) p0.kids,ob wm l10 ZsZ,ob wm Zsr .deferred]/\Sp wm T h [Yi wm Z4 q27 v26,bx wm b1 [.int .i64 p0.op,.string p0.text,.slice Zf p0.args.length Ze,.slice ZA p0.defs.length Zz,.slice Zw p0.kids.length Zv],bx wm b4 [.int .i64 v28],bx wm b7 [.iface 78 (.agg #[.int .i64 p0.op,.string p0.text,.slice Zf p0.args.length Ze,.slice ZA p0.defs.length Zz,.slice Zw p0.kids.length Zv])],bx wm b19 [.func (.yield l10) #[] #[]],bx wm b21 [.func (.func 101) #[] #[.pointer (some ⟨b19,0,none⟩),.pointer (some ⟨b21,0,none⟩)]],Yi wm (YB Zh) (Zf,Ze) p0.args,Yi wm (YB Zc) (ZA,Zz) p0.defs,Yi wm (YB Zm) (Zw,Zv) p0.kids,ob wm l10 ZsZ,ob wm Zsr .deferred] h:=⟨_,rfl,Sp.start Zy hO⟩
    refine WF.begin (args:=[_,_,_]) (fn:=Tryz.f101) Kq0 (by exact rfl) Tryz.ntmps101 (by simp) ?_;simp only[Zq,Zx,Nat.reduceAdd];refine r9 ?_;refine Vc (ZO (Zj (YC rfl fh) Yb)) ?_;refine WO.ZJS gN rfl lk (Zb (Zj fh Yb) Zd) hS k9 ZtP rfl rfl ?_;refine r1 ?_;refine AsK.sp ZtP hS k9 ?_;rintro h35 hS;refine r5 ?_;rintro h36 hS;refine r2 ?_;refine BdK.sp ZtP hS k1 ?_;rintro h37 hS;refine r3 ?_;refine cn hL ?_ ?_
    ·intro hc hL;refine r7 ?_;have hr:=Oi0 hL;subst hr;exact Y0.Jb rfl (ZG lk Zk) ⟨_,⟨rfl,rfl⟩,hT▸hS.only (.c k3 (.c k1 (.c k2 (.c k2 (.c k2 (.c k2 (.c k2 (.c k2 (.c k0 (.c k1 .n))))))))))⟩
    ·intro hc hL;refine r5 ?_;refine Vc (ZO (Zj (YC rfl (Z8 rfl (Zg rfl fh))) Yb)) ?_;obtain⟨x38,hx38,hL⟩:=bS hL;refine WO.Zc5 gN rfl (Zj fh Yb) hS (hS.get k2) hx38 ?_;rintro h41 a39 c40 hS;refine r5 ?_;refine WC.loop (WL.lift hL (fun p s=>match p with | (v47,v49)=>∃Zce h42,s=⟨Zce,[],h42,none⟩/\Sp wm T h [bx wm b21 [.func (.func 101) #[] #[.pointer (some ⟨b19,0,none⟩),.pointer (some ⟨b21,0,none⟩)]],bx wm b19 [.func (.yield l10) #[] #[]],bx wm b1 [.int .i64 p0.op,.string p0.text,.slice Zf p0.args.length Ze,.slice ZA p0.defs.length Zz,.slice Zw p0.kids.length Zv],bx wm b4 [.int .i64 v49],bx wm b7 [.iface 78 (.agg #[.int .i64 p0.op,.string p0.text,.slice Zf p0.args.length Ze,.slice ZA p0.defs.length Zz,.slice Zw p0.kids.length Zv])],ow wm Z4 a39 x38.length c40 x38,Yi wm (YB Zh) (Zf,Ze) p0.args,Yi wm (YB Zc) (ZA,Zz) p0.defs,Yi wm (YB Zm) (Zw,Zv) p0.kids,ob wm l10 ZsZ,ob wm Zsr .deferred] h42/\Zce.at 2=.pointer (some ⟨b21,0,none⟩)/\Zce.at 12=.slice a39 x38.length c40/\Zce.at 13=.int .i64 (x38.length:Int)/\Zce.at 14=.int .i64 v47) ⟨_,_,rfl,hS.only (.c k7 (.c k6 (.c k4 (.c k2 (.c k3 (.c k0 (.c k2 (.c k2 (.c k2 (.c k0 (.c k1 .n))))))))))),QG⟩ ?_);clear hL hS;rintro Zxy ⟨v47,v49⟩ s ZCF hL ⟨Zce,h42,rfl,hS,e44,e45,e46,e48⟩;dsimp only[ZjK]at hL;refine r6 ?_;refine cn hL ?_ ?_
     ·intro hc hL;refine r6 ?_;obtain⟨x51,Zvp,hL⟩:=bS hL;obtain⟨b52,o53,q54,ZLT,ZMz,ZMb⟩:=Src.at_ (hS.U8 k5) Zvp;refine Vc (Yf KE Kk lk lk rfl ZLT Zvp) ?_;have hS:=hS.add (A:=Yi wm Z4 q54 x51) ZMb (fun _ z=>z);refine Vc (Yt Zen (Zj fh rfl) ZMz (j:=0) rfl (v:=K8 q54 x51) rfl) ?_;refine Vc (ZW (Zj fh Yb)) ?_;refine r5 ?_;refine Vc (ZO (Zj (Zg rfl fh) Yb)) ?_;obtain⟨⟨v57,v58⟩,Zx0,hL⟩:=bS hL;dsimp only at hL;refine Vd (Yo.clo (first:=[]) (cap:=[.pointer (some ⟨b19,0,none⟩),.pointer (some ⟨b21,0,none⟩)]) lk Zan (Zb (Zj fh Yb) Zd) rfl) hS (.c k0 (.c k2 (.c k2 (.c k2 (.c k1 (.c k0 (.c k1 (.c k1 (.c k1 (.c k1 (.c k1 .n))))))))))) (fun g' hz hf hO=>ZCK _ _ Zx0 q54 (hS.Vg hz) hO) ?_;rintro _ h59 _ ⟨rfl,rfl⟩ hS;refine r3 ?_;refine cn hL ?_ ?_
      ·intro hc hL;refine r11 ?_;have hr:=Oi0 hL;subst hr;exact Y0.Jb rfl (ZG lk Zk) ⟨_,⟨rfl,rfl⟩,hT▸hS.only (.c k0 (.c k0 (.c k0 (.c k0 (.c k0 (.c k0 (.c k0 (.c k0 (.c k0 (.c k0 .n))))))))))⟩
      ·intro hc hL;refine r7 ?_;exact Ya.Yc (ZCF _ _ hL ⟨_,_,rfl,hS.only (.c k4 (.c k3 (.c k0 (.c k0 (.c k0 (.c k5 (.c k0 (.c k0 (.c k0 (.c k0 (.c k0 .n))))))))))),QG⟩)
     ·intro hc hL;refine r11 ?_;have hr:=Oi0 hL;subst hr;exact Y0.Jb rfl (ZG lk Zk) ⟨_,⟨rfl,rfl⟩,hT▸hS.only (.c k2 (.c k2 (.c k2 (.c k1 (.c k0 (.c k1 (.c k1 (.c k1 (.c k1 (.c k1 .n))))))))))⟩
   have hS:=hS.add (A:=Yi wm Z4 (((Zf,Ze),(ZA,Zz),(Zw,Zv)),(none,0)) (Part.pr p0)) (ZtB (hS.Uo k2) (hS.Uo k1) (hS.Uo k0)) (fun _ z=>z);obtain⟨⟨v63,v64⟩,Zvn,hL⟩:=bS hL;dsimp only at hL;refine Vd (Yo.clo (first:=[]) (cap:=[.pointer (some ⟨b19,0,none⟩),.pointer (some ⟨b21,0,none⟩)]) lk Zan lks rfl) hS (.c k0 (.c k9 (.c k8 (.c k7 (.c k4 (.c k3 (.c k2 (.c k1 (.c k0 (.c k0 (.c k0 .n))))))))))) (fun g' hz hf hO=>ZHd _ _ _ Zvn (((Zf,Ze),(ZA,Zz),(Zw,Zv)),(none,0)) (hS.Vg hz) hO) ?_;rintro _ h65 _ ⟨rfl,rfl⟩ hS;refine r1 ?_;refine Y0.Yc ?_;exact Y0.gen (vs:=[]) rfl Zk rfl ⟨_,hL,⟨rfl,hS.only (.c k0 (.c k0 (.c k0 (.c k5 (.c k5 .n)))))⟩⟩
def ZzI{F h}{p0:Term}{Zf Ze ZA Zz Zw Zv}{r}(Zt:Sl Zh h.size h Zf Ze p0.args)(ZV:Sl Zc h.size h ZA Zz p0.defs)(ZU:Sl Zm h.size h Zw Zv p0.kids)(hL:Zsk F p0=some r):Pure XX 19 #[.agg #[V8 p0.op,.string p0.text,.slice Zf p0.args.length Ze,.slice ZA p0.defs.length Zz,.slice Zw p0.kids.length Zv]] h (.tuple #[V8 r.1,V8 r.2]):=
 WR.ZeE rfl (ZIk Vb Zt ZV ZU hL)
end
section
end
section
end
section
def ZhD(F:Nat)(p1:(U Y))(p2:Za)(ZoK:(((U Y)×(U Y)×Term)->O (U Y)))(Zl:(((U Y)×(U Y)×Za)->O (U Y))):(U Y)×Int->((U Y)×Int->O (U Y))->O (U Y):=fun(v6,v13) ZmS=>
 (bif decide (v13<(p2.defs.length:Int)) then(ZN p2.defs v13).bind fun x16=>(Zl (v6,p1,x16)).bind fun x25=>ZmS (x25,YX (v13+1)) else(ZzJ F p2.joins).bind fun x31=>(ZpU p1 x31).bind fun x37=>(ZN p2.kids 0).bind fun x43=>(ZoK (v6,x37,x43)).bind fun x52=>some x52)
def ZjV(F:Nat)(ZoK:(((U Y)×(U Y)×Term)->O (U Y))):((U Y)×(U Y)×Za)->(((U Y)×(U Y)×Za)->O (U Y))->O (U Y):=fun(p0,p1,p2) Zl=>
 loop F (ZhD F p1 p2 ZoK Zl) (p0,0)
def ZFu(F:Nat)(ZoK:(((U Y)×(U Y)×Term)->O (U Y)))(p0:(U Y))(p1:(U Y))(p2:Za):O (U Y):=
 loop F (ZjV F ZoK) (p0,p1,p2)
def Zfg(p2:Term)(Zl:(((U Y)×(U Y)×Term)->O (U Y)))(v39:(U Y)):(U Y)×Int->((U Y)×Int->O (U Y))->O (U Y):=fun(v73,v80) ZGH=>
 (bif decide (v80<(p2.kids.length:Int)) then(ZN p2.kids v80).bind fun x83=>(Zl (v73,v39,x83)).bind fun x92=>ZGH (x92,YX (v80+1)) else some v73)
def ZhK(F:Nat)(p2:Term)(Zl:(((U Y)×(U Y)×Term)->O (U Y)))(v39:(U Y)):(U Y)×Int->((U Y)×Int->O (U Y))->O (U Y):=fun(v46,v53) ZGK=>
 (bif decide (v53<(p2.defs.length:Int)) then(ZN p2.defs v53).bind fun x56=>(ZFu F Zl v46 v39 x56).bind fun x65=>ZGK (x65,YX (v53+1)) else loop F (Zfg p2 Zl v39) (v46,0))
def Zdc(F:Nat)(p2:Term)(Zl:(((U Y)×(U Y)×Term)->O (U Y)))(v15:(U Y)):(U Y)->O (U Y):=fun v39=>
 loop F (ZhK F p2 Zl v39) (v15,0)
def ZhL(F:Nat)(p1:(U Y))(p2:Term)(Zl:(((U Y)×(U Y)×Term)->O (U Y))):(U Y)×Int->((U Y)×Int->O (U Y))->O (U Y):=fun(v15,v22) ZrA=>
 (bif decide (v22<(p2.args.length:Int)) then(ZN p2.args v22).bind fun x25=>(ZMX F v15 p1 x25).bind fun x30=>ZrA (x30,YX (v22+1)) else(bif(p2.op==4) then(ZDm F p2.defs).bind fun x98=>(ZpU p1 x98).bind fun x104=>(Zdc F p2 Zl v15) x104 else(Zdc F p2 Zl v15) p1))
def ZhJ(F:Nat)(p1:(U Y))(p2:Term)(Zl:(((U Y)×(U Y)×Term)->O (U Y))):(U Y)->O (U Y):=fun v6=>
 loop F (ZhL F p1 p2 Zl) (v6,0)
def ZjY(F:Nat):((U Y)×(U Y)×Term)->(((U Y)×(U Y)×Term)->O (U Y))->O (U Y):=fun(p0,p1,p2) Zl=>
 (bif(!decide (p2.text=(⟨#[]⟩:Y))) then(Zt7 F p0 p1 p2.text).bind fun ZON=>(ZhJ F p1 p2 Zl) ZON else(ZhJ F p1 p2 Zl) p0)
def ZFx(F:Nat)(p0:(U Y))(p1:(U Y))(p2:Term):O (U Y):=
 loop F (ZjY F) (p0,p1,p2)
end
section
end
section
def ZDi(F:Nat)(p0:Term):O (U Y):=
 (ZFx F [] [] p0).bind fun x3=>some x3
end
section
end
section
def ZM3(F:Nat)(p0:Term):O ((U Y)×Int):=
 (ZDo F p0).bind fun x3=>(bif(x3 !=0) then some ([],2) else(ZDi F p0).bind fun x4=>some (x4,0))
end
section
end
section
end
section
end
section
end
section
end
section
end
section
end
section
end
section
end
section
end
section
end
section
def Ze9(p0:Zi)(Zl:(Zi->O Zi)):Int×(U Zi)->(Int×(U Zi)->O Zi)->O Zi:=fun(v15,v17) Za5=>
 (bif decide (v15<(p0.kids.length:Int)) then(ZN p0.kids v15).bind fun KT=>(Zl KT).bind fun x30=>(app 56 v17 [x30]).bind fun z38=>Za5 (YX (v15+1),z38) else some (Zi.mk p0.op p0.n p0.text v17))
def Zec(F:Nat):Zi->(Zi->O Zi)->O Zi:=fun p0 Zl=>
 loop F (Ze9 p0 Zl) (0,[])
def Zt1(F:Nat)(p0:Zi):O Zi:=
 loop F (Zec F) p0
end
section
def ZzM{F wm:Nat}:∀(Fr:Nat)(p0:Zi)(r:Zi),loop Fr (Zec F) p0=some r->(∀{h:H}{Zf:O Addr}{Ze:Nat}(Zy:wm<=h.size)(Zt:Sl Zh wm h Zf Ze p0.kids),WR XX 148 #[.agg #[V8 p0.op,V8 p0.n,.string p0.text,.slice Zf p0.kids.length Ze]] wm h (CP (fun v (Gb:U (Ast wm))=>∃Ym Yl,v=.agg #[V8 r.op,V8 r.n,.string r.text,.slice Ym r.kids.length Yl]/\Gb=[Yi wm (YB Zh) (Ym,Yl) r.kids]) [] h)):=by
 refine XU _ ?_;rintro Zl Xm p0 r hL h Zf Ze Zy Zt;refine bg Tryz.ntmps148 Zy Yp.nil ?_;intro T hT hS;refine r3 ?_;rintro _ h3 ⟨b2,eb2,rfl,hS⟩;refine r1 ?_;rintro _ h5 ⟨b4,eb4,rfl,hS⟩;refine r10 ?_;refine Vc (XL Zuh (ZF lk (ZF lk (ZF lk Z5))) rfl (cs':=[V8 p0.op,V8 p0.n,.string p0.text,V7]) rfl)<|r1 ?_;rintro _ h7 ⟨b6,eb6,rfl,hS⟩;refine r1 ?_;rintro h8 hS;refine r12 ?_;have hS:=hS.nil (e:=Zh);refine WC.loop (WL.lift hL (fun p s=>match p with | (v15,v17)=>∃QA h9 a18 c19 n20,s=⟨QA,[],h9,none⟩/\Sp wm T h [bx wm b4 [V8 0,V8 0,.string (⟨#[]⟩:Y),V7],ow wm Zh a18 n20 c19 v17,bx wm b6 [V8 p0.op,V8 p0.n,.string p0.text,.slice a18 n20 c19]] h9/\QA.at 2=(V9 b4)/\QA.at 3=(V9 b6)/\QA.at 14=.slice Zf p0.kids.length Ze/\QA.at 15= V8 (p0.kids.length:Int)/\QA.at 16= V8 v15) ⟨_,_,none,0,0,rfl,hS.only (.c k2 (.c k0 (.c k0 .n))),QG⟩ ?_);rintro Za5 ⟨v15,v17⟩ s Uh hL ⟨QA,h9,a18,c19,n20,rfl,hS,e11,e12,e13,e14,e16⟩;obtain rfl:=hS.on k1;refine r6 ?_;refine cn hL ?_ ?_
 ·intro hc hL;refine r6 ?_;obtain⟨KT,Zf5,hL⟩:=bS hL;obtain⟨b23,o24,⟨a25,c26⟩,UM,Uw,Uv,Qo⟩:=Sl.at_ Zt Zf5;replace Qo:=Y1.1 Qo;refine Vc (Yf Zaw Xk lk lk rfl UM Zf5) ?_;have Zb9:Sl Zh wm h a25 c26 KT.kids:=Qo;refine Vc (Yx Wy Xk (Zj fh rfl) (At.fz hS.fz Uv Uw) (j:=0) rfl rfl (ws:=[V8 KT.op,V8 KT.n,.string KT.text,.slice a25 KT.kids.length c26]) rfl)<|r1 ?_;rintro _ h28 ⟨b27,ZQY,rfl,hS⟩;refine r1 ?_;rintro h29 hS;refine r2 ?_;refine WC.Ub mixed Kq0<|r3 ?_;obtain⟨x30,Zpc,hL⟩:=bS hL;refine WX.cl0 gN rfl (Yo.fn ZyG (Zb lk Zd)) hS .n (fun g' hz hf hO=>(Xm _ _ Zpc) (hS.Vg hz) ((hS.sl Zb9).mono hf)) ?_ rfl rfl;rintro _ h34 _ ⟨a31,c33,rfl,rfl⟩ hS;refine WX.hn gN rfl (KI (e:=Zh) hS Zaw Xk ZfP rfl rfl rfl (ZF lk Z5) rfl [((a31,c33),x30)] rfl (xs:=[x30]) rfl (by intro q hq;simp only[Kx,Gc,or_false]at hq;subst hq;exact(Y1.2 (hS.Uo k0))) rfl) ?_ rfl;rintro _ h37 ⟨b36,Zz3,rfl,hS⟩;obtain⟨z38,ZG0,hL⟩:=bS hL;refine WX.hv gN rfl (Zak (e:=Zh) hS k4 Zkp lk lk (hS.U8 k0) (hS.on k0) ZG0) ?_ rfl rfl [] Kq0 XP.e;rintro _ h41 ⟨a39,c40,rfl,hS⟩;refine WX.w gN rfl (YI Znd lk) ?_ Kq0;refine WX.hu gN (JO hS k5 Zmy lk lk (vs:=[.slice a39 z38.length c40]) rfl rfl rfl rfl (cs':=[V8 p0.op,V8 p0.n,.string p0.text,.slice a39 z38.length c40]) rfl) ?_ rfl Kq0 [] Kq0 XP.e;rintro h42 hS;refine r7 ?_;exact Ya.Yc (Uh _ _ hL ⟨_,_,a39,c40,z38.length,rfl,hS.only (.c k5 (.c k1 (.c k0 .n))),QG⟩)
 ·intro hc hL;refine r9 ?_;rintro h43 hS;refine r2 ?_;refine WC.fzn hS k1 ?_;rintro h44 ⟨hn45,hS⟩;refine r1 ?_;have hr:=Oi0 hL;subst hr;exact Y0.Jb rfl (YP (Z8 rfl e11) (Xc Wy Xk (hS.Jp k1) (j:=0) rfl rfl (ws:=[V8 p0.op,V8 p0.n,.string p0.text,.slice a18 v17.length c19]) rfl) Zk) ⟨_,⟨a18,c19,rfl,rfl⟩,hT▸hS.only (.c k0 .n)⟩
def ZDt{F wm h}{p0:Zi}{Zf Ze}{r}(Zy:wm<=h.size)(Zt:Sl Zh wm h Zf Ze p0.kids)(hL:Zt1 F p0=some r):
 WR XX 148 #[.agg #[V8 p0.op,V8 p0.n,.string p0.text,.slice Zf p0.kids.length Ze]] wm h (CP (fun v (Gb:U (Ast wm))=>∃Ym Yl,v=.agg #[V8 r.op,V8 r.n,.string r.text,.slice Ym r.kids.length Yl]/\Gb=[Yi wm (YB Zh) (Ym,Yl) r.kids]) [] h):=
 ZzM F p0 r hL Zy Zt
end
section
end
section
end
section
def ZtZ(p0:Y):O Zi:=
 some (Zi.mk 2 0 p0 [])
end
section
def ZDs{wm h}{p0:Y}{r}(Zy:wm<=h.size)(hL:ZtZ p0=some r):
 WR XX 172 #[.string p0] wm h (CP (fun v (Gb:U (Ast wm))=>∃Ym Yl,v=.agg #[V8 r.op,V8 r.n,.string r.text,.slice Ym r.kids.length Yl]/\Gb=[Yi wm (YB Zh) (Ym,Yl) r.kids]) [] h):=by
 refine bg Tryz.ntmps172 Zy Yp.nil ?_;intro T hT hS;unfold ZtZ at hL;refine r3 ?_;rintro _ h2 ⟨b1,eb1,rfl,hS⟩;refine r5 ?_;refine Vc (XL Zuh (ZF lk (ZF lk Z5)) rfl (cs':=[V8 2,V8 0,.string p0,V7]) rfl)<|r1 ?_;rintro h3 hS;refine r3 ?_;have hS:=hS.add (A:=Yi wm (YB Zh) (none,0) []) Sl.nil (fun _ z=>z);have hr:=Oi0 hL;subst hr;exact Y0.Jb rfl (YP (Z8 rfl fh) (Xc Wy Xk (hS.Jp k1) (j:=0) rfl rfl (ws:=[V8 2,V8 0,.string p0,V7]) rfl) Zk) ⟨_,⟨none,0,rfl,rfl⟩,hT▸hS.only (.c k0 .n)⟩
end
section
end
section
end
end Go.Proofs.YtbnepjakjmnadaaGreat
end
end
section
set_option maxRecDepth 20000
noncomputable section
namespace Go.ZP
open Go.Lf
section
variable{X:Ctx}{n wm:Nat}{rd:O Nat}{ops:V4 Oper}{l:U Oper}{fr:Fr}{ds:U V6}{h h0 h1 h2:H}{ty:J}{p:String}{af:V4 Edge}{T:Nat->Prop}{G Gr Ga:U (Ast wm)}{d:Nat}
def ZCU(o:Oper)(k:Nat):Z:=o.after.toList.any fun e=>Region.binds .any e&&Nat.beq e.on k
def ZGB(ops:U Oper)(c i:Nat)(o:Oper):Z:=
 Zar i o&&bif Nat.ble i c then o.op.operands.toList.all fun x=>match x with
  | .tmp t=>QD (fun k o'=>!isT o'.dst t||ZCU o k) ops 0
  | _=>true
 else ZCU o c
def ZEL(ops:U Oper)(c:Nat):Z:=QD (ZGB ops c) ops 0&&QD (Zfu ops) ops 0
def ZlK{o:Oper}{k:Nat}(h:ZCU o k=true):∃e∈o.after,Region.binds .any e=true/\e.on=k:=by
 unfold ZCU at h;rw[GO]at h;obtain⟨e,he,h⟩:=h;rw[Ba0]at h;exact⟨e,by simpa using he,h.1,Nb0 h.2⟩
structure PX(X:Ctx)(n:Nat)(h:H)(c:Nat)(l:List Oper)(fr:Fr)(Q:Fr->Oper->Prop):Prop where
 out:∃(fs:Nat->Fr) (vs:Nat->Value) (o:Oper),fs 0=fr/\l[c]? =some o/\Q (fs c) o/\∀k,k<c->∃d op ty p af,l[k]? =some ⟨some d,op,ty,p,af,none⟩/\d<n/\Xt X h (YG (fs k)) ⟨some d,op,ty,p,af,none⟩=some (.val (vs k),.none)/\fs (k+1)=Tr.set (fs k) d (vs k)
def PX.w{c:Nat}{op:Op}{v:N}{Q:Fr->Oper->Prop}(hd:Nat.blt d n=true)(ha:Xt X h (YG fr) ⟨some d,op,ty,p,af,none⟩=some (.val v,.none))(k:PX X n h c l (Tr.set fr d v) Q):PX X n h (c+1) (⟨some d,op,ty,p,af,none⟩::l) fr Q:=by
 obtain⟨fs,vs,o,e0,ho,hq,hk⟩:=k;refine⟨fun k=>match k with|0=>fr|k+1=>fs k,fun k=>match k with|0=>v|k+1=>vs k,o,rfl,by simpa using ho,hq,fun k hk'=>?_⟩;cases k with
 | zero=>exact⟨d,op,ty,p,af,rfl,by rwa[G4]at hd,ha,e0⟩
 | succ k=>
   obtain⟨d',op',ty',p',af',q1,q2,q3,q4⟩:=hk k Va;exact⟨d',op',ty',p',af',by simpa using q1,q2,q3,q4⟩
def PX.call{o:Oper}{Q:Fr->Oper->Prop}(hq:Q fr o):PX X n h 0 (o::l) fr Q:=⟨⟨fun _=>fr,fun _=>undef,o,rfl,rfl,hq,fun k hk=>absurd hk (Nat.not_lt_zero _)⟩⟩
def Zwa{fr fr':Fr}{x:GZ}(hx:∀t,x=.tmp t->fr.at t=fr'.at t):YG fr x=YG fr' x:=by
 cases x with
 | tmp t=>
   have:=hx t rfl;show(bif X6 (fr.at t) then none else some (fr.at t))=(bif X6 (fr'.at t) then none else some (fr'.at t));rw[this]
 | const v=>rfl
 | func f=>rfl
 | global g=>rfl
def Zv2{ih:Qr->O YL}{o:Oper}{v:N}(hg:o.guard=none)(ha:Xt X h (YG fr) o=some (.val v,.none))(ho:o.dst=some d)(hd:d<n):JX X (fun _=>false) ih n wm rd ops.toList o ⟨fr,ds,h,none⟩=some (.normal,⟨Tr.set fr d v,ds,h,none⟩):=by
 have g:=ZY.none (ops:=ops) (fr:=fr) hg;unfold JX;rw[g.1,g.2];dsimp only[KK,Cq0,Cq1];rw[ha];dsimp only;unfold Eff.apply Kh;dsimp only;rw[ho];unfold ZgB;have hb:Nat.blt d n=true:=by rw[G4];exact hd
 simp[Js,hb,allowed]
def Zcr(ops:V4 Oper)(k:Nat):O Tmp:=(ops.toList[k]?).bind (·.dst)
def frP(ops:V4 Oper)(fr:Fr):Nat->Fr
 | 0=>fr
 | k+1=>match Zcr ops k with
   | some d=>Tr.set (frP ops fr k) d ZnY
   | none=>frP ops fr k
def Zsa{t:Nat}:∀m,X6 ((frP ops fr m).at t)=false->(∀k,k<m->Zcr ops k≠some t)/\(frP ops fr m).at t=fr.at t
 | 0,_=>⟨fun k hk=>absurd hk (Nat.not_lt_zero _),rfl⟩
 | m+1,ha=>by
   unfold frP at ha ⊢;cases e:Zcr ops m with
   | none=>
     rw[e]at ha;obtain⟨i1,i2⟩:=Zsa m ha;refine⟨fun k hk=>?_,i2⟩;rcases Nat.lt_or_eq_of_le (Nat.le_of_lt_succ hk) with z|z
     ·exact i1 k z
     ·subst z;rw[e];exact fun z=>by cases z
   | some d=>
     rw[e]at ha;dsimp only at ha ⊢;by_cases ht:t=d
     ·subst ht;simp[Fr.at,Tr.XB,ZnY,X6]at ha
     ·have hh:Fr.at (Tr.set (frP ops fr m) d ZnY) t=(frP ops fr m).at t:=by simp[Fr.at,Tr.XB,ht]
      rw[hh]at ha ⊢;obtain⟨i1,i2⟩:=Zsa m ha;refine⟨fun k hk=>?_,i2⟩;rcases Nat.lt_or_eq_of_le (Nat.le_of_lt_succ hk) with z|z
      ·exact i1 k z
      ·subst z;rw[e];exact fun z=>ht (Oi0 z).symm
def WC.ZNd{R:XX->Fs->Prop}{id c:Nat}(hm:X.P.follows .mixedOrders=true)(hp:ZEL ops.toList c=true)(k:PX X n h c ops.toList fr (fun fr' o=>∃f args v h2,o.guard=none/\Xt X h (YG fr') o=some (.enter f args,.none)/\Yn X (.call f args wm h) (.fin (.Z9 v) h2)/\∀Jd,R (.panic v) ⟨Jd,ds,h2,none⟩)):WC X n wm rd (.region id ops true) ⟨fr,ds,h,none⟩ R:=by
 obtain⟨fs,vs,oc,e0,hoc,⟨f,args,v,h2,hg,hcall,Zyv,hR⟩,hk⟩:=k;unfold ZEL at hp;rw[Ba0]at hp;have hpl:=YD _ _ hp.1;have hdst:=YD _ _ hp.2;simp only[G0]at hpl hdst;have hget:∀{k:Nat}{o:Oper},ops[k]? =some o->ops.toList[k]? =some o:=fun h=>by rwa[G8]
 have hcs:c<ops.size:=by
  have:=Li0 hoc;obtain⟨q,_⟩:=this
  simpa using q
 have uniq:∀{j k t},Zcr ops j=some t->Zcr ops k=some t->j=k:=fun{j k t} hj hk'=>by
  unfold Zcr at hj hk';cases e1:ops.toList[j]? with
  | none=>rw[e1]at hj;cases hj
  | some o1=>
    cases e2:ops.toList[k]? with
    | none=>rw[e2]at hk';cases hk'
    | some o2=>
      rw[e1]at hj;rw[e2]at hk';have hj:o1.dst=some t:=hj;have hk':o2.dst=some t:=hk';have:=hdst k o2 e2;unfold Zfu at this;rw[hk']at this;dsimp only at this;have:=YD _ _ this j o1 e1;rw[K7.2 hj,Cq1,G0]at this;exact Nb0 this
 have stage:∀m,m<=c->(∀k t,k<m->Zcr ops k=some t->(fs m).at t=vs k)/\(∀t,(∀k,k<m->Zcr ops k≠some t)->(fs m).at t=fr.at t):=by
  intro m
  induction m with
  | zero=>intro _;exact⟨fun k t hk'=>absurd hk' (Nat.not_lt_zero _),fun t _=>by rw[e0]⟩
  | succ m ih=>
    intro hm';obtain⟨i1,i2⟩:=ih Va;obtain⟨d,op,ty,p,af,q1,q2,q3,q4⟩:=hk m Va;have hdm:Zcr ops m=some d:=by unfold Zcr;rw[q1];rfl
    have hat:∀t,(fs (m+1)).at t=if t=d then vs m else(fs m).at t:=fun t=>by
     rw[q4];show Fr.at (Tr.set (fs m) d (vs m)) t=_;by_cases e:t=d
     ·subst e;simp[Fr.at,Tr.XB]
     ·have e':¬ d=t:=fun z=>e z.symm
      simp[Fr.at,Tr.XB,e]
    refine⟨fun k t hk' ht=>?_,fun t ht=>?_⟩
    ·rw[hat];by_cases e:t=d
     ·subst e;rw[if_pos rfl,uniq ht hdm]
     ·rw[if_neg e];refine i1 k t ?_ ht;rcases Nat.lt_or_eq_of_le (Nat.le_of_lt_succ hk') with z|z
      ·exact z
      ·subst z;rw[hdm]at ht;cases ht;exact absurd rfl e
    ·rw[hat,if_neg fun e=>ht m Va (by rw[hdm,e]),i2 t fun k hk'=>ht k Va]
 refine⟨.panic v,_,hR (frP ops fr c),fun ρ a w F Zy hi hF=>?_⟩;refine wpIn_region_any hm ?_;have hi':Inv ρ n {fr:=fr,ds:=ds,h:=h} a {w with drawn:=w.drawn+1}:=⟨⟨hi.rel.dom,fun i b d e=>(hi.rel.obj i b d e).world rfl,hi.rel.inj⟩,hi.fr,hi.ds⟩
 have main:∀(fuel:Nat)(listed:V4 Z),listed.size=ops.size->((List.range ops.size).filter (fun k=>!listed.getD k true)).length<=fuel->(∀j,c<=j->¬ Data.SL listed j) ->
  ∀ρ' frS a' w',Inv ρ' n ⟨frS,ds,h,none⟩ a' w'->Stp wm ρ h {w with drawn:=w.drawn+1} ρ' h w'->((∀k t,k<c->Data.SL listed k->Zcr ops k=some t->frS.at t=vs k)/\(∀t,(∀k,k<c->Data.SL listed k->Zcr ops k≠some t)->frS.at t=fr.at t)) ->
  wpAnyIn F 0 X.P .any ops (XH wm n ρ h w (.panic v) ⟨frP ops fr c,ds,h2,none⟩) fuel listed a' w':=by
  intro fuel
  induction fuel with
  | zero=>
    intro listed hsz hn hc;exfalso
    have hmem:c∈(List.range ops.size).filter (fun k=>!listed.getD k true):=by
     rw[GX];exact⟨GV.2 hcs,by rw[(Data.ZbM hsz hcs).2 (hc c Vb)];rfl⟩
    have:=List.length_pos_of_mem hmem;omega
  | succ fuel ih=>
    intro listed hsz hn hc ρ' frS a' w' hinv hst hfs;refine⟨fun hnil=>?_,fun i hi=>?_⟩
    ·exfalso
     have:∀k,k<=c->Data.SL listed k:=by
      intro k
      induction k using Nat.strongRecOn with
      | ind k ihk=>
        intro hkc;apply Classical.byContradiction;intro hno;have hks:k<ops.size:=Va
        obtain⟨o,ho⟩:∃o,ops[k]? =some o:=⟨ops[k],by simp[hks]⟩
        have:k∈Region.ready .any ops listed:=mem_ready.2 ⟨(Data.ZbM hsz hks).2 hno,o,ho,fun e he hb=>by
         have hp1:=hpl k o (hget ho);unfold ZGB at hp1;rw[Ba0]at hp1;have he1:=hp1.1;unfold Zar at he1;rw[Kd]at he1;have:=he1 e (by simpa using he);rw[hb,Cq1,G4]at this;exact ihk e.on this Va⟩
        rw[hnil]at this;cases this
     exact hc c Vb (this c Vb)
    ·obtain⟨q1,o,ho,hr⟩:=mem_ready.1 hi;have him:i<ops.size:=(J0.1 ho).1;have hno:¬ Data.SL listed i:=(Data.ZbM hsz him).1 q1;have hp1:=hpl i o (hget ho);unfold ZGB at hp1;rw[Ba0]at hp1;unfold wpOpIn;rw[ho];dsimp only;by_cases hic:i<=c
     ·have hle:Nat.ble i c=true:=Nm0 hic;have hlk:=hp1.2;rw[hle,Cq1,Kd]at hlk
      have ZFd:Xt X h (YG frS) o=Xt X h (YG (fs i)) o:=Zmc X h o fun x hx=>Zwa fun t ht=>by
       subst ht;have hall:=hlk (.tmp t) (by simpa using hx);have hall:=YD _ _ hall;simp only[G0]at hall
       have ZaK:∀k,Zcr ops k=some t->k<i/\Data.SL listed k:=fun k hkt=>by
        unfold Zcr at hkt;cases e1:ops.toList[k]? with
        | none=>rw[e1]at hkt;cases hkt
        | some o1=>
          rw[e1]at hkt;have hkt:o1.dst=some t:=hkt;have:=hall k o1 e1;rw[K7.2 hkt,KK,Gm]at this;obtain⟨e,he,hb,rfl⟩:=ZlK this;have he1:=hp1.1;unfold Zar at he1;rw[Kd]at he1;have h3:=he1 e (by simpa using he);rw[hb,Cq1,G4]at h3;exact⟨h3,hr e he hb⟩
       by_cases hex:∃k,Zcr ops k=some t
       ·obtain⟨k,hkt⟩:=hex;obtain⟨k1,k2⟩:=ZaK k hkt;rw[hfs.1 k t Va k2 hkt,(stage i hic).1 k t k1 hkt]
       ·rw[hfs.2 t fun k _ _ z=>hex ⟨k,z⟩,(stage i hic).2 t fun k _ z=>hex ⟨k,z⟩]
      rcases Nat.lt_or_eq_of_le hic with hlt|rfl
      ·obtain⟨d,op,ty,p,af,z1,z2,z3,z4⟩:=hk i hlt;have eo:o=⟨some d,op,ty,p,af,none⟩:=by have:=hget ho;rw[z1]at this;exact(Oi0 this).symm
       subst eo;have hdi:Zcr ops i=some d:=by unfold Zcr;rw[z1];rfl
       have hS:∀k,Data.SL (listed.setIfInBounds i true) k↔Data.SL listed k\/k=i:=by
        intro k;unfold Data.SL;by_cases hki:k=i
        ·subst hki;simp[Q3,show k<listed.size by omega]
        ·rw[getD_set_ne false (Ne.symm hki)];simp[hki]
       refine UA (K3 X) (Zv2 (ih:=fun _=>none) (rd:=rd) rfl (ZFd.trans z3) rfl z2) hinv (KB Zy Vb) (hF.mono hst.ext) (fun _ ρ2 a2 w2 ZlJ Zdv=>?_) (fun v he=>by cases he);refine ih (listed.setIfInBounds i true) (by simpa using hsz) ?_ (fun j hj z=>?_) ρ2 (Tr.set frS d (vs i)) a2 w2 ZlJ (hst.trans hi'.rel.lt Zdv) ⟨fun k t hkc hSk hkt=>?_,fun t ht=>?_⟩
       ·have heq:(List.range ops.size).filter (fun k=>!(listed.setIfInBounds i true).getD k true)=((List.range ops.size).filter (fun k=>!listed.getD k true)).filter (fun k=>k≠i):=by
         rw[List.filter_filter];apply List.filter_congr;intro k hk';rw[GV]at hk';by_cases hki:k=i
         ·subst hki;simp[Q3,show k<listed.size by omega]
         ·rw[getD_set_ne true (Ne.symm hki)];simp[hki]
        rw[heq]
        have hmem:i∈(List.range ops.size).filter (fun k=>!listed.getD k true):=by
         rw[GX];exact⟨GV.2 him,by rw[q1];rfl⟩
        have:(((List.range ops.size).filter (fun k=>!listed.getD k true)).filter (fun k=>k≠i)).length<((List.range ops.size).filter (fun k=>!listed.getD k true)).length:=
         List.length_filter_lt_length_iff_exists.2 ⟨i,hmem,by simp⟩
        omega
       ·rcases(hS j).1 z with z|z
        ·exact hc j hj z
        ·omega
       ·show Fr.at (Tr.set frS d (vs i)) t=vs k;by_cases e:t=d
        ·subst e;rw[uniq hkt hdi];simp[Fr.at,Tr.XB]
        ·have:Fr.at (Tr.set frS d (vs i)) t=frS.at t:=by simp[Fr.at,Tr.XB,e]
         rw[this];refine hfs.1 k t hkc ?_ hkt;rcases(hS k).1 hSk with z|z
         ·exact z
         ·subst z;rw[hdi]at hkt;cases hkt;exact absurd rfl e
       ·have e:¬ t=d:=fun e=>ht i hlt ((hS i).2 (.inr rfl)) (by rw[hdi,e])
        have:Fr.at (Tr.set frS d (vs i)) t=frS.at t:=by simp[Fr.at,Tr.XB,e]
        show Fr.at (Tr.set frS d (vs i)) t=fr.at t;rw[this];exact hfs.2 t fun k hkc hSk=>ht k hkc ((hS k).2 (.inl hSk))
      ·have eo:o=oc:=by have:=hget ho;rw[hoc]at this;exact(Oi0 this).symm
       subst eo;have g:=ZY.none (ops:=ops) (fr:=frS) hg
       have ZQf:JX X (fun _=>false) (JD (.call f args wm h) (.fin (.Z9 v) h2)) n wm rd ops.toList o ⟨frS,ds,h,none⟩=some (.panic v,⟨frS,ds,h2,none⟩):=by
        unfold JX;rw[g.1,g.2];dsimp only[KK,Cq0,Cq1];rw[ZFd.trans hcall];dsimp only[KK,Cq0,Cq1];rw[show Eff.apply wm h Eff.none=some h from rfl];unfold Kh;dsimp only[Js,Cq0];rw[Xi]
        rfl
       refine UA (Xh Zyv) ZQf hinv Zy (hF.mono hst.ext) (fun he=>by cases he) (fun v' he ρ2 v2 a2 w2 hv ZlJ Zdv=>?_);cases he;have QX:=hst.trans hi'.rel.lt Zdv;exact⟨ρ2,.panic hv,⟨ZlJ.rel,⟨ZlJ.fr.size,fun t ht=>(by obtain⟨z1,z2⟩:=Zsa i ht;have z3:=hfs.2 t fun k hk' _=>z1 k hk';show VR ρ2 ((frP ops fr i).at t) _;rw[z2,<-z3];refine ZlJ.fr.val t ?_;show X6 (frS.at t)=false;rw[z3,<-z2];exact ht)⟩,ZlJ.ds⟩,⟨QX.ext,QX.size,QX.keep,QX.own,QX.live,QX.os,QX.tape,QX.output,QX.Y8,QX.frame,QX.JE⟩⟩
     ·have hle:Nat.ble i c=false:=by
       cases z:Nat.ble i c
       ·rfl
       ·exact absurd (Nl0 z) hic
      have hlk:=hp1.2;rw[hle,Cq0]at hlk;obtain⟨e,he,hb,hec⟩:=ZlK hlk;have:=hr e he hb;rw[hec]at this;exact absurd this (hc c Vb)
 have hno:∀k,¬ Data.SL (Array.replicate ops.size false) k:=by
  intro k;unfold Data.SL;rw[Q3,Array.getElem?_replicate];split<;>simp
 exact main ops.size _ (by simp) (KB (List.length_filter_le _ _) (by simp)) (fun j _=>hno j) ρ fr a _ hi' (Stp.refl _ _ _ _) ⟨fun k t _ z=>absurd z (hno k),fun t _=>rfl⟩
end
section
variable{P:V0}
def Zds(o:O Nat):N:=.pointer (o.map fun b=>⟨b,0,none⟩)
abbrev pV(b:Nat):N:=(V9 b)
def ZAS{t e:J}{x:GZ}{o:O Nat}(hu:P.underlying t=some (.pointer e)):QO P .neq t x (.const (.pointer none)) (Zds o) (.pointer none)=some (.val (.bool o.isSome),.none):=by
 cases o with
 | some b=>
   have hp:(plain (Zds (some b))&&plain (.pointer none))=false:=rfl;unfold QO;rw[hp,Cq0];have:ZeM P t (Zds (some b)) (.pointer none)=some false:=by unfold ZeM;rw[hu];rfl
   rw[this];rfl
 | none=>
   unfold QO;rw[show(plain (Zds none)&&plain (.pointer none))=true from rfl,Cq1];unfold KJ
   have h1:Zu P (eqGuard .neq t x (.const (.pointer none)) (Zds none) (.pointer none))=some (.ok ()):=by
    cases x<;>rfl
   rw[prb h1]
   have h2:Zu P (Op.equal t (Zds none) (.pointer none))=some (.ok true):=by
    show Zu P (Op.equalIn (9999+1) t (.pointer none) (.pointer none))=_;unfold Op.equalIn;rw[prb (Y6 hu)];rfl
   have:Zu P (binOp .neq t (Zds none) (.pointer none))=some (.ok (.bool false)):=by
    show Zu P (do pure (Value.bool (!(<-Op.equal t (Zds none) (.pointer none)))):Sem N)=_;rw[prb h2];rfl
   rw[this];rfl
def ZiL{κ ν μ:Type}[DecidableEq κ](f:ν->μ)(l:U (κ×ν))(k:κ):Yg (l.map fun q=>(q.1,f q.2)) k=(Yg l k).map fun q=>(q.1,f q.2):=by
 induction l with
 | nil=>rfl
 | cons p l ih=>
   simp only[G3,Yg];by_cases h:p.1=k
   ·rw[if_pos h,if_pos h];rfl
   ·rw[if_neg h,if_neg h,ih];cases Yg l k<;>rfl
def Zu8{κ ν μ:Type}[DecidableEq κ](f:ν->μ)(l:U (κ×ν))(k:κ):ZR (l.map fun q=>(q.1,f q.2)) k=(ZR l k).map f:=by
 unfold ZR;rw[ZiL];cases Yg l k<;>rfl
end
end Go.ZP
end
end
section
set_option maxRecDepth 20000
noncomputable section
namespace Go.Proofs.YtbnepjakjmnadaaGreat
open Go.ZP Go.Lf
section
abbrev EV:=SlP×Zi
def vvE(q:EV):N:=.agg (Ztf q.1 q.2).toArray
def ev0:EV:=((none,0),⟨0,0,⟨#[]⟩,[]⟩)
structure SE where
 b:Nat
 ar:Option Nat
 m:Option Nat
 es:List (ByteArray×EV)
def Zth(w:Nat)(e:SE):U N:=[pV w,Zds e.ar,.map e.m]
def stA(wm w:Nat)(S:U SE):Ast wm where
 P:=fun h=>∀e∈S,(h.at e.b=.row (Zth w e) true 0/\wm<=e.b)/\Zle Value.string vvE wm h e.m e.es/\∀x∈e.es,ZcJ wm h x.2.1 x.2.2
 fp:=fun i=>∃e∈S,i=e.b\/e.m=some i
 loc:=fun f k s e he=>⟨⟨by rw[k e.b ⟨e,he,.inl rfl⟩];exact(s e he).1.1,(s e he).1.2⟩,⟨(s e he).2.1.at_.keep fun i hi=>k i ⟨e,he,.inr hi⟩,(s e he).2.1.low⟩,fun x hx=>((s e he).2.2 x hx).mono f⟩
 own:=fun{h i} s ⟨e,he,hi⟩=>by
  rcases hi with rfl|hi
  ·exact⟨(s e he).1.2,by rw[(s e he).1.1];rfl⟩
  ·refine⟨(s e he).2.1.low i hi,?_⟩;rcases(s e he).2.1.at_.mem with⟨q,_⟩|⟨j,bs,Qe,q,h1,_⟩
   ·rw[q]at hi;cases hi
   ·rw[q]at hi;cases hi;rw[h1];rfl
abbrev NM:=U (Y×Zi)
def Zrv(es:U (Y×EV)):NM:=es.map fun q=>(q.1,q.2.2)
inductive Rd(S:List SE):Option Nat->List NM->Prop
 | nil:Rd S none []
 | cons {e:SE} {c:List NM} (he:e∈S) (hr:Rd S e.ar c):Rd S (some e.b) (Zrv e.es::c)
def Rd.mono{S S':U SE}(hs:∀e∈S,e∈S'){o:O Nat}{c:U NM}(r:Rd S o c):Rd S' o c:=by
 induction r with
 | nil=>exact .nil
 | cons he _ ih=>exact .cons (hs _ he) ih
def ZGi:XX.P.underlying 111=some (.pointer 164):=Kq0
def ZwI:XX.P.underlying 115=some (.map 9 36):=Kq0
def Zy7:Zr XX.P 164 0 0:=Zr.of Kq0
instance:QR XX.P 164 0 0:=⟨Zy7⟩
def ZpL:Zr XX.P 164 1 1:=Zr.of Kq0
instance:QR XX.P 164 1 1:=⟨ZpL⟩
def ZpK:Zr XX.P 164 2 2:=Zr.of Kq0
instance:QR XX.P 164 2 2:=⟨ZpK⟩
def Zzk:Zr XX.P 110 0 0:=Zr.of Kq0
instance:QR XX.P 110 0 0:=⟨Zzk⟩
def Zzj:Zr XX.P 110 1 1:=Zr.of Kq0
instance:QR XX.P 110 1 1:=⟨Zzj⟩
def Zzi:Zr XX.P 110 2 2:=Zr.of Kq0
instance:QR XX.P 110 2 2:=⟨Zzi⟩
def ZAM:YE XX.P 111=some false:=Kq0
instance:W9 XX.P 111:=⟨ZAM⟩
def Zkq:YE XX.P 107=some false:=Kq0
instance:W9 XX.P 107:=⟨Zkq⟩
def ZAN:YE XX.P 108=some false:=Kq0
instance:W9 XX.P 108:=⟨ZAN⟩
def ZAL:YE XX.P 115=some false:=Kq0
instance:W9 XX.P 115:=⟨ZAL⟩
def ZBy:YM XX.P 36=some (vvE ev0):=ZfP
section
variable{wm w:Nat}{S:U SE}{h h0:H}{T:Nat->Prop}{G Gr:U (Ast wm)}{e:SE}
def Zlm(s:Sp wm T h0 G h)(p:Pk G (stA wm w S) Gr)(he:e∈S):At h e.b 0 (Zth w e):=At.box (s.get p e he).1.1
def ZGs(s:Sp wm T h0 G h)(p:Pk G (stA wm w S) Gr)(he:e∈S):MapAt Value.string vvE h e.m e.es:=(s.get p e he).2.1.at_
end
def ZjT(x:Y):U NM->(U NM->O (Zi×Z))->O (Zi×Z):=fun c next=>match c with
 | []=>some (⟨0,0,⟨#[]⟩,[]⟩,false)
 | m::r=>bif(ZR m x).isSome then some ((ZR m x).getD ⟨0,0,⟨#[]⟩,[]⟩,true) else next r
def Zg2(F:Nat)(c:U NM)(x:Y):O (Zi×Z):=loop F (ZjT x) c
def Zx8:(XX.fns.get 147).isSome=true:=Kq0
end
section
def Zt2{F wm w:Nat}{S:U SE}{h:H}{o:O Nat}{c:U NM}{x:Y}{r:Zi×Z}(Zy:wm<=h.size)(hr:Rd S o c)(hO:Yp (wm:=wm) [stA wm w S] h)(hL:Zg2 F c x=some r):
 WR XX 147 #[Zds o,.string x] wm h (CP (fun(v:N)(Gb:U (Ast wm))=>∃(ra:O Addr) (rc:Nat),v=.tuple #[.agg #[.int .i64 r.1.op,.int .i64 r.1.n,.string r.1.text,.slice ra r.1.kids.length rc],.bool r.2]/\Gb=[Yi wm (YB Zh) (ra,rc) r.1.kids,stA wm w S]) [stA wm w S] h):=by
 refine WF.begin (args:=[_,_]) (fn:=Tryz.f147) Kq0 (by exact rfl) Tryz.ntmps147 (by simp) ?_;simp only[Zq,Zx,Nat.reduceAdd];obtain⟨T,hT,hS⟩:∃T,T=QF (wm:=wm) [stA wm w S]/\Sp wm T h [stA wm w S] h:=⟨_,rfl,Sp.start Zy hO⟩
 unfold Zg2 at hL;refine r3 ?_;rintro _ h4 ⟨b3,eb3,rfl,hS⟩;refine r8 ?_;refine r3 ?_;refine WC.loop (WL.lift hL (fun(c:U NM)(s:Fs)=>∃(fr6:Fr) (h5:H) (o:O Nat),s=⟨fr6,[],h5,none⟩/\Sp wm T h [bx wm b3 [.int .i64 0,.int .i64 0,.string (⟨#[]⟩:Y),.slice none 0 0],stA wm w S] h5/\Rd S o c/\fr6.at 1=.string x/\fr6.at 4=.pointer (some ⟨b3,0,none⟩)/\fr6.at 6=Zds o) ⟨_,_,o,rfl,hS.only (.c k0 (.c k0 .n)),hr,YC rfl fh,Z8 rfl (Zg rfl fh),fh⟩ ?_);clear hL hS;rintro Zl c s Xm hL ⟨fr6,h5,o,rfl,hS,hr,e1,e4,e6⟩;refine r2 ?_;refine WC.region ?_;refine Vc (ZO (Zj e6 rfl)) ?_;refine Vc (Y5 (Zj fh rfl) (J2 rfl) (ZAS ZGi)) ?_;refine WO.nil ?_;refine ZB.Yc ?_;refine WC.Uc (Zj fh rfl) (fun hc=>?_) (fun hc=>?_)
 ·cases hr with
  | nil=>cases hc
  | @cons e c he hr=>
  dsimp only[ZjT]at hL;rw[show ZR (Zrv e.es) x=(ZR e.es x).map (·.2) from Zu8 (fun q:EV=>q.2) e.es x]at hL;refine WC.skip ?_;refine ZB.Yc ?_;refine WC.seq ?_;refine WC.block ?_;refine WC.seq ?_;refine WC.region ?_;refine Vc (ZO (Zj (Z8 rfl e6) rfl)) ?_;refine Vc (ZsE (Zj fh rfl)) ?_;refine Vc (YI ZpK (Zj fh rfl)) ?_;refine Vc (Yt ZAL (Zj fh rfl) (Zlm hS k1 he) (j:=2) rfl (v:=.map e.m) rfl) ?_;refine Vc (ZO (Zj (YC rfl (Z8 rfl e1)) rfl)) ?_;refine Vc (Zul Ws ZwI ZBy (Zj (Zg rfl fh) rfl) (Zj fh rfl) (ZGs hS k1 he)) ?_;generalize hq:(ZR e.es x).getD ev0=q;refine r1 ?_;refine Vc (Xg lk rfl) ?_;refine Vc (Xg lk rfl) ?_;refine r1 ?_;rintro _ h8 ⟨b7,eb7,rfl,hS⟩;refine r1 ?_;rintro h9 hS;refine r8 ?_;refine WC.Uc lk (fun hc=>?_) (fun hc=>?_)
  ·rw[show((ZR e.es x).map (·.2)).isSome=(ZR e.es x).isSome by cases ZR e.es x<;>rfl]at hL;replace hL:=Xp hc hL;obtain⟨q',hq'⟩:=GT.1 hc;have hqq:q=q':=by rw[<-hq,hq'];rfl
   subst hqq
   have hmem:(x,q)∈e.es:=by
    unfold ZR at hq';cases hf:Yg e.es x with
    | none=>rw[hf]at hq';cases hq'
    | some z=>rw[hf]at hq';cases hq';exact GK (Za7 hf)
   refine r4 ?_;rintro h10 hS;refine r8 ?_;refine r1 ?_;have hS:=hS.add (A:=Yi wm (YB Zh) (q.1.1,q.1.2) q.2.kids) (Y1.1 ((hS.get k2 e he).2.2 _ hmem)) (fun _ z=>z);have hr:(q.2,true)=r:=by have:=Oi0 hL;rw[hq']at this;exact this
   subst hr;exact Y0.gen (vs:=[.agg #[.int .i64 q.2.op,.int .i64 q.2.n,.string q.2.text,.slice q.1.1 q.2.kids.length q.1.2],.bool true]) rfl (YP (YJ rfl (YJ rfl e4)) (Xc Wy Xk (hS.Jp k1) (j:=0) rfl rfl (ws:=[.int .i64 q.2.op,.int .i64 q.2.n,.string q.2.text,.slice q.1.1 q.2.kids.length q.1.2]) rfl) (ZG (Zj fh rfl) Zk)) rfl ⟨_,⟨q.1.1,q.1.2,rfl,rfl⟩,hT▸hS.only (.c k0 (.c k2 .n))⟩
  ·rw[show((ZR e.es x).map (·.2)).isSome=(ZR e.es x).isSome by cases ZR e.es x<;>rfl]at hL;replace hL:=Xq hc hL;refine WC.skip ?_;refine Yy.Yc ?_;refine ZB.Yc ?_;refine WC.region ?_;refine Vc (ZO (Zj (YJ rfl (YC rfl (Z8 rfl e6))) rfl)) ?_;refine Vc (ZsE (Zj fh rfl)) ?_;refine Vc (YI ZpL (Zj fh rfl)) ?_;refine Vc (Yt ZAM (Zj fh rfl) (Zlm hS k2 he) (j:=1) rfl (v:=Zds e.ar) rfl) ?_;refine Vc (ZW (Zj fh rfl)) ?_;refine WO.nil ?_;exact Ya.Yc (Xm _ _ hL ⟨_,_,e.ar,rfl,hS.only (.c k1 (.c k1 .n)),hr,YJ rfl (YJ rfl (Z8 rfl (Zg rfl e1))),YJ rfl (YJ rfl (Z8 rfl (Zg rfl e4))),fh⟩)
 ·cases hr with
  | cons he hr=>cases hc
  | nil=>
  dsimp only[ZjT]at hL;refine WC.exit ?_;refine ZB.exit ?_;refine Ya.exit ?_;refine r4 ?_;refine Vc (XL Zuh Z5 rfl (cs':=[.int .i64 0,.int .i64 0,.string (⟨#[]⟩:Y),.slice none 0 0]) rfl) ?_;refine r1 ?_;rintro h22 hS;refine r4 ?_;have hS:=hS.add (A:=Yi wm (YB Zh) (none,0) []) Sl.nil (fun _ z=>z);have hr:=Oi0 hL;subst hr;exact Y0.gen (vs:=[.agg #[.int .i64 0,.int .i64 0,.string (⟨#[]⟩:Y),.slice none 0 0],.bool false]) rfl (YP (YC rfl e4) (Xc Wy Xk (hS.Jp k1) (j:=0) rfl rfl (ws:=[.int .i64 0,.int .i64 0,.string (⟨#[]⟩:Y),.slice none 0 0]) rfl) (ZG lk Zk)) rfl ⟨_,⟨none,0,rfl,rfl⟩,hT▸hS.only (.c k0 (.c k1 .n))⟩
abbrev MB:=U (Y×Z)
structure FV(wm:Nat) where
 v:Value
 A:Ast wm
def noA(wm:Nat):Ast wm:=⟨fun _=>True,fun _=>False,fun _ _ _=>trivial,fun _ z=>z.elim⟩
abbrev FV0{wm:Nat}:FV wm:=⟨.nilFunc,noA wm⟩
def wbA(wm w cf:Nat)(ct:O Nat)(fv:FV wm):Ast wm where
 P:=fun h=>(bx wm w [.map (some cf),.map ct,fv.v]).P h/\fv.A.P h
 fp:=fun i=>i=w\/fv.A.fp i
 loc:=fun f k s=>⟨(bx wm w _).loc f (fun i hi=>k i (.inl hi)) s.1,fv.A.loc f (fun i hi=>k i (.inr hi)) s.2⟩
 own:=fun s hi=>hi.elim (fun e=>(bx wm w _).own s.1 e) (fun e=>fv.A.own s.2 e)
section
variable{wm w cf:Nat}{ct:O Nat}{fv:FV wm}{h h0:H}{T:Nat->Prop}{G Gr:U (Ast wm)}
def Zs9(s:Sp wm T h0 G h)(p:Pk G (wbA wm w cf ct fv) Gr):At h w 0 [.map (some cf),.map ct,fv.v]:=At.box (s.get p).1.1
def ZF6(hS:Sp wm T h0 ([bx wm w [.map (some cf),.map ct,fv.v],fv.A]++Gr) h):Sp wm T h0 ([wbA wm w cf ct fv]++Gr) h:=
 hS.say (Yp.one ⟨hS.get (Gr:=_) k0,hS.get (Gr:=_) k1⟩) fun i hi=>by
   obtain⟨A,hA,hi⟩:=hi;rw[G7.1 hA]at hi;rcases hi with rfl|hi
   ·exact⟨_,Gy,rfl⟩
   ·exact⟨fv.A,by simp,hi⟩
end
abbrev WI(wm w cf:Nat)(ct:O Nat)(fv:FV wm)(free taken:MB)(S:U SE):U (Ast wm):=
 [wbA wm w cf ct fv,mp wm Value.string Value.bool (some cf) free,mp wm Value.string Value.bool ct taken,stA wm w S]
def Zi2:(XX.fns.get 149).isSome=true:=Kq0
def okP{α:Type}:PR α->O α
 | .ok a=>some a
 | .Z9 _=>none
def ZiB{α β:Type}{x:O (PR α)}{f:α->β}{r:β}(h:((x.bind okP).map f)=some r):∃a,x=some (.ok a)/\f a=r:=by
 cases x with
 | none=>cases h
 | some p=>
   cases p with
   | ok a=>exact⟨a,rfl,Oi0 h⟩
   | Z9 e=>cases h
def Y0.ZmJ{X:Ctx}{fn:Func}{β:Type}{wm:Nat}{t:J}{K:β->N->U (Ast wm)->Prop}{Ga G:U (Ast wm)}{h0 h:H}{T:Nat->Prop}{k:Int}{fr:Fr}{wr:O Nat}(hT:T=QF Ga)(hS:Sp wm T h0 G h):Y0 X fn (PQ t K Ga h0 (.Z9 k)) (.panic (pv t k)) ⟨fr,[],h,wr⟩:=⟨⟨rfl,rfl,hT▸hS.only .n⟩⟩
def ZlV(F:Nat)(free:MB)(c:U NM)(x:Y):O (PR (MB×Y)):=
 (Zg2 F c x).bind fun y=>bif !y.2 then some (.ok (Xw free x true,x)) else bif y.1.op !=2 then some (.Z9 7) else some (.ok (free,y.1.text))
def ZjS(F:Nat)(free:MB)(c:U NM)(x:Y):O (MB×Y):=((ZlV F free c x).bind okP).map id
def ZjR{F wm w cf:Nat}{ct:O Nat}{fv:FV wm}{free taken:MB}{S:U SE}{h:H}{b:Nat}{c:U NM}{x:Y}{r:PR (MB×Y)}(Zy:wm<=h.size)(hr:Rd S (some b) c)(hO:Yp (WI wm w cf ct fv free taken S) h)(hL:ZlV F free c x=some r):
 WF XX 149 #[pV b,.string x] wm h (PQ 147 (fun(r:MB×Y) v (Gb:U (Ast wm))=>v=.string r.2/\Gb=WI wm w cf ct fv r.1 taken S) (WI wm w cf ct fv free taken S) h r):=by
 refine WF.begin (args:=[_,_]) (fn:=Tryz.f149) Kq0 (by exact rfl) Tryz.ntmps149 (by simp) ?_;simp only[Zq,Zx,Nat.reduceAdd];obtain⟨T,hT,hS⟩:∃T,T=QF (WI wm w cf ct fv free taken S)/\Sp wm T h (WI wm w cf ct fv free taken S) h:=⟨_,rfl,Sp.start Zy hO⟩
 unfold ZlV at hL
 obtain⟨e,he,hbe,ar,c',hc',hr'⟩:∃e,e∈S/\e.b=b/\∃ar c',c=Zrv e.es::c'/\e.ar=ar:=by
  cases hr with
  | @cons e c' he hr=>exact⟨e,he,rfl,_,c',rfl,rfl⟩
 subst hbe;refine r8 ?_;refine r1 ?_;obtain⟨y,hy,hL⟩:=bS hL;refine Vd (Yo.fn Zx8 (Zb (Zj (Zg rfl fh) rfl) (Zb (Zj fh rfl) Zd))) hS (.c k3 .n) (fun g' hz hf hO=>Zt2 (hS.Vg hz) hr hO hy) ?_;rintro _ h5 _ ⟨ra,rc,rfl,rfl⟩ hS;refine r1 ?_;refine Vc (Xg (Zj fh rfl) rfl)<|Vc (Xg (Zj (Zg rfl fh) rfl) rfl)<|r1 ?_;rintro _ h8 ⟨b7,eb7,rfl,hS⟩;refine r1 ?_;rintro h9 hS;refine r8 ?_;refine r2 ?_;refine cn hL ?_ ?_
 ·intro hc hL;refine r4 ?_;refine r1 ?_;refine Vc (Yt Zkq (Zj fh rfl) (Zlm hS k2 he) (j:=0) rfl (v:=pV w) rfl)<|r2 ?_;refine Vc (Yt ZqJ (Zj fh rfl) (Zs9 hS k3) (j:=0) rfl (v:=.map (some cf)) rfl)<|r1 ?_;refine WO.hu gN (ZeA (kv:=Value.string) (vv:=Value.bool) (v:=true) hS k4 Ws JR (Zj (Zg rfl fh) rfl) (Zj fh rfl) (J2 rfl)) ?_;rintro h10 hS;refine r8 ?_;refine r2 ?_;have hr:=Oi0 hL;subst hr;exact Y0.Jb rfl (ZG (Zj fh rfl) Zk) ⟨_,⟨rfl,rfl⟩,hT▸hS.only (.c k4 (.c k0 (.c k3 (.c k2 .n))))⟩
 ·intro hc hL;refine r8 ?_;refine r2 ?_;refine cn hL ?_ ?_
  ·intro hc hL;refine WC.region<|WO.Kg gN (Yo.fn ZeU (Zb (J2 rfl) Zd)) hS .n (fun g' hz hf hO=>Zbf (p0:=7) (hS.Vg hz) rfl) ?_;rintro h12 hS;refine ZB.panic ?_;have hr:=Oi0 hL;subst hr;exact Y0.ZmJ hT hS
  ·intro hc hL;refine r8 ?_;refine r2 ?_;have hr:=Oi0 hL;subst hr;exact Y0.Jb rfl (ZG (Zj fh rfl) Zk) ⟨_,⟨rfl,rfl⟩,hT▸hS.only (.c k3 (.c k3 (.c k3 (.c k2 .n))))⟩
def Znu{F wm w cf:Nat}{ct:O Nat}{fv:FV wm}{free taken:MB}{S:U SE}{h:H}{b:Nat}{c:U NM}{x:Y}{r:MB×Y}(Zy:wm<=h.size)(hr:Rd S (some b) c)(hO:Yp (WI wm w cf ct fv free taken S) h)(hL:ZjS F free c x=some r):
 WR XX 149 #[pV b,.string x] wm h (CP (fun v (Gb:U (Ast wm))=>v=.string r.2/\Gb=WI wm w cf ct fv r.1 taken S) (WI wm w cf ct fv free taken S) h):=by
 obtain⟨a,ha,rfl⟩:=ZiB hL;exact PQ.ok (ZjR Zy hr hO ha)
end
section
def Zya:(XX.fns.get 117).isSome=true:=Kq0
def ZjW(e:Zi)(Zl:MB×Zi->O (MB×Zi)):Int×MB×U Zi->(Int×MB×U Zi->O (MB×Zi))->O (MB×Zi):=fun(i,fr,acc) ZxC=>
 bif decide (i<(e.kids.length:Int)) then(ZN e.kids i).bind fun x=>(Zl (fr,x)).bind fun y=>(app 56 acc [y.2]).bind fun z=>ZxC (YX (i+1),y.1,z) else some (fr,Zi.mk e.op e.n ⟨#[]⟩ acc)
def Zed(F:Nat)(c:U NM):MB×Zi->(MB×Zi->O (MB×Zi))->O (MB×Zi):=fun(fr,e) Zl=>
 bif e.op==2 then(Zg2 F c e.text).bind fun y=>bif y.2 then(Zt1 F y.1).bind fun z=>some (fr,z) else some (Xw fr e.text true,e) else loop F (ZjW e Zl) (0,fr,[])
def ZFv(F:Nat)(c:U NM)(fr:MB)(e:Zi):O (MB×Zi):=loop F (Zed F c) (fr,e)
def ZzQ{F wm w cf:Nat}{ct:O Nat}{fv:FV wm}{taken:MB}{S:U SE}{b:Nat}{c:U NM}(hr:Rd S (some b) c):∀(Fr:Nat)(x:MB×Zi)(r:MB×Zi),loop Fr (Zed F c) x=some r->(match x with | (free,p0)=>∀{h:H}{pa:O Addr}{pc:Nat}(Zy:wm<=h.size)(hsp:Sl Zh wm h pa pc p0.kids)(hO:Yp (WI wm w cf ct fv free taken S) h),WR XX 117 #[pV b,.agg #[V8 p0.op,V8 p0.n,.string p0.text,.slice pa p0.kids.length pc]] wm h (CP (fun v (Gb:U (Ast wm))=>∃(ra:O Addr) (rc:Nat),v=.agg #[V8 r.2.op,V8 r.2.n,.string r.2.text,.slice ra r.2.kids.length rc]/\Gb=Yi wm (YB Zh) (ra,rc) r.2.kids::WI wm w cf ct fv r.1 taken S) (WI wm w cf ct fv free taken S) h)):=by
 obtain⟨e,he,hbe⟩:∃e,e∈S/\e.b=b:=by
  cases hr with
  | @cons e c' he hr=>exact⟨e,he,rfl⟩
 subst hbe;refine XU _ ?_;rintro Zl Xm ⟨free,p0⟩ r hL h pa pc Zy hsp hO;refine WF.begin (args:=[_,_]) (fn:=Tryz.f117) Kq0 (by exact rfl) Tryz.ntmps117 (by simp) ?_;simp only[Zq,Zx,Nat.reduceAdd];obtain⟨T,hT,hS⟩:∃T,T=QF (WI wm w cf ct fv free taken S)/\Sp wm T h (WI wm w cf ct fv free taken S) h:=⟨_,rfl,Sp.start Zy hO⟩
 refine r3 ?_;rintro _ h3 ⟨b2,eb2,rfl,hS⟩;refine r1 ?_;rintro _ h5 ⟨b4,eb4,rfl,hS⟩;refine r8 ?_;refine r2 ?_;refine cn hL ?_ ?_
 ·intro hc hL;obtain⟨y,hy,hL⟩:=bS hL;refine r4 ?_;refine r1 ?_;refine Vd (Yo.fn Zx8 (Zb (Zj (Z8 rfl fh) rfl) (Zb (Zj fh rfl) Zd))) hS (.c k5 .n) (fun g' hz hf hO=>Zt2 (hS.Vg hz) hr hO hy) ?_;rintro _ h6 _ ⟨ra,rc,rfl,rfl⟩ hS;refine r1 ?_;refine Vc (Xg (Zj fh rfl) rfl)<|Vc (Xg (Zj (Zg rfl fh) rfl) rfl)<|r1 ?_;rintro _ h8 ⟨b7,eb7,rfl,hS⟩;refine r1 ?_;rintro h9 hS;refine r8 ?_;refine r1 ?_;refine cn hL ?_ ?_
  ·intro hc hL;obtain⟨z,hz,hL⟩:=bS hL;refine r3 ?_;refine Vd (Yo.fn ZyG (Zb (Zj fh rfl) Zd)) hS .n (fun g' hz' hf hO=>ZDt (by rw[hz'];exact hS.hw) ((hS.Uo k1).mono hf) hz) ?_;rintro _ h10 _ ⟨ra2,rc2,rfl,rfl⟩ hS;refine r1 ?_;rintro h11 hS;refine r4 ?_;refine r1 ?_;have hr:=Oi0 hL;subst hr;exact Y0.Jb rfl (YP (YJ rfl (YC rfl (Z8 rfl (Zg rfl fh)))) (Xc Wy Xk (hS.Jp k0) (j:=0) rfl rfl (ws:=[V8 z.op,V8 z.n,.string z.text,.slice ra2 z.kids.length rc2]) rfl) Zk) ⟨_,⟨ra2,rc2,rfl,rfl⟩,hT▸hS.only (.c k1 (.c k5 (.c k5 (.c k5 (.c k3 .n)))))⟩
  ·intro hc hL;refine r3 ?_;refine WC.Ub mixed Kq0<|r3 ?_;refine Vf (Yt Zkq (Zj fh rfl) (Zlm hS k2 he) (j:=0) rfl (v:=pV w) rfl)<|r2 ?_;refine Vf (Yt ZqJ (Zj fh rfl) (Zs9 hS k5) (j:=0) rfl (v:=.map (some cf)) rfl)<|r2 ?_;refine WX.hu gN (ZeA (kv:=Value.string) (vv:=Value.bool) (k:=p0.text) (v:=true) hS k6 Ws JR (Zj (Z8 rfl fh) rfl) (Zj fh rfl) (J2 rfl)) ?_ rfl rfl [] Kq0 XP.e;rintro h10 hS;refine r6 ?_;rintro h11 hS;refine r4 ?_;have hS:=hS.add (A:=Yi wm (YB Zh) (pa,pc) p0.kids) (hS.sl hsp) (fun _ z=>z);have hr:=Oi0 hL;subst hr;exact Y0.Jb rfl (YP (YJ rfl (YJ rfl (YC rfl (Z8 rfl (Zg rfl fh))))) (Xc Wy Xk (hS.Jp k1) (j:=0) rfl rfl (ws:=[V8 p0.op,V8 p0.n,.string p0.text,.slice pa p0.kids.length pc]) rfl) Zk) ⟨_,⟨pa,pc,rfl,rfl⟩,hT▸hS.only (.c k0 (.c k6 (.c k1 (.c k5 (.c k3 .n)))))⟩
 ·intro hc hL;refine r8 ?_;refine Vc (XL Zuh (ZF (Zj (Z8 rfl fh) rfl) (ZF (Zj fh rfl) Z5)) rfl (cs':=[V8 p0.op,V8 p0.n,.string (⟨#[]⟩:Y),V7]) rfl)<|r1 ?_;rintro _ h7 ⟨b7,eb7,rfl,hS⟩;refine r1 ?_;rintro h8 hS;refine r12 ?_;have hS:=hS.nil (e:=Zh);refine WC.loop (WL.lift hL (fun(p:Int×MB×U Zi)(s:Fs)=>match p with | (i,fr,acc)=>∃(QA:Fr) (h9:H) (a18:O Addr) (c19:Nat) (n20:Nat),s=⟨QA,[],h9,none⟩/\Sp wm T h (bx wm b4 [V8 0,V8 0,.string (⟨#[]⟩:Y),V7]::ow wm Zh a18 n20 c19 acc::bx wm b7 [V8 p0.op,V8 p0.n,.string (⟨#[]⟩:Y),.slice a18 n20 c19]::WI wm w cf ct fv fr taken S) h9/\QA.at 0=pV e.b/\QA.at 4=(V9 b4)/\QA.at 7=(V9 b7)/\QA.at 39=.slice pa p0.kids.length pc/\QA.at 40= V8 (p0.kids.length:Int)/\QA.at 41= V8 i) ⟨_,_,none,0,0,rfl,hS.only (.c k2 (.c k0 (.c k0 (.c k1 (.c k1 (.c k1 (.c k1 .n))))))),(YJ rfl (YJ rfl fh)),(YJ rfl (YC rfl (Zg rfl fh))),(YC rfl fh),(Z8 rfl fh),(Zg rfl fh),fh⟩ ?_);rintro Za5 ⟨i,fr,acc⟩ s Uh hL ⟨QA,h9,a18,c19,n20,rfl,hS,e0,e4,e7,e39,e40,e41⟩;obtain rfl:=hS.on k1;refine r6 ?_;refine cn hL ?_ ?_
  ·intro hc hL;refine r6 ?_;obtain⟨KT,Zf5,hL⟩:=bS hL;obtain⟨b23,o24,⟨a25,c26⟩,UM,Uw,Uv,Qo⟩:=Sl.at_ hsp Zf5;replace Qo:=Y1.1 Qo;refine Vc (Yf Zaw Xk (Zj (Zg rfl e39) rfl) (Zj (Zg rfl e41) rfl) rfl UM Zf5) ?_;have Zb9:Sl Zh wm h a25 c26 KT.kids:=Qo;refine Vc (Yx Wy Xk (Zj fh rfl) (At.fz hS.fz Uv Uw) (j:=0) rfl rfl (ws:=[V8 KT.op,V8 KT.n,.string KT.text,.slice a25 KT.kids.length c26]) rfl)<|r1 ?_;rintro _ h28 ⟨b27,ZQY,rfl,hS⟩;refine r1 ?_;rintro h29 hS;refine r2 ?_;refine WC.Ub mixed Kq0<|r1 ?_;refine WX.wr (fun x=>x=b7) hS gN rfl (fun _ _ hR=>Yt ZAK (Zj fh rfl) (At.eqv (hR b7 rfl) (hS.Jp k3)) (j:=3) rfl (v:=.slice a18 acc.length c19) rfl) ?_ rfl rfl;rintro h30 e30 hS;refine r2 ?_;obtain⟨x30,Zpc,hL⟩:=bS hL;refine WX.cl gN rfl (Yo.fn Zya (Zb (Zj (Zg rfl fh) rfl) (Zb (Zj fh rfl) Zd))) hS (.c k4 (.c k4 (.c k4 (.c k4 .n)))) (fun g' hz hf hO=>(Xm _ _ Zpc) (hS.Vg hz) ((hS.sl Zb9).mono hf) hO) ?_ rfl rfl [1] Kq0 (.c .z (hS.djs (.c k3 (.c k3 (.c k3 (.c k3 (.c k3 .n)))))) XP.e);rintro _ h34 _ ⟨a31,c33,rfl,rfl⟩ hS;refine WX.hn gN rfl (KI (e:=Zh) hS Zaw Xk ZfP rfl rfl rfl (ZF (Zj fh rfl) Z5) rfl [((a31,c33),x30.2)] rfl (xs:=[x30.2]) rfl (by intro q hq;simp only[Kx,Gc,or_false]at hq;subst hq;exact(Y1.2 (hS.Uo k0))) rfl) ?_ Kq0;rintro _ h37 ⟨b36,Zz3,rfl,hS⟩;obtain⟨z38,ZG0,hL⟩:=bS hL;refine WX.hv gN rfl (Zak (e:=Zh) hS k8 Zkp (Zj (YC rfl fh) rfl) (Zj fh rfl) (hS.U8 k0) (hS.on k0) ZG0) ?_ rfl Kq0 [] Kq0 XP.e;rintro _ h41 ⟨a39,c40,rfl,hS⟩;refine WX.w gN rfl (YI Znd (Zj (YJ rfl (Z8 rfl (Zg rfl e7))) rfl)) ?_ Kq0;refine WX.hu gN (JO hS k9 Zmy (Zj fh rfl) (Zj (Zg rfl fh) rfl) (vs:=[.slice a39 z38.length c40]) rfl rfl rfl rfl (cs':=[V8 p0.op,V8 p0.n,.string (⟨#[]⟩:Y),.slice a39 z38.length c40]) rfl) ?_ rfl Kq0 [] Kq0 XP.e;rintro h42 hS;refine r6 ?_;refine r1 ?_;exact Ya.Yc (Uh _ _ hL ⟨_,_,a39,c40,z38.length,rfl,hS.only (.c k9 (.c k1 (.c k0 (.c k2 (.c k2 (.c k2 (.c k2 .n))))))),(YJ rfl (YC rfl (Z8 rfl e0))),(YJ rfl (YC rfl (Z8 rfl e4))),(YJ rfl (YC rfl (Z8 rfl e7))),(YJ rfl (YC rfl (Z8 rfl e39))),(YJ rfl (YC rfl (Z8 rfl e40))),fh⟩)
  ·intro hc hL;refine r8 ?_;refine r1 ?_;rintro h43 hS;refine r2 ?_;refine WC.fzn hS k1 ?_;rintro h44 ⟨hn45,hS⟩;refine r1 ?_;have hr:=Oi0 hL;subst hr;exact Y0.Jb rfl (YP (Z8 rfl e4) (Xc Wy Xk (hS.Jp k1) (j:=0) rfl rfl (ws:=[V8 p0.op,V8 p0.n,.string (⟨#[]⟩:Y),.slice a18 acc.length c19]) rfl) Zk) ⟨_,⟨a18,c19,rfl,rfl⟩,hT▸hS.only (.c k0 (.c k2 (.c k2 (.c k2 (.c k2 .n)))))⟩
end
end Go.Proofs.YtbnepjakjmnadaaGreat
end
end
section
set_option maxRecDepth 20000
noncomputable section
namespace Go.ZP
open Go.Lf
variable{P:V0}
def Zwe{t:J}{x:GZ}{a b c}(hu:P.underlying t=some (.func a b c)):QO P .neq t x (.const .nilFunc) .nilFunc .nilFunc=some (.val (.bool false),.none):=by
 unfold QO;rw[show(plain .nilFunc&&plain .nilFunc)=true from rfl,Cq1];unfold KJ
 have h1:Zu P (eqGuard .neq t x (.const .nilFunc) .nilFunc .nilFunc)=some (.ok ()):=by
  cases x<;>rfl
 rw[prb h1]
 have h2:Zu P (Op.equal t .nilFunc .nilFunc)=some (.ok true):=by
  show Zu P (Op.equalIn (9999+1) t .nilFunc .nilFunc)=_;unfold Op.equalIn;rw[prb (Y6 hu)];rfl
 have:Zu P (binOp .neq t .nilFunc .nilFunc)=some (.ok (.bool false)):=by
  show Zu P (do pure (Value.bool (!(<-Op.equal t .nilFunc .nilFunc))):Sem N)=_;rw[prb h2];rfl
 rw[this];rfl
def Zu6{κ ν μ:Type}[DecidableEq κ](f:ν->μ)(l:U (κ×ν))(k:κ)(x:ν):(Xw l k x).map (fun q=>(q.1,f q.2))=Xw (l.map fun q=>(q.1,f q.2)) k (f x):=by
 unfold Xw;rw[ZiL];cases h:Yg l k with
 | none=>simp
 | some q=>
   simp only[Option.map_some];refine GU fun i=>?_
   simp only[GQ,List.getElem?_modify];by_cases hi:q.1=i
   ·subst hi;simp only[if_pos];cases l[q.1]?<;>rfl
   ·simp only[if_neg hi];cases l[i]?<;>rfl
def ZxI{κ ν:Type}[DecidableEq κ]{l:U (κ×ν)}{k:κ}{x:ν}{q:κ×ν}(h:q∈Xw l k x):q∈l\/q.2=x:=by
 unfold Xw at h;cases hf:Yg l k with
 | none=>
   rw[hf]at h;rcases Q1.1 h with h|h
   ·exact .inl h
   ·rw[G7.1 h];exact .inr rfl
 | some p=>
   rw[hf]at h;obtain⟨i,hi⟩:=GB h;rw[List.getElem?_modify]at hi;cases hl:l[i]? with
   | none=>rw[hl]at hi;cases hi
   | some y=>
     rw[hl]at hi;have hi:some (if p.1=i then(y.1,x) else y)=some q:=hi;by_cases hp:p.1=i
     ·rw[if_pos hp]at hi;cases hi;exact .inr rfl
     ·rw[if_neg hp]at hi;cases hi;exact .inl (GK hl)
end Go.ZP
end
end
section
set_option maxRecDepth 20000
noncomputable section
namespace Go.Proofs.YtbnepjakjmnadaaGreat
open Go.ZP Go.Lf
section
def Zx7:(XX.fns.get 150).isSome=true:=Kq0
def ZCV:(XX.fns.get 172).isSome=true:=Kq0
def ZGj:∃a b c,XX.P.underlying 108=some (.func a b c):=⟨_,_,_,Tryz.underlying108⟩
def Zs3:YM XX.P 164=some (.agg #[.pointer none,.pointer none,.map none]):=Kq0
instance:U0 XX.P 164 (.agg #[.pointer none,.pointer none,.map none]):=⟨Zs3⟩
def ZAo:JQ XX.P 164 [.pointer none,.pointer none,.map none] [(0,1),(1,1),(2,1)]:=⟨_,_,Zs3,rfl,Tryz.underlying164,by kernel_rfl⟩
def esA(wm:Nat)(es:U (Y×EV)):Ast wm where
 P:=fun h=>∀x∈es,ZcJ wm h x.2.1 x.2.2
 fp:=fun _=>False
 loc:=fun f _ s x hx=>(s x hx).mono f
 own:=fun _ z=>z.elim
def ZwQ{wm w:Nat}{S:U SE}{h h0:H}{T:Nat->Prop}{Gr:U (Ast wm)}{b:Nat}{ar m:O Nat}{es:U (Y×EV)}
 (hS:Sp wm T h0 ([bx wm b [pV w,Zds ar,.map m],mp wm Value.string vvE m es,esA wm es,stA wm w S]++Gr) h):Sp wm T h0 ([stA wm w (⟨b,ar,m,es⟩::S)]++Gr) h:=by
 have h1:=hS.get (Gr:=_) k0;have h2:=hS.get (Gr:=_) k1;have h3:=hS.get (Gr:=_) k2;have h4:=hS.get (Gr:=_) k3;refine hS.say (Yp.one fun x hx=>?_) fun i hi=>?_
 ·rcases Kx.1 hx with rfl|hx
  ·exact⟨⟨h1.1,h1.2⟩,h2,h3⟩
  ·exact h4 x hx
 ·obtain⟨A,hA,hi⟩:=hi;rw[G7.1 hA]at hi;obtain⟨x,hx,hi⟩:=hi;rcases Kx.1 hx with rfl|hx
  ·rcases hi with rfl|hi
   ·exact⟨_,Gy,rfl⟩
   ·exact⟨_,Ks _ Gy,hi⟩
  ·exact⟨stA wm w S,by simp,x,hx,hi⟩
def ZjP(names to:U Y):Int×NM->(Int×NM->O NM)->O NM:=fun(i,m) next=>bif decide (i<(names.length:Int)) then(ZN names i).bind fun x=>(ZN to i).bind fun y=>(ZtZ y).bind fun z=>next (YX (i+1),Xw m x z) else some m
def ZjQ(F:Nat)(names:U Y):O NM:=loop F (ZjP names names) (0,[])
def ZzK{F wm w cf:Nat}{ct:O Nat}{free taken:MB}{S:U SE}{h:H}{b:Nat}{c:U NM}{names:U Y}{pa:O Addr}{pc:Nat}{wv:N}{r:NM}(Zy:wm<=h.size)(hr:Rd S (some b) c)(hsp:Sl Xb wm h pa pc names)(hO:Yp (WI wm w cf ct FV0 free taken S) h)(hL:ZjQ F names=some r):
 WR XX 150 #[pV b,.slice pa names.length pc,wv] wm h (CP (fun v (Gb:U (Ast wm))=>∃(S':U SE) (b':Nat),(∀e∈S,e∈S')/\v=Zds (some b')/\Rd S' (some b') (r::c)/\Gb=WI wm w cf ct FV0 free taken S') (WI wm w cf ct FV0 free taken S) h):=by
 refine WF.begin (args:=[_,_,_]) (fn:=Tryz.f150) Kq0 (by exact rfl) Tryz.ntmps150 (by simp) ?_;simp only[Zq,Zx,Nat.reduceAdd];obtain⟨T,hT,hS⟩:∃T,T=QF (WI wm w cf ct FV0 free taken S)/\Sp wm T h (WI wm w cf ct FV0 free taken S) h:=⟨_,rfl,Sp.start Zy hO⟩
 unfold ZjQ at hL
 obtain⟨e,he,hbe⟩:∃e,e∈S/\e.b=b:=by
  cases hr with
  | @cons e c' he hr=>exact⟨e,he,rfl⟩
 subst hbe;refine r16 ?_;refine r1 ?_;refine Vc (Yt Zkq (Zj fh rfl) (Zlm hS k3 he) (j:=0) rfl (v:=pV w) rfl)<|r2 ?_;refine Vc (Yt ZAN (Zj fh rfl) (Zs9 hS k0) (j:=2) rfl (v:=.nilFunc) rfl) ?_;obtain⟨ua,ub,uc,hu⟩:=ZGj;refine Vc (Y5 (Zj fh rfl) (J2 rfl) (Zwe hu))<|r2 ?_;refine WC.Uc (Zj fh rfl) (fun hc=>?_) (fun hc=>?_)
 ·cases hc
 ·refine WC.skip<|r6 ?_;refine Vc (Yt Zkq (Zj fh rfl) (Zlm hS k3 he) (j:=0) rfl (v:=pV w) rfl)<|r1 ?_;refine Ve (ZgQ Value.string vvE hS) ?_;rintro _ h2 ⟨bm,ebm,rfl,hS⟩;refine Vc (XL ZAo (ZF (Zj (Z8 rfl fh) rfl) (ZF (Zj (Zg rfl fh) rfl) (ZF (Zj fh rfl) Z5))) rfl (cs':=[pV w,pV e.b,.map (some bm)]) rfl)<|r1 ?_;rintro _ h3 ⟨bs,ebs,rfl,hS⟩;refine r12 ?_;have hS:=hS.add (A:=esA wm []) (fun x hx=>by cases hx) (fun _ z=>z);refine WC.loop (WL.lift hL (fun(p:Int×NM)(s:Fs)=>match p with | (i,m)=>∃(QA:Fr) (h9:H) (es:U (Y×EV)),s=⟨QA,[],h9,none⟩/\Sp wm T h (bx wm bs [pV w,pV e.b,.map (some bm)]::mp wm Value.string vvE (some bm) es::esA wm es::WI wm w cf ct FV0 free taken S) h9/\Zrv es=m/\QA.at 7=.slice pa names.length pc/\QA.at 8=(V9 bs)/\QA.at 39=.slice pa names.length pc/\QA.at 40= V8 (names.length:Int)/\QA.at 41= V8 i) ⟨_,_,[],rfl,hS.only (.c k1 (.c k1 (.c k0 (.c k0 (.c k0 (.c k0 (.c k0 .n))))))),rfl,(YJ rfl (YJ rfl (YC rfl fh))),(Z8 rfl (Zg rfl fh)),(Z8 rfl fh),(Zg rfl fh),fh⟩ ?_);rintro Za5 ⟨i,m⟩ s Uh hL ⟨QA,h9,es,rfl,hS,rfl,e7,e8,e39,e40,e41⟩;refine r6 ?_;refine cn hL ?_ ?_
  ·intro hc hL;refine r6 ?_;refine r1 ?_;obtain⟨KT,Zf5,hL⟩:=bS hL;obtain⟨b23,o24,_,UM,Uw,Uv,Qo⟩:=Sl.at_ hsp Zf5;refine Vc (Yf ZbN ZdA (Zj (Z8 rfl e39) rfl) (Zj (Z8 rfl e41) rfl) rfl UM Zf5)<|Vc (Yt Zlb (Zj fh rfl) (At.fz hS.fz Uv Uw) (j:=0) rfl (v:=.string KT) rfl)<|r4 ?_;refine WC.Ub mixed Kq0<|r6 ?_;refine r1 ?_;obtain⟨x25,hx25,hL⟩:=bS hL;obtain⟨b26,o27,_,ZL2,ZMI,ZMo,ZSd⟩:=Sl.at_ hsp hx25;refine Vf (Yf ZbN ZdA (Zj (Zg rfl fh) rfl) (Zj fh rfl) rfl ZL2 hx25)<|Vf (Yt Zlb (Zj fh rfl) (At.fz hS.fz ZMo ZMI) (j:=0) rfl (v:=.string x25) rfl) ?_;obtain⟨z,hz,hL⟩:=bS hL;refine WX.cl0 gN rfl (Yo.fn ZCV (Zb (Zj fh rfl) Zd)) hS .n (fun g' hz' hf hO=>ZDs (by rw[hz'];exact hS.hw) hz) ?_ rfl rfl;rintro _ h34 _ ⟨a31,c33,rfl,rfl⟩ hS;refine WX.hu gN (ZeA (kv:=Value.string) (vv:=vvE) (k:=KT) (v:=((a31,c33),z)) hS k2 Ws ZwI (Zj (YC rfl (Z8 rfl fh)) rfl) (Zj (YC rfl (Zg rfl fh)) rfl) (Zj fh rfl)) ?_ rfl Kq0 [] Kq0 XP.e;rintro h35 hS
   have hS:=hS.add (A:=esA wm (Xw es KT ((a31,c33),z))) (fun x hx=>by
    rcases ZxI hx with q|q
    ·exact hS.get k3 x q
    ·rw[q];exact Y1.2 (hS.Uo k1)) (fun _ z=>z)
   refine r6 ?_;refine r1 ?_;exact Ya.Yc (Uh _ _ hL ⟨_,_,Xw es KT ((a31,c33),z),rfl,hS.only (.c k3 (.c k1 (.c k0 (.c k2 (.c k2 (.c k2 (.c k2 .n))))))),Zu6 (fun q:EV=>q.2) es KT ((a31,c33),z),(YJ rfl (YJ rfl (Z8 rfl e7))),(YJ rfl (YJ rfl (Z8 rfl e8))),(YJ rfl (YJ rfl (Z8 rfl e39))),(YJ rfl (YJ rfl (Z8 rfl e40))),fh⟩)
  ·intro hc hL;refine r12 ?_;have hr':=Oi0 hL;subst hr';have hS:=ZwQ (S:=S) (b:=bs) (ar:=some e.b) (m:=some bm) (es:=es) (hS.only (.c k0 (.c k0 (.c k0 (.c k3 (.c k0 (.c k0 (.c k0 .n))))))));exact Y0.Jb rfl (ZG (Zj fh rfl) Zk) ⟨_,⟨⟨bs,some e.b,some bm,es⟩::S,bs,fun x hx=>Ks _ hx,rfl,Rd.cons (e:=⟨bs,some e.b,some bm,es⟩) Gy (hr.mono fun x hx=>Ks _ hx),rfl⟩,hT▸hS.only (.c k1 (.c k1 (.c k1 (.c k0 .n))))⟩
end
section
def Zb8:(XX.fns.get 118).isSome=true:=Kq0
def Zx6:(XX.fns.get 173).isSome=true:=Kq0
def ZsH:Zg9 XX.P #[128,128] 2 40:=⟨136,.agg #[.string ⟨#[]⟩,V7],by kernel_rfl⟩
def Zie:Yz XX.P 31=some 1:=Kq0
instance:SzF XX.P 31 1:=⟨Zie⟩
def Zte:Yz XX.P 128=some 1:=Kq0
instance:SzF XX.P 128 1:=⟨Zte⟩
abbrev WS:=MB×MB
abbrev U6:=MB->U NM->U Y->O MB->O (MB×NM)
def Zc7(F:Nat)(ci:U NM)(i:Int)(next:Int×MB×U Yk->O (PR (WS×Za)))(js:U Yk)(m:Yk)(tx:Y):Int×MB×U Y->(Int×MB×U Y->O (PR (WS×Za)))->O (PR (WS×Za)):=fun(j,fr,ns) ZxC=>
 bif decide (j<(m.names.length:Int)) then(ZN m.names j).bind fun x=>(ZjS F fr ci x).bind fun y=>(app 16 ns [y.2]).bind fun z=>ZxC (YX (j+1),y.1,z) else(app 40 js [Yk.mk tx ns]).bind fun z=>next (YX (i+1),fr,z)
def Zc8(F:Nat)(Uu:WS×U NM×Term->O (PR (WS×Term)))(c ci:U NM)(tk:MB)(p0:Za):Int×MB×U Yk->(Int×MB×U Yk->O (PR (WS×Za)))->O (PR (WS×Za)):=fun(i,fr,js) next=>
 bif decide (i<(p0.joins.length:Int)) then(ZN p0.joins i).bind fun m=>(ZjS F fr c m.text).bind fun y=>loop F (Zc7 F ci i next js m y.2) (0,y.1,[]) else(ZN p0.kids 0).bind fun k=>(Uu ((fr,tk),ci,k)).bind fun z=>JS z (fun e=>some (.Z9 e)) fun z=>some (.ok (z.1,Za.mk p0.form ⟨#[]⟩ js [] [z.2]))
def Ze7(F:Nat)(Ye:U6)(Ka:Za->U Y->O MB)(Uu:WS×U NM×Term->O (PR (WS×Term)))(ws:WS)(c:U NM)(p0:Za):Int×U Y->(Int×U Y->O (PR (WS×Za)))->O (PR (WS×Za)):=fun(i,names) next=>
 bif decide (i<(p0.joins.length:Int)) then(ZN p0.joins i).bind fun m=>(app 16 names m.names).bind fun z=>next (YX (i+1),z) else(Ye ws.2 c names (Ka p0 names)).bind fun bd=>loop F (Zc8 F Uu c (bd.2::c) bd.1 p0) (0,ws.1,[])
def ZlU(F:Nat)(Ye:U6)(Ka:Za->U Y->O MB)(Uu:WS×U NM×Term->O (PR (WS×Term)))(ws:WS)(c:U NM)(p0:Za):O (PR (WS×Za)):=loop F (Ze7 F Ye Ka Uu ws c p0) (0,[])
abbrev ZqQ(wm:Nat):=N->U (Ast wm)->O MB->Prop
def Zky(wm w cf:Nat)(ct:O Nat)(fv:FV wm)(WIN:ZqQ wm)(Ye:U6):Prop:=
 ∀{h:H}{S:U SE}{b:Nat}{c:U NM}{names:U Y}{pa:O Addr}{pc:Nat}{wv:N}{Gw:U (Ast wm)}{wi:O MB}{free taken:MB}{r:MB×NM},wm<=h.size->Rd S (some b) c->Sl Xb wm h pa pc names->WIN wv Gw wi->Ye taken c names wi=some r->Yp (Gw++WI wm w cf ct fv free taken S) h ->
   WR XX 150 #[pV b,.slice pa names.length pc,wv] wm h (CP (fun v (Gb:U (Ast wm))=>∃(S':U SE) (b':Nat),(∀e∈S,e∈S')/\v=Zds (some b')/\Rd S' (some b') (r.2::c)/\Gb=Gw++WI wm w cf ct fv free r.1 S') (Gw++WI wm w cf ct fv free taken S) h)
def Zn7(wm w cf:Nat)(ct:O Nat)(fv:FV wm)(Uu:WS×U NM×Term->O (PR (WS×Term))):Prop:=
 ∀(x:WS×U NM×Term)(r:PR (WS×Term)),Uu x=some r->∀{h:H}{S:U SE}{b:Nat}{p:TmP},wm<=h.size->Rd S (some b) x.2.1->Zm.F wm h p x.2.2->Yp (WI wm w cf ct fv x.1.1 x.1.2 S) h ->
   WF XX 118 #[pV b,.agg (Ju p x.2.2).toArray] wm h (PQ 147 (fun(r:WS×Term) v (Gb:U (Ast wm))=>∃(S':U SE) (q:TmP),(∀e∈S,e∈S')/\v=.agg (Ju q r.2).toArray/\Gb=Yi wm Zm q r.2::WI wm w cf ct fv r.1.1 r.1.2 S') (WI wm w cf ct fv x.1.1 x.1.2 S) h r)
abbrev ZN2(wm b3:Nat)(p:TmP)(x:Za)(b6:Nat)(a:O Addr)(c:Nat)(names:U Y):U (Ast wm):=[bx wm b3 (KH p x),Yi wm Zc p x,bx wm b6 [.slice a names.length c],Yi wm (YB Xb) (a,c) names]
def Zn5{wm:Nat}(WIN:ZqQ wm)(Ka:Za->U Y->O MB):Prop:=∀b3 p x b6 a c names,WIN (.func (.func 180) #[] #[(V9 b3),(V9 b6)]) (ZN2 wm b3 p x b6 a c names) (Ka x names)
def ZtY{F wm w cf:Nat}{ct:O Nat}{fv:FV wm}{WIN:ZqQ wm}{Ye:U6}{Ka:Za->U Y->O MB}{Uu:WS×U NM×Term->O (PR (WS×Term))}(hB:Zky wm w cf ct fv WIN Ye)(hW:Zn5 WIN Ka)(Zbz:Zn7 wm w cf ct fv Uu)
 {ws:WS} {S:U SE} {h:H} {b:Nat} {c:U NM} {p0:Za} {p:TmP} {r:PR (WS×Za)} (Zy:wm<=h.size) (hr:Rd S (some b) c) (hF:Zc.F wm h p p0) (hO:Yp (WI wm w cf ct fv ws.1 ws.2 S) h) (hL:ZlU F Ye Ka Uu ws c p0=some r):
  WF XX 173 #[pV b,.agg (KH p p0).toArray] wm h (PQ 147 (fun(r:WS×Za) v (Gb:U (Ast wm))=>∃(S':U SE) (q:TmP),(∀e∈S,e∈S')/\v=.agg (KH q r.2).toArray/\Gb=Yi wm Zc q r.2::WI wm w cf ct fv r.1.1 r.1.2 S') (WI wm w cf ct fv ws.1 ws.2 S) h r):=by
 obtain⟨⟨pj,cj⟩,⟨pd,cd⟩,⟨pk,ck⟩⟩:=p;obtain⟨hsj,hsd,hsk⟩:=Z6.1 hF;dsimp only at hsj hsd hsk;refine WF.begin (args:=[_,_]) (fn:=Tryz.f173) Kq0 (by exact rfl) Tryz.ntmps173 (by simp) ?_;simp only[Zq,Zx,Nat.reduceAdd];obtain⟨T,hT,hS⟩:∃T,T=QF (WI wm w cf ct fv ws.1 ws.2 S)/\Sp wm T h (WI wm w cf ct fv ws.1 ws.2 S) h:=⟨_,rfl,Sp.start Zy hO⟩
 unfold ZlU at hL;refine WC.seq<|WC.region<|Ve (ZgR hS (Zj fh rfl) (vs:=[V8 p0.form,.string p0.text,.slice pj p0.joins.length cj,.slice pd p0.defs.length cd,.slice pk p0.kids.length ck]) rfl) ?_;rintro _ h3 ⟨b3,eb3,rfl,hS⟩;refine Ve (U3 hS UE (vs:=[V8 0,.string (⟨#[]⟩:Y),V7,V7,V7]) rfl) ?_;rintro _ h4 ⟨b4,eb4,rfl,hS⟩;refine WO.nil<|ZB.Yc<|WC.seq<|WC.region<|Vc (YI ZpN (Zj (Zg rfl fh) rfl))<|Vc (Yt ZsM (Zj fh rfl) (hS.Jp k1) (j:=0) rfl (v:= V8 p0.form) rfl)<|Vc (XL ZAq (ZF (Zj fh rfl) Z5) rfl (cs':=[V8 p0.form,.string (⟨#[]⟩:Y),V7,V7,V7]) rfl)<|Ve (U3 hS UE (vs:=[V8 0,.string (⟨#[]⟩:Y),V7,V7,V7]) rfl) ?_;rintro _ h5 ⟨b5,eb5,rfl,hS⟩;refine WO.hu gN (JO hS k0 Yv (Zj fh rfl) (Zj (Zg rfl fh) rfl) (vs:=[V8 p0.form,.string (⟨#[]⟩:Y),V7,V7,V7]) rfl rfl rfl rfl (cs':=[V8 p0.form,.string (⟨#[]⟩:Y),V7,V7,V7]) rfl) ?_;rintro h6 hS;refine WO.nil<|ZB.Yc<|WC.seq<|WC.region<|Ve (U3 hS Zwq (vs:=[V7]) rfl) ?_;rintro _ h7 ⟨b6,eb6,rfl,hS⟩;refine WO.nil<|ZB.Yc<|WC.seq<|WC.seq<|WC.region<|Vc (YI Zcf (Zj (YC rfl (Z8 rfl fh)) rfl))<|Vc (Yt Zn0 (Zj fh rfl) (hS.Jp k3) (j:=2) rfl (v:=.slice pj p0.joins.length cj) rfl)<|Vc (Zaf WJ (Zj fh rfl) rfl)<|Vc (ZO (J2 rfl))<|WO.nil<|ZB.Yc<|WC.block ?_;have hS:=hS.nil (e:=Xb);refine WC.loop (WL.lift hL (fun(q:Int×U Y)(s:Fs)=>match q with | (i,names)=>∃(QA:Fr) (h9:H) (a:O Addr) (n cc:Nat),s=⟨QA,[],h9,none⟩/\Sp wm T h (bx wm b6 [.slice a n cc]::ow wm Xb a n cc names::bx wm b5 [V8 p0.form,.string (⟨#[]⟩:Y),V7,V7,V7]::bx wm b4 [V8 0,.string (⟨#[]⟩:Y),V7,V7,V7]::bx wm b3 [V8 p0.form,.string p0.text,.slice pj p0.joins.length cj,.slice pd p0.defs.length cd,.slice pk p0.kids.length ck]::WI wm w cf ct fv ws.1 ws.2 S) h9/\QA.at 0=pV b/\QA.at 3=(V9 b3)/\QA.at 4=(V9 b4)/\QA.at 5=(V9 b5)/\QA.at 6=(V9 b6)/\QA.at 19=.slice pj p0.joins.length cj/\QA.at 20= V8 (p0.joins.length:Int)/\QA.at 21= V8 i) ⟨_,_,none,0,0,rfl,hS.only (.c k1 (.c k0 (.c k0 (.c k0 (.c k0 (.c k0 (.c k0 (.c k0 (.c k0 .n))))))))),(YJ rfl (YC rfl fh)),(YJ rfl (Z8 rfl fh)),(YJ rfl (Zg rfl fh)),(YC rfl (Zg rfl fh)),(YC rfl fh),(Z8 rfl fh),(Zg rfl fh),fh⟩ ?_);rintro Za5 ⟨i,names⟩ s Uh hL ⟨QA,h9,a,n,cc,rfl,hS,e0,e3,e4,e5,e6,e19,e20,e21⟩;obtain rfl:=hS.on k1;refine WC.seq<|WC.region<|Vc (Y5 (Zj e21 rfl) (Zj e20 rfl) ZaR)<|WO.nil<|ZB.Yc<|WC.seq<|WC.Uc (Zj fh rfl) (fun hc=>?_) (fun hc=>?_)
 ·replace hL:=Xp hc hL;refine WC.skip<|ZB.Yc<|WC.seq<|WC.block<|WC.seq<|WC.region ?_;obtain⟨m,hm,hL⟩:=bS hL;obtain⟨b23,o24,⟨a25,c26⟩,UM,Uw,Uv,Qo⟩:=Sl.at_ hsj hm;refine Vc (Yf WJ X4 (Zj (Zg rfl e19) rfl) (Zj (Zg rfl e21) rfl) rfl UM hm) ?_;have Zb9:Sl Xb wm h a25 c26 m.names:=Qo;refine Vc (Yx Zeo X4 (Zj fh rfl) (At.fz hS.fz Uv Uw) (j:=0) rfl rfl (ws:=[.string m.text,.slice a25 m.names.length c26]) rfl)<|Ve (U3 hS ZcL (vs:=[.string (⟨#[]⟩:Y),V7]) rfl) ?_;rintro _ h28 ⟨b8,eb8,rfl,hS⟩;refine WO.hu gN (JO hS k0 X4 (Zj fh rfl) (Zj (Zg rfl fh) rfl) (vs:=[.string m.text,.slice a25 m.names.length c26]) rfl rfl rfl rfl (cs':=[.string m.text,.slice a25 m.names.length c26]) rfl) ?_;rintro h29 hS;refine WO.nil<|ZB.Yc<|WC.region<|Vc (Yt ZcB (Zj (YC rfl e6) rfl) (hS.Jp k1) (j:=0) rfl (v:=.slice a names.length cc) rfl)<|Vc (YI Ze4 (Zj (Zg rfl fh) rfl))<|Vc (Yt ZcB (Zj fh rfl) (hS.Jp k0) (j:=1) rfl (v:=.slice a25 m.names.length c26) rfl) ?_;obtain⟨z,hz,hL⟩:=bS hL;refine WO.hv gN rfl (Zak (e:=Xb) hS k2 Zcz (Zj (Z8 rfl fh) rfl) (Zj fh rfl) (Sl.src (hS.sl Zb9)) rfl hz) ?_;rintro _ h30 ⟨a39,c40,rfl,hS⟩;refine WO.hu gN (JO hS k2 Zif (Zj (YJ rfl e6) rfl) (Zj fh rfl) (vs:=[.slice a39 z.length c40]) rfl rfl rfl rfl (cs':=[.slice a39 z.length c40]) rfl) ?_;rintro h31 hS;exact WO.nil<|Yy.Yc<|ZB.Yc<|WC.region<|Vc (Y5 (Zj (YJ rfl e21) rfl) (J2 rfl) UB)<|Vc (ZO (Zj fh rfl))<|WO.nil<|Ya.Yc (Uh _ _ hL ⟨_,_,a39,z.length,c40,rfl,hS.only (.c k0 (.c k0 (.c k1 (.c k1 (.c k1 (.c k1 (.c k1 (.c k1 (.c k1 .n))))))))),(YJ rfl (Z8 rfl e0)),(YJ rfl (Z8 rfl e3)),(YJ rfl (Z8 rfl e4)),(YJ rfl (Z8 rfl e5)),(YJ rfl (Z8 rfl e6)),(YJ rfl (Z8 rfl e19)),(YJ rfl (Z8 rfl e20)),fh⟩)
 ·replace hL:=Xq hc hL;refine WC.exit<|ZB.exit<|Ya.exit<|Yy.here<|ZB.Yc<|WC.fzn hS k1 ?_;rintro h40 ⟨ZUq,hS⟩;have hS:=hS.add (A:=Yi wm Zc ((pj,cj),(pd,cd),(pk,ck)) p0) (Zc.mono hS.fz hF) (fun _ z=>z);obtain⟨bd,hbd,hL⟩:=bS hL;refine WC.seq<|WC.region<|Vc (ZO (Zj (Zg rfl e0) rfl))<|Vc (Yt ZcB (Zj (Z8 rfl e6) rfl) (hS.Jp k2) (j:=0) rfl (v:=.slice a names.length cc) rfl)<|Vc (WZ (Zb (Zj (Z8 rfl (Zg rfl e3)) rfl) (Zb (Zj (Z8 rfl (Zg rfl e6)) rfl) Zd)))<|Vd (Yo.fn Zx7 (Zb (Zj (Z8 rfl fh) rfl) (Zb (Zj (Zg rfl fh) rfl) (Zb (Zj fh rfl) Zd)))) hS (.c k5 (.c k0 (.c k1 (.c k0 (.c k2 (.c k2 (.c k2 (.c k2 .n)))))))) (fun g' hz hf hO=>hB (hS.Vg hz) hr ((hS.Uo k1).mono hf) (hW b3 ((pj,cj),(pd,cd),(pk,ck)) p0 b6 a cc names) hbd hO) ?_;rintro _ h41 _ ⟨S1,b1,hS1,rfl,hr1,rfl⟩ hS;refine Vc (ZW (Zj fh rfl))<|WO.nil<|ZB.Yc<|WC.seq<|WC.seq<|WC.region<|Vc (YI Zcf (Zj (YC rfl (Z8 rfl e3)) rfl))<|Vc (Yt Zn0 (Zj fh rfl) (hS.Jp k0) (j:=2) rfl (v:=.slice pj p0.joins.length cj) rfl)<|r4 ?_;refine r1 ?_;have hS:=hS.nil (e:=Yj);refine WC.loop (WL.lift hL (fun(q:Int×MB×U Yk)(s:Fs)=>match q with | (i,fr,js)=>∃(UY:Fr) (h9:H) (a:O Addr) (n cc:Nat),s=⟨UY,[],h9,none⟩/\Sp wm T h (bx wm b5 [V8 p0.form,.string (⟨#[]⟩:Y),.slice a n cc,V7,V7]::ow wm Yj a n cc js::bx wm b4 [V8 0,.string (⟨#[]⟩:Y),V7,V7,V7]::bx wm b3 [V8 p0.form,.string p0.text,.slice pj p0.joins.length cj,.slice pd p0.defs.length cd,.slice pk p0.kids.length ck]::WI wm w cf ct fv fr bd.1 S1) h9/\UY.at 0=pV b/\UY.at 3=(V9 b3)/\UY.at 4=(V9 b4)/\UY.at 5=(V9 b5)/\UY.at 9=pV b1/\UY.at 35=.slice pj p0.joins.length cj/\UY.at 36= V8 (p0.joins.length:Int)/\UY.at 37= V8 i) ⟨_,_,none,0,0,rfl,hS.only (.c k9 (.c k0 (.c k8 (.c k0 (.c k3 (.c k3 (.c k3 (.c k3 .n)))))))),(YJ rfl (Z8 rfl e0)),(YJ rfl (Z8 rfl e3)),(YJ rfl (Z8 rfl e4)),(YJ rfl (Z8 rfl e5)),(YC rfl fh),(Z8 rfl fh),(Zg rfl fh),fh⟩ ?_);rintro ZPg ⟨i2,fr,js⟩ s ZCI hL ⟨UY,h42,a2,n2,cc2,rfl,hS,e0,e3,e4,e5,e9,e35,e36,e37⟩;obtain rfl:=hS.on k1;refine r6 ?_;refine WC.Uc (Zj fh rfl) (fun hc=>?_) (fun hc=>?_)
  ·replace hL:=Xp hc hL;refine r3 ?_;refine WC.block<|WC.seq<|WC.region ?_;obtain⟨m,hm,hL⟩:=bS hL;obtain⟨b23,o24,⟨a25,c26⟩,UM,Uw,Uv,Qo⟩:=Sl.at_ hsj hm;refine Vc (Yf WJ X4 (Zj (Zg rfl e35) rfl) (Zj (Zg rfl e37) rfl) rfl UM hm) ?_;have Zb9:Sl Xb wm h a25 c26 m.names:=Qo;refine Vc (Yx Zeo X4 (Zj fh rfl) (At.fz hS.fz Uv Uw) (j:=0) rfl rfl (ws:=[.string m.text,.slice a25 m.names.length c26]) rfl)<|Ve (U3 hS ZcL (vs:=[.string (⟨#[]⟩:Y),V7]) rfl) ?_;rintro _ h28 ⟨b11,ZQ4,rfl,hS⟩;refine WO.hu gN (JO hS k0 X4 (Zj fh rfl) (Zj (Zg rfl fh) rfl) (vs:=[.string m.text,.slice a25 m.names.length c26]) rfl rfl rfl rfl (cs':=[.string m.text,.slice a25 m.names.length c26]) rfl) ?_;rintro h29 hS;refine WO.nil<|ZB.Yc<|WC.seq<|WC.region<|Vc (ZO (Zj (YC rfl e0) rfl))<|Vc (YI ZpM (Zj (Zg rfl fh) rfl))<|Vc (Yt Zlb (Zj fh rfl) (hS.Jp k0) (j:=0) rfl (v:=.string m.text) rfl) ?_;obtain⟨y,hy,hL⟩:=bS hL;refine Vd (Yo.fn Zi2 (Zb (Zj (Z8 rfl fh) rfl) (Zb (Zj fh rfl) Zd))) hS (.c k5 (.c k5 (.c k5 (.c k5 .n)))) (fun g' hz hf hO=>Znu (hS.Vg hz) (hr.mono hS1) hO hy) ?_;rintro _ h43 _ ⟨rfl,rfl⟩ hS;refine Vc (XL ZIP (ZF (Zj fh rfl) Z5) rfl (cs':=[.string y.2,V7]) rfl)<|Ve (U3 hS ZcL (vs:=[.string (⟨#[]⟩:Y),V7]) rfl) ?_;rintro _ h44 ⟨b12,ZIs,rfl,hS⟩;refine WO.hu gN (JO hS k0 X4 (Zj fh rfl) (Zj (Zg rfl fh) rfl) (vs:=[.string y.2,V7]) rfl rfl rfl rfl (cs':=[.string y.2,V7]) rfl) ?_;rintro h45 hS;refine WO.nil<|ZB.Yc<|WC.seq<|WC.seq<|WC.region<|Vc (YI Ze4 (Zj (YC rfl (Z8 rfl fh)) rfl))<|Vc (Yt ZcB (Zj fh rfl) (hS.Jp k5) (j:=1) rfl (v:=.slice a25 m.names.length c26) rfl)<|Vc (Zaf ZbN (Zj fh rfl) rfl)<|Vc (ZO (J2 rfl))<|WO.nil<|ZB.Yc<|WC.block ?_;have hS:=hS.nil (e:=Xb);refine WC.loop (WL.lift hL (fun(q:Int×MB×U Y)(s:Fs)=>match q with | (j,fr,ns)=>∃(Zd6:Fr) (h9:H) (a:O Addr) (n cc:Nat),s=⟨Zd6,[],h9,none⟩/\Sp wm T h (bx wm b12 [.string y.2,.slice a n cc]::ow wm Xb a n cc ns::bx wm b5 [V8 p0.form,.string (⟨#[]⟩:Y),.slice a2 js.length cc2,V7,V7]::ow wm Yj a2 js.length cc2 js::bx wm b4 [V8 0,.string (⟨#[]⟩:Y),V7,V7,V7]::bx wm b3 [V8 p0.form,.string p0.text,.slice pj p0.joins.length cj,.slice pd p0.defs.length cd,.slice pk p0.kids.length ck]::WI wm w cf ct fv fr bd.1 S1) h9/\Zd6.at 0=pV b/\Zd6.at 3=(V9 b3)/\Zd6.at 4=(V9 b4)/\Zd6.at 5=(V9 b5)/\Zd6.at 9=pV b1/\Zd6.at 35=.slice pj p0.joins.length cj/\Zd6.at 36= V8 (p0.joins.length:Int)/\Zd6.at 37= V8 i2/\Zd6.at 12=(V9 b12)/\Zd6.at 47=.slice a25 m.names.length c26/\Zd6.at 48= V8 (m.names.length:Int)/\Zd6.at 49= V8 j) ⟨_,_,none,0,0,rfl,hS.only (.c k1 (.c k0 (.c k5 (.c k5 (.c k5 (.c k5 (.c k0 (.c k0 (.c k0 (.c k0 .n)))))))))),(YJ rfl (YC rfl (Z8 rfl e0))),(YJ rfl (YC rfl (Z8 rfl e3))),(YJ rfl (YC rfl (Z8 rfl e4))),(YJ rfl (YC rfl (Z8 rfl e5))),(YJ rfl (YC rfl (Z8 rfl e9))),(YJ rfl (YC rfl (Z8 rfl e35))),(YJ rfl (YC rfl (Z8 rfl e36))),(YJ rfl (YC rfl (Z8 rfl e37))),(YC rfl fh),(Z8 rfl fh),(Zg rfl fh),fh⟩ ?_);clear hL hS e0 e3 e4 e5 e9 e35 e36 e37;rintro ZPf ⟨j3,fr3,ns⟩ s ZCG hL ⟨Zd6,h46,a3,n3,cc3,rfl,hS,e0,e3,e4,e5,e9,e35,e36,e37,e12,e47,e48,e49⟩;obtain rfl:=hS.on k1;refine r6 ?_;refine WC.Uc lk (fun hc=>?_) (fun hc=>?_)
   ·replace hL:=Xp hc hL;refine r6 ?_;obtain⟨x,hx,hL⟩:=bS hL;obtain⟨b33,o34,_,ZyN,ZyT,ZyS,ZyQ⟩:=Sl.at_ Zb9 hx;refine Vc (Yf ZbN ZdA lk lk rfl ZyN hx)<|Vc (Yt Zlb (Zj fh rfl) (At.fz hS.fz ZyS ZyT) (j:=0) rfl (v:=.string x) rfl)<|r3 ?_;refine WC.Ub mixed Kq0<|r1 ?_;refine WX.wr (fun x=>x=b12) hS gN rfl (fun _ _ hR=>Yt ZcB (Zj fh rfl) (At.eqv (hR b12 rfl) (hS.Jp k0)) (j:=1) rfl (v:=.slice a3 ns.length cc3) rfl) ?_ rfl rfl;rintro h47 ZWe hS;refine r2 ?_;obtain⟨y2,hy2,hL⟩:=bS hL;refine WX.cl gN rfl (Yo.fn Zi2 (Zb lk (Zb lk Zd))) hS (.c k6 (.c k6 (.c k6 (.c k6 .n)))) (fun g' hz hf hO=>Znu (hS.Vg hz) hr1 hO hy2) ?_ rfl rfl [1] Kq0 (.c .z (hS.djs (.c k0 (.c k5 (.c k5 (.c k5 (.c k5 .n)))))) XP.e);rintro _ h48 _ ⟨rfl,rfl⟩ hS;refine WX.hn gN rfl (KI (e:=Xb) hS ZbN ZdA Zs1 rfl rfl rfl (ZF lk Z5) rfl [((),y2.2)] rfl (xs:=[y2.2]) rfl (by intro q hq;exact trivial) rfl) ?_ Kq0;rintro _ h49 ⟨b58,ZVW,rfl,hS⟩;obtain⟨z,hz,hL⟩:=bS hL;refine WX.hv gN rfl (Zak (e:=Xb) hS k6 Zcz lk lk (hS.U8 k0) (hS.on k0) hz) ?_ rfl Kq0 [] Kq0 XP.e;rintro _ h50 ⟨a39,c40,rfl,hS⟩;refine WX.w gN rfl (YI Ze4 lk) ?_ Kq0;refine WX.hu gN (JO hS k6 Zif lk lk (vs:=[.slice a39 z.length c40]) rfl rfl rfl rfl (cs':=[.string y.2,.slice a39 z.length c40]) rfl) ?_ rfl Kq0 [] Kq0 XP.e;rintro h51 hS;refine r4 ?_;refine r1 ?_;exact Vc (ZO (Zj fh rfl))<|WO.nil<|Ya.Yc (ZCG _ _ hL ⟨_,_,a39,z.length,c40,rfl,hS.only (.c k0 (.c k0 (.c k5 (.c k5 (.c k5 (.c k5 (.c k1 (.c k1 (.c k1 (.c k1 .n)))))))))),(YJ rfl (YC rfl (Z8 rfl e0))),(YJ rfl (YC rfl (Z8 rfl e3))),(YJ rfl (YC rfl (Z8 rfl e4))),(YJ rfl (YC rfl (Z8 rfl e5))),(YJ rfl (YC rfl (Z8 rfl e9))),(YJ rfl (YC rfl (Z8 rfl e35))),(YJ rfl (YC rfl (Z8 rfl e36))),(YJ rfl (YC rfl (Z8 rfl e37))),(YJ rfl (YC rfl (Z8 rfl e12))),(YJ rfl (YC rfl (Z8 rfl e47))),(YJ rfl (YC rfl (Z8 rfl e48))),fh⟩)
   ·replace hL:=Xq hc hL;refine WC.exit<|ZB.exit<|Ya.exit<|Yy.here<|ZB.Yc<|WC.fzn hS k1 ?_;rintro h52 ⟨ZP1,hS⟩;refine WC.region<|Vc (YI Zcf (Zj (Zg rfl e5) rfl))<|Vc (Yt Zn0 (Zj fh rfl) (hS.Jp k2) (j:=2) rfl (v:=.slice a2 js.length cc2) rfl)<|Vc (Yx Zeo X4 (Zj (Z8 rfl (Zg rfl e12)) rfl) (hS.Jp k1) (j:=0) rfl rfl (ws:=[.string y.2,.slice a3 ns.length cc3]) rfl)<|Ve (KI (e:=Yj) hS WJ X4 ZcL rfl rfl rfl (ZF (Zj fh rfl) Z5) rfl [((a3,cc3),⟨y.2,ns⟩)] rfl (xs:=[⟨y.2,ns⟩]) rfl (by intro q hq;simp only[Kx,Gc,or_false]at hq;subst hq;exact hS.Uo k0) rfl) ?_;rintro _ h53 ⟨b65,ZVU,rfl,hS⟩;obtain⟨z,hz,hL⟩:=bS hL;refine WO.hv gN rfl (Zak (e:=Yj) hS k4 ZsH (Zj (Z8 rfl fh) rfl) (Zj fh rfl) (hS.U8 k0) (hS.on k0) hz) ?_;rintro _ h54 ⟨a39,c40,rfl,hS⟩;refine Vc (YI Zcf (Zj (YC rfl (Z8 rfl e5)) rfl))<|WO.hu gN (JO hS k4 Zte (Zj fh rfl) (Zj (Zg rfl fh) rfl) (vs:=[.slice a39 z.length c40]) rfl rfl rfl rfl (cs':=[V8 p0.form,.string (⟨#[]⟩:Y),.slice a39 z.length c40,V7,V7]) rfl) ?_;rintro h55 hS;exact WO.nil<|Yy.Yc<|ZB.Yc<|WC.region<|Vc (Y5 (Zj (YC rfl (Z8 rfl (Zg rfl e37))) rfl) (J2 rfl) UB)<|Vc (ZO (Zj fh rfl))<|WO.nil<|Ya.Yc (ZCI _ _ hL ⟨_,_,a39,z.length,c40,rfl,hS.only (.c k0 (.c k0 (.c k3 (.c k3 (.c k3 (.c k3 (.c k3 (.c k3 .n)))))))),(YJ rfl (Zg rfl e0)),(YJ rfl (Zg rfl e3)),(YJ rfl (Zg rfl e4)),(YJ rfl (Zg rfl e5)),(YJ rfl (Zg rfl e9)),(YJ rfl (Zg rfl e35)),(YJ rfl (Zg rfl e36)),fh⟩)
  ·replace hL:=Xq hc hL;refine WC.exit<|ZB.exit<|Ya.exit<|Yy.here<|ZB.Yc<|WC.seq<|WC.region<|Vc (ZO (Zj (Zg rfl e9) rfl))<|Vc (YI ZaM (Zj (Z8 rfl e3) rfl))<|Vc (Yt ZfE (Zj fh rfl) (hS.Jp k3) (j:=4) rfl (v:=.slice pk p0.kids.length ck) rfl) ?_;obtain⟨kd,hkd,hL⟩:=bS hL;obtain⟨b23,o24,pkd,UM,Uw,Uv,Qo⟩:=Sl.at_ hsk hkd;refine Vc (Yf Q9 Yd (Zj fh rfl) (J2 rfl) rfl UM hkd)<|Vc (Yx Qx Yd (Zj fh rfl) (At.fz hS.fz Uv Uw) (j:=0) rfl rfl (ws:=Ju pkd kd) rfl) ?_;obtain⟨z,hz,hL⟩:=bS hL;rcases z with z|ek
   rotate_left
   ·replace hL:=Z7 hL;refine WO.Kg gN (Yo.fn Zb8 (Zb (Zj (YC rfl fh) rfl) (Zb (Zj fh rfl) Zd))) hS (.c k4 (.c k4 (.c k4 (.c k4 .n)))) (fun g' hz' hf hO=>Zbz _ _ hz (by rw[hz'];exact hS.hw) hr1 (Zm.mono hf (Zm.mono hS.fz Qo)) hO) ?_;rintro ZkQ hS
    repeat first|refine ZB.panic ?_|refine Yy.panic ?_|refine Ya.panic ?_|refine Xf.panic ?_
    have hr':=Oi0 hL;subst hr';exact Y0.ZmJ hT hS
   replace hL:=Yw hL;refine Vd (Yo.fn Zb8 (Zb (Zj (YC rfl fh) rfl) (Zb (Zj fh rfl) Zd))) hS (.c k4 (.c k4 (.c k4 (.c k4 .n)))) (fun g' hz' hf hO=>PQ.ok (Zbz _ _ hz (by rw[hz'];exact hS.hw) hr1 (Zm.mono hf (Zm.mono hS.fz Qo)) hO)) ?_;rintro _ h60 _ ⟨S2,q2,hS2,rfl,rfl⟩ hS;refine Ve (KI (e:=Zm) hS Q9 Yd WH rfl rfl rfl (ZF (Zj fh rfl) Z5) rfl [(q2,z.2)] rfl (xs:=[z.2]) rfl (by intro q hq;simp only[Kx,Gc,or_false]at hq;subst hq;exact hS.get k0) rfl) ?_;rintro _ h61 ⟨bk,ebk,rfl,hS⟩;refine Vc (YI ZaM (Zj (YJ rfl e5) rfl))<|WO.hu gN (JO hS k6 Zie (Zj fh rfl) (Zj (Zg rfl fh) rfl) (vs:=[.slice (some ⟨bk,0,none⟩) 1 (2*1)]) rfl rfl rfl rfl (cs':=[V8 p0.form,.string (⟨#[]⟩:Y),.slice a2 js.length cc2,V7,.slice (some ⟨bk,0,none⟩) 1 (2*1)]) rfl) ?_;rintro h62 hS;refine WO.nil<|ZB.Yc<|WC.seq<|WC.region<|Vc (Yx JN Yv (Zj (YJ rfl (Zg rfl e5)) rfl) (hS.Jp k0) (j:=0) rfl rfl (ws:=[V8 p0.form,.string (⟨#[]⟩:Y),.slice a2 js.length cc2,V7,.slice (some ⟨bk,0,none⟩) 1 (2*1)]) rfl)<|WO.hu gN (JO hS k8 Yv (Zj (YJ rfl (Z8 rfl e4)) rfl) (Zj fh rfl) (vs:=[V8 p0.form,.string (⟨#[]⟩:Y),.slice a2 js.length cc2,V7,.slice (some ⟨bk,0,none⟩) 1 (2*1)]) rfl rfl rfl rfl (cs':=[V8 p0.form,.string (⟨#[]⟩:Y),.slice a2 js.length cc2,V7,.slice (some ⟨bk,0,none⟩) 1 (2*1)]) rfl) ?_;rintro h63 hS;refine WO.nil<|ZB.Yc<|WC.fzn hS k8 ?_;rintro h64 ⟨ZUn,hS⟩;refine WC.fzn hS k3 ?_;rintro h65 ⟨ZP0,hS⟩;refine r1 ?_;have hS:=hS.add (A:=Yi wm Zc ((a2,cc2),(none,0),(some ⟨bk,0,none⟩,2*1)) (Za.mk p0.form ⟨#[]⟩ js [] [z.2])) (Z6.2 ⟨hS.Uo k1,Sl.nil,hS.Uo k0⟩) (fun _ z=>z);have hr':=Oi0 hL;subst hr';exact Y0.Jb rfl (YP (YJ rfl (Z8 rfl e4)) (Xc JN Yv (hS.Jp k3) (j:=0) rfl rfl (ws:=[V8 p0.form,.string (⟨#[]⟩:Y),.slice a2 js.length cc2,V7,.slice (some ⟨bk,0,none⟩) 1 (2*1)]) rfl) Zk) ⟨_,⟨S2,((a2,cc2),(none,0),(some ⟨bk,0,none⟩,2*1)),fun e he=>hS2 e (hS1 e he),rfl,rfl⟩,hT▸hS.only (.c k0 (.c k5 (.c k5 (.c k5 (.c k5 .n)))))⟩
def Zm7:(XX.fns.get 152).isSome=true:=Kq0
def ZjO(F:Nat)(Ye:U6)(Ka:Za->U Y->O MB)(Uu:WS×U NM×Term->O (PR (WS×Term)))(c:U NM)(l:U Za)(Zl:WS×U Za->O (PR (WS×U Za))):Int×WS×U Za->(Int×WS×U Za->O (PR (WS×U Za)))->O (PR (WS×U Za)):=fun(i,ws,acc) next=>
 bif decide (i<(l.length:Int)) then(ZN l i).bind fun x=>bif x.form==2 then(ZjS F ws.1 c x.text).bind fun y=>(Zl ((y.1,ws.2),x.defs)).bind fun d=>JS d (fun e=>some (.Z9 e)) fun d=>(ZN x.kids 0).bind fun k=>(Uu (d.1,c,k)).bind fun z=>JS z (fun e=>some (.Z9 e)) fun z=>(app 96 acc [Za.mk x.form y.2 [] d.2 [z.2]]).bind fun a=>next (YX (i+1),z.1,a) else(ZlU F Ye Ka Uu ws c x).bind fun z=>JS z (fun e=>some (.Z9 e)) fun z=>(app 96 acc [z.2]).bind fun a=>next (YX (i+1),z.1,a) else some (.ok (ws,acc))
def Zcm(F:Nat)(Ye:U6)(Ka:Za->U Y->O MB)(Uu:WS×U NM×Term->O (PR (WS×Term)))(c:U NM):WS×U Za->(WS×U Za->O (PR (WS×U Za)))->O (PR (WS×U Za)):=fun(ws,l) Zl=>
 loop F (ZjO F Ye Ka Uu c l Zl) (0,ws,[])
def Zt0(F:Nat)(Ye:U6)(Ka:Za->U Y->O MB)(Uu:WS×U NM×Term->O (PR (WS×Term)))(c:U NM)(ws:WS)(l:U Za):O (PR (WS×U Za)):=loop F (Zcm F Ye Ka Uu c) (ws,l)
def Zp4{F wm w cf:Nat}{ct:O Nat}{fv:FV wm}{WIN:ZqQ wm}{Ye:U6}{Ka:Za->U Y->O MB}{Uu:WS×U NM×Term->O (PR (WS×Term))}(hB:Zky wm w cf ct fv WIN Ye)(hW:Zn5 WIN Ka)(Zbz:Zn7 wm w cf ct fv Uu){b:Nat}{c:U NM}:
 ∀(Fr:Nat)(x:WS×U Za)(r:PR (WS×U Za)),loop Fr (Zcm F Ye Ka Uu c) x=some r->(∀{h:H}{S:U SE}{pa:O Addr}{pc:Nat},wm<=h.size->Rd S (some b) c->Sl Zc wm h pa pc x.2->Yp (WI wm w cf ct fv x.1.1 x.1.2 S) h->WF XX 152 #[pV b,.slice pa x.2.length pc] wm h (PQ 147 (fun(r:WS×U Za) v (Gb:U (Ast wm))=>∃(S':U SE) (ra:O Addr) (rc:Nat),(∀e∈S,e∈S')/\v=.slice ra r.2.length rc/\Gb=Yi wm (YB Zc) (ra,rc) r.2::WI wm w cf ct fv r.1.1 r.1.2 S') (WI wm w cf ct fv x.1.1 x.1.2 S) h r)):=by
 refine XU _ ?_;rintro Zl Xm ⟨ws,l⟩ r hL h S pa pc Zy hr hsp hO;dsimp only at hsp hO;refine WF.begin (args:=[_,_]) (fn:=Tryz.f152) Kq0 (by exact rfl) Tryz.ntmps152 (by simp) ?_;simp only[Zq,Zx,Nat.reduceAdd];obtain⟨T,hT,hS⟩:∃T,T=QF (WI wm w cf ct fv ws.1 ws.2 S)/\Sp wm T h (WI wm w cf ct fv ws.1 ws.2 S) h:=⟨_,rfl,Sp.start Zy hO⟩
 refine r16 ?_;refine r3 ?_;have hS:=hS.nil (e:=Zc);refine WC.loop (WL.lift hL (fun(q:Int×WS×U Za)(s:Fs)=>match q with | (i,ws,acc)=>∃(QA:Fr) (h9:H) (a:O Addr) (n cc:Nat) (S1:U SE),s=⟨QA,[],h9,none⟩/\(∀e∈S,e∈S1)/\Sp wm T h (ow wm Zc a n cc acc::WI wm w cf ct fv ws.1 ws.2 S1) h9/\QA.at 0=pV b/\QA.at 5=.slice a n cc/\QA.at 9=.slice pa l.length pc/\QA.at 10= V8 (l.length:Int)/\QA.at 11= V8 i) ⟨_,_,none,0,0,S,rfl,fun _ q=>q,hS.only (.c k0 (.c k0 (.c k0 (.c k0 (.c k0 .n))))),(YC rfl (Z8 rfl fh)),(Z8 rfl (Zg rfl fh)),(Z8 rfl fh),(Zg rfl fh),fh⟩ ?_);rintro Za5 ⟨i,ws,acc⟩ s Uh hL ⟨QA,h9,a,n,cc,S1,rfl,hS1,hS,e0,e5,e9,e10,e11⟩;obtain rfl:=hS.on k0;refine r6 ?_;refine cn hL ?_ ?_
 ·intro hc hL;refine r6 ?_;obtain⟨x,hx,hL⟩:=bS hL;obtain⟨b23,o24,⟨⟨a1,c1⟩,⟨a2,c2⟩,⟨a3,c3⟩⟩,UM,Uw,Uv,Qo⟩:=Sl.at_ hsp hx;obtain⟨hsj,hsd,hsk⟩:=Z6.1 Qo;dsimp only at hsj hsd hsk;refine Vc (Yf Ur Yv (Zj (Zg rfl e9) rfl) (Zj (Zg rfl e11) rfl) rfl UM hx)<|Vc (Yx JN Yv (Zj fh rfl) (At.fz hS.fz Uv Uw) (j:=0) rfl rfl (ws:=[V8 x.form,.string x.text,.slice a1 x.joins.length c1,.slice a2 x.defs.length c2,.slice a3 x.kids.length c3]) rfl)<|r1 ?_;rintro _ h28 ⟨b7,eb7,rfl,hS⟩;refine r1 ?_;rintro h29 hS;refine r8 ?_;refine r2 ?_;refine cn hL ?_ ?_
  ·intro hc hL;refine r1 ?_;refine WC.Ub mixed Kq0<|r1 ?_;refine WX.wr (fun x=>x=b7) hS gN rfl (fun _ _ hR=>Yt ZsM (Zj fh rfl) (At.eqv (hR b7 rfl) (hS.Jp k0)) (j:=0) rfl (v:= V8 x.form) rfl) ?_ rfl rfl;rintro h30 e30 hS;refine r3 ?_;obtain⟨y,hy,hL⟩:=bS hL;refine WX.cl gN rfl (Yo.fn Zi2 (Zb (Zj (Z8 rfl fh) rfl) (Zb (Zj fh rfl) Zd))) hS (.c k2 (.c k2 (.c k2 (.c k2 .n)))) (fun g' hz hf hO=>Znu (hS.Vg hz) (hr.mono hS1) hO hy) ?_ rfl rfl [1] Kq0 (.c .z (hS.djs (.c k0 (.c k1 (.c k1 (.c k1 (.c k1 .n)))))) XP.e);rintro _ h31 _ ⟨rfl,rfl⟩ hS;refine WX.w gN rfl (XL ZAq (ZF (Zj (YC rfl fh) rfl) (ZF (Zj fh rfl) Z5)) rfl (cs':=[V8 x.form,.string y.2,V7,V7,V7]) rfl) ?_ Kq0;refine WX.hn gN rfl (U3 hS UE (vs:=[V8 0,.string (⟨#[]⟩:Y),V7,V7,V7]) rfl) ?_ Kq0;rintro _ h32 ⟨b8,eb8,rfl,hS⟩;refine WX.hu gN (JO hS k0 Yv (Zj fh rfl) (Zj (Zg rfl fh) rfl) (vs:=[V8 x.form,.string y.2,V7,V7,V7]) rfl rfl rfl rfl (cs':=[V8 x.form,.string y.2,V7,V7,V7]) rfl) ?_ rfl Kq0 [] Kq0 XP.e;rintro h33 hS;refine r6 ?_;refine r1 ?_;obtain⟨d,hd,hL⟩:=bS hL;rcases d with d|ek
   rotate_left
   ·replace hL:=Z7 hL;refine WO.Kg gN (Yo.fn Zm7 (Zb (Zj (Z8 rfl fh) rfl) (Zb (Zj fh rfl) Zd))) hS (.c k1 (.c k1 (.c k1 (.c k1 .n)))) (fun g' hz hf hO=>Xm _ _ hd (hS.Vg hz) (hr.mono hS1) ((hS.sl hsd).mono hf) hO) ?_;rintro ZkQ hS
    repeat first|refine ZB.panic ?_|refine Yy.panic ?_|refine Ya.panic ?_|refine Xf.panic ?_
    have hr':=Oi0 hL;subst hr';exact Y0.ZmJ hT hS
   replace hL:=Yw hL;refine Vd (Yo.fn Zm7 (Zb (Zj (Z8 rfl fh) rfl) (Zb (Zj fh rfl) Zd))) hS (.c k1 (.c k1 (.c k1 (.c k1 .n)))) (fun g' hz hf hO=>PQ.ok (Xm _ _ hd (hS.Vg hz) (hr.mono hS1) ((hS.sl hsd).mono hf) hO)) ?_;rintro _ h34 _ ⟨S2,rd,rcd,hS2,rfl,rfl⟩ hS;refine r2 ?_;rintro h35 hS;refine r6 ?_;refine r1 ?_;obtain⟨kd,hkd,hL⟩:=bS hL;obtain⟨b33,o34,pkd,ZyN,ZyT,ZyS,ZyQ⟩:=Sl.at_ hsk hkd;refine Vc (Yf Q9 Yd (Zj fh rfl) (J2 rfl) rfl ZyN hkd)<|Vc (Yx Qx Yd (Zj fh rfl) (At.fz hS.fz ZyS ZyT) (j:=0) rfl rfl (ws:=Ju pkd kd) rfl) ?_;obtain⟨z,hz,hL⟩:=bS hL;rcases z with z|ek
   rotate_left
   ·replace hL:=Z7 hL;refine WO.Kg gN (Yo.fn Zb8 (Zb (Zj (YC rfl fh) rfl) (Zb (Zj fh rfl) Zd))) hS (.c k2 (.c k2 (.c k2 (.c k2 .n)))) (fun g' hz' hf hO=>Zbz _ _ hz (by rw[hz'];exact hS.hw) ((hr.mono hS1).mono hS2) (Zm.mono hf (Zm.mono hS.fz ZyQ)) hO) ?_;rintro ZkQ hS
    repeat first|refine ZB.panic ?_|refine Yy.panic ?_|refine Ya.panic ?_|refine Xf.panic ?_
    have hr':=Oi0 hL;subst hr';exact Y0.ZmJ hT hS
   replace hL:=Yw hL;refine Vd (Yo.fn Zb8 (Zb (Zj (YC rfl fh) rfl) (Zb (Zj fh rfl) Zd))) hS (.c k2 (.c k2 (.c k2 (.c k2 .n)))) (fun g' hz' hf hO=>PQ.ok (Zbz _ _ hz (by rw[hz'];exact hS.hw) ((hr.mono hS1).mono hS2) (Zm.mono hf (Zm.mono hS.fz ZyQ)) hO)) ?_;rintro _ h36 _ ⟨S3,q2,hS3,rfl,rfl⟩ hS;refine Ve (KI (e:=Zm) hS Q9 Yd WH rfl rfl rfl (ZF (Zj fh rfl) Z5) rfl [(q2,z.2)] rfl (xs:=[z.2]) rfl (by intro q hq;simp only[Kx,Gc,or_false]at hq;subst hq;exact hS.get k0) rfl) ?_;rintro _ h37 ⟨bk,ebk,rfl,hS⟩;refine r2 ?_;rintro h38 hS;refine r2 ?_;refine WC.fzn hS k1 ?_;rintro h39 ⟨ZUr,hS⟩;refine r4 ?_;refine Ve (KI (e:=Zc) hS Ur Yv UE rfl rfl rfl (ZF (Zj fh rfl) Z5) rfl [(((none,0),(rd,rcd),(some ⟨bk,0,none⟩,2*1)),Za.mk x.form y.2 [] d.2 [z.2])] rfl (xs:=[Za.mk x.form y.2 [] d.2 [z.2]]) rfl (by intro q hq;simp only[Kx,Gc,or_false]at hq;subst hq;exact Z6.2 ⟨Sl.nil,hS.Uo k7,hS.Uo k0⟩) rfl) ?_;rintro _ h40 ⟨b40,ZQV,rfl,hS⟩;obtain⟨z2,hz2,hL⟩:=bS hL;refine WO.hv gN rfl (Zak (e:=Zc) hS k10 Zcy (Zj (Z8 rfl fh) rfl) (Zj fh rfl) (hS.U8 k0) (hS.on k0) hz2) ?_;rintro _ h41 ⟨a41,c41,rfl,hS⟩;refine r8 ?_;refine r3 ?_;exact Ya.Yc (Uh _ _ hL ⟨_,_,a41,z2.length,c41,S3,rfl,fun e he=>hS3 e (hS2 e (hS1 e he)),hS.only (.c k0 (.c k4 (.c k4 (.c k4 (.c k4 .n))))),(YJ rfl (YJ rfl (YJ rfl (YJ rfl (Z8 rfl (Zg rfl e0)))))),(Z8 rfl fh),(YJ rfl (YJ rfl (YJ rfl (YJ rfl (Z8 rfl (Zg rfl e9)))))),(YJ rfl (YJ rfl (YJ rfl (YJ rfl (Z8 rfl (Zg rfl e10)))))),fh⟩)
  ·intro hc hL;refine r6 ?_;obtain⟨z,hz,hL⟩:=bS hL;rcases z with z|ek
   rotate_left
   ·replace hL:=Z7 hL;refine WO.Kg gN (Yo.fn Zx6 (Zb (Zj (Zg rfl fh) rfl) (Zb (Zj fh rfl) Zd))) hS (.c k2 (.c k2 (.c k2 (.c k2 .n)))) (fun g' hz' hf hO=>ZtY (F:=F) (WIN:=WIN) (Ye:=Ye) (Ka:=Ka) @hB hW Zbz (p:=((a1,c1),(a2,c2),(a3,c3))) (by rw[hz'];exact hS.hw) (hr.mono hS1) (Zc.mono hf (Zc.mono hS.fz Qo)) hO hz) ?_;rintro ZkQ hS
    repeat first|refine ZB.panic ?_|refine Yy.panic ?_|refine Ya.panic ?_|refine Xf.panic ?_
    have hr':=Oi0 hL;subst hr';exact Y0.ZmJ hT hS
   replace hL:=Yw hL;refine Vd (Yo.fn Zx6 (Zb (Zj (Zg rfl fh) rfl) (Zb (Zj fh rfl) Zd))) hS (.c k2 (.c k2 (.c k2 (.c k2 .n)))) (fun g' hz' hf hO=>PQ.ok (ZtY (F:=F) (WIN:=WIN) (Ye:=Ye) (Ka:=Ka) @hB hW Zbz (p:=((a1,c1),(a2,c2),(a3,c3))) (by rw[hz'];exact hS.hw) (hr.mono hS1) (Zc.mono hf (Zc.mono hS.fz Qo)) hO hz)) ?_;rintro _ h36 _ ⟨S3,q2,hS3,rfl,rfl⟩ hS;refine Ve (KI (e:=Zc) hS Ur Yv UE rfl rfl rfl (ZF (Zj fh rfl) Z5) rfl [(q2,z.2)] rfl (xs:=[z.2]) rfl (by intro q hq;simp only[Kx,Gc,or_false]at hq;subst hq;exact hS.get k0) rfl) ?_;rintro _ h37 ⟨bk,ebk,rfl,hS⟩;obtain⟨z2,hz2,hL⟩:=bS hL;refine WO.hv gN rfl (Zak (e:=Zc) hS k7 Zcy (Zj (YC rfl fh) rfl) (Zj fh rfl) (hS.U8 k0) (hS.on k0) hz2) ?_;rintro _ h41 ⟨a41,c41,rfl,hS⟩;refine r8 ?_;exact Ya.Yc (Uh _ _ hL ⟨_,_,a41,z2.length,c41,S3,rfl,fun e he=>hS3 e (hS1 e he),hS.only (.c k0 (.c k2 (.c k2 (.c k2 (.c k2 .n))))),(YJ rfl (YJ rfl e0)),(Z8 rfl fh),(YJ rfl (YJ rfl e9)),(YJ rfl (YJ rfl e10)),fh⟩)
 ·intro hc hL;refine r8 ?_;refine r3 ?_;refine WC.fzn hS k0 ?_;rintro h65 ⟨ZP0,hS⟩;refine r1 ?_;have hr':=Oi0 hL;subst hr';exact Y0.Jb rfl (ZG (Zj fh rfl) Zk) ⟨_,⟨S1,a,cc,hS1,rfl,rfl⟩,hT▸hS.only (.c k0 (.c k0 (.c k0 (.c k0 (.c k0 .n)))))⟩
def ZK0:(XX.fns.get 70).isSome=true:=Kq0
def Zfe(t:Term)(Zl:WS×U NM×Term->O (PR (WS×Term)))(c:U NM)(tx:Y)(args:U Zi)(ds:U Za):Int×WS×U Term->(Int×WS×U Term->O (PR (WS×Term)))->O (PR (WS×Term)):=fun(i,ws,acc) next=>
 bif decide (i<(t.kids.length:Int)) then(ZN t.kids i).bind fun x=>(Zl (ws,c,x)).bind fun y=>JS y (fun e=>some (.Z9 e)) fun y=>(app 96 acc [y.2]).bind fun z=>next (YX (i+1),y.1,z) else some (.ok (ws,Term.mk t.op tx args ds acc))
def Wo(F:Nat)(t:Term)(Zl:WS×U NM×Term->O (PR (WS×Term)))(tx:Y)(args:U Zi):WS×U NM×U Za->O (PR (WS×Term)):=fun(ws,c,ds)=>loop F (Zfe t Zl c tx args ds) (0,ws,[])
def Zff(F:Nat)(Ye:U6)(Ka:Za->U Y->O MB)(frL:Term->O MB)(t:Term)(Zl:WS×U NM×Term->O (PR (WS×Term)))(tk:MB)(c:U NM)(tx:Y):Int×MB×U Zi->(Int×MB×U Zi->O (PR (WS×Term)))->O (PR (WS×Term)):=fun(i,fr,acc) next=>
 bif decide (i<(t.args.length:Int)) then(ZN t.args i).bind fun x=>(ZFv F c fr x).bind fun y=>(app 56 acc [y.2]).bind fun z=>next (YX (i+1),y.1,z)
 else bif t.op==4 then(Zsd F t.defs).bind fun cp=>(app 16 cp.1 cp.2).bind fun names=>(Ye tk c names (frL t)).bind fun bd=>(Zt0 F Ye Ka Zl (bd.2::c) (fr,bd.1) t.defs).bind fun d=>JS d (fun e=>some (.Z9 e)) fun d=>Wo F t Zl tx acc (d.1,bd.2::c,d.2)
 else Wo F t Zl tx acc ((fr,tk),c,[])
def Zbh(F:Nat)(Ye:U6)(Ka:Za->U Y->O MB)(frL:Term->O MB)(t:Term)(Zl:WS×U NM×Term->O (PR (WS×Term)))(tk:MB)(c:U NM):MB×Y->O (PR (WS×Term)):=fun(fr,tx)=>loop F (Zff F Ye Ka frL t Zl tk c tx) (0,fr,[])
def Zco(F:Nat)(Ye:U6)(Ka:Za->U Y->O MB)(frL:Term->O MB):WS×U NM×Term->(WS×U NM×Term->O (PR (WS×Term)))->O (PR (WS×Term)):=fun(ws,c,t) Zl=>
 bif !decide (t.text=⟨#[]⟩) then(ZlV F ws.1 c t.text).bind fun y=>JS y (fun e=>some (.Z9 e)) fun y=>Zbh F Ye Ka frL t Zl ws.2 c y else Zbh F Ye Ka frL t Zl ws.2 c (ws.1,⟨#[]⟩)
def Zt8(F:Nat)(Ye:U6)(Ka:Za->U Y->O MB)(frL:Term->O MB):WS×U NM×Term->O (PR (WS×Term)):=loop F (Zco F Ye Ka frL)
def ZA0{wm:Nat}(WIN:ZqQ wm)(frL:Term->O MB):Prop:=∀b3 q x,WIN (.func (.func 151) #[] #[(V9 b3)]) [bx wm b3 (Ju q x),Yi wm Zm q x] (frL x)
def Zp5{F wm w cf:Nat}{ct:O Nat}{fv:FV wm}{WIN:ZqQ wm}{Ye:U6}{Ka:Za->U Y->O MB}{frL:Term->O MB}(hB:Zky wm w cf ct fv WIN Ye)(hW:Zn5 WIN Ka)(hW1:ZA0 WIN frL):∀Fu,Zn7 wm w cf ct fv (loop Fu (Zco F Ye Ka frL)):=by
 refine fun Fu=>XU (body:=Zco F Ye Ka frL) (fun(x:WS×U NM×Term)(r:PR (WS×Term))=>∀{h:H}{S:U SE}{b:Nat}{p:TmP},wm<=h.size->Rd S (some b) x.2.1->Zm.F wm h p x.2.2->Yp (WI wm w cf ct fv x.1.1 x.1.2 S) h ->
  WF XX 118 #[pV b,.agg (Ju p x.2.2).toArray] wm h (PQ 147 (fun(r:WS×Term) v (Gb:U (Ast wm))=>∃(S':U SE) (q:TmP),(∀e∈S,e∈S')/\v=.agg (Ju q r.2).toArray/\Gb=Yi wm Zm q r.2::WI wm w cf ct fv r.1.1 r.1.2 S') (WI wm w cf ct fv x.1.1 x.1.2 S) h r)) ?_ Fu
 rintro Zl Xm ⟨ws,c,t⟩ r hL h S b ⟨⟨pA,cA⟩,⟨pD,cD⟩,⟨pK,cK⟩⟩ Zy hr hF hO;have Zbz:Zn7 wm w cf ct fv Zl:=Xm;dsimp only at hr hF hO;obtain⟨hsA,hsD,hsK⟩:=Xd.1 hF;dsimp only at hsA hsD hsK;refine WF.begin (args:=[_,_]) (fn:=Tryz.f118) Kq0 (by exact rfl) Tryz.ntmps118 (by simp) ?_;simp only[Zq,Zx,Nat.reduceAdd];obtain⟨T,hT,hS⟩:∃T,T=QF (WI wm w cf ct fv ws.1 ws.2 S)/\Sp wm T h (WI wm w cf ct fv ws.1 ws.2 S) h:=⟨_,rfl,Sp.start Zy hO⟩
 refine r3 ?_;rintro _ h3 ⟨b3,eb3,rfl,hS⟩;refine r1 ?_;rintro _ h4 ⟨b4,eb4,rfl,hS⟩;refine r6 ?_;refine Vc (XL Zl9 (ZF (Zj fh rfl) Z5) rfl (cs':=[V8 t.op,.string (⟨#[]⟩:Y),V7,V7,V7]) rfl)<|r1 ?_;rintro _ h5 ⟨b5,eb5,rfl,hS⟩;refine r1 ?_;rintro h6 hS;refine r2 ?_;refine WC.ZfV (r:=r) (fun(q:MB×Y)(s:Fs)=>∃(fr1:Fr) (h9:H),s=⟨fr1,[],h9,none⟩/\Sp wm T h (bx wm b5 [V8 t.op,.string q.2,V7,V7,V7]::bx wm b4 [V8 0,.string (⟨#[]⟩:Y),V7,V7,V7]::bx wm b3 [V8 t.op,.string t.text,.slice pA t.args.length cA,.slice pD t.defs.length cD,.slice pK t.kids.length cK]::WI wm w cf ct fv q.1 ws.2 S) h9/\fr1.at 0=pV b/\fr1.at 3=(V9 b3)/\fr1.at 4=(V9 b4)/\fr1.at 5=(V9 b5)) (Zbh F Ye Ka frL t Zl ws.2 c) ?_ ?_
 rotate_left
 ·refine WC.seq<|r3 ?_;refine Vc (Y5 (Zj fh rfl) (J2 rfl) Wl)<|r2 ?_;refine cn hL ?_ ?_
  ·intro hc hL;obtain⟨y,hy,hL⟩:=bS hL;refine r4 ?_;rcases y with y|ek
   rotate_left
   ·replace hL:=Z7 hL;refine WO.Kg gN (Yo.fn Zi2 (Zb (Zj (Z8 rfl fh) rfl) (Zb (Zj fh rfl) Zd))) hS (.c k3 (.c k3 (.c k3 (.c k3 .n)))) (fun g' hz hf hO=>ZjR (hS.Vg hz) hr hO hy) ?_;rintro ZkQ hS
    repeat first|refine ZB.panic ?_|refine Yy.panic ?_|refine Ya.panic ?_|refine Xf.panic ?_
    have hr':=Oi0 hL;subst hr';exact Y0.ZmJ hT hS
   replace hL:=Yw hL;refine Vd (Yo.fn Zi2 (Zb (Zj (Z8 rfl fh) rfl) (Zb (Zj fh rfl) Zd))) hS (.c k3 (.c k3 (.c k3 (.c k3 .n)))) (fun g' hz hf hO=>PQ.ok (ZjR (hS.Vg hz) hr hO hy)) ?_;rintro _ h7 _ ⟨rfl,rfl⟩ hS;refine r2 ?_;rintro h8 hS;refine r1 ?_;exact Xf.Yc y hL ⟨_,_,rfl,hS.only (.c k0 (.c k4 (.c k4 (.c k0 (.c k0 (.c k0 (.c k0 .n))))))),(YJ rfl (YC rfl (Z8 rfl (Zg rfl fh)))),(YJ rfl (YC rfl (Zg rfl fh))),(YJ rfl (YC rfl fh)),(YJ rfl fh)⟩
  ·intro hc hL;refine r1 ?_;exact Xf.Yc (ws.1,⟨#[]⟩) hL ⟨_,_,rfl,hS.only (.c k0 (.c k0 (.c k0 (.c k0 (.c k0 (.c k0 (.c k0 .n))))))),(YJ rfl (Z8 rfl fh)),(YJ rfl fh),(YC rfl (Z8 rfl (Zg rfl fh))),(Z8 rfl (Zg rfl fh))⟩
 rintro⟨fr1,tx⟩ s hL ⟨frx,h9,rfl,hS,e0,e3,e4,e5⟩;refine r8 ?_;refine r2 ?_;have hS:=hS.nil (e:=Zh);refine WC.loop (WL.lift hL (fun(q:Int×MB×U Zi)(s:Fs)=>match q with | (i,fr,acc)=>∃(UY:Fr) (h9:H) (a:O Addr) (n cc:Nat),s=⟨UY,[],h9,none⟩/\Sp wm T h (bx wm b5 [V8 t.op,.string tx,.slice a n cc,V7,V7]::ow wm Zh a n cc acc::bx wm b4 [V8 0,.string (⟨#[]⟩:Y),V7,V7,V7]::bx wm b3 [V8 t.op,.string t.text,.slice pA t.args.length cA,.slice pD t.defs.length cD,.slice pK t.kids.length cK]::WI wm w cf ct fv fr ws.2 S) h9/\UY.at 0=pV b/\UY.at 3=(V9 b3)/\UY.at 4=(V9 b4)/\UY.at 5=(V9 b5)/\UY.at 25=.slice pA t.args.length cA/\UY.at 26= V8 (t.args.length:Int)/\UY.at 27= V8 i) ⟨_,_,none,0,0,rfl,hS.only (.c k1 (.c k0 (.c k0 (.c k0 (.c k0 (.c k0 (.c k0 (.c k0 .n)))))))),(YC rfl e0),(YC rfl e3),(YC rfl e4),(YC rfl e5),Z8 rfl fh,Zg rfl fh,fh⟩ ?_);clear hL hS e0 e3 e4 e5;rintro Za5 ⟨i,fr,args⟩ s Uh hL ⟨UY,h10,aA,nA,ccA,rfl,hS,e0,e3,e4,e5,e25,e26,e27⟩;obtain rfl:=hS.on k1;refine r6 ?_;refine WC.Uc (Zj fh rfl) (fun hc=>?_) (fun hc=>?_)
 ·replace hL:=Xp hc hL;refine r6 ?_;obtain⟨x,hx,hL⟩:=bS hL;obtain⟨b23,o24,⟨a25,c26⟩,UM,Uw,Uv,Qo⟩:=Sl.at_ hsA hx;refine Vc (Yf Zaw Xk (Zj (Zg rfl e25) rfl) (Zj (Zg rfl e27) rfl) rfl UM hx) ?_;have Zb9:Sl Zh wm h a25 c26 x.kids:=Y1.1 Qo;refine Vc (Yx Wy Xk (Zj fh rfl) (At.fz hS.fz Uv Uw) (j:=0) rfl rfl (ws:=[V8 x.op,V8 x.n,.string x.text,.slice a25 x.kids.length c26]) rfl)<|r1 ?_;rintro _ h28 ⟨b7,eb7,rfl,hS⟩;refine r1 ?_;rintro h29 hS;refine r2 ?_;refine WC.Ub mixed Kq0<|r1 ?_;refine WX.wr (fun x=>x=b5) hS gN rfl (fun _ _ hR=>Yt ZAK (Zj fh rfl) (At.eqv (hR b5 rfl) (hS.Jp k1)) (j:=2) rfl (v:=.slice aA args.length ccA) rfl) ?_ rfl rfl;rintro h30 e30 hS;refine r2 ?_;obtain⟨y,hy,hL⟩:=bS hL;refine WX.cl gN rfl (Yo.fn Zya (Zb (Zj (Zg rfl fh) rfl) (Zb (Zj fh rfl) Zd))) hS (.c k5 (.c k5 (.c k5 (.c k5 .n)))) (fun g' hz hf hO=>ZzQ (cf:=cf) (ct:=ct) (fv:=fv) (taken:=ws.2) hr F (fr,x) y hy (hS.Vg hz) ((hS.sl Zb9).mono hf) hO) ?_ rfl rfl [1] Kq0 (.c .z (hS.djs (.c k1 (.c k4 (.c k4 (.c k4 (.c k4 .n)))))) XP.e);rintro _ h34 _ ⟨a31,c33,rfl,rfl⟩ hS;refine WX.hn gN rfl (KI (e:=Zh) hS Zaw Xk ZfP rfl rfl rfl (ZF (Zj fh rfl) Z5) rfl [((a31,c33),y.2)] rfl (xs:=[y.2]) rfl (by intro q hq;simp only[Kx,Gc,or_false]at hq;subst hq;exact(Y1.2 (hS.Uo k0))) rfl) ?_ Kq0;rintro _ h37 ⟨b36,Zz3,rfl,hS⟩;obtain⟨z,hz,hL⟩:=bS hL;refine WX.hv gN rfl (Zak (e:=Zh) hS k8 Zkp (Zj (YC rfl fh) rfl) (Zj fh rfl) (hS.U8 k0) (hS.on k0) hz) ?_ rfl Kq0 [] Kq0 XP.e;rintro _ h41 ⟨a39,c40,rfl,hS⟩;refine WX.w gN rfl (YI ZtT (Zj (YJ rfl (Z8 rfl (Zg rfl e5))) rfl)) ?_ Kq0;refine WX.hu gN (JO hS k8 Zmy (Zj fh rfl) (Zj (Zg rfl fh) rfl) (vs:=[.slice a39 z.length c40]) rfl rfl rfl rfl (cs':=[V8 t.op,.string tx,.slice a39 z.length c40,V7,V7]) rfl) ?_ rfl Kq0 [] Kq0 XP.e;rintro h42 hS;refine r6 ?_;refine r1 ?_;exact Ya.Yc (Uh _ _ hL ⟨_,_,a39,z.length,c40,rfl,hS.only (.c k0 (.c k0 (.c k7 (.c k7 (.c k2 (.c k2 (.c k2 (.c k2 .n)))))))),(YJ rfl (YC rfl (Z8 rfl e0))),(YJ rfl (YC rfl (Z8 rfl e3))),(YJ rfl (YC rfl (Z8 rfl e4))),(YJ rfl (YC rfl (Z8 rfl e5))),(YJ rfl (YC rfl (Z8 rfl e25))),(YJ rfl (YC rfl (Z8 rfl e26))),fh⟩)
 replace hL:=Xq hc hL;refine r4 ?_;refine r1 ?_;refine WC.fzn hS k1 ?_;rintro h43 ⟨hn43,hS⟩;refine r6 ?_;refine WC.ZfV (r:=r) (fun(q:WS×U NM×U Za)(s:Fs)=>∃(fr1:Fr) (h9:H) (S1:U SE) (b8:Nat) (rd:O Addr) (rcd:Nat),s=⟨fr1,[],h9,none⟩/\(∀e∈S,e∈S1)/\Rd S1 (some b8) q.2.1/\Sp wm T h (bx wm b5 [V8 t.op,.string tx,.slice aA args.length ccA,.slice rd q.2.2.length rcd,V7]::Yi wm (YB Zh) (aA,ccA) args::Yi wm (YB Zc) (rd,rcd) q.2.2::bx wm b4 [V8 0,.string (⟨#[]⟩:Y),V7,V7,V7]::bx wm b3 [V8 t.op,.string t.text,.slice pA t.args.length cA,.slice pD t.defs.length cD,.slice pK t.kids.length cK]::WI wm w cf ct fv q.1.1 q.1.2 S1) h9/\fr1.at 3=(V9 b3)/\fr1.at 4=(V9 b4)/\fr1.at 5=(V9 b5)/\fr1.at 8=pV b8) (Wo F t Zl tx args) ?_ ?_
 rotate_left
 ·refine WC.seq<|r6 ?_;refine cn hL ?_ ?_
  ·intro hc hL;refine r4 ?_;obtain⟨cp,hcp,hL⟩:=bS hL;refine Vd (Yo.fn ZK0 (Zb (Zj fh rfl) Zd)) hS .n (fun g' hz hf hO=>ZIa (hS.Vg hz) ((hS.sl hsD).mono hf) hcp) ?_;rintro _ h50 _ ⟨ra0,rn0,rc0,ra1,rn1,rc1,rfl,rfl⟩ hS;obtain rfl:=hS.on k0;obtain rfl:=hS.on k1;refine r1 ?_;refine Vc (Xg (Zj fh rfl) rfl)<|Vc (Xg (Zj (Zg rfl fh) rfl) rfl)<|r8 ?_;refine r1 ?_;obtain⟨names,hnm,hL⟩:=bS hL;refine WO.hv gN rfl (Zak (e:=Xb) hS k0 Zcz (Zj (Zg rfl fh) rfl) (Zj fh rfl) (hS.U8 k1) (hS.on k1) hnm) ?_;rintro _ h51 ⟨aN,cN,rfl,hS⟩;refine WO.fzn hS k0 ?_;rintro h52 ⟨ZP1,hS⟩;have hS:=hS.add (A:=Yi wm Zm ((pA,cA),(pD,cD),(pK,cK)) t) (Zm.mono hS.fz hF) (fun _ z=>z);refine Vc (WZ (Zb (Zj (YJ rfl (YJ rfl (Z8 rfl e3))) rfl) Zd)) ?_;obtain⟨bd,hbd,hL⟩:=bS hL;refine Vd (Yo.fn Zx7 (Zb (Zj (YC rfl fh) rfl) (Zb (Zj (Zg rfl fh) rfl) (Zb (Zj fh rfl) Zd)))) hS (.c k6 (.c k0 (.c k5 (.c k5 (.c k5 (.c k5 .n)))))) (fun g' hz hf hO=>hB (hS.Vg hz) hr ((hS.Uo k1).mono hf) (hW1 b3 ((pA,cA),(pD,cD),(pK,cK)) t) hbd hO) ?_;rintro _ h53 _ ⟨S1,b1,hS1,rfl,hr1,rfl⟩ hS;refine r6 ?_;refine r1 ?_;obtain⟨d,hd,hL⟩:=bS hL;rcases d with d|ek
   rotate_left
   ·replace hL:=Z7 hL;refine WO.Kg gN (Yo.fn Zm7 (Zb (Zj (Z8 rfl fh) rfl) (Zb (Zj fh rfl) Zd))) hS (.c k2 (.c k2 (.c k2 (.c k2 .n)))) (fun g' hz hf hO=>Zp4 (F:=F) (WIN:=WIN) (Ye:=Ye) (Ka:=Ka) @hB hW Zbz F ((fr,bd.1),t.defs) _ hd (hS.Vg hz) hr1 ((hS.sl hsD).mono hf) hO) ?_;rintro ZkQ hS
    repeat first|refine ZB.panic ?_|refine Yy.panic ?_|refine Ya.panic ?_|refine Xf.panic ?_
    have hr':=Oi0 hL;subst hr';exact Y0.ZmJ hT hS
   replace hL:=Yw hL;refine Vd (Yo.fn Zm7 (Zb (Zj (Z8 rfl fh) rfl) (Zb (Zj fh rfl) Zd))) hS (.c k2 (.c k2 (.c k2 (.c k2 .n)))) (fun g' hz hf hO=>PQ.ok (Zp4 (F:=F) (WIN:=WIN) (Ye:=Ye) (Ka:=Ka) @hB hW Zbz F ((fr,bd.1),t.defs) _ hd (hS.Vg hz) hr1 ((hS.sl hsD).mono hf) hO)) ?_;rintro _ h54 _ ⟨S2,rd,rcd,hS2,rfl,rfl⟩ hS;refine r2 ?_;rintro h55 hS;refine r1 ?_;exact Xf.Yc (d.1,bd.2::c,d.2) hL ⟨_,_,S2,b1,rd,rcd,rfl,fun e he=>hS2 e (hS1 e he),hr1.mono hS2,hS.only (.c k0 (.c k9 (.c k0 (.c k8 (.c k4 (.c k0 (.c k0 (.c k0 (.c k0 .n))))))))),(YJ rfl (YJ rfl (YJ rfl (Z8 rfl e3)))),(YJ rfl (YJ rfl (YJ rfl (Z8 rfl e4)))),(YJ rfl (YJ rfl (YJ rfl (Z8 rfl e5)))),(YC rfl (Zg rfl fh))⟩
  ·intro hc hL;refine r1 ?_;have hS:=hS.add (A:=Yi wm (YB Zc) (none,0) []) Sl.nil (fun _ z=>z);exact Xf.Yc ((fr,ws.2),c,[]) hL ⟨_,_,S,b,none,0,rfl,fun _ q=>q,hr,hS.only (.c k2 (.c k1 (.c k0 (.c k0 (.c k0 (.c k0 (.c k0 (.c k0 (.c k0 .n))))))))),(YC rfl (Z8 rfl e3)),(YC rfl (Z8 rfl e4)),(YC rfl (Z8 rfl e5)),(Z8 rfl (Zg rfl fh))⟩
 clear hL hS e0 e3 e4 e5;rintro⟨ws2,c2,ds⟩ s hL ⟨frz,h60,S1,b8,rd,rcd,rfl,hS1,hr8,hS,e3,e4,e5,e8⟩;dsimp only[Wo]at hL hr8;refine r8 ?_;refine r2 ?_;have hS:=hS.nil (e:=Zm);refine WC.loop (WL.lift hL (fun(q:Int×WS×U Term)(s:Fs)=>match q with | (i,ws,acc)=>∃(UY:Fr) (h9:H) (a:O Addr) (n cc:Nat) (S2:U SE),s=⟨UY,[],h9,none⟩/\(∀e∈S1,e∈S2)/\Sp wm T h (bx wm b5 [V8 t.op,.string tx,.slice aA args.length ccA,.slice rd ds.length rcd,.slice a n cc]::ow wm Zm a n cc acc::Yi wm (YB Zh) (aA,ccA) args::Yi wm (YB Zc) (rd,rcd) ds::bx wm b4 [V8 0,.string (⟨#[]⟩:Y),V7,V7,V7]::WI wm w cf ct fv ws.1 ws.2 S2) h9/\UY.at 4=(V9 b4)/\UY.at 5=(V9 b5)/\UY.at 8=pV b8/\UY.at 62=.slice pK t.kids.length cK/\UY.at 63= V8 (t.kids.length:Int)/\UY.at 64= V8 i) ⟨_,_,none,0,0,S1,rfl,fun _ q=>q,hS.only (.c k1 (.c k0 (.c k0 (.c k0 (.c k0 (.c k1 (.c k1 (.c k1 (.c k1 .n))))))))),(YC rfl e4),(YC rfl e5),(YC rfl e8),Z8 rfl fh,Zg rfl fh,fh⟩ ?_);clear hL hS e3 e4 e5 e8;rintro ZPe ⟨i3,ws3,acc⟩ s ZCC hL ⟨Zd6,h61,aK,nK,ccK,S2,rfl,hS2,hS,e4,e5,e8,e62,e63,e64⟩;obtain rfl:=hS.on k1;refine r6 ?_;refine cn hL ?_ ?_
 ·intro hc hL;refine r6 ?_;obtain⟨x,hx,hL⟩:=bS hL;obtain⟨b23,o24,qx,UM,Uw,Uv,Qo⟩:=Sl.at_ hsK hx;refine Vc (Yf Q9 Yd (Zj (Zg rfl e62) rfl) (Zj (Zg rfl e64) rfl) rfl UM hx)<|Vc (Yx Qx Yd (Zj fh rfl) (At.fz hS.fz Uv Uw) (j:=0) rfl rfl (ws:=Ju qx x) rfl)<|r1 ?_;rintro _ h28 ⟨b12,ZIs,rfl,hS⟩;refine r1 ?_;rintro h29 hS;refine r2 ?_;obtain⟨y,hy,hL⟩:=bS hL;rcases y with y|ek
  rotate_left
  ·replace hL:=Z7 hL;obtain⟨ZkQ,hSp,Zyv⟩:=PQ.Z9 (Zbz _ _ hy hS.hw (hr8.mono hS2) (Zm.mono hS.fz Qo) (hS.Zbc (.c k6 (.c k6 (.c k6 (.c k6 .n))))));refine WC.ZNd mixed (c:=4) Kq0<|PX.w rfl (YI Zbe lk)<|PX.w rfl (Yt ZfE lk (hS.Jp k1) (j:=4) rfl (v:=.slice aK acc.length ccK) rfl)<|PX.w rfl (ZO lk)<|PX.w rfl (Yx Qx Yd lk (hS.Jp k0) (j:=0) rfl rfl (ws:=Ju qx x) rfl)<|PX.call ⟨118,_,_,ZkQ,rfl,Yo.fn Zb8 (Zb lk (Zb lk Zd)) _,Zyv,fun Jd=>?_⟩
   repeat first|refine ZB.panic ?_|refine Yy.panic ?_|refine Ya.panic ?_|refine Xf.panic ?_
   have hr':=Oi0 hL;subst hr';exact Y0.ZmJ hT (hS.call (.c k6 (.c k6 (.c k6 (.c k6 .n)))) hSp)
  replace hL:=Yw hL;refine WC.Ub mixed Kq0<|r1 ?_;refine WX.wr (fun x=>x=b5) hS gN rfl (fun _ _ hR=>Yt ZfE (Zj fh rfl) (At.eqv (hR b5 rfl) (hS.Jp k1)) (j:=4) rfl (v:=.slice aK acc.length ccK) rfl) ?_ rfl rfl;rintro h30 e30 hS;refine r2 ?_;refine WX.cl gN rfl (Yo.fn Zb8 (Zb (Zj (Zg rfl fh) rfl) (Zb (Zj fh rfl) Zd))) hS (.c k6 (.c k6 (.c k6 (.c k6 .n)))) (fun g' hz hf hO=>PQ.ok (Zbz _ _ hy (hS.Vg hz) (hr8.mono hS2) (Zm.mono hf (Zm.mono hS.fz Qo)) hO)) ?_ rfl rfl [1] Kq0 (.c .z (hS.djs (.c k1 (.c k5 (.c k5 (.c k5 (.c k5 .n)))))) XP.e);rintro _ h34 _ ⟨S3,q3,hS3,rfl,rfl⟩ hS;refine WX.hn gN rfl (KI (e:=Zm) hS Q9 Yd WH rfl rfl rfl (ZF (Zj fh rfl) Z5) rfl [(q3,y.2)] rfl (xs:=[y.2]) rfl (by intro q hq;simp only[Kx,Gc,or_false]at hq;subst hq;exact hS.get k0) rfl) ?_ Kq0;rintro _ h37 ⟨b36,Zz3,rfl,hS⟩;obtain⟨z,hz,hL⟩:=bS hL;refine WX.hv gN rfl (Zak (e:=Zm) hS k8 Zko (Zj (YC rfl fh) rfl) (Zj fh rfl) (hS.U8 k0) (hS.on k0) hz) ?_ rfl Kq0 [] Kq0 XP.e;rintro _ h41 ⟨a39,c40,rfl,hS⟩;refine WX.w gN rfl (YI Zbe (Zj (YJ rfl (Z8 rfl (Zg rfl e5))) rfl)) ?_ Kq0;refine WX.hu gN (JO hS k8 Zie (Zj fh rfl) (Zj (Zg rfl fh) rfl) (vs:=[.slice a39 z.length c40]) rfl rfl rfl rfl (cs':=[V8 t.op,.string tx,.slice aA args.length ccA,.slice rd ds.length rcd,.slice a39 z.length c40]) rfl) ?_ rfl Kq0 [] Kq0 XP.e;rintro h42 hS;refine r6 ?_;refine r1 ?_;exact Ya.Yc (ZCC _ _ hL ⟨_,_,a39,z.length,c40,S3,rfl,fun e he=>hS3 e (hS2 e he),hS.only (.c k0 (.c k0 (.c k7 (.c k7 (.c k7 (.c k2 (.c k2 (.c k2 (.c k2 .n))))))))),(YJ rfl (YC rfl (Z8 rfl e4))),(YJ rfl (YC rfl (Z8 rfl e5))),(YJ rfl (YC rfl (Z8 rfl e8))),(YJ rfl (YC rfl (Z8 rfl e62))),(YJ rfl (YC rfl (Z8 rfl e63))),fh⟩)
 ·intro hc hL;refine r4 ?_;refine r1 ?_;refine WC.fzn hS k1 ?_;rintro h43 ⟨hn43,hS⟩;refine r4 ?_;rintro h63 hS;refine r3 ?_;have hS:=hS.add (A:=Yi wm Zm ((aA,ccA),(rd,rcd),(aK,ccK)) (Term.mk t.op tx args ds acc)) (Xd.2 ⟨hS.Uo k3,hS.Uo k4,hS.Uo k1⟩) (fun _ z=>z);have hr':=Oi0 hL;subst hr';exact Y0.Jb rfl (YP (Z8 rfl e4) (Xc Qx Yd (hS.Jp k1) (j:=0) rfl rfl (ws:=[V8 t.op,.string tx,.slice aA args.length ccA,.slice rd ds.length rcd,.slice aK acc.length ccK]) rfl) Zk) ⟨_,⟨S2,((aA,ccA),(rd,rcd),(aK,ccK)),fun e he=>hS2 e (hS1 e he),rfl,rfl⟩,hT▸hS.only (.c k0 (.c k5 (.c k5 (.c k5 (.c k5 .n)))))⟩
end
end Go.Proofs.YtbnepjakjmnadaaGreat
end
end
section
set_option maxRecDepth 20000
noncomputable section
namespace Go.ZP
open Go.Lf
def Ztg{α:Type}:∀(Ga Gr:U α),Sel (Ga++Gr) Ga Gr
 | [],_=>.n
 | _::Ga,Gr=>.c .z (Ztg Ga Gr)
def ZAc{X:Ctx}{wm:Nat}{f:V2}{args:V4 N}{h:H}{K:N->U (Ast wm)->Prop}{Ga:U (Ast wm)}(Gw:U (Ast wm))(Zy:wm<=h.size)(hO:Yp (Gw++Ga) h)(c:WR X f args wm h (CP K Ga h)):
 WR X f args wm h (CP (fun v Gb=>∃Gb',K v Gb'/\Gb=Gw++Gb') (Gw++Ga) h):=by
 obtain⟨e,h',⟨v,rfl,Gb,hk,hS⟩,hj⟩:=c;refine⟨_,h',⟨v,rfl,Gw++Gb,⟨Gb,hk,rfl⟩,?_⟩,hj⟩;have s:=Sp.start Zy hO;have s1:Sp wm (QF (Gw++Ga)) h (Ga++Gw) h:=s.perm List.perm_append_comm;exact(s1.call (Ztg Ga Gw) hS).perm List.perm_append_comm
end Go.ZP
end
end
section
set_option maxRecDepth 20000
noncomputable section
namespace Go.Proofs.YtbnepjakjmnadaaGreat
open Go.ZP Go.Lf
section
def ZE8:(XX.fns.get 79).isSome=true:=Kq0
def ZK1:(XX.fns.get 68).isSome=true:=Kq0
def Zs6:YM XX.P 110=some (.agg #[.map none,.map none,.nilFunc]):=Kq0
instance:U0 XX.P 110 (.agg #[.map none,.map none,.nilFunc]):=⟨Zs6⟩
def ZAr:JQ XX.P 110 [.map none,.map none,.nilFunc] [(0,1),(1,1),(2,1)]:=⟨_,_,Zs6,rfl,Tryz.underlying110,by kernel_rfl⟩
def Zat(F:Nat):U6:=fun tk _ names _=>(ZjQ F names).map fun m=>(tk,m)
def Zuj{F wm w cf:Nat}{ct:O Nat}{WIN:ZqQ wm}:Zky wm w cf ct FV0 WIN (Zat F):=by
 intro h S b c names pa pc wv Gw wi free taken r Zy hr hsp _ hL hO;unfold Zat at hL;obtain⟨m,hm,rfl⟩:=Option.map_eq_some_iff.1 hL;have hO':Yp (WI wm w cf ct FV0 free taken S) h:=Yp.right hO;obtain⟨e,h',⟨v,rfl,Gb,⟨Gb',⟨S',b',h1,h2,h3,rfl⟩,rfl⟩,hS⟩,hj⟩:=ZAc Gw Zy hO (ZzK (wv:=wv) Zy hr hsp hO' hm);exact⟨_,h',⟨v,rfl,_,⟨S',b',h1,h2,h3,rfl⟩,hS⟩,hj⟩
def Zzw{F wm w:Nat}{ct cm:O Nat}{fv:FV wm}{WIN:ZqQ wm}{Ye:U6}{Ka:Za->U Y->O MB}{frL:Term->O MB}(hB:∀cf,Zky wm w cf ct fv WIN Ye)(hW:Zn5 WIN Ka)(hW1:ZA0 WIN frL)
 {taken:MB} {h:H} {t:Term} {p:TmP} {m:O Nat} {es:U (Y×EV)} {r:PR (WS×Term)} (Zy:wm<=h.size) (hF:Zm.F wm h p t) (hO:Yp [bx wm w [.map cm,.map ct,fv.v],fv.A,mp wm Value.string Value.bool ct taken,mp wm Value.string vvE m es,esA wm es] h) (hL:Zt8 F Ye Ka frL (([],taken),[Zrv es],t)=some r):
  WF XX 79 #[pV w,.agg (Ju p t).toArray,.map m] wm h (PQ 147 (fun(r:WS×Term) v (Gb:U (Ast wm))=>∃(cf:Nat) (S':U SE) (q:TmP),v=.agg (Ju q r.2).toArray/\Gb=Yi wm Zm q r.2::WI wm w cf ct fv r.1.1 r.1.2 S') [bx wm w [.map cm,.map ct,fv.v],fv.A,mp wm Value.string Value.bool ct taken,mp wm Value.string vvE m es,esA wm es] h r):=by
 refine WF.begin (args:=[_,_,_]) (fn:=Tryz.f79) Kq0 (by exact rfl) Tryz.ntmps79 (by simp) ?_;simp only[Zq,Zx,Nat.reduceAdd];obtain⟨T,hT,hS⟩:∃T,T=QF (wm:=wm) [bx wm w [.map cm,.map ct,fv.v],fv.A,mp wm Value.string Value.bool ct taken,mp wm Value.string vvE m es,esA wm es]/\Sp wm T h [bx wm w [.map cm,.map ct,fv.v],fv.A,mp wm Value.string Value.bool ct taken,mp wm Value.string vvE m es,esA wm es] h:=⟨_,rfl,Sp.start Zy hO⟩
 refine r3 ?_;rintro _ h3 ⟨b4,eb4,rfl,hS⟩;refine r1 ?_;rintro _ h4 ⟨b6,eb6,rfl,hS⟩;refine r4 ?_;refine r1 ?_;refine Ve (ZgQ Value.string Value.bool hS) ?_;rintro _ h5 ⟨cf,ecf,rfl,hS⟩;refine r3 ?_;rintro h6 hS;have hS:=ZF6 (hS.only (.c k0 (.c k3 (.c k0 (.c k0 (.c k0 (.c k0 (.c k0 (.c k0 .n)))))))));refine r6 ?_;refine Vc (XL ZAo (ZF (Zj (Zg rfl fh) rfl) (ZF (Zj fh rfl) Z5)) rfl (cs':=[pV w,Zds none,.map m]) rfl)<|r1 ?_;rintro _ h7 ⟨bs,ebs,rfl,hS⟩;have hS:=hS.add (A:=stA wm w []) (fun x hx=>by cases hx) (fun i z=>by obtain⟨x,hx,_⟩:=z;cases hx);have hS:=ZwQ (S:=[]) (b:=bs) (ar:=none) (m:=m) (es:=es) (hS.only (.c k1 (.c k6 (.c k6 (.c k0 (.c k0 (.c k0 (.c k2 (.c k0 (.c k0 .n))))))))));refine r1 ?_;rcases r with r|ek
 rotate_left
 ·refine WO.Kg gN (Yo.fn Zb8 (Zb (Zj (Zg rfl fh) rfl) (Zb (Zj fh rfl) Zd))) hS (.c k1 (.c k1 (.c k1 (.c k0 .n)))) (fun g' hz hf hO=>Zp5 (F:=F) (WIN:=WIN) (Ye:=Ye) (Ka:=Ka) (frL:=frL) (hB cf) hW hW1 F (([],taken),[Zrv es],t) _ hL (b:=bs) (hS.Vg hz) (Rd.cons (e:=⟨bs,none,m,es⟩) Gy Rd.nil) (Zm.mono hf (Zm.mono hS.fz hF)) hO) ?_;rintro ZkQ hS
  repeat first|refine ZB.panic ?_|refine Yy.panic ?_|refine Ya.panic ?_|refine Xf.panic ?_
  exact Y0.ZmJ hT hS
 refine Vd (Yo.fn Zb8 (Zb (Zj (Zg rfl fh) rfl) (Zb (Zj fh rfl) Zd))) hS (.c k1 (.c k1 (.c k1 (.c k0 .n)))) (fun g' hz hf hO=>PQ.ok (Zp5 (F:=F) (WIN:=WIN) (Ye:=Ye) (Ka:=Ka) (frL:=frL) (hB cf) hW hW1 F (([],taken),[Zrv es],t) _ hL (b:=bs) (hS.Vg hz) (Rd.cons (e:=⟨bs,none,m,es⟩) Gy Rd.nil) (Zm.mono hf (Zm.mono hS.fz hF)) hO)) ?_;rintro _ h8 _ ⟨S1,q,_,rfl,rfl⟩ hS;refine r1 ?_;rintro h9 hS;refine r3 ?_;exact Y0.Jb rfl (YP (YJ rfl (Z8 rfl fh)) (Xc Qx Yd (hS.Jp k0) (j:=0) rfl rfl (ws:=Ju q r.2) rfl) Zk) ⟨_,⟨cf,S1,q,rfl,rfl⟩,hT▸hS.only (.c k1 (.c k1 (.c k1 (.c k1 (.c k1 .n)))))⟩
def ZvG(F:Nat)(t:Term):O MB:=((Zt8 F (Zat F) (fun _ _=>none) (fun _=>none) (([],[]),[[]],t)).bind okP).map fun r=>r.1.1
def ZIb{F wm:Nat}{h:H}{t:Term}{pA pD pK:O Addr}{cA cD cK:Nat}{r:MB}(Zy:wm<=h.size)(hsA:Sl Zh wm h pA cA t.args)(hsD:Sl Zc wm h pD cD t.defs)(hsK:Sl Zm wm h pK cK t.kids)(hL:ZvG F t=some r):
 WR XX 68 #[.agg #[V8 t.op,.string t.text,.slice pA t.args.length cA,.slice pD t.defs.length cD,.slice pK t.kids.length cK]] wm h (CP (fun v (Gb:U (Ast wm))=>∃(cf:Nat),v=.map (some cf)/\Gb=[mp wm Value.string Value.bool (some cf) r]) [] h):=by
 have hF:Zm.F wm h ((pA,cA),(pD,cD),(pK,cK)) t:=Xd.2 ⟨hsA,hsD,hsK⟩;unfold ZvG at hL;obtain⟨r',hr',rfl⟩:=ZiB hL;refine bg Tryz.ntmps68 Zy Yp.nil ?_;intro T hT hS;refine r3 ?_;rintro _ h3 ⟨b1,eb1,rfl,hS⟩;refine r4 ?_;refine r1 ?_;refine Vc (XL ZAr Z5 rfl (cs':=[.map none,.map none,.nilFunc]) rfl)<|r1 ?_;rintro _ h4 ⟨bw,ebw,rfl,hS⟩;refine r6 ?_;refine r1 ?_;have hS:=hS.add (A:=esA wm []) (fun x hx=>by cases hx) (fun _ z=>z);have hS:=hS.add (A:=mp wm Value.string vvE none []) Zle.nil (fun i z=>by cases z);have hS:=hS.add (A:=mp wm Value.string Value.bool none []) Zle.nil (fun i z=>by cases z);have hS:=hS.add (A:=noA wm) trivial (fun i z=>z);refine Vd (Yo.fn ZE8 (Zb (Zj (Zg rfl fh) rfl) (Zb (Zj fh rfl) (Zb (J2 rfl) Zd)))) hS (.c k4 (.c k0 (.c k0 (.c k0 (.c k0 .n))))) (fun g' hz hf hO=>PQ.ok (Zzw (F:=F) (w:=bw) (fv:=FV0) (WIN:=fun _ _ _=>True) (Ye:=Zat F) (Ka:=fun _ _=>none) (frL:=fun _=>none) (fun cf=>@Zuj F wm bw cf none (fun _ _ _=>True)) (fun _ _ _ _ _ _ _=>trivial) (fun _ _ _=>trivial) (p:=((pA,cA),(pD,cD),(pK,cK))) (es:=[]) (hS.Vg hz) (Zm.mono hf (Zm.mono hS.fz hF)) hO hr')) ?_;rintro _ h8 _ ⟨cf,S1,q,rfl,rfl⟩ hS;refine r6 ?_;refine r1 ?_;refine Vc (Yt ZqJ (Zj fh rfl) (Zs9 hS k1) (j:=0) rfl (v:=.map (some cf)) rfl)<|r4 ?_;exact Y0.Jb rfl (ZG (Zj fh rfl) Zk) ⟨_,⟨cf,rfl,rfl⟩,hT▸hS.only (.c k2 .n)⟩
end
section
def ZvF(F:Nat)(t:Term):O Term:=((Zt8 F (Zat F) (fun _ _=>none) (fun _=>none) (([],[]),[[]],t)).bind okP).map fun r=>r.2
def Zzx{F wm:Nat}{h:H}{t:Term}{pA pD pK:O Addr}{cA cD cK:Nat}{r:Term}(Zy:wm<=h.size)(hsA:Sl Zh wm h pA cA t.args)(hsD:Sl Zc wm h pD cD t.defs)(hsK:Sl Zm wm h pK cK t.kids)(hL:ZvF F t=some r):
 WR XX 72 #[.agg #[V8 t.op,.string t.text,.slice pA t.args.length cA,.slice pD t.defs.length cD,.slice pK t.kids.length cK]] wm h (CP (fun v (Gb:U (Ast wm))=>∃(Ym:O Addr) (Yl:Nat) (JA:O Addr) (Jy:Nat) (Jz:O Addr) (Jw:Nat),v=.agg #[V8 r.op,.string r.text,.slice Ym r.args.length Yl,.slice JA r.defs.length Jy,.slice Jz r.kids.length Jw]/\Gb=[Yi wm (YB Zh) (Ym,Yl) r.args,Yi wm (YB Zc) (JA,Jy) r.defs,Yi wm (YB Zm) (Jz,Jw) r.kids]) [] h):=by
 have hF:Zm.F wm h ((pA,cA),(pD,cD),(pK,cK)) t:=Xd.2 ⟨hsA,hsD,hsK⟩;unfold ZvF at hL;obtain⟨r',hr',rfl⟩:=ZiB hL;refine bg Tryz.ntmps72 Zy Yp.nil ?_;intro T hT hS;refine r3 ?_;rintro _ h3 ⟨b1,eb1,rfl,hS⟩;refine r1 ?_;rintro _ h2 ⟨b2,eb2,rfl,hS⟩;refine r4 ?_;refine Vc (XL ZAr Z5 rfl (cs':=[.map none,.map none,.nilFunc]) rfl)<|r1 ?_;rintro _ h4 ⟨bw,ebw,rfl,hS⟩;refine r1 ?_;have hS:=hS.add (A:=esA wm []) (fun x hx=>by cases hx) (fun _ z=>z);have hS:=hS.add (A:=mp wm Value.string vvE none []) Zle.nil (fun i z=>by cases z);have hS:=hS.add (A:=mp wm Value.string Value.bool none []) Zle.nil (fun i z=>by cases z);have hS:=hS.add (A:=noA wm) trivial (fun i z=>z);refine Vd (Yo.fn ZE8 (Zb (Zj (Zg rfl fh) rfl) (Zb (Zj fh rfl) (Zb (J2 rfl) Zd)))) hS (.c k4 (.c k0 (.c k0 (.c k0 (.c k0 .n))))) (fun g' hz hf hO=>PQ.ok (Zzw (F:=F) (w:=bw) (fv:=FV0) (WIN:=fun _ _ _=>True) (Ye:=Zat F) (Ka:=fun _ _=>none) (frL:=fun _=>none) (fun cf=>@Zuj F wm bw cf none (fun _ _ _=>True)) (fun _ _ _ _ _ _ _=>trivial) (fun _ _ _=>trivial) (p:=((pA,cA),(pD,cD),(pK,cK))) (es:=[]) (hS.Vg hz) (Zm.mono hf (Zm.mono hS.fz hF)) hO hr')) ?_;rintro _ h8 _ ⟨cf,S1,⟨⟨q0,c0⟩,⟨q1,c1⟩,⟨q2,c2⟩⟩,rfl,rfl⟩ hS;refine r1 ?_;rintro h9 hS;refine r3 ?_;have hq:=Xd.1 (hS.get k1);have hS:=hS.add (A:=Yi wm (YB Zm) (q2,c2) r'.2.kids) hq.2.2 (fun _ z=>z);have hS:=hS.add (A:=Yi wm (YB Zc) (q1,c1) r'.2.defs) hq.2.1 (fun _ z=>z);have hS:=hS.add (A:=Yi wm (YB Zh) (q0,c0) r'.2.args) hq.1 (fun _ z=>z);exact Y0.Jb rfl (YP (YC rfl fh) (Xc Qx Yd (hS.Jp k3) (j:=0) rfl rfl (ws:=Ju ((q0,c0),(q1,c1),(q2,c2)) r'.2) rfl) Zk) ⟨_,⟨q0,c0,q1,c1,q2,c2,rfl,rfl⟩,hT▸hS.only (.c k0 (.c k0 (.c k0 .n)))⟩
end
section
open Go.ZP Go.RowKit Go.Maps Go.Sort Go.Shelf Go.Lf
def ZDj{wm m:Nat}{h:H}:Yn XX (.call 67 #[.map (some m)] wm h) (.fin (.ret (.func (.func 111) #[] #[(V9 h.size)])) (h.push (.box m))):=by
 intro ρ args' w Zy hr hvs;refine(ZtE hr hvs).mono fun e w' ⟨v',p,l,he,hb,hp,hp2,hvr,ho⟩=>?_
 subst he;obtain⟨q1,q2⟩:=Zrn hr Zy hb hp hp2 ho;exact⟨_,.ret hvr,q1,q2⟩
def ZBY{ρ:ZP.Ren}{h:H}{w w':V3}{v:N}{ss L:U (U UInt8)}(h1:L≠[])(h2:L.mergeSort leB=L)(hp:ss.Perm L)
 (ho:w'.ownsRow w.heap.size 9 1 v ss.length ((ss.mergeSort fun x y=>decide (x<=y)).map encStr)):
 ∃p l,w.heap.size<=p/\p<w'.heap.size/\VR (ρ.add h.size (p,0) l) (.slice (some ⟨h.size,0,none⟩) L.length (2*L.length+1)) v/\QE (ρ.add h.size (p,0) l) w' p 0 l (.row (L.map encStr) true 1):=by
 have hm:(ss.mergeSort fun x y=>decide (x<=y))=L:=by
  have e1:ss.mergeSort leB=L.mergeSort leB:=mergeSort_of_perm hp;exact e1.trans h2
 rw[hm,hp.length_eq]at ho;obtain⟨_,⟨_,h0⟩|⟨g,cap,cur,rfl,hb,hg,c1,c2,c3,c4⟩⟩:=ho
 ·exact absurd (Q4 h0) h1
 ·have hlt:g<w'.heap.size:=(J0.1 hg).1;refine⟨g,(cur.size,1),hb,hlt,?_,?_⟩
  ·have:=VR.slice (ρ:=ρ.add h.size (g,0) (cur.size,1)) (i:=h.size) (b:=g) (d:=0) 0 L.length (2*L.length+1) cap (Ren.add_same _ _ _ _) ?_
   ·exact this
   ·rw[Ren.Zag];refine⟨KB c2 (by decide),?_⟩;rw[if_neg Va];dsimp only;omega
  ·refine⟨cur,9,(0,0),hg,fun _=>⟨rfl,fun _=>rfl⟩,by simp;omega,fun k v v' a b=>?_⟩;rw[Nat.mul_one]at c4
   have:cur.toList[k]? =some v:=by
    have hk:(L.map encStr)[k]? =some v:=a;rw[<-c4,List.getElem?_take]at hk;split at hk
    ·exact hk
    ·cases hk
   rw[G0]at b;rw[<-G8,this]at b;cases b;rw[GQ,Option.map_eq_some_iff]at a;obtain⟨x,_,rfl⟩:=a;exact VR.string _
def Zre{ρ:ZP.Ren}{h:H}{i m clock:Nat}{args':V4 N}{w:V3}{es:U V5}{ks L:U (U UInt8)}(hr:Rel ρ h w)(hi:h.at i=.box m)(hat:h.at m=.map es clock)(c1:Xr clock es=true)(c2:es.length<=1000000)(c3:Zbw es=some ks)(c4:nodupB ks=true)(hsz:Maps.size (Jl ks)<=1000000)(h1:L≠[])(h2:L.mergeSort leB=L)(hL:(strKeys (Jl ks)).Perm L)
 (hv:Jr ρ #[.func (.func 111) #[] #[(V9 i)]] args'):
 CallsIn base 0 Tryz.prog 66 args' w (fun e w'=>∃v' p l,e=.returned v'/\Below w.heap.size w w'/\w.heap.size<=p/\p<w'.heap.size/\
  VR (ρ.add h.size (p,0) l) (.slice (some ⟨h.size,0,none⟩) L.length (2*L.length+1)) v'/\QE (ρ.add h.size (p,0) l) w' p 0 l (.row (L.map encStr) true 1)):=by
 obtain⟨b,d,rfl,hb⟩:∃b d,args'=#[.func (.func 111) #[] #[.pointer (some ⟨b,d+0,none⟩)]]/\ρ i=some (b,d):=by
  have h1:args'.size=1:=hv.1.symm;have h2:=hv.2 0 _ (args'[0]'Va) (by rfl) (by simp[h1])
  have h3:args'=#[args'[0]'Va]:=by
   apply Array.ext
   ·simp[h1]
   ·intro i hi _;obtain rfl:i=0:=Va
    rfl
  generalize args'[0]'Va=y at h2 h3;cases h2 with
  | func _ _ _ xs' ys' hf hx hy k1 k2=>
    have e1:xs'=#[]:=GP hx.symm;have hy:ys'.size=1:=hy.symm;have k3:=k2 0 _ (ys'[0]'Va) (by rfl) (by simp[hy])
    have e2:ys'=#[ys'[0]'Va]:=by
     apply Array.ext
     ·simp[hy]
     ·intro i hi _;obtain rfl:i=0:=Va
      rfl
    generalize ys'[0]'Va=z at k3 e2;cases k3 with
    | @ptr _ b d _ hb=>exact⟨b,d,by rw[h3,e1,e2],hb⟩
 have ho:=hr.obj _ _ _ hb;rw[hi]at ho;obtain⟨rfl,bm,el,hbm,hcell⟩:=ho;have hom:=hr.obj _ _ _ hbm;rw[hat]at hom;obtain⟨_,es',hw,hes⟩:=hom;have hown:=Zrp hw hes c1 c2 c3 c4;have hlt:=(hr.dom _ _ _ hb).2
 have hseq:SeqGives base 2 Tryz.prog 111 #[(V9 b)] encStr (fun ss=>ss.Perm (strKeys (Jl ks))) (Maps.size (Jl ks)) w:=
  AnyZ.keys_gives (ρ:=Zc4) {ZtF with} base _ (inB Kq0) rfl Va b bm _ _ w hlt (by simp[World.cell?,hcell]) hown
 have h1m:(1000000:Nat)<=maxLen:=by decide
 have cS:=AnyZ.sorted_in Zmt base 5 (inB Kq0) (inB Kq0) (inB Kq0) (inB Kq0) rfl Va (sorts _) (enters_of Tryz.func110 Kq0 rfl) 111 #[(V9 b)] (inB Kq0) (enters_of Tryz.func111 Kq0 rfl) _ _ Va Va _ hseq;refine CallsIn.mono (Zdi cS) ?_;rintro e w' ⟨v,ss,rfl,hS,hrow,_,hbel⟩;obtain⟨p,l,q1,q2,q3,q4⟩:=ZBY (ρ:=ρ) (h:=h) h1 h2 (hS.trans hL) hrow;exact⟨v,p,l,rfl,hbel,q1,q2,q3,q4⟩
def Zzy{wm i m clock:Nat}{h:H}{es:U V5}{ks L:U (U UInt8)}(hi:h.at i=.box m)(hat:h.at m=.map es clock)(c1:Xr clock es=true)(c2:es.length<=1000000)(c3:Zbw es=some ks)(c4:nodupB ks=true)(hsz:Maps.size (Jl ks)<=1000000)(h1:L≠[])(h2:L.mergeSort leB=L)(hL:(strKeys (Jl ks)).Perm L):
 Yn XX (.call 66 #[.func (.func 111) #[] #[(V9 i)]] wm h) (.fin (.ret (.slice (some ⟨h.size,0,none⟩) L.length (2*L.length+1))) (h.push (.row (L.map encStr) true 1))):=by
 intro ρ args' w Zy hr hvs;refine(Zre hr hi hat c1 c2 c3 c4 hsz h1 h2 hL hvs).mono fun e w' ⟨v',p,l,he,hb,hp,hp2,hvr,ho⟩=>?_
 subst he;obtain⟨q1,q2⟩:=Zrn hr Zy hb hp hp2 ho;exact⟨_,.ret hvr,q1,q2⟩
def kbs(l:U (Y×Z)):U (U UInt8):=l.map fun p=>p.1.data.toList
def Zhd(l:U (Y×Z)):U (U UInt8):=(kbs l).mergeSort leB
def ZaZ(l:U (Y×Z)):U Y:=(Zhd l).map fun k=>⟨k.toArray⟩
def ZrN(ks:U (U UInt8)):(strKeys (Jl ks)).Perm ks:=by
 unfold Jl;show(((ks.map fun k=>(Lit.string k,DataW.nil (H:=Unit))).foldr DataW.insert []).map fun p=>strOf p.1).Perm ks;have h:=(Go.WideShapes.sorted_perm (ks.map fun k=>(Lit.string k,DataW.nil (H:=Unit)))).map fun p=>strOf p.1
 rw[GE]at h
 have e:ks.map ((fun p:Lit×DataW Unit=>strOf p.1)∘fun k=>(Lit.string k,DataW.nil))=ks:=by
  conv=>rhs;rw[<-List.map_id ks]
  exact GA fun k _=>rfl
 rwa[e]at h
def ZuT(l:U (Y×Z)):(strKeys (Jl (kbs l))).Perm (Zhd l):=(ZrN _).trans (List.mergeSort_perm _ _).symm
def ZlD:∀a b c:U UInt8,leB a b=true->leB b c=true->leB a c=true:=fun a b c h1 h2=>by simp only[leB,decide_eq_true_eq]at *;exact List.le_trans h1 h2
def ZlE:∀a b:U UInt8,(leB a b||leB b a)=true:=fun a b=>by simp only[leB,Gt,decide_eq_true_eq];exact List.le_total a b
def Zos(l:U (Y×Z)):(Zhd l).mergeSort leB=Zhd l:=List.mergeSort_of_pairwise (List.pairwise_mergeSort ZlD ZlE _)
def Zh9(l:U (Y×Z)):(Zhd l).length=l.length:=by unfold Zhd;rw[List.length_mergeSort];simp[kbs]
def ZoL{k:U UInt8}:∀{xs},k∉xs->Zls k xs=true
 | [],_=>rfl
 | x::xs,h=>by
   unfold Zls;rw[decide_eq_false (fun e=>h (by rw[e];simp))];exact ZoL fun hm=>h (Ks _ hm)
def Zlu:∀{xs:U (U UInt8)},xs.Nodup->nodupB xs=true
 | [],_=>rfl
 | x::xs,h=>by
   obtain⟨h1,h2⟩:=List.nodup_cons.1 h;unfold nodupB;rw[ZoL h1,Zlu h2];rfl
def Zlt{b:Nat}:∀{es:U V5},b∉es.map (·.born)->KM b es=true
 | [],_=>rfl
 | e::es,h=>by
   unfold KM
   have:Nat.beq e.born b=false:=by
    cases hb:Nat.beq e.born b
    ·rfl
    ·exact absurd (by simp[Nb0 hb]) h
   rw[this];exact Zlt fun hm=>h (Ks _ hm)
def Zf0{vv:Z->N}:∀(l:U (Y×Z))(bs:U Nat),bs.length=l.length->(Xx Value.string vv l bs).map (·.born)=bs
 | [],[],_=>rfl
 | [],_::_,h=>by cases h
 | _::_,[],h=>by cases h
 | p::l,b::bs,h=>by
   show b::(Xx Value.string vv l bs).map (·.born)=b::bs;rw[Zf0 l bs (by simpa using h)]
def Zkf{Qe:Nat}:∀{es:U V5},(es.map (·.born)).Nodup->(∀b∈es.map (·.born),b<Qe)->Xr Qe es=true
 | [],_,_=>rfl
 | e::es,h,hl=>by
   obtain⟨h1,h2⟩:=List.nodup_cons.1 h;unfold Xr;rw[Zlt h1,Zkf h2 fun b hb=>hl b (Ks _ hb)];have:Nat.blt e.born Qe=true:=by rw[G4];exact hl _ (by simp)
   rw[this];rfl
def Zo7{vv:Z->N}:∀(l:U (Y×Z))(bs:U Nat),bs.length=l.length->(∀p∈l,p.1.size<=1000000)->Zbw (Xx Value.string vv l bs)=some (kbs l)
 | [],[],_,_=>rfl
 | [],_::_,h,_=>by cases h
 | _::_,[],h,_=>by cases h
 | p::l,b::bs,h,hs=>by
   have i:=Zo7 (vv:=vv) l bs (by simpa using h) fun q hq=>hs q (Ks _ hq)
   show(match ZxW (Value.string p.1),Zbw (Xx Value.string vv l bs) with|some k,some ks=>some (k::ks) | _,_=>none)=_
   have hk:ZxW (Value.string p.1)=some p.1.data.toList:=by
    have h1:=hs p (by simp);have:p.1.data.toList.length<=1000000:=by rw[G6];exact h1
    show(bif Nat.ble p.1.data.toList.length 1000000 then some p.1.data.toList else none)=_;rw[Nm0 this];rfl
   rw[hk,i];rfl
def ZrM(ks:U (U UInt8)):Maps.size (Jl ks)=ks.length:=by
 unfold Jl;rw[Maps.size_eq,(Go.WideShapes.sorted_perm _).length_eq,JT]
def Zrf{ρ:ZP.Ren}{h:H}{i m clock:Nat}{args':V4 N}{w:V3}{es:U V5}{ks:U (U UInt8)}(hr:Rel ρ h w)(hi:h.at i=.box m)(hat:h.at m=.map es clock)(c1:Xr clock es=true)(c2:es.length<=1000000)(c3:Zbw es=some ks)(c4:nodupB ks=true)(hsz:Maps.size (Jl ks)<=1000000)(h1:ks=[])
 (hv:Jr ρ #[.func (.func 111) #[] #[(V9 i)]] args'):
 CallsIn base 0 Tryz.prog 66 args' w (fun e w'=>e=.returned (V7)/\Below w.heap.size w w'):=by
 obtain⟨b,d,rfl,hb⟩:∃b d,args'=#[.func (.func 111) #[] #[.pointer (some ⟨b,d+0,none⟩)]]/\ρ i=some (b,d):=by
  have h1:args'.size=1:=hv.1.symm;have h2:=hv.2 0 _ (args'[0]'Va) (by rfl) (by simp[h1])
  have h3:args'=#[args'[0]'Va]:=by
   apply Array.ext
   ·simp[h1]
   ·intro i hi _;obtain rfl:i=0:=Va
    rfl
  generalize args'[0]'Va=y at h2 h3;cases h2 with
  | func _ _ _ xs' ys' hf hx hy k1 k2=>
    have e1:xs'=#[]:=GP hx.symm;have hy:ys'.size=1:=hy.symm;have k3:=k2 0 _ (ys'[0]'Va) (by rfl) (by simp[hy])
    have e2:ys'=#[ys'[0]'Va]:=by
     apply Array.ext
     ·simp[hy]
     ·intro i hi _;obtain rfl:i=0:=Va
      rfl
    generalize ys'[0]'Va=z at k3 e2;cases k3 with
    | @ptr _ b d _ hb=>exact⟨b,d,by rw[h3,e1,e2],hb⟩
 have ho:=hr.obj _ _ _ hb;rw[hi]at ho;obtain⟨rfl,bm,el,hbm,hcell⟩:=ho;have hom:=hr.obj _ _ _ hbm;rw[hat]at hom;obtain⟨_,es',hw,hes⟩:=hom;have hown:=Zrp hw hes c1 c2 c3 c4;have hlt:=(hr.dom _ _ _ hb).2
 have hseq:SeqGives base 2 Tryz.prog 111 #[(V9 b)] encStr (fun ss=>ss.Perm (strKeys (Jl ks))) (Maps.size (Jl ks)) w:=
  AnyZ.keys_gives (ρ:=Zc4) {ZtF with} base _ (inB Kq0) rfl Va b bm _ _ w hlt (by simp[World.cell?,hcell]) hown
 have h1m:(1000000:Nat)<=maxLen:=by decide
 have cS:=AnyZ.sorted_in Zmt base 5 (inB Kq0) (inB Kq0) (inB Kq0) (inB Kq0) rfl Va (sorts _) (enters_of Tryz.func110 Kq0 rfl) 111 #[(V9 b)] (inB Kq0) (enters_of Tryz.func111 Kq0 rfl) _ _ Va Va _ hseq;refine CallsIn.mono (Zdi cS) ?_;rintro e w' ⟨v,ss,rfl,hS,hrow,hnil,hbel⟩;subst h1;have:ss=[]:=hS.eq_nil;exact⟨by rw[hnil.2 this],hbel⟩
def Zzz{wm i m clock:Nat}{h:H}{es:U V5}{ks:U (U UInt8)}(hi:h.at i=.box m)(hat:h.at m=.map es clock)(c1:Xr clock es=true)(c2:es.length<=1000000)(c3:Zbw es=some ks)(c4:nodupB ks=true)(hsz:Maps.size (Jl ks)<=1000000)(h1:ks=[]):
 Yn XX (.call 66 #[.func (.func 111) #[] #[(V9 i)]] wm h) (.fin (.ret (V7)) h):=by
 intro ρ args' w Zy hr hvs;refine(Zrf hr hi hat c1 c2 c3 c4 hsz h1 hvs).mono fun e w' ⟨he,hb⟩=>?_
 subst he;refine⟨ρ,.ret (VR.ZL rfl),⟨fun i b d e=>?_,fun i b d e=>?_,hr.inj⟩,⟨Ren.le_refl ρ,K1 _,fun _ _=>rfl,fun _ _ x=>x,fun _ _ x=>x,hb.os,hb.tape,hb.output,hb.size,fun b hb' _=>hb.block b hb',fun i b d e e'=>by rw[e]at e';cases e'⟩⟩
 ·obtain⟨q1,q2⟩:=hr.dom i b d e;exact⟨q1,Jx q2 hb.size⟩
 ·exact(hr.obj i b d e).world (hb.block b (hr.dom i b d e).2)
end
end Go.Proofs.YtbnepjakjmnadaaGreat
end
end
