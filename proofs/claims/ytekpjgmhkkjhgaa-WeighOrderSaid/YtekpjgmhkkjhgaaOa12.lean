/- Order Part 12 of the proof. -/
import Derived.Test.YtekpjgmhkkjhgaaOa11
set_option linter.all false
set_option maxHeartbeats 2000000
section
noncomputable section
namespace Go.Proofs.Ytekpjgmhkkjhgaa
open Go.Yw Go.Lf
theorem ZBs {h:H} {r:Bool} (hL:ZBt=some r):Pure XX 14 #[] h (.bool r):=by
 cases hL;intro wm;have e:ev (cfg XW fun _=>false) 1 (.call 14 #[] wm h)=some (.fin (.ret (.bool true)) h):=rfl;exact ZeQ (X:=XW) mixed 1 _ _ e
end Go.Proofs.Ytekpjgmhkkjhgaa
end
end
section
namespace Go.Proofs.Ytekpjgmhkkjhgaa
open Go.Lf
def Zgg (F:Nat) (p0:Store) (p1:Int) (p2:Int):Option Store:=
 (Zgi p0 p1 p2).bind fun x1=>(bif(x1.use || (x1.out !=0)) then some p0 else(bif x1.root then(app 8 p0.freed [p2]).bind fun z8=>(Zm8 F z8).bind fun x13=>some (Store.mk p0.machines p0.names (ZaO p0.cells (Ze.mk p1 p2)) p0.notes x13) else(Zm9 p2).bind fun x16=>(bif(!(Zao x1 x16)) then(Zan (Store.mk p0.machines p0.names (ZaO p0.cells (Ze.mk p1 p2)) p0.notes p0.freed) (Zd.mk 2 x1.from_ p2 0 x1.has)).bind fun x17=>some x17 else some (Store.mk p0.machines p0.names (ZaO p0.cells (Ze.mk p1 p2)) p0.notes p0.freed))))
end Go.Proofs.Ytekpjgmhkkjhgaa
end
section
set_option maxRecDepth 20000
noncomputable section
namespace Go.Proofs.Ytekpjgmhkkjhgaa
open Go.Yw Go.Lf
theorem Zlj {F wm:Nat} {h:H} {p0:Store} {p1 p2:Int} {ZH:Nat} {Zp:Option Addr} {Zo Xr:Nat} {ZA:Option Addr} {Zz XO Xo:Nat} {r:Store} (ZE:wm <=h.size) (hO:ZQ (wm:=wm) [bx wm Xo [.int .i64 p0.machines,.int .i64 p0.names,.map (some ZH),.slice Zp Xr Zo,.slice ZA XO Zz],mp wm Zg Zl (some ZH) p0.cells,ow wm Zj Zp Xr Zo p0.notes,ow wm (ZL .i64) ZA XO Zz p0.freed] h) (hL:Zgg F p0 p1 p2=some r):
 WR XX 106 #[.pointer (some ⟨Xo,0,none⟩),.int .i64 p1,.int .i64 p2] wm h (CP (fun(v:Value) (Gb:List (Ast wm))=>∃ (JB:Nat) (JF:Option Addr) (Jz:Nat) (JD:Nat) (JE:Option Addr) (Jy:Nat) (JC:Nat),v= .tuple [].toArray∧Gb= [bx wm Xo [.int .i64 r.machines,.int .i64 r.names,.map (some JB),.slice JF Jz JD,.slice JE Jy JC],mp wm Zg Zl (some JB) r.cells,ow wm Zj JF Jz JD r.notes,ow wm (ZL .i64) JE Jy JC r.freed]) [bx wm Xo [.int .i64 p0.machines,.int .i64 p0.names,.map (some ZH),.slice Zp Xr Zo,.slice ZA XO Zz],mp wm Zg Zl (some ZH) p0.cells,ow wm Zj Zp Xr Zo p0.notes,ow wm (ZL .i64) ZA XO Zz p0.freed] h):=by
 refine bg Try.ntmps106 ZE hO ?_;intro T hT hS;unfold Zgg at hL;obtain rfl:=hS.on k2;obtain rfl:=hS.on k3;refine r4 ?_;refine r1 ?_;obtain⟨x1,hx1,hL⟩:=bind_some hL;refine WO.cp gN rfl (YS.fn ZkI (Zc lk (Zc lk (Zc lk Zk)))) (WR.Qq rfl (ZgT (Nat.le_refl _) (hS.X7 k0) (.inl (hS.lt k0)) (hS.mrd k1) (hS.ord k2) (hS.ord k3) hx1)) ?_;refine r1 ?_;rintro _ h3 ⟨b2,eb2,rfl,hS⟩;refine r1 ?_;rintro h4 hS;refine Ud ?_;refine r2 ?_;refine cn hL ?_ ?_
 ·intro hc hL;refine r2 ?_;have hr:=Option.some.inj hL;subst hr;exact ZR.gen (vs:= []) rfl Zm rfl ⟨_,⟨ZH,Zp,p0.notes.length,Zo,ZA,p0.freed.length,Zz,rfl,rfl⟩,hT ▸ hS.only (.c k1 (.c k1 (.c k1 (.c k1 .n))))⟩
 ·intro hc hL;refine r8 ?_;refine r2 ?_;refine WO.w gN rfl (Y7 XT (Zh lk (Zh lk ZC)) rfl (cs':= [.int .i64 p1,.int .i64 p2]) rfl) ?_;refine WO.hw gN (ZzM (kv:=Zg) (vv:=Zl) (k:= (Ze.mk p1 p2)) hS k2 YN rfl Ua (Zt (ZP rfl (Zf rfl fh)) rfl) (Zt fh rfl)) ?_;rintro h5 hS;refine r8 ?_;refine r2 ?_;refine cn hL ?_ ?_
  ·intro hc hL;refine r8 ?_;refine WO.hn gN rfl (Zgr (e:= (ZL .i64)) hS X9 Y5 U6 rfl rfl rfl (Zh lk ZC) rfl [((),p2)] rfl (xs:= [p2]) rfl (by intro q hq;simp only [List.mem_cons,List.not_mem_nil,or_false] at hq;subst hq;exact trivial) rfl) ?_;rintro _ h7 ⟨b6,eb6,rfl,hS⟩;obtain⟨z8,hz8,hL⟩:=bind_some hL;refine WO.hv gN rfl (Zd4 (e:= (ZL .i64)) hS k5 Zez lk lk (hS.Jb k0) (hS.on k0) hz8) ?_;rintro _ h11 ⟨a9,c10,rfl,hS⟩;refine r3 ?_;rintro h12 hS;refine r6 ?_;refine r1 ?_;obtain⟨x13,ZtO,hL⟩:=bind_some hL;refine WO.cl gN rfl (YS.fn ZAz (Zc lk Zk)) hS (.c k1 .n) (fun g' hz hf hO=>ZxB (by rw [hz];exact hS.hw) hO ZtO) ?_;rintro _ h14 _ ⟨rfl,rfl⟩ hS;refine r2 ?_;refine ZR.Yy ?_;have hr:=Option.some.inj hL;subst hr;exact ZR.gen (vs:= []) rfl Zm rfl ⟨_,⟨ZH,Zp,p0.notes.length,Zo,a9,z8.length,c10,rfl,rfl⟩,hT ▸ hS.only (.c k1 (.c k2 (.c k3 (.c k0 .n))))⟩
  ·intro hc hL;refine r1 ?_;refine WC.Yl mixed (by kernel_rfl) ?_;refine r2 ?_;obtain⟨x16,hx16,hL⟩:=bind_some hL;refine WX.cp gN rfl (YS.fn Zt8 (Zc lk Zk)) (WR.Qq rfl (Zqx (Nat.le_refl _) hx16)) ?_ rfl rfl;refine WX.w gN rfl (Yb (Zt (ZP rfl fh) rfl) (Zt fh rfl) (ZnP (xs:= [.int .i64 x1.name,.bool x1.root,.int .i64 x1.from_,.int .i64 x1.has,.int .i64 x1.out,.bool x1.use]) (ys:= [.int .i64 x16.name,.bool x16.root,.int .i64 x16.from_,.int .i64 x16.has,.int .i64 x16.out,.bool x16.use]) (ZFe x1 x16) rfl rfl)) ?_ rfl;refine r3 ?_;refine cn hL ?_ ?_
   ·intro hc hL;refine r6 ?_;refine r1 ?_;refine WO.w gN rfl (Xf ZqM (Zh lk (Zh lk (Zh lk (Zh lk ZC)))) rfl (cs':= [.int .i64 2,.int .i64 x1.from_,.int .i64 p2,.int .i64 0,.int .i64 x1.has]) rfl) ?_;obtain⟨x17,ZAb,hL⟩:=bind_some hL;refine WO.cl gN rfl (YS.fn ZkH (Zc lk (Zc lk Zk))) hS (.c k2 (.c k0 (.c k1 (.c k1 .n)))) (fun g' hz hf hO=>ZgS (by rw [hz];exact hS.hw) hO ZAb) ?_;rintro _ h25 _ ⟨m18,a19,n20,c21,a22,n23,c24,rfl,rfl⟩ hS;obtain rfl:=hS.on k2;obtain rfl:=hS.on k3;refine r2 ?_;refine ZR.Yy ?_;have hr:=Option.some.inj hL;subst hr;exact ZR.gen (vs:= []) rfl Zm rfl ⟨_,⟨m18,a19,x17.notes.length,c21,a22,x17.freed.length,c24,rfl,rfl⟩,hT ▸ hS.only (.c k0 (.c k0 (.c k0 (.c k0 .n))))⟩
   ·intro hc hL;refine r2 ?_;refine ZR.Yy ?_;have hr:=Option.some.inj hL;subst hr;exact ZR.gen (vs:= []) rfl Zm rfl ⟨_,⟨ZH,Zp,p0.notes.length,Zo,ZA,p0.freed.length,Zz,rfl,rfl⟩,hT ▸ hS.only (.c k2 (.c k0 (.c k1 (.c k1 .n))))⟩
end Go.Proofs.Ytekpjgmhkkjhgaa
end
end
section
namespace Go.Proofs.Ytekpjgmhkkjhgaa
open Go.Lf
def Zfp (F:Nat) (p1:Zd):Int×Int×(List (Ze×Zb))×(List Zd)×(List Int) ->Option Store:=fun(v49,v50,v51,v53,v57)=>
 (Zgg F (Store.mk v49 v50 v51 v53 v57) p1.Zw p1.name).bind fun x61=>some x61
def ZrS (F:Nat) (p0:Store) (p1:Zd):Option Store:=
 (Zgi p0 p1.Zw p1.name).bind fun x5=>(bif(p1.kind==1) then(bif(((!x5.root) && (decide (x5.from_ < 0))) && (p1.via !=p1.Zw)) then some (Store.mk p0.machines p0.names (Y1 p0.cells (Ze.mk p1.Zw p1.name) (Zb.mk x5.name x5.root p1.via p1.w x5.out true)) p0.notes p0.freed) else(bif((decide (x5.from_ >=0)) && (x5.from_==p1.via)) then some (Store.mk p0.machines p0.names (Y1 p0.cells (Ze.mk p1.Zw p1.name) (Zb.mk x5.name x5.root x5.from_ (ZK (x5.has + p1.w)) x5.out true)) p0.notes p0.freed) else(Zgh (Store.mk p0.machines p0.names (Y1 p0.cells (Ze.mk p1.Zw p1.name) (Zb.mk x5.name x5.root x5.from_ x5.has x5.out true)) p0.notes p0.freed) p1.Zw p1.name p1.via p1.w).bind fun x18=>some x18)) else(bif(p1.kind==2) then(Zgg F (Store.mk p0.machines p0.names (Y1 p0.cells (Ze.mk p1.Zw p1.name) (Zb.mk x5.name x5.root x5.from_ x5.has (ZK (x5.out - p1.w)) x5.use)) p0.notes p0.freed) p1.Zw p1.name).bind fun x30=>some x30 else(bif decide (x5.from_ >=0) then(Zgh (Store.mk p0.machines p0.names (Y1 p0.cells (Ze.mk p1.Zw p1.name) (Zb.mk x5.name true (-1) 0 (ZK (x5.out + 16)) x5.use)) p0.notes p0.freed) p1.Zw p1.name x5.from_ x5.has).bind fun x71=>(Zfp F p1) (x71.machines,x71.names,x71.cells,x71.notes,x71.freed) else(Zfp F p1) (p0.machines,p0.names,Y1 p0.cells (Ze.mk p1.Zw p1.name) (Zb.mk x5.name true (-1) 0 (ZK (x5.out + 16)) x5.use),p0.notes,p0.freed))))
def Zfi:Ze ->Int ->Option Bool:=fun ZGu ZCq=>
 (bif decide (ZCq > 1000000) then some true else some false)
def Zaz (F:Nat):Int×Int×(List (Ze×Zb))×(List Zd)×(List Int) ->Option (PR Store):=fun(v14,v15,v16,v18,v22)=>
 (bif decide ((v18.length:Int) > 80) then some (.Jk 3) else(ZrR F (Store.mk v14 v15 v16 v18 v22)).bind fun x26=>(Zjv (Zfi) x26.1).bind fun q37=>(bif q37 then some (.Jk 3) else some (.ok (Store.mk v14 v15 v16 v18 v22))))
def ZuD (F:Nat) (p0:Store) (p1:Zn):Option (PR Store):=
 (Znc p0 p1).bind fun x3=>prC x3 (fun e5=>some (.Jk e5)) (fun y4=>(bif(p1.ZX==1) then(Zaz F) (p0.machines,ZK (p0.names + 1),Y1 p0.cells (Ze.mk p1.at_ p0.names) (Zb.mk p0.names true (-1) 0 0 true),p0.notes,p0.freed) else(bif(p1.ZX==2) then(Znb p0 p1).bind fun x103=>(Zaz F) (x103.machines,x103.names,x103.cells,x103.notes,x103.freed) else(bif(p1.ZX==3) then(Zay p0.cells (Ze.mk p1.at_ p1.name) (Zb.mk 0 false 0 0 0 false)).bind fun x113=>(Zgg F (Store.mk p0.machines p0.names (Y1 p0.cells (Ze.mk p1.at_ p1.name) (Zb.mk x113.name x113.root x113.from_ x113.has x113.out false)) p0.notes p0.freed) p1.at_ p1.name).bind fun Zl1=>(Zaz F) (Zl1.machines,Zl1.names,Zl1.cells,Zl1.notes,Zl1.freed) else(bif(p1.ZX==4) then(Zay p0.cells (Ze.mk p1.at_ p1.name) (Zb.mk 0 false 0 0 0 false)).bind fun QM=>(Zan (Store.mk p0.machines p0.names (Y1 p0.cells (Ze.mk p1.at_ p1.name) (Zb.mk QM.name false p1.Zw 16 QM.out QM.use)) p0.notes p0.freed) (Zd.mk 3 p1.Zw p1.name 0 16)).bind fun Zl0=>(Zaz F) (Zl0.machines,Zl0.names,Zl0.cells,Zl0.notes,Zl0.freed) else(Yg p0.notes p1.at_).bind fun Kj=>(Zna p0.notes p1.at_ (ZK (p1.at_ + 1))).bind fun Zv3=>(ZrS F (Store.mk p0.machines p0.names p0.cells Zv3 p0.freed) Kj).bind fun ZlZ=>(Zaz F) (ZlZ.machines,ZlZ.names,ZlZ.cells,ZlZ.notes,ZlZ.freed))))))
end Go.Proofs.Ytekpjgmhkkjhgaa
end
section
set_option maxRecDepth 20000
noncomputable section
namespace Go.Proofs.Ytekpjgmhkkjhgaa
open Go.Yw Go.Lf
theorem ZuL {F wm:Nat} {h:H} {p0:Store} {p1:Zd} {ZH:Nat} {Zp:Option Addr} {Zo Xr:Nat} {ZA:Option Addr} {Zz XO Xo:Nat} {r:Store} (ZE:wm <=h.size) (hO:ZQ (wm:=wm) [bx wm Xo [.int .i64 p0.machines,.int .i64 p0.names,.map (some ZH),.slice Zp Xr Zo,.slice ZA XO Zz],mp wm Zg Zl (some ZH) p0.cells,ow wm Zj Zp Xr Zo p0.notes,ow wm (ZL .i64) ZA XO Zz p0.freed] h) (hL:ZrS F p0 p1=some r):
 WR XX 66 #[.pointer (some ⟨Xo,0,none⟩),.agg [.int .i64 p1.kind,.int .i64 p1.Zw,.int .i64 p1.name,.int .i64 p1.via,.int .i64 p1.w].toArray] wm h (CP (fun(v:Value) (Gb:List (Ast wm))=>∃ (JB:Nat) (JF:Option Addr) (Jz:Nat) (JD:Nat) (JE:Option Addr) (Jy:Nat) (JC:Nat),v= .tuple [].toArray∧Gb= [bx wm Xo [.int .i64 r.machines,.int .i64 r.names,.map (some JB),.slice JF Jz JD,.slice JE Jy JC],mp wm Zg Zl (some JB) r.cells,ow wm Zj JF Jz JD r.notes,ow wm (ZL .i64) JE Jy JC r.freed]) [bx wm Xo [.int .i64 p0.machines,.int .i64 p0.names,.map (some ZH),.slice Zp Xr Zo,.slice ZA XO Zz],mp wm Zg Zl (some ZH) p0.cells,ow wm Zj Zp Xr Zo p0.notes,ow wm (ZL .i64) ZA XO Zz p0.freed] h):=by
 refine bg Try.ntmps66 ZE hO ?_;intro T hT hS;unfold ZrS at hL;obtain rfl:=hS.on k2;obtain rfl:=hS.on k3;refine r3 ?_;rintro _ h2 ⟨b1,eb1,rfl,hS⟩;refine r1 ?_;rintro _ h4 ⟨b3,eb3,rfl,hS⟩;refine r8 ?_;refine r1 ?_;obtain⟨x5,hx5,hL⟩:=bind_some hL;refine WO.cp gN rfl (YS.fn ZkI (Zc lk (Zc lk (Zc lk Zk)))) (WR.Qq rfl (ZgT (Nat.le_refl _) (hS.X7 k2) (.inl (hS.lt k2)) (hS.mrd k3) (hS.ord k4) (hS.ord k5) hx5)) ?_;refine r1 ?_;rintro _ h7 ⟨b6,eb6,rfl,hS⟩;refine r1 ?_;rintro h8 hS;refine r4 ?_;refine WO.w gN rfl (ZdP (Zc lk (Zc lk (Zc lk Zk)))) ?_;refine r16 ?_;refine cn hL ?_ ?_
 ·intro hc hL;refine r4 ?_;rintro h9 hS;refine r16 ?_;refine r6 ?_;refine r1 ?_;refine cn hL ?_ ?_
  ·intro hc hL;refine r1 ?_;refine WC.Yl mixed (by kernel_rfl) ?_;refine r3 ?_;refine WX.wr (fun x=>x=b3) hS gN rfl (fun _ _ hR=>ZU Xm (Zt fh rfl) (At.eqv (hR b3 rfl) (hS.X7 k1)) (j:=4) rfl (v:= .int .i64 p1.w) rfl) ?_ rfl rfl;rintro h10 e11 hS;refine r1 ?_;refine WX.hu gN (J5 hS k0 Y5 lk lk (vs:= [.int .i64 p1.via]) rfl rfl rfl rfl (cs':= [.int .i64 x5.name,.bool x5.root,.int .i64 p1.via,.int .i64 x5.has,.int .i64 x5.out,.bool true]) rfl) ?_ rfl rfl [3] (by kernel_rfl) (.c .z (hS.dj (.c k0 (.c k0 .n))) Z7.e);rintro h12 hS;refine WX.w gN rfl (Xu ZkS lk) ?_ (by kernel_rfl);refine WX.hu gN (J5 hS k0 Y5 lk lk (vs:= [.int .i64 p1.w]) rfl rfl rfl rfl (cs':= [.int .i64 x5.name,.bool x5.root,.int .i64 p1.via,.int .i64 p1.w,.int .i64 x5.out,.bool true]) rfl) ?_ rfl (by kernel_rfl) [] (by kernel_rfl) Z7.e;rintro h13 hS;refine r4 ?_;refine WO.inl gN rfl (YS.clo (first:= []) (cap:= [.pointer (some ⟨b6,0,none⟩),.pointer (some ⟨b1,0,none⟩),.pointer (some ⟨b3,0,none⟩)]) lk ZhU Zk rfl) (WF.begin (args:= [_,_,_]) (fn:=Try.f104) (by kernel_rfl) (by exact rfl) Try.ntmps104 (by simp) ?_);simp only [ZG,ZN,Nat.reduceAdd];refine WC.Yl mixed (by kernel_rfl) ?_;refine r8 ?_;refine WX.w gN rfl (Y7 XT (Zh lk (Zh lk ZC)) rfl (cs':= [.int .i64 p1.Zw,.int .i64 p1.name]) rfl) ?_ rfl;refine r1 ?_;refine WX.hu gN (ZbL (kv:=Zg) (vv:=Zl) (k:= (Ze.mk p1.Zw p1.name)) (v:= (Zb.mk x5.name x5.root p1.via p1.w x5.out true)) hS k4 YN Ua (Zt (Yd rfl (ZP rfl fh)) rfl) (Zt (Zf rfl fh) rfl) (Zt fh rfl)) ?_ rfl rfl [] (by kernel_rfl) Z7.e;rintro h14 hS;refine r1 ?_;refine ZR.Yy ?_;refine ZR.gen (vs:= []) rfl Zm rfl ?_;refine r3 ?_;refine ZR.Yy ?_;have hr:=Option.some.inj hL;subst hr;exact ZR.gen (vs:= []) rfl Zm rfl ⟨_,⟨ZH,Zp,p0.notes.length,Zo,ZA,p0.freed.length,Zz,rfl,rfl⟩,hT ▸ hS.only (.c k4 (.c k0 (.c k3 (.c k3 .n))))⟩
  ·intro hc hL;refine Ud ?_;refine r3 ?_;refine cn hL ?_ ?_
   ·intro hc hL;refine r8 ?_;refine r1 ?_;rintro h15 hS;refine r4 ?_;refine WO.inl gN rfl (YS.clo (first:= []) (cap:= [.pointer (some ⟨b6,0,none⟩),.pointer (some ⟨b1,0,none⟩),.pointer (some ⟨b3,0,none⟩)]) lk ZhU Zk rfl) (WF.begin (args:= [_,_,_]) (fn:=Try.f104) (by kernel_rfl) (by exact rfl) Try.ntmps104 (by simp) ?_);simp only [ZG,ZN,Nat.reduceAdd];refine WC.Yl mixed (by kernel_rfl) ?_;refine r8 ?_;refine WX.w gN rfl (Y7 XT (Zh lk (Zh lk ZC)) rfl (cs':= [.int .i64 p1.Zw,.int .i64 p1.name]) rfl) ?_ rfl;refine r1 ?_;refine WX.hu gN (ZbL (kv:=Zg) (vv:=Zl) (k:= (Ze.mk p1.Zw p1.name)) (v:= (Zb.mk x5.name x5.root x5.from_ (ZK (x5.has + p1.w)) x5.out true)) hS k4 YN Ua (Zt (Yd rfl (ZP rfl fh)) rfl) (Zt (Zf rfl fh) rfl) (Zt fh rfl)) ?_ rfl rfl [] (by kernel_rfl) Z7.e;rintro h16 hS;refine r1 ?_;refine ZR.Yy ?_;refine ZR.gen (vs:= []) rfl Zm rfl ?_;refine r3 ?_;refine ZR.Yy ?_;have hr:=Option.some.inj hL;subst hr;exact ZR.gen (vs:= []) rfl Zm rfl ⟨_,⟨ZH,Zp,p0.notes.length,Zo,ZA,p0.freed.length,Zz,rfl,rfl⟩,hT ▸ hS.only (.c k4 (.c k0 (.c k3 (.c k3 .n))))⟩
   ·intro hc hL;refine r3 ?_;refine WO.inl gN rfl (YS.clo (first:= []) (cap:= [.pointer (some ⟨b6,0,none⟩),.pointer (some ⟨b1,0,none⟩),.pointer (some ⟨b3,0,none⟩)]) lk ZhU Zk rfl) (WF.begin (args:= [_,_,_]) (fn:=Try.f104) (by kernel_rfl) (by exact rfl) Try.ntmps104 (by simp) ?_);simp only [ZG,ZN,Nat.reduceAdd];refine WC.Yl mixed (by kernel_rfl) ?_;refine r8 ?_;refine WX.w gN rfl (Y7 XT (Zh lk (Zh lk ZC)) rfl (cs':= [.int .i64 p1.Zw,.int .i64 p1.name]) rfl) ?_ rfl;refine r1 ?_;refine WX.hu gN (ZbL (kv:=Zg) (vv:=Zl) (k:= (Ze.mk p1.Zw p1.name)) (v:= (Zb.mk x5.name x5.root x5.from_ x5.has x5.out true)) hS k4 YN Ua (Zt (Yd rfl (ZP rfl fh)) rfl) (Zt (Zf rfl fh) rfl) (Zt fh rfl)) ?_ rfl rfl [] (by kernel_rfl) Z7.e;rintro h17 hS;refine r1 ?_;refine ZR.Yy ?_;refine ZR.gen (vs:= []) rfl Zm rfl ?_;refine Ud ?_;obtain⟨x18,Zrw,hL⟩:=bind_some hL;refine WO.cl gN rfl (YS.fn Zua (Zc lk (Zc lk (Zc lk (Zc lk (Zc lk Zk)))))) hS (.c k4 (.c k0 (.c k3 (.c k3 .n)))) (fun g' hz hf hO=>ZqA (by rw [hz];exact hS.hw) hO Zrw) ?_;rintro _ h26 _ ⟨m19,a20,n21,c22,a23,n24,c25,rfl,rfl⟩ hS;obtain rfl:=hS.on k2;obtain rfl:=hS.on k3;refine r3 ?_;refine ZR.Yy ?_;have hr:=Option.some.inj hL;subst hr;exact ZR.gen (vs:= []) rfl Zm rfl ⟨_,⟨m19,a20,x18.notes.length,c22,a23,x18.freed.length,c25,rfl,rfl⟩,hT ▸ hS.only (.c k0 (.c k0 (.c k0 (.c k0 .n))))⟩
 ·intro hc hL;refine r6 ?_;refine cn hL ?_ ?_
  ·intro hc hL;refine r8 ?_;refine r1 ?_;rintro h28 hS;refine r4 ?_;refine r1 ?_;refine WO.inl gN rfl (YS.clo (first:= []) (cap:= [.pointer (some ⟨b6,0,none⟩),.pointer (some ⟨b1,0,none⟩),.pointer (some ⟨b3,0,none⟩)]) lk ZhU Zk rfl) (WF.begin (args:= [_,_,_]) (fn:=Try.f104) (by kernel_rfl) (by exact rfl) Try.ntmps104 (by simp) ?_);simp only [ZG,ZN,Nat.reduceAdd];refine WC.Yl mixed (by kernel_rfl) ?_;refine r8 ?_;refine WX.w gN rfl (Y7 XT (Zh lk (Zh lk ZC)) rfl (cs':= [.int .i64 p1.Zw,.int .i64 p1.name]) rfl) ?_ rfl;refine r1 ?_;refine WX.hu gN (ZbL (kv:=Zg) (vv:=Zl) (k:= (Ze.mk p1.Zw p1.name)) (v:= (Zb.mk x5.name x5.root x5.from_ x5.has (ZK (x5.out - p1.w)) x5.use)) hS k4 YN Ua (Zt (Yd rfl (ZP rfl fh)) rfl) (Zt (Zf rfl fh) rfl) (Zt fh rfl)) ?_ rfl rfl [] (by kernel_rfl) Z7.e;rintro h29 hS;refine r1 ?_;refine ZR.Yy ?_;refine ZR.gen (vs:= []) rfl Zm rfl ?_;refine r8 ?_;obtain⟨x30,ZmH,hL⟩:=bind_some hL;refine WO.cl gN rfl (YS.fn ZoJ (Zc lk (Zc lk (Zc lk Zk)))) hS (.c k4 (.c k0 (.c k3 (.c k3 .n)))) (fun g' hz hf hO=>Zlj (by rw [hz];exact hS.hw) hO ZmH) ?_;rintro _ h38 _ ⟨m31,a32,n33,c34,a35,n36,c37,rfl,rfl⟩ hS;obtain rfl:=hS.on k2;obtain rfl:=hS.on k3;refine r2 ?_;refine ZR.Yy ?_;have hr:=Option.some.inj hL;subst hr;exact ZR.gen (vs:= []) rfl Zm rfl ⟨_,⟨m31,a32,x30.notes.length,c34,a35,x30.freed.length,c37,rfl,rfl⟩,hT ▸ hS.only (.c k0 (.c k0 (.c k0 (.c k0 .n))))⟩
  ·intro hc hL;refine r1 ?_;refine WC.Yl mixed (by kernel_rfl) ?_;refine Ud ?_;rintro h40 hS;refine r2 ?_;rintro h41 hS;refine r2 ?_;rintro h42 hS;refine r8 ?_;refine r1 ?_;rintro h43 hS;refine r4 ?_;refine r1 ?_;refine WO.inl gN rfl (YS.clo (first:= []) (cap:= [.pointer (some ⟨b6,0,none⟩),.pointer (some ⟨b1,0,none⟩),.pointer (some ⟨b3,0,none⟩)]) lk ZhU Zk rfl) (WF.begin (args:= [_,_,_]) (fn:=Try.f104) (by kernel_rfl) (by exact rfl) Try.ntmps104 (by simp) ?_);simp only [ZG,ZN,Nat.reduceAdd];refine WC.Yl mixed (by kernel_rfl) ?_;refine r8 ?_;refine WX.w gN rfl (Y7 XT (Zh lk (Zh lk ZC)) rfl (cs':= [.int .i64 p1.Zw,.int .i64 p1.name]) rfl) ?_ rfl;refine r1 ?_;refine WX.hu gN (ZbL (kv:=Zg) (vv:=Zl) (k:= (Ze.mk p1.Zw p1.name)) (v:= (Zb.mk x5.name true (-1) 0 (ZK (x5.out + 16)) x5.use)) hS k4 YN Ua (Zt (Yd rfl (ZP rfl fh)) rfl) (Zt (Zf rfl fh) rfl) (Zt fh rfl)) ?_ rfl rfl [] (by kernel_rfl) Z7.e;rintro h44 hS;refine r1 ?_;refine ZR.Yy ?_;refine ZR.gen (vs:= []) rfl Zm rfl ?_;refine r2 ?_;refine WC.ZaG (r:=r) (fun(p:Int×Int×(List (Ze×Zb))×(List Zd)×(List Int)) (s:Fs)=>match p with | (v49,v50,v51,v53,v57)=>∃ (Zbn:Fr) (h45:H) (m52:Nat) (a54:Option Addr) (c55:Nat) (n56:Nat) (a58:Option Addr) (c59:Nat) (n60:Nat),s= ⟨Zbn,[],h45,none⟩∧Sp wm T h [bx wm b1 [.pointer (some ⟨Xo,0,none⟩)],mp wm Zg Zl (some m52) v51,ow wm Zj a54 n56 c55 v53,ow wm (ZL .i64) a58 n60 c59 v57,bx wm Xo [.int .i64 v49,.int .i64 v50,.map (some m52),.slice a54 n56 c55,.slice a58 n60 c59],bx wm b3 [.int .i64 p1.kind,.int .i64 p1.Zw,.int .i64 p1.name,.int .i64 p1.via,.int .i64 p1.w]] h45∧Zbn.at 2= .pointer (some ⟨b1,0,none⟩)∧Zbn.at 3= .pointer (some ⟨b3,0,none⟩)) (Zfp F p1) ?_ ?_
   ·clear hL hS;rintro⟨v49,v50,v51,v53,v57⟩ s hL ⟨Zbn,h45,m52,a54,c55,n56,a58,c59,n60,rfl,hS,e47,e48⟩;obtain rfl:=hS.on k2;obtain rfl:=hS.on k3;dsimp only [Zfp] at hL;refine r6 ?_;obtain⟨x61,ZHc,hL⟩:=bind_some hL;refine WO.cl gN rfl (YS.fn ZoJ (Zc lk (Zc lk (Zc lk Zk)))) hS (.c k4 (.c k1 (.c k1 (.c k1 .n)))) (fun g' hz hf hO=>Zlj (by rw [hz];exact hS.hw) hO ZHc) ?_;rintro _ h69 _ ⟨m62,a63,n64,c65,a66,n67,c68,rfl,rfl⟩ hS;obtain rfl:=hS.on k2;obtain rfl:=hS.on k3;refine r2 ?_;refine ZR.Yy ?_;have hr:=Option.some.inj hL;subst hr;exact ZR.gen (vs:= []) rfl Zm rfl ⟨_,⟨m62,a63,x61.notes.length,c65,a66,x61.freed.length,c68,rfl,rfl⟩,hT ▸ hS.only (.c k0 (.c k0 (.c k0 (.c k0 .n))))⟩
   ·skip;refine r6 ?_;refine cn hL ?_ ?_
    ·intro hc hL;refine r8 ?_;obtain⟨x71,ZG9,hL⟩:=bind_some hL;refine WO.cl gN rfl (YS.fn Zua (Zc lk (Zc lk (Zc lk (Zc lk (Zc lk Zk)))))) hS (.c k4 (.c k0 (.c k3 (.c k3 .n)))) (fun g' hz hf hO=>ZqA (by rw [hz];exact hS.hw) hO ZG9) ?_;rintro _ h79 _ ⟨m72,a73,n74,c75,a76,n77,c78,rfl,rfl⟩ hS;obtain rfl:=hS.on k2;obtain rfl:=hS.on k3;refine r1 ?_;exact YR.Yy _ hL ⟨_,_,m72,a73,c75,x71.notes.length,a76,c78,x71.freed.length,rfl,hS.only (.c k6 (.c k1 (.c k1 (.c k1 (.c k0 (.c k1 .n)))))),YV⟩
    ·intro hc hL;refine r1 ?_;exact YR.Yy _ hL ⟨_,_,ZH,Zp,Zo,p0.notes.length,ZA,Zz,p0.freed.length,rfl,hS.only (.c k3 (.c k0 (.c k3 (.c k3 (.c k2 (.c k1 .n)))))),YV⟩
theorem ZuC {F wm:Nat} {h:H} {p0:Store} {p1:Zn} {ZH:Nat} {Zp:Option Addr} {Zo Xr:Nat} {ZA:Option Addr} {Zz XO Xo:Nat} {r:(PR Store)} (ZE:wm <=h.size) (hO:ZQ (wm:=wm) [bx wm Xo [.int .i64 p0.machines,.int .i64 p0.names,.map (some ZH),.slice Zp Xr Zo,.slice ZA XO Zz],mp wm Zg Zl (some ZH) p0.cells,ow wm Zj Zp Xr Zo p0.notes,ow wm (ZL .i64) ZA XO Zz p0.freed] h) (hL:ZuD F p0 p1=some r):
 WF XX 95 #[.pointer (some ⟨Xo,0,none⟩),.agg [.int .i64 p1.ZX,.int .i64 p1.at_,.int .i64 p1.name,.int .i64 p1.Zw].toArray] wm h (PQ 32 (fun(r:Store) (v:Value) (Gb:List (Ast wm))=>∃ (JB:Nat) (JF:Option Addr) (Jz:Nat) (JD:Nat) (JE:Option Addr) (Jy:Nat) (JC:Nat),v= .tuple [].toArray∧Gb= [bx wm Xo [.int .i64 r.machines,.int .i64 r.names,.map (some JB),.slice JF Jz JD,.slice JE Jy JC],mp wm Zg Zl (some JB) r.cells,ow wm Zj JF Jz JD r.notes,ow wm (ZL .i64) JE Jy JC r.freed]) [bx wm Xo [.int .i64 p0.machines,.int .i64 p0.names,.map (some ZH),.slice Zp Xr Zo,.slice ZA XO Zz],mp wm Zg Zl (some ZH) p0.cells,ow wm Zj Zp Xr Zo p0.notes,ow wm (ZL .i64) ZA XO Zz p0.freed] h r):=by
 refine WF.ZfL (args:= [_,_]) (fn:=Try.f95) (by kernel_rfl) (by exact rfl) Try.ntmps95 (by simp) ?_;simp only [ZG,ZN,Nat.reduceAdd];obtain⟨T,hT,hS⟩:∃ T,T=XG (wm:=wm) [bx wm Xo [.int .i64 p0.machines,.int .i64 p0.names,.map (some ZH),.slice Zp Xr Zo,.slice ZA XO Zz],mp wm Zg Zl (some ZH) p0.cells,ow wm Zj Zp Xr Zo p0.notes,ow wm (ZL .i64) ZA XO Zz p0.freed]∧Sp wm T h [bx wm Xo [.int .i64 p0.machines,.int .i64 p0.names,.map (some ZH),.slice Zp Xr Zo,.slice ZA XO Zz],mp wm Zg Zl (some ZH) p0.cells,ow wm Zj Zp Xr Zo p0.notes,ow wm (ZL .i64) ZA XO Zz p0.freed] h:= ⟨_,rfl,Sp.start ZE hO⟩
 unfold ZuD at hL;obtain rfl:=hS.on k2;obtain rfl:=hS.on k3;refine r3 ?_;rintro _ h2 ⟨b1,eb1,rfl,hS⟩;refine r6 ?_;obtain⟨x3,hx3,hL⟩:=bind_some hL;rcases x3 with y4 | e5
 ·skip;replace hL:=Zta hL;refine WO.clR gN rfl (YS.fn Zt9 (Zc lk (Zc lk Zk))) hS.hw (PQ.ok (Zqy (Nat.le_refl _) (hS.X7 k1) (.inl (hS.lt k1)) (hS.mrd k2) (hS.ord k3) (hS.ord k4) hx3)) ?_;rintro _ h6 _ ⟨rfl,rfl⟩ hR7;have hS:=hS.clR hR7 .n;refine r8 ?_;refine WO.w gN rfl (Y7 XT (Zh lk (Zh lk ZC)) rfl (cs':= [.int .i64 p1.at_,.int .i64 p1.name]) rfl) ?_;refine r1 ?_;rintro _ h9 ⟨b8,eb8,rfl,hS⟩;refine r1 ?_;rintro h10 hS;refine r2 ?_;refine WC.ZaG (r:=r) (fun(p:Int×Int×(List (Ze×Zb))×(List Zd)×(List Int)) (s:Fs)=>match p with | (v14,v15,v16,v18,v22)=>∃ (ZA8:Fr) (h11:H) (m17:Nat) (a19:Option Addr) (c20:Nat) (n21:Nat) (a23:Option Addr) (c24:Nat) (n25:Nat),s= ⟨ZA8,[],h11,none⟩∧Sp wm T h [mp wm Zg Zl (some m17) v16,ow wm Zj a19 n21 c20 v18,ow wm (ZL .i64) a23 n25 c24 v22,bx wm Xo [.int .i64 v14,.int .i64 v15,.map (some m17),.slice a19 n21 c20,.slice a23 n25 c24]] h11∧ZA8.at 0= .pointer (some ⟨Xo,0,none⟩)) (Zaz F) ?_ ?_
  ·clear hL hS;rintro⟨v14,v15,v16,v18,v22⟩ s hL ⟨ZA8,h11,m17,a19,c20,n21,a23,c24,n25,rfl,hS,e13⟩;obtain rfl:=hS.on k1;obtain rfl:=hS.on k2;dsimp only [Zaz] at hL;refine r8 ?_;refine r3 ?_;refine cn hL ?_ ?_
   ·intro hc hL;refine r1 ?_;refine WO.w gN rfl (ZfM lk (by kernel_rfl)) ?_;refine WO.pnc gN lk ?_;refine QA.panic ?_;refine XY.ofX ?_;refine Za2.Jk ?_;have hr:=Option.some.inj hL;subst hr;exact⟨rfl,hT ▸ hS.only .n⟩
   ·intro hc hL;refine r4 ?_;refine r1 ?_;obtain⟨x26,ZAa,hL⟩:=bind_some hL;refine WO.clR gN rfl (YS.fn ZyQ (Zc lk Zk)) hS.hw (ZuK (Nat.le_refl _) (hS.X7 k3) (.inl (hS.lt k3)) (hS.mrd k0) (hS.ord k1) (hS.ord k2) ZAa) ?_;rintro _ h29 _ ⟨m27,m28,rfl,rfl⟩ ZAQ;have hS:=hS.clR ZAQ (.c (cvM hS.hw) (.c (cvM hS.hw) .n));refine r8 ?_;refine r2 ?_;refine WO.rng gN rfl hS UM lk (hS.get k0).at_ ?_;rintro h36 b31 ZNy ZKx hS ZHy ZHO;refine r3 ?_;obtain⟨q37,ZHs,hL⟩:=bind_some hL;refine WC.loop (WL.ZGM [11,137,138,139,140,141,142,143] (pv 32 3) ZHs hS k0 fh ZHy ZHO rfl rfl rfl rfl rfl rfl rfl rfl ?_ ?_ ?_)
    ·clear hL hS;rintro⟨ZGu,ZCq⟩ p40 hL h41 ZoM ZcZ hS ZH8;dsimp only [Zfi] at hL;have e45:=ZcZ.at (t:=0) rfl (ZM rfl (Yd rfl (ZP rfl (Zf rfl e13))));have e46:=ZcZ.at (t:=123) rfl (ZM rfl (Yd rfl (ZP rfl fh)));have e47:=ZcZ.at (t:=124) rfl (ZM rfl (Yd rfl (Zf rfl fh)));have e48:=ZcZ.at (t:=125) rfl (ZM rfl (Yd rfl fh));have e49:=ZcZ.at (t:=126) rfl (ZM rfl (ZP rfl (Zf rfl fh)));have e50:=ZcZ.at (t:=127) rfl (ZM rfl (ZP rfl fh));have e51:=ZcZ.at (t:=128) rfl (ZM rfl (Zf rfl fh));have e52:=ZcZ.at (t:=131) rfl (ZM rfl fh);have e53:=ZcZ.at (t:=132) rfl (Yd rfl (ZP rfl (Zf rfl fh)));have e54:=ZcZ.at (t:=130) rfl (Yd rfl (ZP rfl fh));have e55:=ZcZ.at (t:=133) rfl (Yd rfl (Zf rfl fh));have e56:=ZcZ.at (t:=134) rfl (Yd rfl fh);have e57:=ZcZ.at (t:=8) rfl (ZP rfl (Zf rfl fh));have e58:=ZcZ.at (t:=9) rfl (ZP rfl fh);have e59:=ZcZ.at (t:=135) rfl (Zf rfl fh);have e60:=ZcZ.at (t:=136) rfl fh;refine r4 ?_;refine WC.Zly lk rfl ?_;refine r4 ?_;refine r1 ?_;refine WO.w gN rfl (Zvp lk ZH8) ?_;refine r8 ?_;refine r2 ?_;refine cn hL ?_ ?_
     ·intro hc hL;refine r1 ?_;refine WO.w gN rfl (ZfM lk (by kernel_rfl)) ?_;refine WO.pnc gN lk ?_;refine U5.panic ?_;have hp:=Option.some.inj hL;subst hp;exact ZpB.panic (.s rfl (.s rfl (.s rfl (.s rfl (.s rfl (.s rfl (.s rfl (.s rfl .z))))))))
     ·intro hc hL;refine r2 ?_;have hp:=Option.some.inj hL;subst hp;exact ZpB.Yy (.s rfl (.s rfl (.s rfl (.s rfl (.s rfl (.s rfl (.s rfl .z)))))))
    ·intro ZHr h62 ZMs ZcY hS;replace hL:=WB ZHr hL;have e65:=ZcY.at (t:=0) rfl (ZM rfl (Yd rfl (ZP rfl (Zf rfl e13))));have e66:=ZcY.at (t:=123) rfl (ZM rfl (Yd rfl (ZP rfl fh)));have e67:=ZcY.at (t:=124) rfl (ZM rfl (Yd rfl (Zf rfl fh)));have e68:=ZcY.at (t:=125) rfl (ZM rfl (Yd rfl fh));have e69:=ZcY.at (t:=126) rfl (ZM rfl (ZP rfl (Zf rfl fh)));have e70:=ZcY.at (t:=127) rfl (ZM rfl (ZP rfl fh));have e71:=ZcY.at (t:=128) rfl (ZM rfl (Zf rfl fh));have e72:=ZcY.at (t:=131) rfl (ZM rfl fh);have e73:=ZcY.at (t:=132) rfl (Yd rfl (ZP rfl (Zf rfl fh)));have e74:=ZcY.at (t:=130) rfl (Yd rfl (ZP rfl fh));have e75:=ZcY.at (t:=133) rfl (Yd rfl (Zf rfl fh));have e76:=ZcY.at (t:=134) rfl (Yd rfl fh);have e77:=ZcY.at (t:=8) rfl (ZP rfl (Zf rfl fh));have e78:=ZcY.at (t:=9) rfl (ZP rfl fh);have e79:=ZcY.at (t:=135) rfl (Zf rfl fh);have e80:=ZcY.at (t:=136) rfl fh;refine r4 ?_;refine WC.ZdM lk rfl ?_;refine r2 ?_;refine Zx9.exit ?_;refine r1 ?_;refine XY.Yy ?_;have hr:=Option.some.inj hL;subst hr;exact XY.Zuw rfl Zm rfl ⟨_,⟨m17,a19,v18.length,c20,a23,v22.length,c24,rfl,rfl⟩,hT ▸ hS.only (.c k5 (.c k2 (.c k2 (.c k2 .n))))⟩
    ·intro ZHq h82 ZMr ZcX hS;replace hL:=WA ZHq hL;have e85:=ZcX.at (t:=0) rfl (ZM rfl (Yd rfl (ZP rfl (Zf rfl e13))));have e86:=ZcX.at (t:=123) rfl (ZM rfl (Yd rfl (ZP rfl fh)));have e87:=ZcX.at (t:=124) rfl (ZM rfl (Yd rfl (Zf rfl fh)));have e88:=ZcX.at (t:=125) rfl (ZM rfl (Yd rfl fh));have e89:=ZcX.at (t:=126) rfl (ZM rfl (ZP rfl (Zf rfl fh)));have e90:=ZcX.at (t:=127) rfl (ZM rfl (ZP rfl fh));have e91:=ZcX.at (t:=128) rfl (ZM rfl (Zf rfl fh));have e92:=ZcX.at (t:=131) rfl (ZM rfl fh);have e93:=ZcX.at (t:=132) rfl (Yd rfl (ZP rfl (Zf rfl fh)));have e94:=ZcX.at (t:=130) rfl (Yd rfl (ZP rfl fh));have e95:=ZcX.at (t:=133) rfl (Yd rfl (Zf rfl fh));have e96:=ZcX.at (t:=134) rfl (Yd rfl fh);have e97:=ZcX.at (t:=8) rfl (ZP rfl (Zf rfl fh));have e98:=ZcX.at (t:=9) rfl (ZP rfl fh);have e99:=ZcX.at (t:=135) rfl (Zf rfl fh);have e100:=ZcX.at (t:=136) rfl fh;refine U5.panic ?_;refine XY.ofX ?_;refine Za2.Jk ?_;have hr:=Option.some.inj hL;subst hr;exact⟨rfl,hT ▸ hS.only .n⟩
  ·skip;refine Ud ?_;refine r1 ?_;refine cn hL ?_ ?_
   ·intro hc hL;refine r1 ?_;refine WC.Yl mixed (by kernel_rfl) ?_;refine r8 ?_;refine r2 ?_;refine WX.w gN rfl (Y7 XT (Zh lk (Zh lk ZC)) rfl (cs':= [.int .i64 p1.at_,.int .i64 p0.names]) rfl) ?_ rfl;refine r4 ?_;refine WX.w gN rfl (Xf Zzg (Zh lk (Zh lk (Zh lk (Zh lk ZC)))) rfl (cs':= [.int .i64 p0.names,.bool true,.int .i64 (-1),.int .i64 0,.int .i64 0,.bool true]) rfl) ?_ rfl;refine WX.hu gN (ZbL (kv:=Zg) (vv:=Zl) (k:= (Ze.mk p1.at_ p0.names)) (v:= (Zb.mk p0.names true (-1) 0 0 true)) hS k3 YN Ua (Zt (ZM rfl (Yd rfl fh)) rfl) (Zt (Yd rfl (Zf rfl fh)) rfl) (Zt fh rfl)) ?_ rfl rfl [] (by kernel_rfl) Z7.e;rintro ZE3 hS;refine r8 ?_;refine r3 ?_;rintro ZA4 hS;refine r2 ?_;exact YR.Yy _ hL ⟨_,_,ZH,Zp,Zo,p0.notes.length,ZA,Zz,p0.freed.length,rfl,hS.only (.c k1 (.c k3 (.c k3 (.c k0 .n)))),YV⟩
   ·intro hc hL;refine r6 ?_;refine cn hL ?_ ?_
    ·intro hc hL;refine r3 ?_;obtain⟨x103,ZjD,hL⟩:=bind_some hL;refine WO.cl gN rfl (YS.fn ZAB (Zc lk (Zc lk Zk))) hS (.c k2 (.c k2 (.c k2 (.c k2 .n)))) (fun g' hz hf hO=>ZxD (by rw [hz];exact hS.hw) hO ZjD) ?_;rintro _ Zw0 _ ⟨ZGR,a105,n106,c107,ZI5,n109,ZIW,rfl,rfl⟩ hS;obtain rfl:=hS.on k2;obtain rfl:=hS.on k3;refine r2 ?_;exact YR.Yy _ hL ⟨_,_,ZGR,a105,c107,x103.notes.length,ZI5,ZIW,x103.freed.length,rfl,hS.only (.c k1 (.c k1 (.c k1 (.c k0 .n)))),YV⟩
    ·intro hc hL;refine r6 ?_;refine cn hL ?_ ?_
     ·intro hc hL;refine r1 ?_;refine WC.Yl mixed (by kernel_rfl) ?_;refine r4 ?_;refine r1 ?_;obtain⟨x113,hx113,hL⟩:=bind_some hL;refine WX.w gN rfl (ZcU (kv:=Zg) (vv:=Zl) (k:= (Ze.mk p1.at_ p1.name)) (z:= (Zb.mk 0 false 0 0 0 false)) YN Ua Un (Zt (Zf rfl fh) rfl) (Zt fh rfl) (hS.get k3).at_ hx113 (w:= .agg [.int .i64 x113.name,.bool x113.root,.int .i64 x113.from_,.int .i64 x113.has,.int .i64 x113.out,.bool x113.use].toArray) rfl) ?_ rfl;refine WX.hn gN rfl (Zhn hS Un (vs:= [.int .i64 0,.bool false,.int .i64 0,.int .i64 0,.int .i64 0,.bool false]) rfl) ?_ rfl;rintro _ ZMk ⟨ZN4,ZKl,rfl,hS⟩;refine WX.hu gN (J5 hS k0 Uo lk lk (vs:= [.int .i64 x113.name,.bool x113.root,.int .i64 x113.from_,.int .i64 x113.has,.int .i64 x113.out,.bool x113.use]) rfl rfl rfl rfl (cs':= [.int .i64 x113.name,.bool x113.root,.int .i64 x113.from_,.int .i64 x113.has,.int .i64 x113.out,.bool x113.use]) rfl) ?_ rfl rfl [] (by kernel_rfl) Z7.e;rintro h116 hS;refine r6 ?_;rintro ZMj hS;refine r3 ?_;refine WC.Yl mixed (by kernel_rfl) ?_;refine r6 ?_;refine WX.hu gN (ZbL (kv:=Zg) (vv:=Zl) (k:= (Ze.mk p1.at_ p1.name)) (v:= (Zb.mk x113.name x113.root x113.from_ x113.has x113.out false)) hS k4 YN Ua (Zt (ZP rfl fh) rfl) (Zt (Zf rfl fh) rfl) (Zt fh rfl)) ?_ rfl rfl [] (by kernel_rfl) Z7.e;rintro ZIn hS;refine r8 ?_;obtain⟨Zl1,ZDn,hL⟩:=bind_some hL;refine WO.cl gN rfl (YS.fn ZoJ (Zc lk (Zc lk (Zc lk Zk)))) hS (.c k4 (.c k0 (.c k3 (.c k3 .n)))) (fun g' hz hf hO=>Zlj (by rw [hz];exact hS.hw) hO ZDn) ?_;rintro _ h127 _ ⟨ZGQ,ZI4,n122,ZIV,a124,n125,ZIU,rfl,rfl⟩ hS;obtain rfl:=hS.on k2;obtain rfl:=hS.on k3;refine r2 ?_;exact YR.Yy _ hL ⟨_,_,ZGQ,ZI4,ZIV,Zl1.notes.length,a124,ZIU,Zl1.freed.length,rfl,hS.only (.c k1 (.c k1 (.c k1 (.c k0 .n)))),YV⟩
     ·intro hc hL;refine r6 ?_;refine cn hL ?_ ?_
      ·intro hc hL;refine r1 ?_;refine WC.Yl mixed (by kernel_rfl) ?_;refine r4 ?_;refine r1 ?_;obtain⟨QM,ZtP,hL⟩:=bind_some hL;refine WX.w gN rfl (ZcU (kv:=Zg) (vv:=Zl) (k:= (Ze.mk p1.at_ p1.name)) (z:= (Zb.mk 0 false 0 0 0 false)) YN Ua Un (Zt (Zf rfl fh) rfl) (Zt fh rfl) (hS.get k3).at_ ZtP (w:= .agg [.int .i64 QM.name,.bool QM.root,.int .i64 QM.from_,.int .i64 QM.has,.int .i64 QM.out,.bool QM.use].toArray) rfl) ?_ rfl;refine WX.hn gN rfl (Zhn hS Un (vs:= [.int .i64 0,.bool false,.int .i64 0,.int .i64 0,.int .i64 0,.bool false]) rfl) ?_ rfl;rintro _ ZIl ⟨ZN0,ZKi,rfl,hS⟩;refine WX.hu gN (J5 hS k0 Uo lk lk (vs:= [.int .i64 QM.name,.bool QM.root,.int .i64 QM.from_,.int .i64 QM.has,.int .i64 QM.out,.bool QM.use]) rfl rfl rfl rfl (cs':= [.int .i64 QM.name,.bool QM.root,.int .i64 QM.from_,.int .i64 QM.has,.int .i64 QM.out,.bool QM.use]) rfl) ?_ rfl rfl [] (by kernel_rfl) Z7.e;rintro ZMe hS;refine r3 ?_;refine WC.Yl mixed (by kernel_rfl) ?_;refine r1 ?_;refine WX.wr (fun x=>x=b1) hS gN rfl (fun _ _ hR=>ZU Xm (Zt fh rfl) (At.eqv (hR b1 rfl) (hS.X7 k2)) (j:=3) rfl (v:= .int .i64 p1.Zw) rfl) ?_ rfl rfl;rintro ZIk ZNc hS;refine r1 ?_;refine WX.hu gN (J5 hS k0 Zym lk lk (vs:= [.bool false]) rfl rfl rfl rfl (cs':= [.int .i64 QM.name,.bool false,.int .i64 QM.from_,.int .i64 QM.has,.int .i64 QM.out,.bool QM.use]) rfl) ?_ rfl rfl [1] (by kernel_rfl) (.c .z (hS.dj (.c k0 (.c k1 .n))) Z7.e);rintro ZIj hS;refine WX.w gN rfl (Xu Zql lk) ?_ (by kernel_rfl);refine WX.hu gN (J5 hS k0 Y5 lk lk (vs:= [.int .i64 p1.Zw]) rfl rfl rfl rfl (cs':= [.int .i64 QM.name,.bool false,.int .i64 p1.Zw,.int .i64 QM.has,.int .i64 QM.out,.bool QM.use]) rfl) ?_ rfl (by kernel_rfl) [] (by kernel_rfl) Z7.e;rintro ZMd hS;refine WX.w gN rfl (Xu ZkS lk) ?_ (by kernel_rfl);refine WX.hu gN (J5 hS k0 Y5 lk lk (vs:= [.int .i64 16]) rfl rfl rfl rfl (cs':= [.int .i64 QM.name,.bool false,.int .i64 p1.Zw,.int .i64 16,.int .i64 QM.out,.bool QM.use]) rfl) ?_ rfl (by kernel_rfl) [] (by kernel_rfl) Z7.e;rintro ZIi hS;refine r3 ?_;refine WC.Yl mixed (by kernel_rfl) ?_;refine r6 ?_;refine WX.hu gN (ZbL (kv:=Zg) (vv:=Zl) (k:= (Ze.mk p1.at_ p1.name)) (v:= (Zb.mk QM.name false p1.Zw 16 QM.out QM.use)) hS k4 YN Ua (Zt (ZP rfl fh) rfl) (Zt (Zf rfl fh) rfl) (Zt fh rfl)) ?_ rfl rfl [] (by kernel_rfl) Z7.e;rintro ZIh hS;refine r8 ?_;refine WO.w gN rfl (Xf ZqM (Zh lk (Zh lk (Zh lk (Zh lk ZC)))) rfl (cs':= [.int .i64 3,.int .i64 p1.Zw,.int .i64 p1.name,.int .i64 0,.int .i64 16]) rfl) ?_;obtain⟨Zl0,ZDj,hL⟩:=bind_some hL;refine WO.cl gN rfl (YS.fn ZkH (Zc lk (Zc lk Zk))) hS (.c k4 (.c k0 (.c k3 (.c k3 .n)))) (fun g' hz hf hO=>ZgS (by rw [hz];exact hS.hw) hO ZDj) ?_;rintro _ ZIg _ ⟨ZGP,a141,n142,c143,ZI3,n145,c146,rfl,rfl⟩ hS;obtain rfl:=hS.on k2;obtain rfl:=hS.on k3;refine r2 ?_;exact YR.Yy _ hL ⟨_,_,ZGP,a141,c143,Zl0.notes.length,ZI3,c146,Zl0.freed.length,rfl,hS.only (.c k1 (.c k1 (.c k1 (.c k0 .n)))),YV⟩
      ·intro hc hL;refine r1 ?_;refine WC.Yl mixed (by kernel_rfl) ?_;refine r6 ?_;obtain⟨Kj,ZjC,hL⟩:=bind_some hL;obtain⟨ZNV,ZK3,_,ZAK,ZAW,ZH2⟩:=Src.at_ (hS.Jb k4) ZjC;refine WX.w gN rfl (Z4 Ub Xl lk lk rfl ZAK ZjC) ?_ rfl;refine WX.w gN rfl (Y3 Zdg Xl (Zt fh rfl) ZAW (j:=0) rfl rfl (ws:= [.int .i64 Kj.kind,.int .i64 Kj.Zw,.int .i64 Kj.name,.int .i64 Kj.via,.int .i64 Kj.w]) rfl) ?_ rfl;refine WX.hn gN rfl (Zhn hS ZeL (vs:= [.int .i64 0,.int .i64 0,.int .i64 0,.int .i64 0,.int .i64 0]) rfl) ?_ rfl;rintro _ ZE1 ⟨ZNU,ZKf,rfl,hS⟩;refine WX.hu gN (J5 hS k0 Xl lk lk (vs:= [.int .i64 Kj.kind,.int .i64 Kj.Zw,.int .i64 Kj.name,.int .i64 Kj.via,.int .i64 Kj.w]) rfl rfl rfl rfl (cs':= [.int .i64 Kj.kind,.int .i64 Kj.Zw,.int .i64 Kj.name,.int .i64 Kj.via,.int .i64 Kj.w]) rfl) ?_ rfl rfl [] (by kernel_rfl) Z7.e;rintro ZIf hS;refine r3 ?_;refine WC.Yl mixed (by kernel_rfl) ?_;refine r8 ?_;refine r2 ?_;obtain⟨Zv3,ZDf,hL⟩:=bind_some hL;refine WX.cl gN rfl (YS.fn ZAA (Zc lk (Zc lk (Zc lk Zk)))) hS (.c k5 .n) (fun g' hz hf hO=>ZxC (by rw [hz];exact hS.hw) hO ZDf) ?_ rfl rfl [] (by kernel_rfl) Z7.e;rintro _ ZL2 _ ⟨a156,n157,ZFl,rfl,rfl⟩ hS;obtain rfl:=hS.on k0;refine WX.w gN rfl (Zpj lk) ?_ (by kernel_rfl);refine WX.w gN rfl (Xu ZkR lk) ?_ (by kernel_rfl);refine WX.hu gN (J5 hS k4 Zoc lk lk (vs:= [.slice a156 Zv3.length ZFl]) rfl rfl rfl rfl (cs':= [.int .i64 p0.machines,.int .i64 p0.names,.map (some ZH),.slice a156 Zv3.length ZFl,.slice ZA p0.freed.length Zz]) rfl) ?_ rfl (by kernel_rfl) [] (by kernel_rfl) Z7.e;rintro ZL1 hS;refine r4 ?_;refine r1 ?_;obtain⟨ZlZ,ZDe,hL⟩:=bind_some hL;refine WO.cl gN rfl (YS.fn ZyR (Zc lk (Zc lk Zk))) hS (.c k0 (.c k4 (.c k0 (.c k3 .n)))) (fun g' hz hf hO=>ZuL (by rw [hz];exact hS.hw) hO ZDe) ?_;rintro _ ZLX _ ⟨ZGO,a164,n165,ZIT,a167,n168,ZIS,rfl,rfl⟩ hS;obtain rfl:=hS.on k2;obtain rfl:=hS.on k3;refine r2 ?_;exact YR.Yy _ hL ⟨_,_,ZGO,a164,ZIT,ZlZ.notes.length,a167,ZIS,ZlZ.freed.length,rfl,hS.only (.c k1 (.c k1 (.c k1 (.c k0 .n)))),YV⟩
 ·skip;replace hL:=ZpN hL;refine WO.ZIL gN (YS.fn Zt9 (Zc lk (Zc lk Zk))) hS.hw hS (Zqy (Nat.le_refl _) (hS.X7 k1) (.inl (hS.lt k1)) (hS.mrd k2) (hS.ord k3) (hS.ord k4) hx3) ?_;rintro ZLW hS;refine QA.panic ?_;refine XY.ofX ?_;refine Za2.Jk ?_;have hr:=Option.some.inj hL;subst hr;exact⟨rfl,hT ▸ hS.only .n⟩
end Go.Proofs.Ytekpjgmhkkjhgaa
end
end
section
namespace Go.Proofs.Ytekpjgmhkkjhgaa
open Go.Lf
def Zif (F:Nat):Int×Int×Int×(List (Ze×Zb))×(List Zd)×(List Int) ->(Int×Int×Int×(List (Ze×Zb))×(List Zd)×(List Int) ->Option (Za×Int×Int)) ->Option (Za×Int×Int):=fun(v22,v24,v25,v26,v28,v32) Zbi=>
 (bif decide ((v28.length:Int) > 0) then(Yg v28 0).bind fun x37=>(slL v28 1 (v28.length:Int)).bind fun z43=>(ZrS F (Store.mk v24 v25 v26 z43 v32) x37).bind fun x48=>Zbi (ZK (v22 + 1),x48.machines,x48.names,x48.cells,x48.notes,x48.freed) else(Zk8 F (Store.mk v24 v25 v26 v28 v32)).bind fun x58=>some (x58,v22,0))
def ZuT (F:Nat) (p0:Za):Option (Za×Int×Int):=
 (ZrV F p0).bind fun x5=>(bif(!x5) then some ((Za.mk [] [] 0 []),0,2) else(Zh5 F p0).bind fun x7=>loop F (Zif F) (0,x7.machines,x7.names,x7.cells,x7.notes,x7.freed))
def ZrT (F:Nat) (p0:Store) (p1:Zn):Option ((Option Store)×Int):=
 (ZuE F p0).bind fun x7=>(ZuD F x7 p1).bind fun x19=>prC x19 (fun e21=>some (none,e21)) (fun y20=>some ((some y20),0))
end Go.Proofs.Ytekpjgmhkkjhgaa
end
section
set_option maxRecDepth 20000
noncomputable section
namespace Go.Proofs.Ytekpjgmhkkjhgaa
open Go.Yw Go.Lf
theorem ZBq {F wm:Nat} {h:H} {p0:Za} {Zr:Option Addr} {Zq:Nat} {Zp:Option Addr} {Zo:Nat} {ZA:Option Addr} {Zz:Nat} {r:(Za×Int×Int)} (ZE:wm <=h.size) (ZF:Sl (rSl Zu) wm h Zr Zq p0.cells) (Yk:Sl Zj wm h Zp Zo p0.notes) (Yo:Sl (ZL .i64) wm h ZA Zz p0.freed) (hL:ZuT F p0=some r):
 WR XX 23 #[.agg [.slice Zr p0.cells.length Zq,.slice Zp p0.notes.length Zo,.int .i64 p0.names,.slice ZA p0.freed.length Zz].toArray] wm h (CP (fun(v:Value) (Gb:List (Ast wm))=>∃ (Xk:Option Addr) (XA:Nat) (Xj:Nat) (Kl:Nat ->Option Addr×Nat×Nat) (Qp:Option Addr) (QN:Nat) (Qo:Nat) (QR:Option Addr) (JA:Nat) (QO:Nat),v= .tuple [.agg [.slice Xk XA Xj,.slice Qp QN Qo,.int .i64 r.1.names,.slice QR JA QO].toArray,.int .i64 r.2.1,.int .i64 r.2.2].toArray∧Gb= [nst wm (Xa Zu) Xk XA Xj Kl r.1.cells,ow wm Zj Qp QN Qo r.1.notes,ow wm (ZL .i64) QR JA QO r.1.freed]) [] h):=by
 refine bg Try.ntmps23 ZE ZQ.nil ?_;intro T hT hS;unfold ZuT at hL;refine r3 ?_;rintro _ h2 ⟨b1,eb1,rfl,hS⟩;refine r1 ?_;rintro _ h4 ⟨b3,eb3,rfl,hS⟩;refine r8 ?_;obtain⟨x5,hx5,hL⟩:=bind_some hL;refine WO.cp gN rfl (YS.fn ZyT (Zc lk Zk)) (WR.Qq rfl (ZuN (Nat.le_refl _) (hS.slu ZF) (hS.slu Yk) (hS.slu Yo) hx5)) ?_;refine r3 ?_;refine cn hL ?_ ?_
 ·intro hc hL;refine r2 ?_;refine WO.w gN rfl (Xf Zj0 ZC rfl (cs':= [.slice none 0 0,.slice none 0 0,.int .i64 0,.slice none 0 0]) rfl) ?_;refine r1 ?_;rintro h6 hS;refine r6 ?_;have hS:=hS.Ztn (e:= (Xa Zu)) (ps:=fun _=>(Xa Zu).dflt);have hS:=hS.nil (e:=Zj);have hS:=hS.nil (e:= (ZL .i64));have hr:=Option.some.inj hL;subst hr;exact ZR.gen (vs:= [.agg [.slice none 0 0,.slice none 0 0,.int .i64 0,.slice none 0 0].toArray,.int .i64 0,.int .i64 2]) rfl (ZJ (ZM rfl fh) (ZT Wh Xz (hS.X7 k3) (j:=0) rfl rfl (ws:= [.slice none 0 0,.slice none 0 0,.int .i64 0,.slice none 0 0]) rfl) (ZB lk (ZB lk Zm))) rfl ⟨_,⟨none,0,0,(fun _=>(Xa Zu).dflt),none,0,0,none,0,0,rfl,rfl⟩,hT ▸ hS.only (.c k2 (.c k1 (.c k0 .n)))⟩
 ·intro hc hL;refine r4 ?_;refine r1 ?_;obtain⟨x7,hx7,hL⟩:=bind_some hL;refine WO.cl gN rfl (YS.fn Zp9 (Zc lk Zk)) hS .n (fun g' hz hf hO=>Zk4 (by rw [hz];exact hS.hw) ((hS.sl ZF).mono hf) ((hS.sl Yk).mono hf) ((hS.sl Yo).mono hf) hx7) ?_;rintro _ h16 _ ⟨b8,m9,a10,n11,c12,a13,n14,c15,rfl,rfl⟩ hS;obtain rfl:=hS.on k2;obtain rfl:=hS.on k3;refine r8 ?_;refine r2 ?_;refine WC.loop (WL.lift hL (fun(p:Int×Int×Int×(List (Ze×Zb))×(List Zd)×(List Int)) (s:Fs)=>match p with | (v22,v24,v25,v26,v28,v32)=>∃ (Zuz:Fr) (h18:H) (m27:Nat) (a29:Option Addr) (c30:Nat) (n31:Nat) (a33:Option Addr) (c34:Nat) (n35:Nat),s= ⟨Zuz,[],h18,none⟩∧Sp wm T h [bx wm b3 [.slice none 0 0,.slice none 0 0,.int .i64 0,.slice none 0 0],mp wm Zg Zl (some m27) v26,ow wm Zj a29 n31 c30 v28,ow wm (ZL .i64) a33 n35 c34 v32,bx wm b8 [.int .i64 v24,.int .i64 v25,.map (some m27),.slice a29 n31 c30,.slice a33 n35 c34]] h18∧Zuz.at 2= .pointer (some ⟨b3,0,none⟩)∧Zuz.at 5= .pointer (some ⟨b8,0,none⟩)∧Zuz.at 6= .int .i64 v22) ⟨_,_,m9,a10,c12,x7.notes.length,a13,c15,x7.freed.length,rfl,hS.only (.c k4 (.c k1 (.c k1 (.c k1 (.c k0 .n))))),YV⟩ ?_);clear hL hS;rintro Zbi ⟨v22,v24,v25,v26,v28,v32⟩ s ZkD hL ⟨Zuz,h18,m27,a29,c30,n31,a33,c34,n35,rfl,hS,e20,e21,e23⟩;obtain rfl:=hS.on k2;obtain rfl:=hS.on k3;dsimp only [Zif] at hL;refine r8 ?_;refine r3 ?_;refine cn hL ?_ ?_
  ·intro hc hL;refine r8 ?_;refine r2 ?_;obtain⟨x37,Zwy,hL⟩:=bind_some hL;obtain⟨b38,o39,_,ZD8,ZEL,ZJN⟩:=Src.at_ (hS.Jb k2) Zwy;refine WO.w gN rfl (Z4 Ub Xl lk lk rfl ZD8 Zwy) ?_;refine WO.w gN rfl (Y3 Zdg Xl (Zt fh rfl) ZEL (j:=0) rfl rfl (ws:= [.int .i64 x37.kind,.int .i64 x37.Zw,.int .i64 x37.name,.int .i64 x37.via,.int .i64 x37.w]) rfl) ?_;refine r1 ?_;rintro _ h41 ⟨b40,ZMN,rfl,hS⟩;refine r1 ?_;rintro h42 hS;refine r8 ?_;refine r1 ?_;obtain⟨z43,ZGW,hL⟩:=bind_some hL;refine WO.he gN rfl (ZpI (hS.get k3).2 rfl Ub Xl (Zt fh rfl) (.inr ⟨_,YB (Ju rfl)⟩) (.inl ⟨rfl,rfl⟩) ZGW) ?_;rintro _ ⟨a44,c45,rfl,ZHm⟩;refine r3 ?_;rintro h47 hS;refine r4 ?_;refine r1 ?_;obtain⟨x48,ZHh,hL⟩:=bind_some hL;have hS:=hS.sub k4 ZHm;refine WO.cl gN rfl (YS.fn ZyR (Zc lk (Zc lk Zk))) hS (.c k1 (.c k3 (.c k0 (.c k2 .n)))) (fun g' hz hf hO=>ZuL (by rw [hz];exact hS.hw) hO ZHh) ?_;rintro _ h56 _ ⟨m49,a50,n51,c52,a53,n54,c55,rfl,rfl⟩ hS;obtain rfl:=hS.on k2;obtain rfl:=hS.on k3;refine r8 ?_;exact Yz.Yy (ZkD _ _ hL ⟨_,_,m49,a50,c52,x48.notes.length,a53,c55,x48.freed.length,rfl,hS.only (.c k5 (.c k1 (.c k1 (.c k1 (.c k0 .n))))),YV⟩)
  ·intro hc hL;refine r8 ?_;obtain⟨x58,ZHd,hL⟩:=bind_some hL;refine WO.clR gN rfl (YS.fn Zqa (Zc lk Zk)) hS.hw (Zk5 (Nat.le_refl _) (hS.X7 k4) (.inl (hS.lt k4)) (hS.mrd k1) (hS.ord k2) (hS.ord k3) ZHd) ?_;rintro _ h68 _ ⟨a59,n60,c61,ZCS,a62,n63,c64,a65,n66,c67,rfl,rfl⟩ ZHR;have hS:=hS.clR ZHR (.c (cvN (fun _ _ _ _=>trivial) hS.hw) (.c (cvO (fun _ _ _ _=>trivial) hS.hw) (.c (cvO (fun _ _ _ _=>trivial) hS.hw) .n)));obtain rfl:=hS.Zgs k0;obtain rfl:=hS.on k1;obtain rfl:=hS.on k2;refine r2 ?_;rintro h70 hS;refine r4 ?_;refine r1 ?_;have hr:=Option.some.inj hL;subst hr;exact ZR.gen (vs:= [.agg [.slice a59 x58.cells.length c61,.slice a62 x58.notes.length c64,.int .i64 x58.names,.slice a65 x58.freed.length c67].toArray,.int .i64 v22,.int .i64 0]) rfl (ZJ (ZM rfl (ZP rfl (Zf rfl e20))) (ZT Wh Xz (hS.X7 k0) (j:=0) rfl rfl (ws:= [.slice a59 x58.cells.length c61,.slice a62 x58.notes.length c64,.int .i64 x58.names,.slice a65 x58.freed.length c67]) rfl) (ZB lk (ZB lk Zm))) rfl ⟨_,⟨a59,x58.cells.length,c61,ZCS,a62,x58.notes.length,c64,a65,x58.freed.length,c67,rfl,rfl⟩,hT ▸ hS.only (.c k1 (.c k1 (.c k1 .n)))⟩
theorem ZuM {F wm:Nat} {h:H} {p0:Store} {p1:Zn} {ZH:Option Nat} {Zp:Option Addr} {Zo:Nat} {ZA:Option Addr} {Zz Xo UI:Nat} {r:((Option Store)×Int)} (ZE:wm <=h.size) (YZ:At h Xo UI [.int .i64 p0.machines,.int .i64 p0.names,.map ZH,.slice Zp p0.notes.length Zo,.slice ZA p0.freed.length Zz]) (YX:Stb wm h Xo) (ZF:Uu Zg Zl wm h ZH p0.cells) (Yk:Sl Zj wm h Zp Zo p0.notes) (Yo:Sl (ZL .i64) wm h ZA Zz p0.freed) (hL:ZrT F p0 p1=some r):
 WR XX 57 #[.pointer (some ⟨Xo,UI,none⟩),.agg [.int .i64 p1.ZX,.int .i64 p1.at_,.int .i64 p1.name,.int .i64 p1.Zw].toArray] wm h (CP (fun(v:Value) (Gb:List (Ast wm))=>match r.1 with | some y=>∃ (rb0:Nat) (ZbM:Nat) (Qp:Option Addr) (QN:Nat) (Qo:Nat) (QR:Option Addr) (JA:Nat) (QO:Nat),v= .tuple [.pointer (some ⟨rb0,0,none⟩),.int .i64 r.2].toArray∧Gb= [bx wm rb0 [.int .i64 y.machines,.int .i64 y.names,.map (some ZbM),.slice Qp QN Qo,.slice QR JA QO],mp wm Zg Zl (some ZbM) y.cells,ow wm Zj Qp QN Qo y.notes,ow wm (ZL .i64) QR JA QO y.freed] | none=>v= .tuple [.pointer none,.int .i64 r.2].toArray∧Gb= []) [] h):=by
 refine WF.ZfL (args:= [_,_]) (fn:=Try.f57) (by kernel_rfl) (by exact rfl) Try.ntmps57 (by simp) ?_;simp only [ZG,ZN,Nat.reduceAdd];obtain⟨T,hT,hS⟩:∃ T,T=XG (wm:=wm) []∧Sp wm T h [] h:= ⟨_,rfl,Sp.start ZE ZQ.nil⟩
 unfold ZrT at hL;refine r3 ?_;rintro _ h2 ⟨b1,eb1,rfl,hS⟩;refine r1 ?_;rintro _ h4 ⟨b3,eb3,rfl,hS⟩;refine r1 ?_;rintro _ h6 ⟨b5,eb5,rfl,hS⟩;refine r4 ?_;refine WO.w gN rfl (ZdP (Zc lk (Zc lk Zk))) ?_;refine WO.dfr gN lk ?_;refine r4 ?_;refine r1 ?_;obtain⟨x7,hx7,hL⟩:=bind_some hL;refine WO.cl gN rfl (YS.fn ZDJ (Zc lk Zk)) hS .n (fun g' hz hf hO=>ZA9 (by rw [hz];exact hS.hw) (At.fz hf (Stb.fz hS.fz YZ YX) (At.fz hS.fz YX YZ)) (Stb.fz hf (At.fz hS.fz YX YZ) (Stb.fz hS.fz YZ YX)) ((hS.ms ZF).fz hf) ((hS.sl Yk).mono hf) ((hS.sl Yo).mono hf) hx7) ?_;rintro _ h16 _ ⟨b8,m9,a10,n11,c12,a13,n14,c15,rfl,rfl⟩ hS;obtain rfl:=hS.on k2;obtain rfl:=hS.on k3;refine r1 ?_;rintro h18 hS;refine r6 ?_;obtain⟨x19,ZwB,hL⟩:=bind_some hL;rcases x19 with y20 | e21
 ·skip;replace hL:=Zta hL;refine WO.cl gN rfl (YS.fn ZyM (Zc lk (Zc lk Zk))) hS (.c k1 (.c k1 (.c k1 (.c k1 .n)))) (fun g' hz hf hO=>(PQ.ok (ZuC (by rw [hz];exact hS.hw) hO ZwB))) ?_;rintro _ h29 _ ⟨m22,a23,n24,c25,a26,n27,c28,rfl,rfl⟩ hS;obtain rfl:=hS.on k2;obtain rfl:=hS.on k3;refine r6 ?_;rintro h31 hS;refine r1 ?_;rintro h32 hS;refine r3 ?_;refine XY.ofP ?_;refine Za2.dfn (cap:= [.pointer (some ⟨b3,0,none⟩),.pointer (some ⟨b5,0,none⟩)]) (fn2:=Try.f93) (by kernel_rfl) (by exact rfl) Try.ntmps93 (by simp) rfl ?_;simp only [ZG,ZN,Nat.reduceAdd];refine DC.seq ?_;refine DC.rec .ret (Tr.set (Tr.set (Tr.set (Tr.set (Tr.set (Tr.set (Tr.set (Tr.set (Tr.set .nil 0 (.pointer (some ⟨b3,0,none⟩))) 1 (.pointer (some ⟨b5,0,none⟩))) 5 (.nilIface)) 6 (.tuple [.int .i64 0,.bool false].toArray)) 4 (.tuple [.int .i64 0,.bool false].toArray)) 7 (.int .i64 0)) 8 (.bool false)) 2 (.int .i64 0)) 3 (.bool false)) (by exact rfl) rfl ?_;refine⟨rfl,?_⟩;refine DC.seq ?_;refine DC.rgn rfl ?_;refine r3 ?_;refine⟨rfl,?_⟩;refine DC.Zu8 lk rfl ?_;refine DC.skip ?_;refine⟨rfl,rfl,?_⟩;refine Za2.ofL ?_ rfl;have hr:=Option.some.inj hL;subst hr;exact XY.gen rfl (ZJ (ZM rfl fh) (KE Zvy (hS.X7 k1) (j:=0) rfl (v:= .pointer (some ⟨b8,0,none⟩)) rfl) (ZJ (Yd rfl (ZP rfl (Zf rfl fh))) (KE Zvz (hS.X7 k0) (j:=0) rfl (v:= .int .i64 0) rfl) Zm)) rfl ⟨_,⟨b8,m22,a23,y20.notes.length,c25,a26,y20.freed.length,c28,rfl,rfl⟩,hT ▸ hS.only (.c k2 (.c k2 (.c k2 (.c k2 .n))))⟩
 ·skip;replace hL:=ZpN hL;refine WO.clX gN (YS.fn ZyM (Zc lk (Zc lk Zk))) hS (.c k1 (.c k1 (.c k1 (.c k1 .n)))) (fun g' hz hf hO=>ZuC (by rw [hz];exact hS.hw) hO ZwB) ?_;rintro h33 hS;refine QA.panic ?_;refine XY.ofX ?_;refine Za2.dfn (cap:= [.pointer (some ⟨b3,0,none⟩),.pointer (some ⟨b5,0,none⟩)]) (fn2:=Try.f93) (by kernel_rfl) (by exact rfl) Try.ntmps93 (by simp) rfl ?_;simp only [ZG,ZN,Nat.reduceAdd];refine DC.seq ?_;refine DC.rec (.rcv (pv 32 e21)) (Tr.set (Tr.set (Tr.set (Tr.set (Tr.set (Tr.set (Tr.set (Tr.set (Tr.set .nil 0 (.pointer (some ⟨b3,0,none⟩))) 1 (.pointer (some ⟨b5,0,none⟩))) 5 (.iface 32 (.int .i64 e21))) 6 (.tuple [.int .i64 e21,.bool true].toArray)) 4 (.tuple [.int .i64 e21,.bool true].toArray)) 7 (.int .i64 e21)) 8 (.bool true)) 2 (.int .i64 e21)) 3 (.bool true)) (by exact rfl) rfl ?_;refine⟨rfl,?_⟩;refine DC.seq ?_;refine DC.rgn rfl ?_;refine r3 ?_;refine⟨rfl,?_⟩;refine DC.Zu7 lk rfl ?_;refine DC.rgn rfl ?_;refine r3 ?_;rintro h34 hS;refine r1 ?_;rintro h35 hS;refine r1 ?_;refine⟨rfl,rfl,?_⟩;refine Za2.ofL ?_ rfl;have hr:=Option.some.inj hL;subst hr;exact XY.gen rfl (ZJ (Yd rfl (ZP rfl fh)) (KE Zvy (hS.X7 k1) (j:=0) rfl (v:= .pointer none) rfl) (ZJ (Yd rfl (Zf rfl fh)) (KE Zvz (hS.X7 k0) (j:=0) rfl (v:= .int .i64 e21) rfl) Zm)) rfl ⟨_,⟨rfl,rfl⟩,hT ▸ hS.only .n⟩
end Go.Proofs.Ytekpjgmhkkjhgaa
end
end
section
namespace Go.Proofs.Ytekpjgmhkkjhgaa
open Go.Lf
def Zm7 (F:Nat) (p0:Za) (p1:Zn):Option (Za×Int):=
 (ZrV F p0).bind fun x7=>(gd (!(!x7)) (ZrU p1 (p0.cells.length:Int)) default).bind fun x8=>(bif((!x7) || (!x8)) then some ((Za.mk [] [] 0 []),2) else(Zh5 F p0).bind fun x10=>(ZrT F x10 p1).bind fun x21=>opt x21.1 ((bif(x21.2 !=0) then some ((Za.mk [] [] 0 []),x21.2) else none)) (fun y22=>(bif(x21.2 !=0) then some ((Za.mk [] [] 0 []),x21.2) else(Zk8 F y22).bind fun x44=>some (x44,0))))
def Zbs (v40:Int) (ZbW:(Int×(List YI)×(List YI)×(List (List Zb))×(List Zd)×Int×(List Int) ->Option (Za×Model×Bool))):(List YI)×(List YI)×(List (List Zb))×(List Zd)×Int×(List Int) ->Option (Za×Model×Bool):=fun(v74,v78,v82,v87,v91,v92)=>
 ZbW (ZK (v40 + 1),v74,v78,v82,v87,v91,v92)
def ZdL (F:Nat) (z28:(List ZaE)):Int×(List YI)×(List YI)×(List (List Zb))×(List Zd)×Int×(List Int) ->(Int×(List YI)×(List YI)×(List (List Zb))×(List Zd)×Int×(List Int) ->Option (Za×Model×Bool)) ->Option (Za×Model×Bool):=fun(v40,v42,v46,v50,v55,v59,v60) ZbW=>
 (bif decide (v40 < (z28.length:Int)) then(Yg z28 v40).bind fun x96=>(ZuO x96 (v50.length:Int) v59 (v55.length:Int)).bind fun x102=>(bif(!x102.2) then(Zbs v40 ZbW) (v42,v46,v50,v55,v59,v60) else(Zm7 F (Za.mk v50 v55 v59 v60) x102.1).bind fun J3=>(bif(J3.2==7) then(gd ((x102.1.ZX !=4) && (!((x102.1.ZX !=2) && (x102.1.ZX !=3)))) (Zi2 F v42 (YI.mk x102.1.at_ x102.1.name)) default).bind fun ZCw=>(bif((x102.1.ZX !=4) && (((x102.1.ZX !=2) && (x102.1.ZX !=3)) || ZCw)) then some ((Za.mk v50 v55 v59 v60),(Model.mk v42 v46),false) else(Zbs v40 ZbW) (v42,v46,v50,v55,v59,v60)) else(bif(((J3.2==3) && (x102.1.ZX !=5)) && ((v55.length:Int)==80)) then(Zbs v40 ZbW) (v42,v46,v50,v55,v59,v60) else(bif((J3.2 !=0) || ((J3.1.cells.length:Int) != (v50.length:Int))) then some ((Za.mk v50 v55 v59 v60),(Model.mk v42 v46),false) else(Zle F (Model.mk v42 v46) (Za.mk v50 v55 v59 v60) x102.1).bind fun Za5=>(Zo0 F Za5 J3.1).bind fun Kj=>(bif(!Kj) then some (J3.1,Za5,false) else(Zbs v40 ZbW) (Za5.uses,Za5.ways,J3.1.cells,J3.1.notes,J3.1.names,J3.1.freed)))))) else some ((Za.mk v50 v55 v59 v60),(Model.mk v42 v46),true))
def ZrW (F:Nat) (p0:Int) (p1:(List ZaE)):Option (Za×Model×Bool):=
 (Zdp (ZK p0) 6).bind fun x7=>(ZuV F (ZK (1 + x7))).bind fun x8=>(gd (!(x8.2 !=0)) (Zdp (ZK p0) 6) default).bind fun x23=>(bif((x8.2 !=0) || ((x8.1.cells.length:Int) != (ZK (1 + x23)))) then some (x8.1,(Model.mk [] []),false) else(slL p1 0 (if 120 < (p1.length:Int) then 120 else(p1.length:Int))).bind fun z28=>loop F (ZdL F z28) (0,[],[],x8.1.cells,x8.1.notes,x8.1.names,x8.1.freed))
def Zfy (F:Nat) (v16:Int) (v18:(List (List Zb))) (v21:(List Zd)) (v24:Int) (v25:(List Int)) (v28:(List YI)) (v32:(List YI)) (Zbi:(Int×(List (List Zb))×(List Zd)×Int×(List Int)×(List YI)×(List YI) ->Option (Za×Model×Bool))):Int ->Option (Za×Model×Bool):=fun v45=>
 (Zm7 F (Za.mk v18 v21 v24 v25) (Zn.mk 5 v45 0 0)).bind fun x50=>(bif(((x50.2 !=0) || (decide (v16 > 2000))) || ((x50.1.cells.length:Int) != (v18.length:Int))) then some ((Za.mk v18 v21 v24 v25),(Model.mk v28 v32),false) else(Zle F (Model.mk v28 v32) (Za.mk v18 v21 v24 v25) (Zn.mk 5 v45 0 0)).bind fun x75=>Zbi (ZK (v16 + 1),x50.1.cells,x50.1.notes,x50.1.names,x50.1.freed,x75.uses,x75.ways))
def ZdK (F:Nat) (p2:(List Int)):Int×(List (List Zb))×(List Zd)×Int×(List Int)×(List YI)×(List YI) ->(Int×(List (List Zb))×(List Zd)×Int×(List Int)×(List YI)×(List YI) ->Option (Za×Model×Bool)) ->Option (Za×Model×Bool):=fun(v16,v18,v21,v24,v25,v28,v32) Zbi=>
 (bif decide ((v21.length:Int) > 0) then(bif decide ((p2.length:Int) > 0) then(Zdp v16 (p2.length:Int)).bind fun x86=>(Yg p2 x86).bind fun x87=>(Zdp (ZK x87) (v21.length:Int)).bind fun x90=>(Zfy F v16 v18 v21 v24 v25 v28 v32 Zbi) x90 else(Zfy F v16 v18 v21 v24 v25 v28 v32 Zbi) 0) else(Zo0 F (Model.mk v28 v32) (Za.mk v18 v21 v24 v25)).bind fun x93=>some ((Za.mk v18 v21 v24 v25),(Model.mk v28 v32),x93))
def ZuR (F:Nat) (p0:Za) (p1:Model) (p2:(List Int)):Option (Za×Model×Bool):=
 loop F (ZdK F p2) (0,p0.cells,p0.notes,p0.names,p0.freed,p1.uses,p1.ways)
end Go.Proofs.Ytekpjgmhkkjhgaa
end
section
set_option maxRecDepth 20000
noncomputable section
namespace Go.Proofs.Ytekpjgmhkkjhgaa
open Go.Yw Go.Lf
theorem ZuU {F wm:Nat} {h:H} {p0:Za} {p1:Zn} {Zr:Option Addr} {Zq:Nat} {Zp:Option Addr} {Zo:Nat} {ZA:Option Addr} {Zz:Nat} {r:(Za×Int)} (ZE:wm <=h.size) (ZF:Sl (rSl Zu) wm h Zr Zq p0.cells) (Yk:Sl Zj wm h Zp Zo p0.notes) (Yo:Sl (ZL .i64) wm h ZA Zz p0.freed) (hL:Zm7 F p0 p1=some r):
 WR XX 17 #[.agg [.slice Zr p0.cells.length Zq,.slice Zp p0.notes.length Zo,.int .i64 p0.names,.slice ZA p0.freed.length Zz].toArray,.agg [.int .i64 p1.ZX,.int .i64 p1.at_,.int .i64 p1.name,.int .i64 p1.Zw].toArray] wm h (CP (fun(v:Value) (Gb:List (Ast wm))=>∃ (Xk:Option Addr) (XA:Nat) (Xj:Nat) (Kl:Nat ->Option Addr×Nat×Nat) (Qp:Option Addr) (QN:Nat) (Qo:Nat) (QR:Option Addr) (JA:Nat) (QO:Nat),v= .tuple [.agg [.slice Xk XA Xj,.slice Qp QN Qo,.int .i64 r.1.names,.slice QR JA QO].toArray,.int .i64 r.2].toArray∧Gb= [nst wm (Xa Zu) Xk XA Xj Kl r.1.cells,ow wm Zj Qp QN Qo r.1.notes,ow wm (ZL .i64) QR JA QO r.1.freed]) [] h):=by
 refine bg Try.ntmps17 ZE ZQ.nil ?_;intro T hT hS;unfold Zm7 at hL;refine r3 ?_;rintro _ h2 ⟨b1,eb1,rfl,hS⟩;refine r1 ?_;rintro _ h4 ⟨b3,eb3,rfl,hS⟩;refine r1 ?_;rintro _ h6 ⟨b5,eb5,rfl,hS⟩;refine r6 ?_;refine r1 ?_;obtain⟨x7,hx7,hL⟩:=bind_some hL;refine WO.cp gN rfl (YS.fn ZyT (Zc lk Zk)) (WR.Qq rfl (ZuN (Nat.le_refl _) (hS.slu ZF) (hS.slu Yk) (hS.slu Yo) hx7)) ?_;refine r6 ?_;obtain⟨x8,hx8,hL⟩:=Xy hL;refine WO.gcp (Zi.no rfl rfl rfl (Yd rfl fh)) rfl (fun hg=>(YS.fn ZDR (Zc (XJ (ZP rfl (Zf rfl fh)) rfl hg) (Zc (XJ fh rfl hg) Zk)))) (fun hg=>ZBl (hx8 hg)) ?_;refine r4 ?_;refine cn hL ?_ ?_
 ·intro hc hL;refine r2 ?_;refine WO.w gN rfl (Xf Zj0 ZC rfl (cs':= [.slice none 0 0,.slice none 0 0,.int .i64 0,.slice none 0 0]) rfl) ?_;refine r1 ?_;rintro h9 hS;refine r4 ?_;refine r1 ?_;have hS:=hS.Ztn (e:= (Xa Zu)) (ps:=fun _=>(Xa Zu).dflt);have hS:=hS.nil (e:=Zj);have hS:=hS.nil (e:= (ZL .i64));have hr:=Option.some.inj hL;subst hr;exact ZR.gen (vs:= [.agg [.slice none 0 0,.slice none 0 0,.int .i64 0,.slice none 0 0].toArray,.int .i64 2]) rfl (ZJ (ZM rfl (Yd rfl (ZP rfl fh))) (ZT Wh Xz (hS.X7 k3) (j:=0) rfl rfl (ws:= [.slice none 0 0,.slice none 0 0,.int .i64 0,.slice none 0 0]) rfl) (ZB lk Zm)) rfl ⟨_,⟨none,0,0,(fun _=>(Xa Zu).dflt),none,0,0,none,0,0,rfl,rfl⟩,hT ▸ hS.only (.c k2 (.c k1 (.c k0 .n)))⟩
 ·intro hc hL;refine r3 ?_;refine WC.Yl mixed (by kernel_rfl) ?_;refine r1 ?_;obtain⟨x10,ZHj,hL⟩:=bind_some hL;refine WX.cl0 gN rfl (YS.fn Zp9 (Zc lk Zk)) hS .n (fun g' hz hf hO=>Zk4 (by rw [hz];exact hS.hw) ((hS.sl ZF).mono hf) ((hS.sl Yk).mono hf) ((hS.sl Yo).mono hf) ZHj) ?_ rfl rfl;rintro _ h19 _ ⟨b11,m12,a13,n14,c15,a16,n17,c18,rfl,rfl⟩ hS;obtain rfl:=hS.on k2;obtain rfl:=hS.on k3;refine r1 ?_;obtain⟨x21,Zot,hL⟩:=bind_some hL;rcases ZwV:x21.1 with _ | y22
  ·skip;rw [ZwV] at hL;replace hL:=Zti hL;refine WX.clR gN rfl (YS.fn ZyS (Zc lk (Zc lk Zk))) hS.hw (ZuM (Nat.le_refl _) (hS.X7 k0) (.inl (hS.lt k0)) (hS.mrd k1) (hS.ord k2) (hS.ord k3) Zot) ?_ rfl rfl;rintro v26 h24 ZOd ZEi ZHX;rw [ZwV] at ZEi;obtain⟨rfl,rfl⟩:=ZEi;have hS:=hS.clR ZHX .n;refine Ud ?_;refine r2 ?_;refine cn hL ?_ ?_
   ·intro hc hL;refine r2 ?_;refine WO.w gN rfl (Xf Zj0 ZC rfl (cs':= [.slice none 0 0,.slice none 0 0,.int .i64 0,.slice none 0 0]) rfl) ?_;refine r2 ?_;rintro h29 hS;refine r4 ?_;refine r1 ?_;have hS:=hS.Ztn (e:= (Xa Zu)) (ps:=fun _=>(Xa Zu).dflt);have hS:=hS.nil (e:=Zj);have hS:=hS.nil (e:= (ZL .i64));have hr:=Option.some.inj hL;subst hr;exact ZR.gen (vs:= [.agg [.slice none 0 0,.slice none 0 0,.int .i64 0,.slice none 0 0].toArray,.int .i64 x21.2]) rfl (ZJ (ZM rfl (ZM rfl (ZM rfl (ZP rfl fh)))) (ZT Wh Xz (hS.X7 k3) (j:=0) rfl rfl (ws:= [.slice none 0 0,.slice none 0 0,.int .i64 0,.slice none 0 0]) rfl) (ZB lk Zm)) rfl ⟨_,⟨none,0,0,(fun _=>(Xa Zu).dflt),none,0,0,none,0,0,rfl,rfl⟩,hT ▸ hS.only (.c k2 (.c k1 (.c k0 .n)))⟩
   ·intro hc hL;cases hL
  ·skip;rw [ZwV] at hL;replace hL:=Zth hL;refine WX.clR gN rfl (YS.fn ZyS (Zc lk (Zc lk Zk))) hS.hw (ZuM (Nat.le_refl _) (hS.X7 k0) (.inl (hS.lt k0)) (hS.mrd k1) (hS.ord k2) (hS.ord k3) Zot) ?_ rfl rfl;rintro v40 h38 ZOc ZEh ZHU;rw [ZwV] at ZEh;obtain⟨b30,m31,a32,n33,c34,a35,n36,c37,rfl,rfl⟩:=ZEh;have hS:=hS.clR ZHU (.c (cvB hS.hw) (.c (cvM hS.hw) (.c (cvO (fun _ _ _ _=>trivial) hS.hw) (.c (cvO (fun _ _ _ _=>trivial) hS.hw) .n))));obtain rfl:=hS.on k2;obtain rfl:=hS.on k3;refine Ud ?_;refine r2 ?_;refine cn hL ?_ ?_
   ·intro hc hL;refine r2 ?_;refine WO.w gN rfl (Xf Zj0 ZC rfl (cs':= [.slice none 0 0,.slice none 0 0,.int .i64 0,.slice none 0 0]) rfl) ?_;refine r2 ?_;rintro h43 hS;refine r4 ?_;refine r1 ?_;have hS:=hS.Ztn (e:= (Xa Zu)) (ps:=fun _=>(Xa Zu).dflt);have hS:=hS.nil (e:=Zj);have hS:=hS.nil (e:= (ZL .i64));have hr:=Option.some.inj hL;subst hr;exact ZR.gen (vs:= [.agg [.slice none 0 0,.slice none 0 0,.int .i64 0,.slice none 0 0].toArray,.int .i64 x21.2]) rfl (ZJ (ZM rfl (ZM rfl (ZM rfl (ZP rfl fh)))) (ZT Wh Xz (hS.X7 k3) (j:=0) rfl rfl (ws:= [.slice none 0 0,.slice none 0 0,.int .i64 0,.slice none 0 0]) rfl) (ZB lk Zm)) rfl ⟨_,⟨none,0,0,(fun _=>(Xa Zu).dflt),none,0,0,none,0,0,rfl,rfl⟩,hT ▸ hS.only (.c k2 (.c k1 (.c k0 .n)))⟩
   ·intro hc hL;refine r4 ?_;refine r1 ?_;obtain⟨x44,Zwx,hL⟩:=bind_some hL;refine WO.clR gN rfl (YS.fn Zqa (Zc lk Zk)) hS.hw (Zk5 (Nat.le_refl _) (hS.X7 k0) (.inl (hS.lt k0)) (hS.mrd k1) (hS.ord k2) (hS.ord k3) Zwx) ?_;rintro _ h54 _ ⟨a45,n46,c47,ZCT,a48,n49,c50,a51,n52,c53,rfl,rfl⟩ ZHT;have hS:=hS.clR ZHT (.c (cvN (fun _ _ _ _=>trivial) hS.hw) (.c (cvO (fun _ _ _ _=>trivial) hS.hw) (.c (cvO (fun _ _ _ _=>trivial) hS.hw) .n)));obtain rfl:=hS.Zgs k0;obtain rfl:=hS.on k1;obtain rfl:=hS.on k2;refine r1 ?_;rintro h56 hS;refine r4 ?_;have hr:=Option.some.inj hL;subst hr;exact ZR.gen (vs:= [.agg [.slice a45 x44.cells.length c47,.slice a48 x44.notes.length c50,.int .i64 x44.names,.slice a51 x44.freed.length c53].toArray,.int .i64 0]) rfl (ZJ (ZM rfl (ZM rfl (ZM rfl (ZP rfl fh)))) (ZT Wh Xz (hS.X7 k0) (j:=0) rfl rfl (ws:= [.slice a45 x44.cells.length c47,.slice a48 x44.notes.length c50,.int .i64 x44.names,.slice a51 x44.freed.length c53]) rfl) (ZB lk Zm)) rfl ⟨_,⟨a45,x44.cells.length,c47,ZCT,a48,x44.notes.length,c50,a51,x44.freed.length,c53,rfl,rfl⟩,hT ▸ hS.only (.c k1 (.c k1 (.c k1 .n)))⟩
theorem ZBo {F wm:Nat} {h:H} {p0:Int} {p1:(List ZaE)} {Yu:Option Addr} {Yt:Nat} {r:(Za×Model×Bool)} (ZE:wm <=h.size) (Q0:Sl Zs7 wm h Yu Yt p1) (hL:ZrW F p0 p1=some r):
 WR XX 38 #[.int .u8 p0,.slice Yu p1.length Yt] wm h (CP (fun(v:Value) (Gb:List (Ast wm))=>∃ (Xk:Option Addr) (XA:Nat) (Xj:Nat) (Kl:Nat ->Option Addr×Nat×Nat) (Qp:Option Addr) (QN:Nat) (Qo:Nat) (QR:Option Addr) (JA:Nat) (QO:Nat) (Zms:Option Addr) (Zml:Nat) (Zmp:Nat) (Zmr:Option Addr) (Zmk:Nat) (Zmo:Nat),v= .tuple [.agg [.slice Xk XA Xj,.slice Qp QN Qo,.int .i64 r.1.names,.slice QR JA QO].toArray,.agg [.slice Zms Zml Zmp,.slice Zmr Zmk Zmo].toArray,.bool r.2.2].toArray∧Gb= [nst wm (Xa Zu) Xk XA Xj Kl r.1.cells,ow wm Zj Qp QN Qo r.1.notes,ow wm (ZL .i64) QR JA QO r.1.freed,ow wm Ym Zms Zml Zmp r.2.1.uses,ow wm Ym Zmr Zmk Zmo r.2.1.ways]) [] h):=by
 refine bg Try.ntmps38 ZE ZQ.nil ?_;intro T hT hS;unfold ZrW at hL;refine r3 ?_;rintro _ h2 ⟨b1,eb1,rfl,hS⟩;refine r1 ?_;rintro _ h4 ⟨b3,eb3,rfl,hS⟩;refine r6 ?_;rintro _ h6 ⟨b5,eb5,rfl,hS⟩;refine r4 ?_;refine r1 ?_;refine WO.w gN rfl (Zcm Zn3 Zl8 lk) ?_;obtain⟨x7,hx7,hL⟩:=bind_some hL;refine WO.w gN rfl (Yb (Zt fh rfl) (Ju rfl) (Jj hx7)) ?_;refine r1 ?_;obtain⟨x8,hx8,hL⟩:=bind_some hL;refine WO.cl gN rfl (YS.fn ZDV (Zc lk Zk)) hS .n (fun g' hz hf hO=>ZBr (by rw [hz];exact hS.hw) hx8) ?_;rintro _ h18 _ ⟨a9,n10,c11,ZCR,a12,n13,c14,a15,n16,c17,rfl,rfl⟩ hS;obtain rfl:=hS.Zgs k0;obtain rfl:=hS.on k1;obtain rfl:=hS.on k2;refine r4 ?_;rintro _ h21 ⟨b20,ZMS,rfl,hS⟩;refine r1 ?_;rintro h22 hS;refine Ud ?_;refine r1 ?_;refine WO.gv (Zi.no rfl rfl rfl (Yd rfl fh)) rfl (fun hg=>(Zcm Zn3 Zl8 (XJ fh rfl hg))) ?_;obtain⟨x23,Zwz,hL⟩:=Xy hL;refine WO.gv (Zi.no rfl rfl rfl (Yd rfl (Zf rfl fh))) rfl (fun hg=>(Yb (XJ fh rfl hg) (Ju rfl) (Jj (Zwz hg)))) ?_;refine r4 ?_;refine r1 ?_;refine cn hL ?_ ?_
 ·intro hc hL;refine r1 ?_;refine WC.Yl mixed (by kernel_rfl) ?_;refine r1 ?_;refine WX.wr (fun x=>x=b5) hS gN rfl (fun _ _ hR=>Y3 WY XL (Zt (ZM rfl (ZM rfl (Yd rfl (ZP rfl (Zf rfl fh))))) rfl) (At.eqv (hR b5 rfl) (hS.X7 k4)) (j:=0) rfl rfl (ws:= [.slice none 0 0,.slice none 0 0]) rfl) ?_ rfl rfl;rintro h24 e25 hS;refine WX.hu gN (J5 hS k6 Xz lk lk (vs:= [.slice a9 x8.1.cells.length c11,.slice a12 x8.1.notes.length c14,.int .i64 x8.1.names,.slice a15 x8.1.freed.length c17]) rfl rfl rfl rfl (cs':= [.slice a9 x8.1.cells.length c11,.slice a12 x8.1.notes.length c14,.int .i64 x8.1.names,.slice a15 x8.1.freed.length c17]) rfl) ?_ rfl rfl [1] (by kernel_rfl) (.c .z (hS.dj (.c k6 (.c k4 .n))) Z7.e);rintro h26 hS;refine WX.hu gN (J5 hS k6 XL lk lk (vs:= [.slice none 0 0,.slice none 0 0]) rfl rfl rfl rfl (cs':= [.slice none 0 0,.slice none 0 0]) rfl) ?_ rfl (by kernel_rfl) [] (by kernel_rfl) Z7.e;rintro h27 hS;refine WX.w gN rfl (Z5 lk) ?_ (by kernel_rfl);refine r4 ?_;have hS:=hS.nil (e:=Ym);have hS:=hS.nil (e:=Ym);have hr:=Option.some.inj hL;subst hr;exact ZR.gen (vs:= [.agg [.slice a9 x8.1.cells.length c11,.slice a12 x8.1.notes.length c14,.int .i64 x8.1.names,.slice a15 x8.1.freed.length c17].toArray,.agg [.slice none 0 0,.slice none 0 0].toArray,.bool false]) rfl (ZJ (ZM rfl (ZM rfl (ZM rfl (Yd rfl fh)))) (ZT Wh Xz (hS.X7 k3) (j:=0) rfl rfl (ws:= [.slice a9 x8.1.cells.length c11,.slice a12 x8.1.notes.length c14,.int .i64 x8.1.names,.slice a15 x8.1.freed.length c17]) rfl) (ZJ (ZM rfl (ZM rfl (ZM rfl (ZP rfl (Zf rfl fh))))) (ZT WY XL (hS.X7 k2) (j:=0) rfl rfl (ws:= [.slice none 0 0,.slice none 0 0]) rfl) (ZB lk Zm))) rfl ⟨_,⟨a9,x8.1.cells.length,c11,ZCR,a12,x8.1.notes.length,c14,a15,x8.1.freed.length,c17,none,0,0,none,0,0,rfl,rfl⟩,hT ▸ hS.only (.c k5 (.c k5 (.c k5 (.c k1 (.c k0 .n)))))⟩
 ·intro hc hL;refine r8 ?_;refine WO.w gN rfl (ZBK lk lk) ?_;obtain⟨z28,ZGZ,hL⟩:=bind_some hL;refine WO.he gN rfl (Zs0 (hS.sl Q0) rfl ZsK Zkh (Zt (ZP rfl (Zf rfl fh)) rfl) (Zt fh rfl) ZGZ) ?_;rintro _ ⟨a29,c30,rfl,hv31⟩;have ZDu:=hv31.sl Q0;refine r4 ?_;refine r1 ?_;have hS:=hS.nil (e:=Ym);have hS:=hS.nil (e:=Ym);refine WC.loop (WL.lift hL (fun(p:Int×(List YI)×(List YI)×(List (List Zb))×(List Zd)×Int×(List Int)) (s:Fs)=>match p with | (v40,v42,v46,v50,v55,v59,v60)=>∃ (Zb9:Fr) (h32:H) (a43:Option Addr) (c44:Nat) (n45:Nat) (a47:Option Addr) (c48:Nat) (n49:Nat) (a51:Option Addr) (c52:Nat) (n53:Nat) (Zmu:Nat ->Option Addr×Nat×Nat) (a56:Option Addr) (c57:Nat) (n58:Nat) (a61:Option Addr) (c62:Nat) (n63:Nat),s= ⟨Zb9,[],h32,none⟩∧Sp wm T h [bx wm b1 [.slice none 0 0,.slice none 0 0,.int .i64 0,.slice none 0 0],bx wm b3 [.slice none 0 0,.slice none 0 0],ow wm Ym a43 n45 c44 v42,ow wm Ym a47 n49 c48 v46,bx wm b5 [.slice a43 n45 c44,.slice a47 n49 c48],nst wm (Xa Zu) a51 n53 c52 Zmu v50,ow wm Zj a56 n58 c57 v55,ow wm (ZL .i64) a61 n63 c62 v60,bx wm b20 [.slice a51 n53 c52,.slice a56 n58 c57,.int .i64 v59,.slice a61 n63 c62]] h32∧Zb9.at 4= .pointer (some ⟨b1,0,none⟩)∧Zb9.at 5= .pointer (some ⟨b3,0,none⟩)∧Zb9.at 7= .pointer (some ⟨b5,0,none⟩)∧Zb9.at 8= .pointer (some ⟨b20,0,none⟩)∧Zb9.at 42= .slice a29 z28.length c30∧Zb9.at 43= .int .i64 (z28.length:Int)∧Zb9.at 44= .int .i64 v40) ⟨_,_,none,0,0,none,0,0,a9,c11,x8.1.cells.length,ZCR,a12,c14,x8.1.notes.length,a15,c17,x8.1.freed.length,rfl,hS.only (.c k8 (.c k7 (.c k0 (.c k0 (.c k4 (.c k1 (.c k1 (.c k1 (.c k0 .n))))))))),YV⟩ ?_);clear hL hS;rintro ZbW ⟨v40,v42,v46,v50,v55,v59,v60⟩ s ZwJ hL ⟨Zb9,h32,a43,c44,n45,a47,c48,n49,a51,c52,n53,Zmu,a56,c57,n58,a61,c62,n63,rfl,hS,e34,e35,e36,e37,e38,e39,e41⟩;obtain rfl:=hS.on k2;obtain rfl:=hS.on k3;obtain rfl:=hS.Zgs k5;obtain rfl:=hS.on k6;obtain rfl:=hS.on k7;dsimp only [ZdL] at hL;refine r6 ?_;refine cn hL ?_ ?_
  ·intro hc hL;refine r2 ?_;refine WC.ZaG (r:=r) (fun(p:(List YI)×(List YI)×(List (List Zb))×(List Zd)×Int×(List Int)) (s:Fs)=>match p with | (v74,v78,v82,v87,v91,v92)=>∃ (ZkM:Fr) (h65:H) (a75:Option Addr) (c76:Nat) (n77:Nat) (a79:Option Addr) (c80:Nat) (n81:Nat) (a83:Option Addr) (c84:Nat) (n85:Nat) (ZzP:Nat ->Option Addr×Nat×Nat) (a88:Option Addr) (c89:Nat) (n90:Nat) (a93:Option Addr) (c94:Nat) (n95:Nat),s= ⟨ZkM,[],h65,none⟩∧Sp wm T h [bx wm b1 [.slice none 0 0,.slice none 0 0,.int .i64 0,.slice none 0 0],bx wm b3 [.slice none 0 0,.slice none 0 0],ow wm Ym a75 n77 c76 v74,ow wm Ym a79 n81 c80 v78,bx wm b5 [.slice a75 n77 c76,.slice a79 n81 c80],nst wm (Xa Zu) a83 n85 c84 ZzP v82,ow wm Zj a88 n90 c89 v87,ow wm (ZL .i64) a93 n95 c94 v92,bx wm b20 [.slice a83 n85 c84,.slice a88 n90 c89,.int .i64 v91,.slice a93 n95 c94]] h65∧ZkM.at 4= .pointer (some ⟨b1,0,none⟩)∧ZkM.at 5= .pointer (some ⟨b3,0,none⟩)∧ZkM.at 7= .pointer (some ⟨b5,0,none⟩)∧ZkM.at 8= .pointer (some ⟨b20,0,none⟩)∧ZkM.at 42= .slice a29 z28.length c30∧ZkM.at 43= .int .i64 (z28.length:Int)∧ZkM.at 44= .int .i64 v40) (Zbs v40 ZbW) ?_ ?_
   ·clear hL hS;rintro⟨v74,v78,v82,v87,v91,v92⟩ s hL ⟨ZkM,h65,a75,c76,n77,a79,c80,n81,a83,c84,n85,ZzP,a88,c89,n90,a93,c94,n95,rfl,hS,e67,e68,e69,e70,e71,e72,e73⟩;obtain rfl:=hS.on k2;obtain rfl:=hS.on k3;obtain rfl:=hS.Zgs k5;obtain rfl:=hS.on k6;obtain rfl:=hS.on k7;dsimp only [Zbs] at hL;refine r4 ?_;exact Yz.Yy (ZwJ _ _ hL ⟨_,_,a75,c76,v74.length,a79,c80,v78.length,a83,c84,v82.length,ZzP,a88,c89,v87.length,a93,c94,v92.length,rfl,hS.only (.c k0 (.c k0 (.c k0 (.c k0 (.c k0 (.c k0 (.c k0 (.c k0 (.c k0 .n))))))))),YV⟩)
   ·skip;refine r3 ?_;obtain⟨x96,hx96,hL⟩:=bind_some hL;obtain⟨b97,o98,_,ZDY,ZEz,ZEp,ZJD⟩:=Sl.at_ ZDu hx96;refine WO.w gN rfl (Z4 ZsK Zkh lk lk rfl ZDY hx96) ?_;refine WO.w gN rfl (Y3 Zzk Zkh (Zt fh rfl) (At.fz hS.fz ZEp ZEz) (j:=0) rfl rfl (ws:= [.int .u8 x96.ZX,.int .u8 x96.at_,.int .u8 x96.name,.int .u8 x96.Zw]) rfl) ?_;refine r1 ?_;rintro _ ZIr ⟨b99,ZMu,rfl,hS⟩;refine r1 ?_;rintro ZE3 hS;refine Ud ?_;refine r1 ?_;obtain⟨x102,hx102,hL⟩:=bind_some hL;refine WO.cl gN rfl (YS.fn ZDS (Zc lk (Zc lk (Zc lk (Zc lk Zk))))) hS .n (fun g' hz hf hO=>ZBm (by rw [hz];exact hS.hw) hx102) ?_;rintro _ ZMn _ ⟨rfl,rfl⟩ hS;refine r4 ?_;rintro _ ZIp ⟨ZFw,ZKn,rfl,hS⟩;refine r1 ?_;rintro ZE2 hS;refine r8 ?_;refine r2 ?_;refine cn hL ?_ ?_
    ·intro hc hL;refine r3 ?_;exact YR.Yy _ hL ⟨_,_,a43,c44,v42.length,a47,c48,v46.length,a51,c52,v50.length,Zmu,a56,c57,v55.length,a61,c62,v60.length,rfl,hS.only (.c k2 (.c k2 (.c k2 (.c k2 (.c k2 (.c k2 (.c k2 (.c k2 (.c k2 .n))))))))),YV⟩
    ·intro hc hL;refine r6 ?_;obtain⟨J3,ZDq,hL⟩:=bind_some hL;refine WO.clR gN rfl (YS.fn ZyX (Zc lk (Zc lk Zk))) hS.hw (ZuU (Nat.le_refl _) (hS.nrd k7 Zks) (hS.ord k8) (hS.ord k9) ZDq) ?_;rintro _ ZIn _ ⟨a109,n110,Zr7,Zs9,Zss,n113,Zr6,Zsr,n116,c117,rfl,rfl⟩ ZEg;have hS:=hS.clR ZEg (.c (cvN (fun _ _ _ _=>trivial) hS.hw) (.c (cvO (fun _ _ _ _=>trivial) hS.hw) (.c (cvO (fun _ _ _ _=>trivial) hS.hw) .n)));obtain rfl:=hS.Zgs k0;obtain rfl:=hS.on k1;obtain rfl:=hS.on k2;refine r4 ?_;rintro _ ZMh ⟨ZN3,ZKk,rfl,hS⟩;refine r1 ?_;rintro h122 hS;refine r8 ?_;refine r2 ?_;refine cn hL ?_ ?_
     ·intro hc hL;refine Ud ?_;refine r2 ?_;refine WO.gv (Zi.yes rfl rfl rfl (Yd rfl (ZP rfl (Zf rfl fh)))) rfl (fun hg=>(QK (XJ (ZP rfl (Zf rfl fh)) rfl hg) (Znh fh hg) lk)) ?_;refine r6 ?_;refine r1 ?_;refine WO.gv (Zi.no2 rfl rfl rfl (Yd rfl (ZP rfl fh))) rfl (fun hg=>(Xf ZjZ (Zh (XJ (ZP rfl fh) rfl hg) (Zh (XJ fh rfl hg) ZC)) rfl (cs':= [.int .i64 x102.1.at_,.int .i64 x102.1.name]) rfl)) ?_;obtain⟨ZCw,ZDm,hL⟩:=Xy hL;refine WO.gcp (Zi.no2 rfl rfl rfl (Yd rfl (ZP rfl (Zf rfl fh)))) rfl (fun hg=>(YS.fn Zqb (Zc (XJ (Yd rfl (Zf rfl fh)) rfl hg) (Zc (XJ fh rfl hg) Zk)))) (fun hg=>Zlb (hS.ord k8) (ZDm hg)) ?_;refine WO.gv (Zi.yes rfl rfl rfl (ZM rfl (ZM rfl (Zf rfl fh)))) rfl (fun hg=>(Zzi (XJ (ZM rfl fh) rfl hg) lk (Znh fh hg))) ?_;refine r3 ?_;refine cn hL ?_ ?_
      ·intro hc hL;refine r1 ?_;refine WC.Yl mixed (by kernel_rfl) ?_;refine r1 ?_;refine WX.wr (fun x=>x=b5) hS gN rfl (fun _ _ hR=>Y3 WY XL (Zt (ZM rfl (ZM rfl (ZM rfl (ZM rfl (ZM rfl (ZM rfl (Yd rfl (ZP rfl (Zf rfl e36))))))))) rfl) (At.eqv (hR b5 rfl) (hS.X7 k10)) (j:=0) rfl rfl (ws:= [.slice a43 v42.length c44,.slice a47 v46.length c48]) rfl) ?_ rfl rfl;rintro ZMg e125 hS;refine WX.hu gN (J5 hS k6 Xz lk lk (vs:= [.slice a51 v50.length c52,.slice a56 v55.length c57,.int .i64 v59,.slice a61 v60.length c62]) rfl rfl rfl rfl (cs':= [.slice a51 v50.length c52,.slice a56 v55.length c57,.int .i64 v59,.slice a61 v60.length c62]) rfl) ?_ rfl rfl [1] (by kernel_rfl) (.c .z (hS.dj (.c k6 (.c k9 .n))) Z7.e);rintro Zuq hS;refine WX.hu gN (J5 hS k7 XL lk lk (vs:= [.slice a43 v42.length c44,.slice a47 v46.length c48]) rfl rfl rfl rfl (cs':= [.slice a43 v42.length c44,.slice a47 v46.length c48]) rfl) ?_ rfl (by kernel_rfl) [] (by kernel_rfl) Z7.e;rintro h127 hS;refine WX.w gN rfl (Z5 lk) ?_ (by kernel_rfl);refine r6 ?_;refine YR.ret ?_;refine r3 ?_;have hr:=Option.some.inj hL;subst hr;exact ZR.gen (vs:= [.agg [.slice a51 v50.length c52,.slice a56 v55.length c57,.int .i64 v59,.slice a61 v60.length c62].toArray,.agg [.slice a43 v42.length c44,.slice a47 v46.length c48].toArray,.bool false]) rfl (ZJ (ZM rfl (ZM rfl (ZM rfl (ZM rfl (ZM rfl (ZM rfl (ZM rfl (Zf rfl e34)))))))) (ZT Wh Xz (hS.X7 k1) (j:=0) rfl rfl (ws:= [.slice a51 v50.length c52,.slice a56 v55.length c57,.int .i64 v59,.slice a61 v60.length c62]) rfl) (ZJ (ZM rfl (ZM rfl (ZM rfl (ZM rfl (ZM rfl (ZM rfl (ZM rfl (Zf rfl e35)))))))) (ZT WY XL (hS.X7 k0) (j:=0) rfl rfl (ws:= [.slice a43 v42.length c44,.slice a47 v46.length c48]) rfl) (ZB lk Zm))) rfl ⟨_,⟨a51,v50.length,c52,Zmu,a56,v55.length,c57,a61,v60.length,c62,a43,v42.length,c44,a47,v46.length,c48,rfl,rfl⟩,hT ▸ hS.only (.c k11 (.c k11 (.c k11 (.c k8 (.c k8 .n)))))⟩
      ·intro hc hL;refine r4 ?_;refine r1 ?_;exact YR.Yy _ hL ⟨_,_,a43,c44,v42.length,a47,c48,v46.length,a51,c52,v50.length,Zmu,a56,c57,v55.length,a61,c62,v60.length,rfl,hS.only (.c k6 (.c k6 (.c k6 (.c k6 (.c k6 (.c k6 (.c k6 (.c k6 (.c k6 .n))))))))),YV⟩
     ·intro hc hL;refine r16 ?_;refine r4 ?_;refine cn hL ?_ ?_
      ·intro hc hL;refine r3 ?_;exact YR.Yy _ hL ⟨_,_,a43,c44,v42.length,a47,c48,v46.length,a51,c52,v50.length,Zmu,a56,c57,v55.length,a61,c62,v60.length,rfl,hS.only (.c k6 (.c k6 (.c k6 (.c k6 (.c k6 (.c k6 (.c k6 (.c k6 (.c k6 .n))))))))),YV⟩
      ·intro hc hL;refine r16 ?_;refine r2 ?_;refine cn hL ?_ ?_
       ·intro hc hL;refine r1 ?_;refine WC.Yl mixed (by kernel_rfl) ?_;refine r1 ?_;refine WX.wr (fun x=>x=b5) hS gN rfl (fun _ _ hR=>Y3 WY XL (Zt (ZM rfl (ZM rfl (ZM rfl (ZM rfl (ZM rfl (ZM rfl (ZM rfl e36))))))) rfl) (At.eqv (hR b5 rfl) (hS.X7 k10)) (j:=0) rfl rfl (ws:= [.slice a43 v42.length c44,.slice a47 v46.length c48]) rfl) ?_ rfl rfl;rintro h128 e129 hS;refine WX.hu gN (J5 hS k6 Xz (Zt (ZM rfl (ZM rfl (ZM rfl (ZM rfl (ZM rfl (ZM rfl (ZM rfl (Zf rfl e34)))))))) rfl) lk (vs:= [.slice a51 v50.length c52,.slice a56 v55.length c57,.int .i64 v59,.slice a61 v60.length c62]) rfl rfl rfl rfl (cs':= [.slice a51 v50.length c52,.slice a56 v55.length c57,.int .i64 v59,.slice a61 v60.length c62]) rfl) ?_ rfl rfl [1] (by kernel_rfl) (.c .z (hS.dj (.c k6 (.c k9 .n))) Z7.e);rintro ZMf hS;refine WX.hu gN (J5 hS k7 XL (Zt (ZM rfl (ZM rfl (ZM rfl (ZM rfl (ZM rfl (ZM rfl (ZM rfl (Zf rfl e35)))))))) rfl) lk (vs:= [.slice a43 v42.length c44,.slice a47 v46.length c48]) rfl rfl rfl rfl (cs':= [.slice a43 v42.length c44,.slice a47 v46.length c48]) rfl) ?_ rfl (by kernel_rfl) [] (by kernel_rfl) Z7.e;rintro ZIl hS;refine WX.w gN rfl (Z5 lk) ?_ (by kernel_rfl);refine r4 ?_;refine r1 ?_;refine YR.ret ?_;refine r3 ?_;have hr:=Option.some.inj hL;subst hr;exact ZR.gen (vs:= [.agg [.slice a51 v50.length c52,.slice a56 v55.length c57,.int .i64 v59,.slice a61 v60.length c62].toArray,.agg [.slice a43 v42.length c44,.slice a47 v46.length c48].toArray,.bool false]) rfl (ZJ (ZM rfl (ZM rfl (ZM rfl (ZM rfl (ZM rfl (ZM rfl (ZM rfl (ZP rfl e34)))))))) (ZT Wh Xz (hS.X7 k1) (j:=0) rfl rfl (ws:= [.slice a51 v50.length c52,.slice a56 v55.length c57,.int .i64 v59,.slice a61 v60.length c62]) rfl) (ZJ (ZM rfl (ZM rfl (ZM rfl (ZM rfl (ZM rfl (ZM rfl (ZM rfl (ZP rfl e35)))))))) (ZT WY XL (hS.X7 k0) (j:=0) rfl rfl (ws:= [.slice a43 v42.length c44,.slice a47 v46.length c48]) rfl) (ZB lk Zm))) rfl ⟨_,⟨a51,v50.length,c52,Zmu,a56,v55.length,c57,a61,v60.length,c62,a43,v42.length,c44,a47,v46.length,c48,rfl,rfl⟩,hT ▸ hS.only (.c k11 (.c k11 (.c k11 (.c k8 (.c k8 .n)))))⟩
       ·intro hc hL;refine r6 ?_;refine r1 ?_;obtain⟨Za5,ZDk,hL⟩:=bind_some hL;refine WO.ZA5 hS k11 ?_;rintro ZIk ⟨ZJx,hS⟩;refine WO.fzn hS k12 ?_;rintro ZIj ⟨ZJw,hS⟩;refine WO.fzn hS k13 ?_;rintro ZIi ⟨ZJv,hS⟩;refine WO.cl gN rfl (YS.fn ZyU (Zc lk (Zc lk (Zc lk Zk)))) hS (.c k11 (.c k11 .n)) (fun g' hz hf hO=>ZuP (by rw [hz];exact hS.hw) ((hS.fsl k2).mono hf) ((hS.fsl k1).mono hf) ((hS.fsl k0).mono hf) hO ZDk) ?_;rintro _ ZL9 _ ⟨a139,n140,c141,Zpz,n143,Zpi,rfl,rfl⟩ hS;simp only [List.cons_append,List.nil_append] at hS;obtain rfl:=hS.on k0;obtain rfl:=hS.on k1;refine r1 ?_;rintro ZIg hS;refine r6 ?_;rintro ZL8 hS;refine r6 ?_;obtain⟨Kj,ZjC,hL⟩:=bind_some hL;refine WO.cp gN rfl (YS.fn Zt4 (Zc lk (Zc lk Zk))) (WR.Qq rfl (ZoZ (Nat.le_refl _) (hS.ord k2) (hS.ord k3) (hS.nrd k8 Zks) (hS.ord k9) (hS.ord k10) ZjC)) ?_;refine r3 ?_;refine cn hL ?_ ?_
        ·intro hc hL;refine r1 ?_;refine WC.Yl mixed (by kernel_rfl) ?_;refine r1 ?_;refine WX.wr (fun x=>x=b5) hS gN rfl (fun _ _ hR=>Y3 WY XL (Zt (ZM rfl (ZM rfl (ZM rfl (ZM rfl (ZM rfl (ZM rfl (ZM rfl (ZM rfl (Zf rfl e36))))))))) rfl) (At.eqv (hR b5 rfl) (hS.X7 k1)) (j:=0) rfl rfl (ws:= [.slice a139 Za5.uses.length c141,.slice Zpz Za5.ways.length Zpi]) rfl) ?_ rfl rfl;rintro ZL7 ZM8 hS;refine WX.hu gN (J5 hS k13 Xz (Zt (ZM rfl (ZM rfl (ZM rfl (ZM rfl (ZM rfl (ZM rfl (ZM rfl (ZM rfl (ZP rfl e34))))))))) rfl) lk (vs:= [.slice a109 J3.1.cells.length Zr7,.slice Zss J3.1.notes.length Zr6,.int .i64 J3.1.names,.slice Zsr J3.1.freed.length c117]) rfl rfl rfl rfl (cs':= [.slice a109 J3.1.cells.length Zr7,.slice Zss J3.1.notes.length Zr6,.int .i64 J3.1.names,.slice Zsr J3.1.freed.length c117]) rfl) ?_ rfl rfl [1] (by kernel_rfl) (.c .z (hS.dj (.c k13 (.c k1 .n))) Z7.e);rintro ZL6 hS;refine WX.hu gN (J5 hS k14 XL (Zt (ZM rfl (ZM rfl (ZM rfl (ZM rfl (ZM rfl (ZM rfl (ZM rfl (ZM rfl (ZP rfl e35))))))))) rfl) lk (vs:= [.slice a139 Za5.uses.length c141,.slice Zpz Za5.ways.length Zpi]) rfl rfl rfl rfl (cs':= [.slice a139 Za5.uses.length c141,.slice Zpz Za5.ways.length Zpi]) rfl) ?_ rfl (by kernel_rfl) [] (by kernel_rfl) Z7.e;rintro ZE1 hS;refine WX.w gN rfl (Z5 lk) ?_ (by kernel_rfl);refine r4 ?_;refine YR.ret ?_;refine r3 ?_;have hr:=Option.some.inj hL;subst hr;exact ZR.gen (vs:= [.agg [.slice a109 J3.1.cells.length Zr7,.slice Zss J3.1.notes.length Zr6,.int .i64 J3.1.names,.slice Zsr J3.1.freed.length c117].toArray,.agg [.slice a139 Za5.uses.length c141,.slice Zpz Za5.ways.length Zpi].toArray,.bool false]) rfl (ZJ (ZM rfl (ZM rfl (ZM rfl (ZM rfl (ZM rfl (ZM rfl (ZM rfl (ZM rfl (ZP rfl (Zf rfl e34)))))))))) (ZT Wh Xz (hS.X7 k1) (j:=0) rfl rfl (ws:= [.slice a109 J3.1.cells.length Zr7,.slice Zss J3.1.notes.length Zr6,.int .i64 J3.1.names,.slice Zsr J3.1.freed.length c117]) rfl) (ZJ (ZM rfl (ZM rfl (ZM rfl (ZM rfl (ZM rfl (ZM rfl (ZM rfl (ZM rfl (ZP rfl (Zf rfl e35)))))))))) (ZT WY XL (hS.X7 k0) (j:=0) rfl rfl (ws:= [.slice a139 Za5.uses.length c141,.slice Zpz Za5.ways.length Zpi]) rfl) (ZB lk Zm))) rfl ⟨_,⟨a109,J3.1.cells.length,Zr7,Zs9,Zss,J3.1.notes.length,Zr6,Zsr,J3.1.freed.length,c117,a139,Za5.uses.length,c141,Zpz,Za5.ways.length,Zpi,rfl,rfl⟩,hT ▸ hS.only (.c k10 (.c k10 (.c k10 (.c k4 (.c k4 .n)))))⟩
        ·intro hc hL;refine r2 ?_;exact YR.Yy _ hL ⟨_,_,a139,c141,Za5.uses.length,Zpz,Zpi,Za5.ways.length,a109,Zr7,J3.1.cells.length,Zs9,Zss,Zr6,J3.1.notes.length,Zsr,c117,J3.1.freed.length,rfl,hS.only (.c k13 (.c k13 (.c k2 (.c k2 (.c k1 (.c k5 (.c k5 (.c k5 (.c k0 .n))))))))),YV⟩
  ·intro hc hL;refine r6 ?_;refine WC.Yl mixed (by kernel_rfl) ?_;refine r1 ?_;refine WX.wr (fun x=>x=b5) hS gN rfl (fun _ _ hR=>Y3 WY XL (Zt (ZP rfl e36) rfl) (At.eqv (hR b5 rfl) (hS.X7 k4)) (j:=0) rfl rfl (ws:= [.slice a43 v42.length c44,.slice a47 v46.length c48]) rfl) ?_ rfl rfl;rintro ZIf ZM7 hS;refine WX.hu gN (J5 hS k0 Xz lk lk (vs:= [.slice a51 v50.length c52,.slice a56 v55.length c57,.int .i64 v59,.slice a61 v60.length c62]) rfl rfl rfl rfl (cs':= [.slice a51 v50.length c52,.slice a56 v55.length c57,.int .i64 v59,.slice a61 v60.length c62]) rfl) ?_ rfl rfl [1] (by kernel_rfl) (.c .z (hS.dj (.c k0 (.c k3 .n))) Z7.e);rintro ZL4 hS;refine WX.hu gN (J5 hS k1 XL lk lk (vs:= [.slice a43 v42.length c44,.slice a47 v46.length c48]) rfl rfl rfl rfl (cs':= [.slice a43 v42.length c44,.slice a47 v46.length c48]) rfl) ?_ rfl (by kernel_rfl) [] (by kernel_rfl) Z7.e;rintro ZL3 hS;refine WX.w gN rfl (Z5 lk) ?_ (by kernel_rfl);refine r3 ?_;have hr:=Option.some.inj hL;subst hr;exact ZR.gen (vs:= [.agg [.slice a51 v50.length c52,.slice a56 v55.length c57,.int .i64 v59,.slice a61 v60.length c62].toArray,.agg [.slice a43 v42.length c44,.slice a47 v46.length c48].toArray,.bool true]) rfl (ZJ (Yd rfl e34) (ZT Wh Xz (hS.X7 k1) (j:=0) rfl rfl (ws:= [.slice a51 v50.length c52,.slice a56 v55.length c57,.int .i64 v59,.slice a61 v60.length c62]) rfl) (ZJ (Yd rfl e35) (ZT WY XL (hS.X7 k0) (j:=0) rfl rfl (ws:= [.slice a43 v42.length c44,.slice a47 v46.length c48]) rfl) (ZB lk Zm))) rfl ⟨_,⟨a51,v50.length,c52,Zmu,a56,v55.length,c57,a61,v60.length,c62,a43,v42.length,c44,a47,v46.length,c48,rfl,rfl⟩,hT ▸ hS.only (.c k5 (.c k5 (.c k5 (.c k2 (.c k2 .n)))))⟩
theorem ZuQ {F wm:Nat} {h:H} {p0:Za} {p1:Model} {p2:(List Int)} {Zr:Option Addr} {Zq:Nat} {Zp:Option Addr} {Zo:Nat} {ZA:Option Addr} {Zz:Nat} {Yu:Option Addr} {Yt Ztc:Nat} {Qb:Option Addr} {Qa Ztb:Nat} {Zc8:Option Addr} {Zc7:Nat} {r:(Za×Model×Bool)} (ZE:wm <=h.size) (ZF:Sl (rSl Zu) wm h Zr Zq p0.cells) (Yk:Sl Zj wm h Zp Zo p0.notes) (Yo:Sl (ZL .i64) wm h ZA Zz p0.freed) (ZhM:Sl (ZL .u8) wm h Zc8 Zc7 p2) (hO:ZQ (wm:=wm) [ow wm Ym Yu Ztc Yt p1.uses,ow wm Ym Qb Ztb Qa p1.ways] h) (hL:ZuR F p0 p1 p2=some r):
 WR XX 39 #[.agg [.slice Zr p0.cells.length Zq,.slice Zp p0.notes.length Zo,.int .i64 p0.names,.slice ZA p0.freed.length Zz].toArray,.agg [.slice Yu Ztc Yt,.slice Qb Ztb Qa].toArray,.slice Zc8 p2.length Zc7] wm h (CP (fun(v:Value) (Gb:List (Ast wm))=>∃ (Xk:Option Addr) (Xj:Nat) (Qp:Option Addr) (Qo:Nat) (QR:Option Addr) (QO:Nat) (Zms:Option Addr) (Zml:Nat) (Zmp:Nat) (Zmr:Option Addr) (Zmk:Nat) (Zmo:Nat),v= .tuple [.agg [.slice Xk r.1.cells.length Xj,.slice Qp r.1.notes.length Qo,.int .i64 r.1.names,.slice QR r.1.freed.length QO].toArray,.agg [.slice Zms Zml Zmp,.slice Zmr Zmk Zmo].toArray,.bool r.2.2].toArray∧Gb= [fzA wm (rSl (rSl Zu)) (Xk,Xj) r.1.cells,fzA wm (rSl Zj) (Qp,Qo) r.1.notes,fzA wm (rSl (ZL .i64)) (QR,QO) r.1.freed,ow wm Ym Zms Zml Zmp r.2.1.uses,ow wm Ym Zmr Zmk Zmo r.2.1.ways]) [ow wm Ym Yu Ztc Yt p1.uses,ow wm Ym Qb Ztb Qa p1.ways] h):=by
 refine bg Try.ntmps39 ZE hO ?_;intro T hT hS;unfold ZuR at hL;obtain rfl:=hS.on k0;obtain rfl:=hS.on k1;refine r3 ?_;rintro _ h2 ⟨b1,eb1,rfl,hS⟩;refine r1 ?_;rintro _ h4 ⟨b3,eb3,rfl,hS⟩;refine r1 ?_;rintro _ h6 ⟨b5,eb5,rfl,hS⟩;refine r1 ?_;rintro _ h8 ⟨b7,eb7,rfl,hS⟩;refine r8 ?_;refine r2 ?_;have hS:=hS.add (A:=fzA wm (rSl (rSl Zu)) (Zr,Zq) p0.cells) (hS.sl ZF) (fun _ z=>z);have hS:=hS.add (A:=fzA wm (rSl Zj) (Zp,Zo) p0.notes) (hS.sl Yk) (fun _ z=>z);have hS:=hS.add (A:=fzA wm (rSl (ZL .i64)) (ZA,Zz) p0.freed) (hS.sl Yo) (fun _ z=>z);refine WC.loop (WL.lift hL (fun(p:Int×(List (List Zb))×(List Zd)×Int×(List Int)×(List YI)×(List YI)) (s:Fs)=>match p with | (v16,v18,v21,v24,v25,v28,v32)=>∃ (Zm1:Fr) (h9:H) (a19:Option Addr) (c20:Nat) (a22:Option Addr) (c23:Nat) (a26:Option Addr) (c27:Nat) (a29:Option Addr) (c30:Nat) (n31:Nat) (a33:Option Addr) (c34:Nat) (n35:Nat),s= ⟨Zm1,[],h9,none⟩∧Sp wm T h [fzA wm (rSl (rSl Zu)) (a19,c20) v18,fzA wm (rSl Zj) (a22,c23) v21,fzA wm (rSl (ZL .i64)) (a26,c27) v25,bx wm b1 [.slice a19 v18.length c20,.slice a22 v21.length c23,.int .i64 v24,.slice a26 v25.length c27],ow wm Ym a29 n31 c30 v28,ow wm Ym a33 n35 c34 v32,bx wm b3 [.slice a29 n31 c30,.slice a33 n35 c34],bx wm b5 [.slice none 0 0,.slice none 0 0,.int .i64 0,.slice none 0 0],bx wm b7 [.slice none 0 0,.slice none 0 0]] h9∧Zm1.at 2= .slice Zc8 p2.length Zc7∧Zm1.at 3= .pointer (some ⟨b1,0,none⟩)∧Zm1.at 4= .pointer (some ⟨b3,0,none⟩)∧Zm1.at 6= .pointer (some ⟨b5,0,none⟩)∧Zm1.at 7= .pointer (some ⟨b7,0,none⟩)∧Zm1.at 9= .int .i64 v16) ⟨_,_,Zr,Zq,Zp,Zo,ZA,Zz,Yu,Yt,p1.uses.length,Qb,Qa,p1.ways.length,rfl,hS.only (.c k2 (.c k1 (.c k0 (.c k3 (.c k3 (.c k3 (.c k2 (.c k1 (.c k0 .n))))))))),YV⟩ ?_);clear hL hS;rintro Zbi ⟨v16,v18,v21,v24,v25,v28,v32⟩ s ZkD hL ⟨Zm1,h9,a19,c20,a22,c23,a26,c27,a29,c30,n31,a33,c34,n35,rfl,hS,e11,e12,e13,e14,e15,e17⟩;obtain rfl:=hS.on k4;obtain rfl:=hS.on k5;dsimp only [ZdK] at hL;refine r8 ?_;refine r1 ?_;refine cn hL ?_ ?_
 ·intro hc hL;refine r8 ?_;refine r1 ?_;refine WC.ZaG (r:=r) (fun(v45:Int) (s:Fs)=>∃ (ZkO:Fr) (h37:H),s= ⟨ZkO,[],h37,none⟩∧Sp wm T h [bx wm b1 [.slice a19 v18.length c20,.slice a22 v21.length c23,.int .i64 v24,.slice a26 v25.length c27],bx wm b3 [.slice a29 v28.length c30,.slice a33 v32.length c34],bx wm b5 [.slice none 0 0,.slice none 0 0,.int .i64 0,.slice none 0 0],bx wm b7 [.slice none 0 0,.slice none 0 0],fzA wm (rSl (rSl Zu)) (a19,c20) v18,fzA wm (rSl Zj) (a22,c23) v21,fzA wm (rSl (ZL .i64)) (a26,c27) v25,ow wm Ym a29 v28.length c30 v28,ow wm Ym a33 v32.length c34 v32] h37∧ZkO.at 2= .slice Zc8 p2.length Zc7∧ZkO.at 3= .pointer (some ⟨b1,0,none⟩)∧ZkO.at 4= .pointer (some ⟨b3,0,none⟩)∧ZkO.at 6= .pointer (some ⟨b5,0,none⟩)∧ZkO.at 7= .pointer (some ⟨b7,0,none⟩)∧ZkO.at 9= .int .i64 v16∧ZkO.at 10= .int .i64 v45) (Zfy F v16 v18 v21 v24 v25 v28 v32 Zbi) ?_ ?_
  ·clear hL hS;rintro v45 s hL ⟨ZkO,h37,rfl,hS,e39,e40,e41,e42,e43,e44,e46⟩;dsimp only [Zfy] at hL;refine r3 ?_;refine WO.w gN rfl (Xf Ziv (Zh lk (Zh lk ZC)) rfl (cs':= [.int .i64 5,.int .i64 v45,.int .i64 0,.int .i64 0]) rfl) ?_;refine r1 ?_;rintro _ h48 ⟨b47,ZMM,rfl,hS⟩;refine r1 ?_;rintro h49 hS;refine r6 ?_;obtain⟨x50,Zz5,hL⟩:=bind_some hL;refine WO.cl gN rfl (YS.fn ZyX (Zc lk (Zc lk Zk))) hS .n (fun g' hz hf hO=>ZuU (by rw [hz];exact hS.hw) ((hS.fsl k5).mono hf) ((hS.fsl k6).mono hf) ((hS.fsl k7).mono hf) Zz5) ?_;rintro _ h60 _ ⟨a51,n52,c53,ZJi,a54,n55,c56,a57,n58,c59,rfl,rfl⟩ hS;obtain rfl:=hS.Zgs k0;obtain rfl:=hS.on k1;obtain rfl:=hS.on k2;refine WO.ZA5 hS k0 ?_;rintro h62 ⟨hn63,hS⟩;refine WO.fzn hS k1 ?_;rintro h64 ⟨ZLs,hS⟩;refine WO.fzn hS k2 ?_;rintro h66 ⟨ZLr,hS⟩;refine r4 ?_;rintro _ h69 ⟨b68,ZMG,rfl,hS⟩;refine r1 ?_;rintro h70 hS;refine r16 ?_;refine r6 ?_;refine r1 ?_;refine cn hL ?_ ?_
   ·intro hc hL;refine r1 ?_;refine WC.Yl mixed (by kernel_rfl) ?_;refine r1 ?_;refine WX.wr (fun x=>x=b3) hS gN rfl (fun _ _ hR=>Y3 WY XL (Zt (ZM rfl (ZM rfl (ZM rfl (ZP rfl (Zf rfl e41))))) rfl) (At.eqv (hR b3 rfl) (hS.X7 k6)) (j:=0) rfl rfl (ws:= [.slice a29 v28.length c30,.slice a33 v32.length c34]) rfl) ?_ rfl rfl;rintro h71 e72 hS;refine WX.hu gN (J5 hS k7 Xz lk lk (vs:= [.slice a19 v18.length c20,.slice a22 v21.length c23,.int .i64 v24,.slice a26 v25.length c27]) rfl rfl rfl rfl (cs':= [.slice a19 v18.length c20,.slice a22 v21.length c23,.int .i64 v24,.slice a26 v25.length c27]) rfl) ?_ rfl rfl [1] (by kernel_rfl) (.c .z (hS.dj (.c k7 (.c k6 .n))) Z7.e);rintro h73 hS;refine WX.hu gN (J5 hS k8 XL lk lk (vs:= [.slice a29 v28.length c30,.slice a33 v32.length c34]) rfl rfl rfl rfl (cs':= [.slice a29 v28.length c30,.slice a33 v32.length c34]) rfl) ?_ rfl (by kernel_rfl) [] (by kernel_rfl) Z7.e;rintro h74 hS;refine WX.w gN rfl (Z5 lk) ?_ (by kernel_rfl);refine r8 ?_;refine r1 ?_;have hr:=Option.some.inj hL;subst hr;exact ZR.gen (vs:= [.agg [.slice a19 v18.length c20,.slice a22 v21.length c23,.int .i64 v24,.slice a26 v25.length c27].toArray,.agg [.slice a29 v28.length c30,.slice a33 v32.length c34].toArray,.bool false]) rfl (ZJ (ZM rfl (ZM rfl (ZM rfl (Yd rfl (Zf rfl e42))))) (ZT Wh Xz (hS.X7 k1) (j:=0) rfl rfl (ws:= [.slice a19 v18.length c20,.slice a22 v21.length c23,.int .i64 v24,.slice a26 v25.length c27]) rfl) (ZJ (ZM rfl (ZM rfl (ZM rfl (Yd rfl (Zf rfl e43))))) (ZT WY XL (hS.X7 k0) (j:=0) rfl rfl (ws:= [.slice a29 v28.length c30,.slice a33 v32.length c34]) rfl) (ZB lk Zm))) rfl ⟨_,⟨a19,c20,a22,c23,a26,c27,a29,v28.length,c30,a33,v32.length,c34,rfl,rfl⟩,hT ▸ hS.only (.c k9 (.c k9 (.c k9 (.c k9 (.c k9 .n)))))⟩
   ·intro hc hL;refine r6 ?_;refine r1 ?_;obtain⟨x75,ZtL,hL⟩:=bind_some hL;refine WO.cl gN rfl (YS.fn ZyU (Zc lk (Zc lk (Zc lk Zk)))) hS (.c k12 (.c k12 .n)) (fun g' hz hf hO=>ZuP (by rw [hz];exact hS.hw) ((hS.fsl k9).mono hf) ((hS.fsl k10).mono hf) ((hS.fsl k11).mono hf) hO ZtL) ?_;rintro _ h82 _ ⟨a76,n77,c78,a79,n80,c81,rfl,rfl⟩ hS;obtain rfl:=hS.on k0;obtain rfl:=hS.on k1;refine r1 ?_;rintro h84 hS;refine r4 ?_;refine r1 ?_;rintro h85 hS;refine r8 ?_;exact Yz.Yy (ZkD _ _ hL ⟨_,_,a51,c53,a54,c56,a57,c59,a76,c78,x75.uses.length,a79,c81,x75.ways.length,rfl,hS.only (.c k7 (.c k6 (.c k5 (.c k0 (.c k1 (.c k1 (.c k0 (.c k2 (.c k2 .n))))))))),YV⟩)
  ·skip;refine r6 ?_;refine r1 ?_;refine cn hL ?_ ?_
   ·intro hc hL;refine WC.Yl mixed (by kernel_rfl) ?_;refine r4 ?_;obtain⟨x86,ZG5,hL⟩:=bind_some hL;refine WX.w gN rfl (Yb (Zt (ZP rfl fh) rfl) (Zt fh rfl) (Jj ZG5)) ?_ rfl;obtain⟨x87,ZC9,hL⟩:=bind_some hL;obtain⟨b88,o89,_,ZD0,ZEB,ZEr,ZJF⟩:=Sl.at_ ZhM ZC9;refine WX.w gN rfl (Z4 Zyi Zyl lk lk rfl ZD0 ZC9) ?_ rfl;refine WX.w gN rfl (ZU ZFG (Zt fh rfl) (At.fz hS.fz ZEr ZEB) (j:=0) rfl (v:= .int .u8 x87) rfl) ?_ rfl;refine WX.w gN rfl (Zcm Zn3 Zl8 lk) ?_ rfl;refine r3 ?_;obtain⟨x90,hx90,hL⟩:=bind_some hL;refine WX.w gN rfl (Yb (Zt (ZP rfl (Zf rfl fh)) rfl) (Zt fh rfl) (Jj hx90)) ?_ rfl;refine r2 ?_;exact YR.Yy _ hL ⟨_,_,rfl,hS.only (.c k3 (.c k5 (.c k5 (.c k5 (.c k0 (.c k0 (.c k0 (.c k0 (.c k0 .n))))))))),YV⟩
   ·intro hc hL;refine r1 ?_;exact YR.Yy _ hL ⟨_,_,rfl,hS.only (.c k3 (.c k5 (.c k5 (.c k5 (.c k0 (.c k0 (.c k0 (.c k0 (.c k0 .n))))))))),YV⟩
 ·intro hc hL;refine r6 ?_;refine WC.Yl mixed (by kernel_rfl) ?_;refine r1 ?_;refine WX.wr (fun x=>x=b3) hS gN rfl (fun _ _ hR=>Y3 WY XL (Zt (Yd rfl (Zf rfl e13)) rfl) (At.eqv (hR b3 rfl) (hS.X7 k6)) (j:=0) rfl rfl (ws:= [.slice a29 v28.length c30,.slice a33 v32.length c34]) rfl) ?_ rfl rfl;rintro h91 e92 hS;refine r2 ?_;obtain⟨x93,hx93,hL⟩:=bind_some hL;refine WX.cp gN rfl (YS.fn Zt4 (Zc lk (Zc lk Zk))) (WR.Qq rfl (ZoZ (Nat.le_refl _) (hS.ord k4) (hS.ord k5) (hS.ZrF k0) (hS.ZrF k1) (hS.ZrF k2) hx93)) ?_ rfl rfl;refine WX.hu gN (J5 hS k7 Xz lk lk (vs:= [.slice a19 v18.length c20,.slice a22 v21.length c23,.int .i64 v24,.slice a26 v25.length c27]) rfl rfl rfl rfl (cs':= [.slice a19 v18.length c20,.slice a22 v21.length c23,.int .i64 v24,.slice a26 v25.length c27]) rfl) ?_ rfl rfl [1] (by kernel_rfl) (.c .z (hS.dj (.c k7 (.c k6 .n))) Z7.e);rintro h94 hS;refine WX.hu gN (J5 hS k8 XL lk lk (vs:= [.slice a29 v28.length c30,.slice a33 v32.length c34]) rfl rfl rfl rfl (cs':= [.slice a29 v28.length c30,.slice a33 v32.length c34]) rfl) ?_ rfl (by kernel_rfl) [] (by kernel_rfl) Z7.e;rintro h95 hS;refine WX.w gN rfl (Z5 lk) ?_ (by kernel_rfl);refine r3 ?_;have hr:=Option.some.inj hL;subst hr;exact ZR.gen (vs:= [.agg [.slice a19 v18.length c20,.slice a22 v21.length c23,.int .i64 v24,.slice a26 v25.length c27].toArray,.agg [.slice a29 v28.length c30,.slice a33 v32.length c34].toArray,.bool x93]) rfl (ZJ (ZM rfl (ZP rfl e14)) (ZT Wh Xz (hS.X7 k1) (j:=0) rfl rfl (ws:= [.slice a19 v18.length c20,.slice a22 v21.length c23,.int .i64 v24,.slice a26 v25.length c27]) rfl) (ZJ (ZM rfl (ZP rfl e15)) (ZT WY XL (hS.X7 k0) (j:=0) rfl rfl (ws:= [.slice a29 v28.length c30,.slice a33 v32.length c34]) rfl) (ZB lk Zm))) rfl ⟨_,⟨a19,c20,a22,c23,a26,c27,a29,v28.length,c30,a33,v32.length,c34,rfl,rfl⟩,hT ▸ hS.only (.c k2 (.c k2 (.c k2 (.c k3 (.c k3 .n)))))⟩
end Go.Proofs.Ytekpjgmhkkjhgaa
end
end
section
namespace Go.Proofs.Ytekpjgmhkkjhgaa
open Go.Lf
def Zqo (F:Nat) (x40:(Za×Model×Bool)) (x70:(Za×Model×Bool)) (x94:(Za×Int×Int)):Int ->(Int ->Option Bool) ->Option Bool:=fun K8 ZpW=>
 (bif decide (K8 < (x40.2.1.uses.length:Int)) then(Yg x40.2.1.uses K8).bind fun Zv5=>(Zi2 F x70.2.1.uses Zv5).bind fun ZCv=>(bif(!ZCv) then some false else ZpW (ZK (K8 + 1))) else(Zo0 F x40.2.1 x94.1).bind fun Zzy=>(gd Zzy (ZBt) default).bind fun QM=>some (Zzy && QM))
def f9L (F:Nat) (p0:Int) (p1:(List ZaE)) (p2:(List Int)) (p3:(List Int)):Option Bool:=
 (ZrW F p0 p1).bind fun x1=>(bif(!x1.2.2) then some false else(Zo2 x1.2.1.uses).bind fun x25=>(Zo2 x1.2.1.ways).bind fun x31=>(ZuR F x1.1 x1.2.1 p2).bind fun x40=>(bif(!x40.2.2) then some false else(ZuR F x1.1 (Model.mk x25 x31) p3).bind fun x70=>(ZuT F x1.1).bind fun x94=>(gd (!((((!x70.2.2) || (x94.2.2 !=0)) || (decide (x94.2.1 < (x1.1.notes.length:Int)))) || (decide ((x94.1.notes.length:Int) > 0)))) (Zo3 F x40.1.freed x70.1.freed) default).bind fun Zg9=>(gd (!(((((!x70.2.2) || (x94.2.2 !=0)) || (decide (x94.2.1 < (x1.1.notes.length:Int)))) || (decide ((x94.1.notes.length:Int) > 0))) || (!Zg9))) (Zo3 F x40.1.freed x94.1.freed) default).bind fun ZCy=>(bif(((((((!x70.2.2) || (x94.2.2 !=0)) || (decide (x94.2.1 < (x1.1.notes.length:Int)))) || (decide ((x94.1.notes.length:Int) > 0))) || (!Zg9)) || (!ZCy)) || ((x40.2.1.uses.length:Int) != (x70.2.1.uses.length:Int))) then some false else loop F (Zqo F x40 x70 x94) 0)))
end Go.Proofs.Ytekpjgmhkkjhgaa
end
section
set_option maxRecDepth 20000
noncomputable section
namespace Go.Proofs.Ytekpjgmhkkjhgaa
open Go.Yw Go.Lf
theorem ZFb {F wm:Nat} {h:H} {p0:Int} {p1:(List ZaE)} {p2 p3:(List Int)} {Yu:Option Addr} {Yt:Nat} {Zc8:Option Addr} {Zc7:Nat} {Zmx:Option Addr} {Zmw:Nat} {r:Bool} (ZE:wm <=h.size) (Q0:Sl Zs7 wm h Yu Yt p1) (ZhM:Sl (ZL .u8) wm h Zc8 Zc7 p2) (Zow:Sl (ZL .u8) wm h Zmx Zmw p3) (hL:f9L F p0 p1 p2 p3=some r):
 WR XX 9 #[.int .u8 p0,.slice Yu p1.length Yt,.slice Zc8 p2.length Zc7,.slice Zmx p3.length Zmw] wm h (CP (fun(v:Value) (Gb:List (Ast wm))=>v= .bool r∧Gb= []) [] h):=by
 refine bg Try.ntmps9 ZE ZQ.nil ?_;intro T hT hS;unfold f9L at hL;refine r8 ?_;refine r1 ?_;obtain⟨x1,hx1,hL⟩:=bind_some hL;refine WO.cl gN rfl (YS.fn ZDT (Zc lk (Zc lk Zk))) hS .n (fun g' hz hf hO=>ZBo (by rw [hz];exact hS.hw) ((hS.sl Q0).mono hf) hx1) ?_;rintro _ h17 _ ⟨a2,n3,c4,ZGJ,a5,n6,c7,a8,n9,c10,a11,n12,c13,a14,n15,c16,rfl,rfl⟩ hS;obtain rfl:=hS.Zgs k0;obtain rfl:=hS.on k1;obtain rfl:=hS.on k2;obtain rfl:=hS.on k3;obtain rfl:=hS.on k4;refine r4 ?_;refine r1 ?_;rintro _ h20 ⟨b19,ZID,rfl,hS⟩;refine r1 ?_;rintro _ h22 ⟨b21,ZMR,rfl,hS⟩;refine r1 ?_;rintro h23 hS;refine r1 ?_;rintro h24 hS;refine r8 ?_;refine r2 ?_;refine cn hL ?_ ?_
 ·intro hc hL;refine r6 ?_;refine r1 ?_;exact rt hL hT hS
 ·intro hc hL;refine r3 ?_;refine WC.Yl mixed (by kernel_rfl) ?_;refine r2 ?_;obtain⟨x25,hx25,hL⟩:=bind_some hL;refine WX.clR gN rfl (YS.fn Zt5 (Zc lk Zk)) hS.hw (Zo1 (Nat.le_refl _) (hS.ord k5) hx25) ?_ rfl rfl;rintro _ h29 _ ⟨a26,n27,c28,rfl,rfl⟩ ZAQ;have hS:=hS.clR ZAQ (.c (cvO (fun _ _ _ _=>trivial) hS.hw) .n);obtain rfl:=hS.on k0;refine r2 ?_;obtain⟨x31,hx31,hL⟩:=bind_some hL;refine WX.clR gN rfl (YS.fn Zt5 (Zc lk Zk)) hS.hw (Zo1 (Nat.le_refl _) (hS.ord k7) hx31) ?_ rfl rfl;rintro _ h35 _ ⟨a32,n33,c34,rfl,rfl⟩ ZHV;have hS:=hS.clR ZHV (.c (cvO (fun _ _ _ _=>trivial) hS.hw) .n);obtain rfl:=hS.on k0;refine WX.w gN rfl (Xf ZFo (Zh lk (Zh lk ZC)) rfl (cs':= [.slice a26 x25.length c28,.slice a32 x31.length c34]) rfl) ?_ rfl;refine WX.hn gN rfl (Zhn hS ZnT (vs:= [.slice none 0 0,.slice none 0 0]) rfl) ?_ rfl;rintro _ h38 ⟨b37,ZIB,rfl,hS⟩;refine WX.hu gN (J5 hS k0 XL lk lk (vs:= [.slice a26 x25.length c28,.slice a32 x31.length c34]) rfl rfl rfl rfl (cs':= [.slice a26 x25.length c28,.slice a32 x31.length c34]) rfl) ?_ rfl rfl [] (by kernel_rfl) Z7.e;rintro h39 hS;refine r6 ?_;refine r1 ?_;obtain⟨x40,Zz7,hL⟩:=bind_some hL;refine WO.ZA5 hS k5 ?_;rintro h41 ⟨ZLv,hS⟩;refine WO.fzn hS k6 ?_;rintro h43 ⟨ZLu,hS⟩;refine WO.fzn hS k7 ?_;rintro h45 ⟨ZLt,hS⟩;refine WO.cl gN rfl (YS.fn ZyV (Zc lk (Zc lk (Zc lk Zk)))) hS (.c k8 (.c k8 .n)) (fun g' hz hf hO=>ZuQ (by rw [hz];exact hS.hw) ((hS.fsl k2).mono hf) ((hS.fsl k1).mono hf) ((hS.fsl k0).mono hf) ((hS.sl ZhM).mono hf) hO Zz7) ?_;rintro _ h62 _ ⟨a47,c49,a50,c52,a53,c55,a56,n57,c58,a59,n60,c61,rfl,rfl⟩ hS;obtain rfl:=hS.on k3;obtain rfl:=hS.on k4;refine r4 ?_;refine r1 ?_;rintro _ h65 ⟨b64,ZMI,rfl,hS⟩;refine r1 ?_;rintro _ h67 ⟨b66,ZMH,rfl,hS⟩;refine r1 ?_;rintro h68 hS;refine r1 ?_;rintro h69 hS;refine r8 ?_;refine r2 ?_;refine cn hL ?_ ?_
  ·intro hc hL;refine r6 ?_;refine r1 ?_;exact rt hL hT hS
  ·intro hc hL;refine r6 ?_;refine r1 ?_;obtain⟨x70,ZHa,hL⟩:=bind_some hL;refine WO.cl gN rfl (YS.fn ZyV (Zc lk (Zc lk (Zc lk Zk)))) hS (.c k12 (.c k11 .n)) (fun g' hz hf hO=>ZuQ (by rw [hz];exact hS.hw) ((hS.fsl k9).mono hf) ((hS.fsl k8).mono hf) ((hS.fsl k7).mono hf) ((hS.sl Zow).mono hf) hO ZHa) ?_;rintro _ h86 _ ⟨a71,c73,a74,c76,a77,c79,a80,n81,c82,a83,n84,c85,rfl,rfl⟩ hS;simp only [List.cons_append,List.nil_append] at hS;obtain rfl:=hS.on k3;obtain rfl:=hS.on k4;refine r4 ?_;refine r1 ?_;rintro _ h89 ⟨b88,ZMx,rfl,hS⟩;refine r1 ?_;rintro _ h91 ⟨b90,ZIy,rfl,hS⟩;refine r1 ?_;rintro h92 hS;refine r1 ?_;rintro h93 hS;refine r4 ?_;refine r1 ?_;refine WO.w gN rfl (Y3 Wh Xz (Zt (ZM rfl (ZM rfl (ZM rfl (ZM rfl (Yd rfl fh))))) rfl) (hS.X7 (.s (.s (.s (.s k15))))) (j:=0) rfl rfl (ws:= [.slice a2 x1.1.cells.length c4,.slice a5 x1.1.notes.length c7,.int .i64 x1.1.names,.slice a8 x1.1.freed.length c10]) rfl) ?_;obtain⟨x94,ZG4,hL⟩:=bind_some hL;refine WO.cl gN rfl (YS.fn ZDU (Zc lk Zk)) hS .n (fun g' hz hf hO=>ZBq (by rw [hz];exact hS.hw) ((hS.fsl (.s k15)).mono hf) ((hS.fsl k15).mono hf) ((hS.fsl k14).mono hf) ZG4) ?_;rintro _ ZIq _ ⟨a95,n96,c97,ZCQ,a98,n99,ZxS,ZFK,n102,ZFn,rfl,rfl⟩ hS;simp only [List.cons_append,List.nil_append] at hS;obtain rfl:=hS.Zgs k0;obtain rfl:=hS.on k1;obtain rfl:=hS.on k2;refine r4 ?_;refine r1 ?_;rintro _ ZE2 ⟨ZBJ,ZFh,rfl,hS⟩;refine r1 ?_;rintro ZIo hS;refine r16 ?_;refine WO.gv (Zi.no rfl rfl rfl (ZP rfl fh)) rfl (fun hg=>(ZU Zj5 (XJ fh rfl hg) (hS.X7 (.s (.s (.s (.s (.s (.s (.s (.s k15))))))))) (j:=1) rfl (v:= .slice a5 x1.1.notes.length c7) rfl)) ?_;refine Ud ?_;refine r2 ?_;obtain⟨Zg9,Zp3,hL⟩:=Xy hL;refine WO.gcp (Zi.no rfl rfl rfl (Yd rfl fh)) rfl (fun hg=>(YS.fn ZyW (Zc (XJ (ZP rfl fh) rfl hg) (Zc (XJ fh rfl hg) Zk)))) (fun hg=>ZuS (hS.ZrF k15) (hS.ZrF k8) (Zp3 hg)) ?_;refine r6 ?_;refine r1 ?_;obtain⟨ZCy,ZDp,hL⟩:=Xy hL;refine WO.gcp (Zi.no rfl rfl rfl (Yd rfl fh)) rfl (fun hg=>(YS.fn ZyW (Zc (XJ (ZP rfl fh) rfl hg) (Zc (XJ fh rfl hg) Zk)))) (fun hg=>ZuS (hS.ZrF k15) (hS.ord k3) (ZDp hg)) ?_;refine Ud ?_;refine r1 ?_;refine cn hL ?_ ?_
   ·intro hc hL;refine r6 ?_;refine r1 ?_;exact rt hL hT hS
   ·intro hc hL;refine Ud ?_;refine WC.loop (WL.lift hL (fun(K8:Int) (s:Fs)=>∃ (Zgd:Fr) (Zw0:H),s= ⟨Zgd,[],Zw0,none⟩∧Sp wm T h [bx wm b66 [.slice a56 x40.2.1.uses.length c58,.slice a59 x40.2.1.ways.length c61],bx wm b90 [.slice a80 x70.2.1.uses.length c82,.slice a83 x70.2.1.ways.length c85],bx wm ZBJ [.slice a95 x94.1.cells.length c97,.slice a98 x94.1.notes.length ZxS,.int .i64 x94.1.names,.slice ZFK x94.1.freed.length ZFn],ow wm Ym a56 x40.2.1.uses.length c58 x40.2.1.uses,ow wm Ym a59 x40.2.1.ways.length c61 x40.2.1.ways,ow wm Ym a80 x70.2.1.uses.length c82 x70.2.1.uses,ow wm Ym a83 x70.2.1.ways.length c85 x70.2.1.ways,nst wm (Xa Zu) a95 x94.1.cells.length c97 ZCQ x94.1.cells,ow wm Zj a98 x94.1.notes.length ZxS x94.1.notes,ow wm (ZL .i64) ZFK x94.1.freed.length ZFn x94.1.freed] Zw0∧Zgd.at 14= .pointer (some ⟨b66,0,none⟩)∧Zgd.at 16= .pointer (some ⟨b90,0,none⟩)∧Zgd.at 17= .pointer (some ⟨ZBJ,0,none⟩)∧Zgd.at 107= .slice a56 x40.2.1.uses.length c58∧Zgd.at 108= .int .i64 (x40.2.1.uses.length:Int)∧Zgd.at 109= .int .i64 K8) ⟨_,_,rfl,hS.only (.c k11 (.c k4 (.c k0 (.c k13 (.c k13 (.c k7 (.c k7 (.c k0 (.c k0 (.c k0 .n)))))))))),YV⟩ ?_);clear hL hS;rintro ZpW K8 s ZtW hL ⟨Zgd,Zw0,rfl,hS,ZNg,ZNf,e115,e116,e117,e119⟩;dsimp only [Zqo] at hL;refine r6 ?_;refine cn hL ?_ ?_
    ·intro hc hL;refine r6 ?_;obtain⟨Zv5,ZyF,hL⟩:=bind_some hL;obtain⟨ZN2,ZK7,_,ZAN,ZAZ,ZH5⟩:=Src.at_ (hS.Jb k3) ZyF;refine WO.w gN rfl (Z4 Qz YT lk lk rfl ZAN ZyF) ?_;refine WO.w gN rfl (Y3 Zdf YT (Zt fh rfl) ZAZ (j:=0) rfl rfl (ws:= [.int .i64 Zv5.at_,.int .i64 Zv5.name]) rfl) ?_;refine r1 ?_;rintro _ Zur ⟨ZN1,ZKj,rfl,hS⟩;refine r1 ?_;rintro Zuq hS;refine r6 ?_;refine r1 ?_;obtain⟨ZCv,ZDl,hL⟩:=bind_some hL;refine WO.cp gN rfl (YS.fn Zqb (Zc lk (Zc lk Zk))) (Zlb (hS.ord k6) ZDl) ?_;refine r3 ?_;refine cn hL ?_ ?_
     ·intro hc hL;refine r8 ?_;refine r3 ?_;exact rt hL hT hS
     ·intro hc hL;refine r6 ?_;refine r1 ?_;exact Yz.Yy (ZtW _ _ hL ⟨_,_,rfl,hS.only (.c k1 (.c k1 (.c k1 (.c k1 (.c k1 (.c k1 (.c k1 (.c k1 (.c k1 (.c k1 .n)))))))))),YV⟩)
    ·intro hc hL;refine r8 ?_;refine r1 ?_;obtain⟨Zzy,hx128,hL⟩:=bind_some hL;refine WO.cp gN rfl (YS.fn Zt4 (Zc lk (Zc lk Zk))) (WR.Qq rfl (ZoZ (Nat.le_refl _) (hS.ord k3) (hS.ord k4) (hS.nrd k7 Zks) (hS.ord k8) (hS.ord k9) hx128)) ?_;refine r1 ?_;obtain⟨QM,ZtP,hL⟩:=Xy hL;refine WO.gcp (Zi.yes rfl rfl rfl fh) rfl (fun hg=>(YS.fn ZDW Zk)) (fun hg=>ZBs (ZtP hg)) ?_;refine r4 ?_;refine r1 ?_;exact rt hL hT hS
theorem ZFc {F:Nat} {h:H} {p0:Int} {p1:(List ZaE)} {p2 p3:(List Int)} {Yu:Option Addr} {Yt:Nat} {Zc8:Option Addr} {Zc7:Nat} {Zmx:Option Addr} {Zmw:Nat} {r:Bool} (Q0:Sl Zs7 h.size h Yu Yt p1) (ZhM:Sl (ZL .u8) h.size h Zc8 Zc7 p2) (Zow:Sl (ZL .u8) h.size h Zmx Zmw p3) (hL:f9L F p0 p1 p2 p3=some r):Pure XX 9 #[.int .u8 p0,.slice Yu p1.length Yt,.slice Zc8 p2.length Zc7,.slice Zmx p3.length Zmw] h (.bool r):=
 WR.Qq rfl (ZFb (Nat.le_refl _) Q0 ZhM Zow hL)
end Go.Proofs.Ytekpjgmhkkjhgaa
end
end
section
end
section
namespace Go.Proofs.Ytekpjgmhkkjhgaa
abbrev CV:=Int ->Option Zb
def Yv (cv:CV) (m:Int) (o:Option Zb):CV:=fun a=>if a=m then o else cv a
def X0:Option Zb ->Int | some c=>c.out | none=>0
def Jo:Option Zb ->Nat | some c=>if c.root=true then 1 else 0 | none=>0
def U4 (a:Int):Option Zb ->Int | some c=>if c.from_=a then c.has else 0 | none=>0
def UU (a:Int) (x:Zd):Int:=if(x.kind=1∧x.via=a)∨(x.kind=2∧x.Zw=a) then x.w else 0
def YL (a:Int) (x:Zd):Int:=if x.kind=3∧x.Zw=a then 16 else 0
def YJ (f:Zd ->Int):List Zd ->Int | []=>0 | x::l=>f x + YJ f l
def W9 (f:Nat ->Int):Nat ->Int | 0=>0 | k + 1=>W9 f k + f k
def JU:List Zd ->Nat | []=>0 | x::l=>(if x.kind=3 then 1 else 0) + JU l
def Jd (M:Nat) (cv:CV) (ns:List Zd) (a:Int):Int:=W9 (fun m=>U4 a (cv m)) M + YJ (UU a) ns
def J6 (cv:CV) (ns:List Zd) (a:Int):Int:=X0 (cv a) + YJ (YL a) ns
theorem Xq (f:Zd ->Int) (l r:List Zd):YJ f (l ++ r)=YJ f l + YJ f r:=by
 induction l with
 | nil=>simp [YJ]
 | cons x l ih=>simp only [List.cons_append,YJ,ih];omega
theorem ZaW (l r:List Zd):JU (l ++ r)=JU l + JU r:=by
 induction l with
 | nil=>simp [JU]
 | cons x l ih=>simp only [List.cons_append,JU,ih];omega
theorem Ql (f:Zd ->Int) (x:Zd):YJ f [x]=f x:=by simp [YJ]
theorem Zeu (x:Zd):JU [x]=if x.kind=3 then 1 else 0:=by simp [JU]
theorem Zab {f:Zd ->Int} {l:List Zd} (h:∀ x ∈ l,0 <=f x):0 <=YJ f l:=by
 induction l with
 | nil=>simp [YJ]
 | cons x l ih=>
   have:=h x (by simp);have:=ih fun y hy=>h y (by simp [hy])
   simp only [YJ];omega
theorem Zv9 {f:Zd ->Int} {l:List Zd} (h:∀ x ∈ l,0 <=f x) {x:Zd} (hx:x ∈ l):f x <=YJ f l:=by
 induction l with
 | nil=>simp at hx
 | cons y l ih=>
   have h1:=h y (by simp);have h2:=Zab fun z hz=>h z (List.mem_cons_of_mem _ hz)
   simp only [YJ];rcases List.mem_cons.1 hx with rfl | hx
   ·omega
   ·have:=ih (fun z hz=>h z (List.mem_cons_of_mem _ hz)) hx;omega
theorem ZeN {f:Zd ->Int} {l r:List Zd} (h:l.Perm r):YJ f l=YJ f r:=by
 induction h with
 | nil=>rfl
 | cons x _ ih=>simp only [YJ,ih]
 | swap x y l=>simp only [YJ];omega
 | trans _ _ i1 i2=>exact i1.trans i2
theorem Zr2 {l r:List Zd} (h:l.Perm r):JU l=JU r:=by
 induction h with
 | nil=>rfl
 | cons x _ ih=>simp only [JU,ih]
 | swap x y l=>simp only [JU];omega
 | trans _ _ i1 i2=>exact i1.trans i2
theorem ZbG {f:Nat ->Int} {M:Nat} (h:∀ m,m < M ->0 <=f m):0 <=W9 f M:=by
 induction M with
 | zero=>simp [W9]
 | succ M ih=>
   have:=h M (by omega);have:=ih fun m hm=>h m (by omega)
   simp only [W9];omega
theorem Zv8 {f:Nat ->Int} {M:Nat} (h:∀ m,m < M ->0 <=f m) {m:Nat} (hm:m < M):f m <=W9 f M:=by
 induction M with
 | zero=>omega
 | succ M ih=>
   have h1:=h M (by omega);have h2:=ZbG fun m (hm:m < M)=>h m (by omega)
   simp only [W9];by_cases e:m=M
   ·subst e;omega
   ·have:=ih (fun m hm=>h m (by omega)) (by omega);omega
theorem Zn4 {f g:Nat ->Int} {M:Nat} (h:∀ m,m < M ->f m=g m):W9 f M=W9 g M:=by
 induction M with
 | zero=>rfl
 | succ M ih=>simp only [W9];rw [ih fun m hm=>h m (by omega),h M (by omega)]
theorem ZsL {f g:Nat ->Int} {M k:Nat} (hk:k < M) (h:∀ m,m < M ->m ≠ k ->f m=g m):W9 f M=W9 g M - g k + f k:=by
 induction M with
 | zero=>omega
 | succ M ih=>
   simp only [W9];by_cases e:k=M
   ·subst e;rw [Zn4 fun m hm=>h m (by omega) (by omega)];omega
   ·rw [ih (by omega) (fun m hm hn=>h m (by omega) hn),h M (by omega) (fun z=>e z.symm)];omega
theorem Zef {M:Nat} {cv:CV} {ns:List Zd} {m:Int} (h0:0 <=m) (h1:m < M) (o:Option Zb) (a:Int):
 Jd M (Yv cv m o) ns a=Jd M cv ns a - U4 a (cv m) + U4 a o:=by
 unfold Jd;have hm:((m.toNat:Nat):Int)=m:=by omega
 rw [ZsL (k:=m.toNat) (g:=fun k=>U4 a (cv k)) (by omega) (fun k hk hne=>by
  unfold Yv;rw [if_neg (by omega)])]
 have:Yv cv m o ((m.toNat:Nat):Int)=o:=by unfold Yv;rw [if_pos hm]
 rw [this,hm];omega
theorem Wl (cv:CV) (m:Int) (o:Option Zb):Yv cv m o m=o:=by simp [Yv]
theorem Zaf {cv:CV} {m a:Int} {o:Option Zb} (h:a ≠ m):Yv cv m o a=cv a:=by simp [Yv,h]
structure Nm (M:Nat) (n:Int) (cv:CV) (ns:List Zd) (h:Int):Prop where
 rng:∀ m c,cv m=some c ->0 <=m∧m < M
 nam:∀ m c,cv m=some c ->c.name=n
 cel:∀ m c,cv m=some c ->(c.root=false∧0 <=c.from_∧c.from_ < M∧c.from_ ≠ m∧1 <=c.has)∨(c.from_=-1∧c.has=0)
 KC:∀ x ∈ ns,(0 <=x.Zw∧x.Zw < M)∧x.name=n∧1 <=x.w∧((x.kind=1∧0 <=x.via∧x.via < M)∨(x.kind=2∧x.via=0)∨(x.kind=3∧x.via=0∧x.w=16∧x.Zw=h))
 hM:0 <=h∧h < M
 rt:∀ m c,cv m=some c ->c.root=true ->m=h
 one:Jo (cv h) + JU ns=1
 acc:∀ a:Int,0 <=a ->a < M ->J6 cv ns a=Jd M cv ns a
 lead:∃ dep:Int ->Nat,∀ m c,cv m=some c ->m ≠ h ->0 <=c.from_∧(cv c.from_ ≠ none∨c.from_=h)∧dep c.from_ < dep m
theorem Nm.perm {M:Nat} {n:Int} {cv:CV} {ns ns':List Zd} {h:Int} (H:Nm M n cv ns h) (p:ns.Perm ns'):Nm M n cv ns' h:=
 {H with
  KC:=fun x hx=>H.KC x (p.mem_iff.2 hx)
  one:=by rw [← Zr2 p];exact H.one
  acc:=fun a h0 h1=>by
   have:=H.acc a h0 h1;unfold J6 Jd at this ⊢;rw [← ZeN p,← ZeN p];exact this}
section
variable {M:Nat} {n:Int} {cv:CV} {ns:List Zd} {h:Int}
theorem Nm.Zb8 (H:Nm M n cv ns h) {a:Int} (h0:0 <=a) (m:Int):0 <=U4 a (cv m):=by
 unfold U4;cases e:cv m with
 | none=>simp
 | some c=>
   dsimp only;split
   ·rcases H.cel m c e with⟨_,_,_,_,h5⟩ | ⟨h1,h2⟩ <;> omega
   ·omega
theorem Nm.Zbf (H:Nm M n cv ns h) (a:Int):∀ x ∈ ns,0 <=UU a x:=by
 intro x hx;have:= (H.KC x hx).2.2.1;unfold UU;split <;> omega
theorem Kn (a:Int) (x:Zd):0 <=YL a x:=by unfold YL;split <;> omega
theorem Nm.ZcI (H:Nm M n cv ns h) {m:Int} {c:Zb} (e:cv m=some c) (hf:0 <=c.from_):1 <=c.has∧c.has <=Jd M cv ns c.from_:=by
 have hr:=H.rng m c e;have hh:1 <=c.has:=by rcases H.cel m c e with⟨_,_,_,_,h5⟩ | ⟨h1,h2⟩ <;> omega
 refine⟨hh,?_⟩;have h1:=Zv8 (f:=fun k=>U4 c.from_ (cv k)) (M:=M) (fun k _=>H.Zb8 hf k) (m:=m.toNat) (by omega);have h2:=Zab (H.Zbf c.from_);have hm:((m.toNat:Nat):Int)=m:=by omega
 have h3:U4 c.from_ (cv ((m.toNat:Nat):Int))=c.has:=by rw [hm,e];simp [U4]
 rw [h3] at h1;unfold Jd;omega
theorem Nm.UA (H:Nm M n cv ns h) {a:Int} (h0:0 <=a) {x:Zd} (hx:x ∈ ns):UU a x <=Jd M cv ns a:=by
 have h1:=ZbG (f:=fun k=>U4 a (cv k)) (M:=M) (fun k _=>H.Zb8 h0 k);have h2:=Zv9 (H.Zbf a) hx;unfold Jd;omega
theorem Zhe (H:∀ x ∈ ns,x.kind=3 ->x.Zw=h) (a:Int):YJ (YL a) ns=if a=h then 16 * (JU ns:Int) else 0:=by
 induction ns with
 | nil=>simp [YJ,JU]
 | cons x l ih=>
   have i:=ih fun y hy=>H y (by simp [hy])
   have hx:=H x (by simp);simp only [YJ,JU];rw [i];unfold YL;by_cases h3:x.kind=3
   ·have:=hx h3;by_cases ha:a=h
    ·rw [if_pos ⟨h3,by omega⟩,if_pos ha,if_pos ha,if_pos h3];omega
    ·rw [if_neg (by omega),if_neg ha,if_neg ha];omega
   ·rw [if_neg (fun z=>h3 z.1),if_neg h3];split <;> omega
theorem Nm.giv (H:Nm M n cv ns h) (a:Int):J6 cv ns a=X0 (cv a) + if a=h then 16 * (JU ns:Int) else 0:=by
 unfold J6;rw [Zhe (h:=h) (fun x hx h3=>by rcases(H.KC x hx).2.2.2 with z | z | z <;> omega)]
theorem Nm.ZmM (H:Nm M n cv ns h) {a:Int} (h0:0 <=a):0 <=Jd M cv ns a:=by
 have h1:=ZbG (f:=fun k=>U4 a (cv k)) (M:=M) (fun k _=>H.Zb8 h0 k);have h2:=Zab (H.Zbf a);unfold Jd;omega
theorem Nm.there (H:Nm M n cv ns h) {a:Int} (h0:0 <=a) (h1:a < M) (hp:1 <=Jd M cv ns a):cv a ≠ none∨a=h:=by
 have:=H.acc a h0 h1;rw [H.giv] at this;by_cases e:a=h
 ·exact .inr e
 ·rw [if_neg e] at this;refine .inl fun z=>?_
  rw [z] at this;simp [X0] at this;omega
theorem Nm.Zhw (H:Nm M n cv ns h) {m:Int} {c:Zb} (e:cv m=some c):-16 <=c.out∧(m ≠ h ->0 <=c.out)∧(JU ns=0 ->0 <=c.out):=by
 have hr:=H.rng m c e;have h1:=H.acc m hr.1 hr.2;have h2:=H.ZmM hr.1;have h3:=H.one;rw [H.giv,e] at h1;simp only [X0] at h1;refine⟨?_,fun hm=>?_,fun hc=>?_⟩
 ·split at h1 <;> omega
 ·rw [if_neg hm] at h1;omega
 ·rw [hc] at h1;split at h1 <;> omega
theorem Nm.ZBA (H:Nm M n cv ns h):JU ns <=1:=by have:=H.one;omega
theorem Nm.Wo (H:Nm M n cv ns h) {m:Int} {c:Zb} (h0:m=h∨∃ d,cv m=some d∧d.from_=c.from_):
 ∃ dep:Int ->Nat,∀ a d,Yv cv m (some c) a=some d ->a ≠ h ->0 <=d.from_∧(Yv cv m (some c) d.from_ ≠ none∨d.from_=h)∧dep d.from_ < dep a:=by
 obtain⟨dep,L⟩:=H.lead;refine⟨dep,fun a d hd ha=>?_⟩
 have key:∀ f:Int,(cv f ≠ none∨f=h) ->(Yv cv m (some c) f ≠ none∨f=h):=by
  intro f hf;unfold Yv;split
  ·exact .inl (by simp)
  ·exact hf
 unfold Yv at hd;split at hd
 ·rename_i e;cases hd;rcases h0 with z | ⟨d,z1,z2⟩
  ·exact absurd (e.trans z) ha
  ·obtain⟨l1,l2,l3⟩:=L m d z1 (by rw [← e];exact ha);rw [z2] at l1 l2 l3;exact⟨l1,key _ l2,by rw [e];exact l3⟩
 ·obtain⟨l1,l2,l3⟩:=L a d hd ha;exact⟨l1,key _ l2,l3⟩
end
end Go.Proofs.Ytekpjgmhkkjhgaa
end
section
namespace Go.Proofs.Ytekpjgmhkkjhgaa
def Zvj (n:Int):Zb:= ⟨n,false,-1,0,0,false⟩
section
variable {M:Nat} {n:Int} {cv:CV} {ns ns':List Zd} {h m:Int}
def Zak (n:Int) (cv:CV) (m:Int):Zb:= (cv m).getD (Zvj n)
structure Lk (M:Nat) (n:Int) (cv:CV) (h m:Int) (c:Zb):Prop where
 nam:c.name=n
 cel:(c.root=false∧0 <=c.from_∧c.from_ < M∧c.from_ ≠ m∧1 <=c.has)∨(c.from_=-1∧c.has=0)
 out:X0 (cv m)=c.out
 has:∀ a,0 <=a ->U4 a (cv m)=U4 a (some c)
 root:Jo (cv m)=Jo (some c)
 rt:c.root=true ->m=h
 or:cv m=some c∨(cv m=none∧c.root=false∧c.from_=-1∧c.out=0∧c.use=false)
theorem Nm.look (H:Nm M n cv ns h) (m:Int):Lk M n cv h m (Zak n cv m):=by
 unfold Zak;cases e:cv m with
 | none=>
   refine⟨rfl,.inr ⟨rfl,rfl⟩,by rw [e];rfl,fun a ha=>?_,by rw [e];rfl,(fun z=>Bool.noConfusion z),.inr ⟨e,rfl,rfl,rfl,rfl⟩⟩;rw [e];show 0=if(-1:Int)=a then(0:Int) else 0
   split <;> rfl
 | some c=>
   refine⟨H.nam m c e,H.cel m c e,by rw [e];rfl,fun a ha=>by rw [e];rfl,by rw [e];rfl,H.rt m c e,.inl e⟩
theorem Nm.put (H:Nm M n cv ns h) (h0:0 <=m) (h1:m < M) {c:Zb} (hn:c.name=n)
 (hc:(c.root=false∧0 <=c.from_∧c.from_ < M∧c.from_ ≠ m∧1 <=c.has)∨(c.from_=-1∧c.has=0))
 (hns:∀ x ∈ ns',(0 <=x.Zw∧x.Zw < M)∧x.name=n∧1 <=x.w∧((x.kind=1∧0 <=x.via∧x.via < M)∨(x.kind=2∧x.via=0)∨(x.kind=3∧x.via=0∧x.w=16∧x.Zw=h)))
 (hrt:c.root=true ->m=h) (hone:(if h=m then Jo (some c) else Jo (cv h)) + JU ns'=1)
 (hacc:∀ a:Int,0 <=a ->a < M ->(if a=m then c.out else X0 (cv a)) + YJ (YL a) ns' + U4 a (cv m) + YJ (UU a) ns=X0 (cv a) + YJ (YL a) ns + U4 a (some c) + YJ (UU a) ns')
 (hl:∃ dep:Int ->Nat,∀ a d,Yv cv m (some c) a=some d ->a ≠ h ->0 <=d.from_∧(Yv cv m (some c) d.from_ ≠ none∨d.from_=h)∧dep d.from_ < dep a):
 Nm M n (Yv cv m (some c)) ns' h where
 rng a d hd:=by
  unfold Yv at hd;split at hd
  ·subst_vars;omega
  ·exact H.rng a d hd
 nam a d hd:=by
  unfold Yv at hd;split at hd
  ·cases hd;exact hn
  ·exact H.nam a d hd
 cel a d hd:=by
  unfold Yv at hd;split at hd
  ·subst_vars;cases hd;exact hc
  ·exact H.cel a d hd
 KC:=hns
 hM:=H.hM
 rt a d hd hr:=by
  unfold Yv at hd;split at hd
  ·subst_vars;cases hd;exact hrt hr
  ·exact H.rt a d hd hr
 one:=by
  rw [← hone];unfold Yv;split <;> rfl
 acc a a0 a1:=by
  have q:=H.acc a a0 a1;have p:=hacc a a0 a1;rw [Zef h0 h1];unfold J6 at q ⊢;unfold Jd at q ⊢;have:X0 (Yv cv m (some c) a)=if a=m then c.out else X0 (cv a):=by unfold Yv;split <;> rfl
  rw [this];omega
 lead:=hl
theorem Nm.tail (H:∀ x ∈ ns,(0 <=x.Zw∧x.Zw < M)∧x.name=n∧1 <=x.w∧((x.kind=1∧0 <=x.via∧x.via < M)∨(x.kind=2∧x.via=0)∨(x.kind=3∧x.via=0∧x.w=16∧x.Zw=h))) (hs:∀ x ∈ ns',x ∈ ns):∀ x ∈ ns',(0 <=x.Zw∧x.Zw < M)∧x.name=n∧1 <=x.w∧((x.kind=1∧0 <=x.via∧x.via < M)∨(x.kind=2∧x.via=0)∨(x.kind=3∧x.via=0∧x.w=16∧x.Zw=h)):=fun x hx=>H x (hs x hx)
theorem Wy {x:Zd} (k:x.kind=1) (a:Int):YL a x=0:=by unfold YL;rw [if_neg (by omega)]
theorem ZcE {x:Zd} (k:x.kind=2) (a:Int):YL a x=0:=by unfold YL;rw [if_neg (by omega)]
theorem ZgI {x:Zd} (k:x.kind=3) (a:Int):YL a x=if x.Zw=a then 16 else 0:=by
 unfold YL;by_cases e:x.Zw=a
 ·rw [if_pos ⟨k,e⟩,if_pos e]
 ·rw [if_neg (fun z=>e z.2),if_neg e]
theorem Wx {x:Zd} (k:x.kind=1) (a:Int):UU a x=if x.via=a then x.w else 0:=by
 unfold UU;by_cases e:x.via=a
 ·rw [if_pos (.inl ⟨k,e⟩),if_pos e]
 ·rw [if_neg (by rintro(z | z) <;> omega),if_neg e]
theorem Zbg {x:Zd} (k:x.kind=2) (a:Int):UU a x=if x.Zw=a then x.w else 0:=by
 unfold UU;by_cases e:x.Zw=a
 ·rw [if_pos (.inr ⟨k,e⟩),if_pos e]
 ·rw [if_neg (by rintro(z | z) <;> omega),if_neg e]
theorem ZpS {x:Zd} (k:x.kind=3) (a:Int):UU a x=0:=by
 unfold UU;rw [if_neg (by rintro(z | z) <;> omega)]
theorem cnt1 {x:Zd} {l:List Zd} (k:¬ x.kind=3):JU (x::l)=JU l:=by simp only [JU,if_neg k];omega
theorem X6 (a:Int) (c:Zb):U4 a (some c)=if c.from_=a then c.has else 0:=rfl
theorem Nm.use (H:Nm M n cv ns h) {c:Zb} (e:cv m=some c) (u:Bool):Nm M n (Yv cv m (some ⟨c.name,c.root,c.from_,c.has,c.out,u⟩)) ns h:=by
 have hr:=H.rng m c e;refine H.put hr.1 hr.2 (by exact H.nam m c e) (by exact H.cel m c e) H.KC (by exact H.rt m c e) ?_ (fun a a0 a1=>?_) (H.Wo (.inr ⟨c,e,rfl⟩))
 ·rw [← H.one];by_cases z:h=m
  ·rw [if_pos z,z,e];rfl
  ·rw [if_neg z]
 ·rw [e];by_cases z:a=m
  ·rw [if_pos z,z,e];simp only [X0,X6]
  ·rw [if_neg z];simp only [X6]
theorem Nm.Zut {x:Zd} (H:Nm M n cv (x::ns) h) (k:x.kind=1) {c:Zb} (L:Lk M n cv h x.Zw c) (hr:c.root=false) (hf:c.from_=-1) (hv:x.via ≠ x.Zw) (u:Bool):
 Nm M n (Yv cv x.Zw (some ⟨c.name,c.root,x.via,x.w,c.out,u⟩)) ns h:=by
 have hx:=H.KC x (by simp);have hvr:0 <=x.via∧x.via < M:=by rcases hx.2.2.2 with z | z | z <;> omega
 have hh:=H.UA hvr.1 (x:=x) (by simp);rw [Wx k,if_pos rfl] at hh;have ht:=H.there hvr.1 hvr.2 (by omega);refine H.put hx.1.1 hx.1.2 L.nam (.inl ⟨hr,hvr.1,hvr.2,hv,hx.2.2.1⟩) (Nm.tail H.KC (by simp_all)) (by rw [hr];simp) ?_ (fun a a0 a1=>?_) ?_
 ·have o:=H.one;rw [cnt1 (by omega)] at o;have:Jo (some (Zb.mk c.name c.root x.via x.w c.out u))=Jo (some c):=rfl;rw [this];by_cases z:h=x.Zw
  ·rw [if_pos z,← L.root,← z];omega
  ·rw [if_neg z];omega
 ·rw [L.has a a0];simp only [YJ,Wy k,Wx k,X6,hf];rw [if_neg (by omega:¬ (-1:Int)=a)];by_cases z:a=x.Zw
  ·rw [if_pos z,z,L.out];omega
  ·rw [if_neg z];omega
 ·by_cases z:x.Zw=h
  ·exact H.Wo (.inl z)
  ·obtain⟨dep,l⟩:=H.lead;rcases L.or with e | ⟨e,_⟩
   ·obtain⟨l1,_⟩:=l _ c e z;omega
   refine⟨fun a=>if a=x.Zw then dep x.via + 1 else dep a,fun a d hd ha=>?_⟩;dsimp only;unfold Yv at hd;split at hd
   ·rename_i ea;cases hd;refine⟨hvr.1,?_,?_⟩
    ·show Yv cv x.Zw _ x.via ≠ none∨x.via=h;rw [Zaf hv];exact ht
    ·show(if x.via=x.Zw then _ else dep x.via) < _;rw [if_pos ea,if_neg hv];omega
   ·rename_i ea;obtain⟨l1,l2,l3⟩:=l a d hd ha
    have hne:d.from_ ≠ x.Zw:=by
     intro w;rw [w] at l2;rcases l2 with q | q
     ·exact q e
     ·exact z q
    rw [if_neg hne,if_neg ea,Zaf hne];exact⟨l1,l2,l3⟩
theorem Nm.ZrC {x:Zd} (H:Nm M n cv (x::ns) h) (k:x.kind=1) {c:Zb} (L:Lk M n cv h x.Zw c) (hf:0 <=c.from_) (hv:c.from_=x.via) (u:Bool):
 Nm M n (Yv cv x.Zw (some ⟨c.name,c.root,c.from_,c.has + x.w,c.out,u⟩)) ns h:=by
 have hx:=H.KC x (by simp);have hce:cv x.Zw=some c:=by rcases L.or with e | ⟨_,_,e,_⟩;exact e;omega
 have Zrz:c.root=false∧0 <=c.from_∧c.from_ < M∧c.from_ ≠ x.Zw∧1 <=c.has:=by rcases L.cel with z | z;exact z;omega
 refine H.put hx.1.1 hx.1.2 L.nam (.inl ⟨Zrz.1,Zrz.2.1,Zrz.2.2.1,Zrz.2.2.2.1,?_⟩) (Nm.tail H.KC (by simp_all)) L.rt ?_ (fun a a0 a1=>?_) (H.Wo (.inr ⟨c,hce,rfl⟩))
 ·show 1 <=c.has + x.w;omega
 ·have o:=H.one;rw [cnt1 (by omega)] at o;have:Jo (some (Zb.mk c.name c.root c.from_ (c.has + x.w) c.out u))=Jo (some c):=rfl;rw [this];by_cases z:h=x.Zw
  ·rw [if_pos z,← L.root,← z];omega
  ·rw [if_neg z];omega
 ·rw [L.has a a0];simp only [YJ,Wy k,Wx k,X6,hv];by_cases z:a=x.Zw
  ·rw [if_pos z,z,L.out];split <;> omega
  ·rw [if_neg z];split <;> omega
theorem Nm.ZrD {x y:Zd} (H:Nm M n cv (x::ns) h) (k:x.kind=1) (hy:y= ⟨2,x.via,n,0,x.w⟩):Nm M n cv (ns ++ [y]) h:=by
 have hx:=H.KC x (by simp);have hvr:0 <=x.via∧x.via < M:=by rcases hx.2.2.2 with z | z | z <;> omega
 refine{H with KC:=fun z hz=>?_,one:= ?_,acc:=fun a a0 a1=>?_}
 ·rcases List.mem_append.1 hz with q | q
  ·exact H.KC z (by simp [q])
  ·rw [List.mem_singleton.1 q,hy];exact⟨hvr,rfl,hx.2.2.1,.inr (.inl ⟨rfl,rfl⟩)⟩
 ·have o:=H.one;rw [cnt1 (by omega)] at o;rw [ZaW,Zeu,hy];simp;omega
 ·have q:=H.acc a a0 a1;unfold J6 Jd at q ⊢;simp only [YJ,Wy k,Wx k] at q;have h2:y.kind=2:=by rw [hy]
  rw [Xq,Xq,Ql,Ql,ZcE h2,Zbg h2,hy];dsimp only;omega
theorem Nm.ZjG {x:Zd} (H:Nm M n cv (x::ns) h) (k:(x.kind=1∧x.via=x.Zw)∨x.kind=2) {c:Zb} (L:Lk M n cv h x.Zw c) (u:Bool):
 Nm M n (Yv cv x.Zw (some ⟨c.name,c.root,c.from_,c.has,c.out - x.w,u⟩)) ns h:=by
 have hx:=H.KC x (by simp);have hh:=H.UA hx.1.1 (x:=x) (by simp)
 have hH:∀ a,UU a x=if x.Zw=a then x.w else 0:=by
  intro a;rcases k with⟨k,v⟩ | k
  ·rw [Wx k,v]
  ·exact Zbg k a
 have hG:∀ a,YL a x=0:=by
  intro a;rcases k with⟨k,v⟩ | k
  ·exact Wy k a
  ·exact ZcE k a
 have hk3:¬ x.kind=3:=by omega
 rw [hH,if_pos rfl] at hh;have ht:=H.there hx.1.1 hx.1.2 (by omega);refine H.put hx.1.1 hx.1.2 L.nam (by exact L.cel) (Nm.tail H.KC (by simp_all)) (by exact L.rt) ?_ (fun a a0 a1=>?_) ?_
 ·have o:=H.one;rw [cnt1 hk3] at o;have:Jo (some (Zb.mk c.name c.root c.from_ c.has (c.out - x.w) u))=Jo (some c):=rfl;rw [this];by_cases z:h=x.Zw
  ·rw [if_pos z,← L.root,← z];omega
  ·rw [if_neg z];omega
 ·rw [L.has a a0];simp only [YJ,hG,hH,X6];by_cases z:a=x.Zw
  ·rw [if_pos z,z,L.out,if_pos rfl];omega
  ·rw [if_neg z,if_neg (by omega:¬ x.Zw=a)];omega
 ·refine H.Wo ?_;rcases L.or with e | ⟨e,_⟩
  ·exact .inr ⟨c,e,rfl⟩
  ·rcases ht with z | z
   ·exact absurd e z
   ·exact .inl z
theorem Nm.home {x:Zd} (H:Nm M n cv (x::ns) h) (k:x.kind=3) {c:Zb} (L:Lk M n cv h x.Zw c) (u:Bool) {ys:List Zd}
 (hy:ys=if 0 <=c.from_ then [⟨2,c.from_,n,0,c.has⟩] else []):
 Nm M n (Yv cv x.Zw (some ⟨c.name,true,-1,0,c.out + 16,u⟩)) (ns ++ ys) h:=by
 have hx:=H.KC x (by simp);have hh:x.Zw=h:=by rcases hx.2.2.2 with z | z | z <;> omega
 have o:=H.one;simp only [JU,k,if_true] at o;refine H.put hx.1.1 hx.1.2 L.nam (.inr ⟨rfl,rfl⟩) ?_ (fun _=>hh) ?_ (fun a a0 a1=>?_) (H.Wo (.inl hh))
 ·intro z hz;rcases List.mem_append.1 hz with q | q
  ·exact H.KC z (by simp [q])
  ·rw [hy] at q;split at q
   ·rename_i hf;rw [List.mem_singleton.1 q];rcases L.cel with w | w
    ·exact⟨⟨w.2.1,w.2.2.1⟩,rfl,w.2.2.2.2,.inr (.inl ⟨rfl,rfl⟩)⟩
    ·omega
   ·simp at q
 ·rw [if_pos hh.symm,ZaW,show Jo (some (Zb.mk c.name true (-1) 0 (c.out + 16) u))=1 from rfl];have:JU ys=0:=by rw [hy];split <;> simp [JU]
  omega
 ·rw [L.has a a0];have hG:YJ (YL a) ys=0:=by rw [hy];split <;> simp [YJ,YL]
  have hH:YJ (UU a) ys=if c.from_=a then c.has else 0:=by
   rw [hy];by_cases hf:0 <=c.from_
   ·rw [if_pos hf,Ql,Zbg rfl]
   ·rw [if_neg hf,if_neg (by omega)];rfl
  rw [Xq,Xq,hG,hH];simp only [YJ,ZgI k,ZpS k,X6];rw [if_neg (by omega:¬ (-1:Int)=a)];by_cases z:a=x.Zw
  ·rw [if_pos z,z,L.out,if_pos rfl];omega
  ·rw [if_neg z,if_neg (by omega:¬ x.Zw=a)];omega
theorem Nm.gone (H:Nm M n cv ns h) {c:Zb} (e:cv m=some c) (ho:c.out=0) (hr:c.root=false) {ys:List Zd}
 (hy:ys=if 0 <=c.from_ then [⟨2,c.from_,n,0,c.has⟩] else []):Nm M n (Yv cv m none) (ns ++ ys) h:=by
 have hm:=H.rng m c e;have Zrz:=H.cel m c e;have hG:∀ a,YJ (YL a) ys=0:=by intro a;rw [hy];split <;> simp [YJ,YL]
 have hH:∀ a,0 <=a ->YJ (UU a) ys=U4 a (some c):=by
  intro a a0;rw [hy,X6];by_cases hf:0 <=c.from_
  ·rw [if_pos hf,Ql,Zbg rfl]
  ·rw [if_neg hf,if_neg (by omega)];rfl
 refine⟨?_,?_,?_,?_,H.hM,?_,?_,?_,?_⟩
 ·intro a d hd;unfold Yv at hd;split at hd
  ·cases hd
  ·exact H.rng a d hd
 ·intro a d hd;unfold Yv at hd;split at hd
  ·cases hd
  ·exact H.nam a d hd
 ·intro a d hd;unfold Yv at hd;split at hd
  ·cases hd
  ·exact H.cel a d hd
 ·intro z hz;rcases List.mem_append.1 hz with q | q
  ·exact H.KC z q
  ·rw [hy] at q;split at q
   ·rename_i hf;rw [List.mem_singleton.1 q];rcases Zrz with w | w
    ·exact⟨⟨w.2.1,w.2.2.1⟩,rfl,w.2.2.2.2,.inr (.inl ⟨rfl,rfl⟩)⟩
    ·omega
   ·simp at q
 ·intro a d hd;unfold Yv at hd;split at hd
  ·cases hd
  ·exact H.rt a d hd
 ·have o:=H.one;have:JU ys=0:=by rw [hy];split <;> simp [JU]
  rw [ZaW,this]
  have:Jo (Yv cv m none h)=Jo (cv h):=by
   unfold Yv;split
   ·rename_i z;rw [z,e];simp [Jo,hr]
   ·rfl
  rw [this];omega
 ·intro a a0 a1;have q:=H.acc a a0 a1;rw [Zef hm.1 hm.2,e];unfold J6 Jd at *;rw [Xq,Xq,hG,hH a a0]
  have:X0 (Yv cv m none a)=X0 (cv a):=by
   unfold Yv;split
   ·rename_i z;rw [z,e];simp [X0,ho]
   ·rfl
  rw [this];simp only [X6] at *;have:U4 a none=0:=rfl;omega
 ·obtain⟨dep,l⟩:=H.lead;refine⟨dep,fun a d hd ha=>?_⟩;unfold Yv at hd;split at hd
  ·cases hd
  ·obtain⟨l1,l2,l3⟩:=l a d hd ha;refine⟨l1,?_,l3⟩;by_cases z:d.from_=m
   ·by_cases zh:m=h
    ·exact .inr (z.trans zh)
    ·exfalso;have q:=H.ZcI hd l1;rw [z] at q;have p:=H.acc m hm.1 hm.2;rw [H.giv,if_neg zh,e] at p;simp only [X0] at p;omega
   ·rw [Zaf z];exact l2
theorem Nm.last (H:Nm M n cv ns h) {c:Zb} (e:cv m=some c) (ho:c.out=0) (hr:c.root=true):(∀ a,a ≠ m ->cv a=none)∧ns= []:=by
 have hmh:=H.rt m c e hr;subst hmh;have o:=H.one;rw [e] at o;have h0:JU ns=0:=by simp only [Jo,hr,if_true] at o;omega
 have hz:Jd M cv ns m=0:=by
  rw [← H.acc m H.hM.1 H.hM.2,H.giv,if_pos rfl,e,h0];simp [X0,ho]
 obtain⟨dep,l⟩:=H.lead
 have key:∀ k a,dep a <=k ->a ≠ m ->cv a=none:=by
  intro k
  induction k with
  | zero=>
    intro a hk ha;cases ec:cv a with
    | none=>rfl
    | some d=>have:=l a d ec ha;omega
  | succ k ih=>
    intro a hk ha;cases ec:cv a with
    | none=>rfl
    | some d=>
      exfalso;obtain⟨l1,l2,l3⟩:=l a d ec ha;by_cases z:d.from_=m
      ·have:=H.ZcI ec l1;rw [z] at this;omega
      ·rcases l2 with l2 | l2
       ·exact l2 (ih _ (by omega) z)
       ·exact z l2
 have k1:∀ a,a ≠ m ->cv a=none:=fun a ha=>key (dep a) a (Nat.le_refl _) ha
 refine⟨k1,?_⟩;cases ns with
 | nil=>rfl
 | cons x l'=>
   exfalso;have hx:=H.KC x (by simp)
   have hk3:¬ x.kind=3:=by
    intro z;simp only [JU,z,if_true] at h0;omega
   have hbad:∀ a:Int,0 <=a ->a < M ->1 <=Jd M cv (x::l') a ->False:=by
    intro a a0 a1 hp;by_cases z:a=m
    ·rw [z] at hp;omega
    ·have:=H.acc a a0 a1;rw [H.giv,if_neg z,k1 a z] at this;simp only [X0] at this;omega
   rcases hx.2.2.2 with z | z | z
   ·have:=H.UA z.2.1 (x:=x) (by simp);rw [Wx z.1,if_pos rfl] at this;exact hbad _ z.2.1 z.2.2 (by omega)
   ·have:=H.UA hx.1.1 (x:=x) (by simp);rw [Zbg z.1,if_pos rfl] at this;exact hbad _ hx.1.1 hx.1.2 (by omega)
   ·exact hk3 z.1
theorem Nm.Zwf (H:Nm M n cv ns h) {c:Zb} (e:cv m=some c) (hf:0 <=c.from_) {t w:Int} (ht:0 <=t∧t < M) (h1:1 <=w) (h2:w < c.has) {y:Zd} (hy:y= ⟨1,t,n,c.from_,w⟩):
 Nm M n (Yv cv m (some ⟨c.name,c.root,c.from_,c.has - w,c.out,c.use⟩)) (ns ++ [y]) h:=by
 have hm:=H.rng m c e;have hc:c.root=false∧0 <=c.from_∧c.from_ < M∧c.from_ ≠ m∧1 <=c.has:=by rcases H.cel m c e with z | z;exact z;omega
 have ky:y.kind=1:=by rw [hy]
 refine H.put hm.1 hm.2 (by exact H.nam m c e) (.inl ⟨hc.1,hc.2.1,hc.2.2.1,hc.2.2.2.1,by show 1 <=c.has - w;omega⟩) ?_ (by exact H.rt m c e) ?_ (fun a a0 a1=>?_) (H.Wo (.inr ⟨c,e,rfl⟩))
 ·intro z hz;rcases List.mem_append.1 hz with q | q
  ·exact H.KC z q
  ·rw [List.mem_singleton.1 q,hy];exact⟨ht,rfl,h1,.inl ⟨rfl,hc.2.1,hc.2.2.1⟩⟩
 ·have o:=H.one;rw [ZaW,Zeu,ky,← o];by_cases z:h=m
  ·rw [if_pos z,z,e];rfl
  ·rw [if_neg z];simp
 ·rw [e,Xq,Xq,Ql,Ql,Wy ky,Wx ky,hy];simp only [X6];by_cases z:a=m
  ·rw [if_pos z,z,e];simp only [X0];split <;> omega
  ·rw [if_neg z];split <;> omega
theorem Nm.Zwh (H:Nm M n cv ns h) {c:Zb} (e:cv m=some c) {t w:Int} (ht:0 <=t∧t < M) (h1:1 <=w) {y:Zd} (hy:y= ⟨1,t,n,m,w⟩):
 Nm M n (Yv cv m (some ⟨c.name,c.root,c.from_,c.has,c.out + w,c.use⟩)) (ns ++ [y]) h:=by
 have hm:=H.rng m c e;have ky:y.kind=1:=by rw [hy]
 refine H.put hm.1 hm.2 (by exact H.nam m c e) (by exact H.cel m c e) ?_ (by exact H.rt m c e) ?_ (fun a a0 a1=>?_) (H.Wo (.inr ⟨c,e,rfl⟩))
 ·intro z hz;rcases List.mem_append.1 hz with q | q
  ·exact H.KC z q
  ·rw [List.mem_singleton.1 q,hy];exact⟨ht,rfl,h1,.inl ⟨rfl,hm⟩⟩
 ·have o:=H.one;rw [ZaW,Zeu,ky,← o];by_cases z:h=m
  ·rw [if_pos z,z,e];rfl
  ·rw [if_neg z];simp
 ·rw [e,Xq,Xq,Ql,Ql,Wy ky,Wx ky,hy];simp only [X6];by_cases z:a=m
  ·rw [if_pos z,z,e,if_pos rfl];simp only [X0];omega
  ·rw [if_neg z,if_neg (by omega:¬ m=a)];omega
theorem Nm.go (H:Nm M n cv ns h) {c:Zb} (e:cv m=some c) (hr:c.root=true) {t:Int} (ht:0 <=t∧t < M) (hne:t ≠ m) {y:Zd} (hy:y= ⟨3,t,n,0,16⟩):
 Nm M n (Yv cv m (some ⟨c.name,false,t,16,c.out,c.use⟩)) (ns ++ [y]) t:=by
 have hm:=H.rng m c e;have hmh:=H.rt m c e hr;subst hmh;have hc:c.from_=-1∧c.has=0:=by rcases H.cel m c e with z | z;exact absurd hr (by simp [z.1]);exact z
 have ky:y.kind=3:=by rw [hy]
 have o:=H.one;rw [e] at o;have h0:JU ns=0:=by simp only [Jo,hr,if_true] at o;omega
 have no3:∀ x ∈ ns,¬ x.kind=3:=by
  intro x hx z
  have:∀ l:List Zd,x ∈ l ->1 <=JU l:=by
   intro l
   induction l with
   | nil=>simp
   | cons w l ih=>
     intro q;simp only [JU];rcases List.mem_cons.1 q with rfl | q
     ·rw [if_pos z];omega
     ·have:=ih q;omega
  have:=this ns hx;omega
 refine⟨?_,?_,?_,?_,ht,?_,?_,?_,?_⟩
 ·intro a d hd;unfold Yv at hd;split at hd
  ·subst_vars;exact hm
  ·exact H.rng a d hd
 ·intro a d hd;unfold Yv at hd;split at hd
  ·cases hd;exact H.nam m c e
  ·exact H.nam a d hd
 ·intro a d hd;unfold Yv at hd;split at hd
  ·subst_vars;cases hd;exact .inl ⟨rfl,ht.1,ht.2,hne,by show(1:Int) <=16;omega⟩
  ·exact H.cel a d hd
 ·intro z hz;rcases List.mem_append.1 hz with q | q
  ·have:=H.KC z q;refine⟨this.1,this.2.1,this.2.2.1,?_⟩;rcases this.2.2.2 with w | w | w
   ·exact .inl w
   ·exact .inr (.inl w)
   ·exact absurd w.1 (no3 z q)
  ·rw [List.mem_singleton.1 q,hy];exact⟨ht,rfl,by show(1:Int) <=16;omega,.inr (.inr ⟨rfl,rfl,rfl,rfl⟩)⟩
 ·intro a d hd hrd;unfold Yv at hd;split at hd
  ·cases hd;cases hrd
  ·rename_i z;exact absurd (H.rt a d hd hrd) z
 ·rw [ZaW,Zeu,if_pos ky,Zaf hne,h0]
  have:Jo (cv t)=0:=by
   cases ec:cv t with
   | none=>rfl
   | some d=>
     show(if d.root=true then 1 else 0)=0;by_cases z:d.root=true
     ·exact absurd (H.rt t d ec z) hne
     ·rw [if_neg z]
  omega
 ·intro a a0 a1;have q:=H.acc a a0 a1;rw [Zef hm.1 hm.2,e];unfold J6 Jd at *;rw [Xq,Xq,Ql,Ql,ZgI ky,ZpS ky,hy];simp only [X6,hc.1,hc.2] at *
  have:X0 (Yv cv m (some ⟨c.name,false,t,16,c.out,c.use⟩) a)=X0 (cv a):=by
   unfold Yv;split
   ·rename_i z;rw [z,e];rfl
   ·rfl
  rw [this];rw [if_neg (by omega:¬ (-1:Int)=a)];omega
 ·obtain⟨dep,l⟩:=H.lead;refine⟨fun a=>if a=t then 0 else dep a + 1,fun a d hd ha=>?_⟩;dsimp only;rw [if_neg ha];unfold Yv at hd;split at hd
  ·cases hd;dsimp only;rw [if_pos rfl];exact⟨ht.1,.inr rfl,by omega⟩
  ·rename_i z;obtain⟨l1,l2,l3⟩:=l a d hd z;refine⟨l1,?_,?_⟩
   ·by_cases q:d.from_=m
    ·rw [q,Wl];exact .inl (by simp)
    ·rw [Zaf q];rcases l2 with l2 | l2
     ·exact .inl l2
     ·exact absurd l2 q
   ·split <;> omega
theorem Nm.fresh (hm:0 <=m∧m < M):Nm M n (Yv (fun _=>none) m (some ⟨n,true,-1,0,0,true⟩)) [] m where
 rng a d hd:=by
  unfold Yv at hd;split at hd
  ·subst_vars;exact hm
  ·cases hd
 nam a d hd:=by
  unfold Yv at hd;split at hd
  ·cases hd;rfl
  ·cases hd
 cel a d hd:=by
  unfold Yv at hd;split at hd
  ·cases hd;exact .inr ⟨rfl,rfl⟩
  ·cases hd
 KC x hx:=by simp at hx
 hM:=hm
 rt a d hd _:=by
  unfold Yv at hd;split at hd
  ·assumption
  ·cases hd
 one:=by rw [Wl];rfl
 acc a a0 a1:=by
  rw [Zef hm.1 hm.2];unfold J6 Jd
  have:W9 (fun m=>U4 a none) M=0:=by
   have:∀ k,W9 (fun m=>U4 a none) k=0:=by
    intro k;induction k with
    | zero=>rfl
    | succ k ih=>simp only [W9,ih];rfl
   exact this M
  rw [this]
  have:X0 (Yv (fun _=>none) m (some ⟨n,true,-1,0,0,true⟩) a)=0:=by
   unfold Yv;split <;> rfl
  rw [this,X6];simp [YJ,U4]
 lead:= ⟨fun _=>0,fun a d hd ha=>by
  unfold Yv at hd;split at hd
  ·rename_i z;exact absurd z ha
  ·cases hd⟩
end
end Go.Proofs.Ytekpjgmhkkjhgaa
end
section
namespace Go.Lf
theorem Zha (n:Int):ZK n=Int.bmod n 18446744073709551616:=by
 unfold ZK Go.IntKind.wrap;have e1:(2 ^ IntKind.i64.bits:Int)=18446744073709551616:=by decide
 have e2:(2 ^ (IntKind.i64.bits - 1):Int)=9223372036854775808:=by decide
 have e3:IntKind.i64.signed=true:=rfl;rw [e1,e2,e3];dsimp only;unfold Int.bmod;have:=Int.emod_nonneg n (b:=18446744073709551616) (by decide);have:=Int.emod_lt_of_pos n (b:=18446744073709551616) (by decide);simp;split <;> split <;> omega
theorem Zkd (a b:Int):ZK (ZK a + b)=ZK (a + b):=by
 rw [Zha,Zha,Zha];simp
theorem Xp {k:Nat} (h:k < 4611686018427387904):ZK ((k:Int) + 1)= ((k + 1:Nat):Int):=by
 rw [YM (by omega) (by omega)];rfl
theorem Zl4 {k:Nat} (h:k < 4611686018427387904) (h0:0 < k):ZK ((k:Int) - 1)= ((k - 1:Nat):Int):=by
 rw [YM (by omega) (by omega)];omega
theorem XD {α:Type} {J2:Nat} {xs ys:List α} (h:xs.length + ys.length <=1000000) (hb:J2 <=1000):app J2 xs ys=some (xs ++ ys):=
 Zvr (Nat.le_trans (Nat.mul_le_mul (show 2 * (xs.length + ys.length) + 1000 <=2001000 by omega) hb) (by decide))
def iter {α β σ:Type} (g:Nat ->α ->σ ->(σ ->Option β) ->Option β) (d:σ ->Option β):Nat ->List α ->σ ->Option β
 | _,[],s=>d s
 | i,x::l,s=>g i x s (fun s'=>iter g d (i + 1) l s')
theorem Xg {α β σ γ:Type} (l:List α) (mk:Int ->σ ->γ) (body:γ ->(γ ->Option β) ->Option β) (g:Nat ->α ->σ ->(σ ->Option β) ->Option β) (d:σ ->Option β)
 (hl:l.length < 4611686018427387904)
 (hb:∀ (k:Nat) x s next,l[k]? =some x ->((k:Int) < (l.length:Int)) ->body (mk k s) next=g k x s (fun s'=>next (mk (ZK (k + 1)) s')))
 (he:∀ s next,body (mk l.length s) next=d s) {F:Nat} (hF:l.length < F) (s:σ):loop F body (mk 0 s)=iter g d 0 l s:=by
 have key:∀ (m k F:Nat) s,k + m=l.length ->m < F ->loop F body (mk k s)=iter g d k (l.drop k) s:=by
  intro m
  induction m with
  | zero=>
    intro k F s hk hF;obtain⟨F,rfl⟩:=Nat.exists_eq_succ_of_ne_zero (n:=F) (by omega);have:k=l.length:=by omega
    subst this;rw [Yh,he,List.drop_length];rfl
  | succ m ih=>
    intro k F s hk hF;obtain⟨F,rfl⟩:=Nat.exists_eq_succ_of_ne_zero (n:=F) (by omega);have hlt:k < l.length:=by omega
    rw [Yh,hb k l[k] s _ (by simp [hlt]) (by omega),List.drop_eq_getElem_cons hlt,iter];congr 1;funext s';rw [Xp (by omega)];exact ih (k + 1) F s' (by omega) (by omega)
 have:=key l.length 0 F s (by omega) (by omega)
 simpa using this
theorem Zbl {β σ γ:Type} (n:Nat) (mk:Int ->σ ->γ) (body:γ ->(γ ->Option β) ->Option β) (g:Nat ->σ ->(σ ->Option β) ->Option β) (d:σ ->Option β)
 (hl:n < 4611686018427387904)
 (hb:∀ (k:Nat) s next,k < n ->body (mk k s) next=g k s (fun s'=>next (mk (ZK (k + 1)) s')))
 (he:∀ s next,body (mk n s) next=d s) {F:Nat} (hF:n < F) (s:σ):loop F body (mk 0 s)=iter (fun _ k s next=>g k s next) d 0 (List.range n) s:=by
 refine Xg (List.range n) mk body (fun _ k s next=>g k s next) d (by simpa using hl) (fun k x s next hx hk=>?_) (by simpa using he) (by simpa using hF) s;rw [List.length_range] at hk
 have:x=k:=by
  rw [List.getElem?_range (by omega)] at hx
  simpa using hx.symm
 subst this;exact hb _ s next (by omega)
def anyI {α:Type} (c:Nat ->α ->Bool):Nat ->List α ->Bool
 | _,[]=>false
 | i,x::l=>c i x || anyI c (i + 1) l
theorem Zco {α:Type} {c:Nat ->α ->Bool}:∀ {l:List α} {i:Nat},anyI c i l=true↔∃ j x,l[j]? =some x∧c (i + j) x=true
 | [],i=>by simp [anyI]
 | y::l,i=>by
   unfold anyI;rw [Bool.or_eq_true,Zco (l:=l)]
   constructor
   ·rintro(h | ⟨j,x,h1,h2⟩)
    ·exact⟨0,y,rfl,h⟩
    ·exact⟨j + 1,x,h1,by rw [← h2];congr 1;omega⟩
   ·rintro⟨j,x,h1,h2⟩;cases j with
    | zero=>simp at h1;subst h1;exact .inl h2
    | succ j=>exact .inr ⟨j,x,by simpa using h1,by rw [← h2];congr 1;omega⟩
theorem ZeC {α:Type} (c:α ->Bool) (l:List α) (i:Nat):anyI (fun _ x=>c x) i l=l.any c:=by
 induction l generalizing i with
 | nil=>rfl
 | cons x l ih=>unfold anyI;rw [ih];rfl
theorem KQ {α β σ:Type} {g:Nat ->α ->σ ->(σ ->Option β) ->Option β} {d:σ ->Option β} {r:Option β} (c:Nat ->α ->Bool) {l:List α} {i:Nat} {s:σ}
 (hg:∀ k x next,l[k]? =some x ->g (i + k) x s next=bif c (i + k) x then r else next s):iter g d i l s=bif anyI c i l then r else d s:=by
 induction l generalizing i with
 | nil=>rfl
 | cons x l ih=>
   unfold iter anyI;have:=hg 0 x (fun s'=>iter g d (i + 1) l s') rfl;rw [Nat.add_zero] at this;rw [this];cases c i x
   ·rw [cond_false,Bool.false_or];exact ih (fun k y next hy=>by rw [show i + 1 + k=i + (k + 1) by omega];exact hg (k + 1) y next (by simpa using hy))
   ·rfl
def foldI {α σ:Type} (f:Nat ->α ->σ ->σ):Nat ->List α ->σ ->σ
 | _,[],s=>s
 | i,x::l,s=>foldI f (i + 1) l (f i x s)
theorem JQ {α β σ:Type} {g:Nat ->α ->σ ->(σ ->Option β) ->Option β} {d:σ ->Option β} (f:Nat ->α ->σ ->σ) (I:Nat ->σ ->Prop) {l:List α} {i:Nat} {s:σ} (h0:I i s)
 (hg:∀ k x s next,l[k]? =some x ->I (i + k) s ->g (i + k) x s next=next (f (i + k) x s)∧I (i + k + 1) (f (i + k) x s)):iter g d i l s=d (foldI f i l s)∧I (i + l.length) (foldI f i l s):=by
 induction l generalizing i s with
 | nil=>exact⟨rfl,h0⟩
 | cons x l ih=>
   unfold iter foldI;have:=hg 0 x s (fun s'=>iter g d (i + 1) l s') rfl h0;rw [Nat.add_zero] at this;rw [this.1]
   have:=ih this.2 (fun k y s next hy hI=>by
    rw [show i + 1 + k=i + (k + 1) by omega] at hI ⊢;exact hg (k + 1) y s next (by simpa using hy) hI)
   rwa [show i + 1 + l.length=i + (x::l).length by simp;omega] at this
theorem UD {α σ:Type} (f:α ->σ ->σ) (l:List α) (i:Nat) (s:σ):foldI (fun _=>f) i l s=l.foldl (fun s x=>f x s) s:=by
 induction l generalizing i s with
 | nil=>rfl
 | cons x l ih=>exact ih _ _
theorem Zei {σ τ:Type} (V:σ ->τ) (f:Nat ->σ ->σ) (h:τ ->τ) {n N:Nat} (hn:n < N) (h1:∀ i s,i < N ->i ≠ n ->V (f i s)=V s) (h2:∀ s,V (f n s)=h (V s)) (s:σ):
 V ((List.range N).foldl (fun s i=>f i s) s)=h (V s):=by
 have key:∀ M,M <=N ->V ((List.range M).foldl (fun s i=>f i s) s)=if n < M then h (V s) else V s:=by
  intro M
  induction M with
  | zero=>intro _;simp
  | succ M ih=>
    intro hM;rw [List.range_succ,List.foldl_append];simp only [List.foldl_cons,List.foldl_nil];by_cases e:M=n
    ·subst e;rw [h2,ih (by omega),if_neg (by omega),if_pos (by omega)]
    ·rw [h1 _ _ (by omega) e,ih (by omega)];by_cases hm:n < M
     ·rw [if_pos hm,if_pos (by omega)]
     ·rw [if_neg hm,if_neg (by omega)]
 rw [key N (Nat.le_refl _),if_pos hn]
end Go.Lf
end
section
end
section
namespace Go.Proofs.Ytekpjgmhkkjhgaa
open Go.Lf
structure Small (w:Za):Prop where
 cells:w.cells.length < 1000
 rows:∀ r ∈ w.cells,r.length < 1000
 notes:w.notes.length < 1000
 freed:w.freed.length < 1000
def rowOf (w:Za) (m:Nat):List Zb:=w.cells[m]?.getD []
def cellOf (w:Za) (m:Nat) (n:Int):Option Zb:= (rowOf w m).find? (fun c=>c.name==n)
theorem QY {w:Za} {m:Nat} (h:m < w.cells.length):w.cells[m]? =some (rowOf w m):=by
 unfold rowOf;simp [h]
theorem Ze9 {α β σ:Type} {g:Nat ->α ->σ ->(σ ->Option β) ->Option β} {d:σ ->Option β} (r:Nat ->Option β) (c:α ->Bool) {l:List α} {i:Nat} {s:σ}
 (hg:∀ k x next,l[k]? =some x ->g (i + k) x s next=bif c x then r (i + k) else next s):
 (∃ j x,l.find? c=some x∧l[j]? =some x∧iter g d i l s=r (i + j))∨(l.find? c=none∧iter g d i l s=d s):=by
 induction l generalizing i with
 | nil=>exact .inr ⟨rfl,rfl⟩
 | cons x l ih=>
   unfold iter;have:=hg 0 x (fun s'=>iter g d (i + 1) l s') rfl;rw [Nat.add_zero] at this;rw [this];cases hc:c x
   ·rw [cond_false,List.find?_cons,hc];rcases ih (i:=i + 1) (fun k y next hy=>by rw [show i + 1 + k=i + (k + 1) by omega];exact hg (k + 1) y next (by simpa using hy)) with⟨j,y,h1,h2,h3⟩ | ⟨h1,h2⟩
    ·exact .inl ⟨j + 1,y,h1,by simpa using h2,by rw [h3];congr 1;omega⟩
    ·exact .inr ⟨h1,h2⟩
   ·exact .inl ⟨0,x,by rw [List.find?_cons,hc],rfl,rfl⟩
def Zb6 (w:Za) (m n:Int):Nat:=w.notes.countP fun x=>(x.kind==3 && x.Zw==m) && x.name==n
theorem Ziq {α:Type} (c:α ->Bool) (l:List α) (a:Nat) (h:a + l.length < 4611686018427387904):
 l.foldl (fun(s:Int) x=>bif c x then ZK (s + 1) else s) (a:Int)= ((a + l.countP c:Nat):Int):=by
 induction l generalizing a with
 | nil=>rfl
 | cons x l ih=>
   rw [List.foldl_cons,List.countP_cons];simp only [List.length_cons] at h;cases hc:c x
   ·simp only [cond_false];rw [ih a (by omega)];simp
   ·simp only [cond_true,if_true];rw [Xp (by omega),ih (a + 1) (by omega)];congr 1;omega
def ZpP (w:Za) (m:Nat) (n:Int):Int:=match cellOf w m n with | some c=>c.out | none=>0
def JR (w:Za) (m:Nat) (n:Int):Int:=ZK (16 * (Zb6 w m n:Int) + ZpP w m n)
def ZmN (w:Za) (m n:Int) (k:Nat) (s:Int):Int:=match cellOf w k n with | some c=>bif c.from_==m then ZK (s + c.has) else s | none=>s
def Zga (m n:Int) (x:Zd) (s:Int):Int:=bif(x.name==n) && (((x.kind==1) && (x.via==m)) || ((x.kind==2) && (x.Zw==m))) then ZK (s + x.w) else s
def ZdF (w:Za) (m n:Int):Int:=w.notes.foldl (fun s x=>Zga m n x s) ((List.range w.cells.length).foldl (fun s k=>ZmN w m n k s) 0)
theorem ZmW {α:Type} (g:Bool) (a d:α):gd g (some a) d=some (bif g then a else d):=by cases g <;> rfl
theorem contains_eq {F:Nat} (hF:1000 <=F) {l:List Int} (hl:l.length < 1000) (x:Int):Zk2 F l x=some (l.any fun y=>y==x):=by
 unfold Zk2 Zqz
 have e:=Xg l (fun v (_:Unit)=>v) (ZcO l x) (fun k y s next=>bif x==y then some (k:Int) else next ()) (fun _=>some (-1)) (by omega) (fun k y s next hy hk=>by
  simp only [ZcO,Z0,hy,hk,decide_true,Option.bind_some,cond_true]) (fun s next=>by simp [ZcO]) (by omega:l.length < F) ()
 rw [show loop F (ZcO l x) 0=_ from e];rcases Ze9 (l:=l) (i:=0) (s:= ()) (d:=fun _=>some (-1)) (g:=fun k (y:Int) (_:Unit) next=>bif x==y then some (k:Int) else next ()) (fun k=>some (k:Int)) (fun c=>x==c) (fun _ _ _ _=>rfl) with⟨j,y,h1,h2,h3⟩ | ⟨h1,h2⟩
 ·rw [h3]
  have:(l.any fun y=>y==x)=true:=by
   rw [List.any_eq_true];have:=List.find?_some h1;exact⟨y,List.mem_of_find?_eq_some h1,by simpa using (by simpa using this:x=y).symm⟩
  rw [this];simp
 ·rw [h2]
  have:(l.any fun y=>y==x)=false:=by
   rw [List.any_eq_false];rw [List.find?_eq_none] at h1;intro y hy;have:=h1 y hy;simp at this ⊢;exact fun e=>this e.symm
  rw [this];rfl
def Yj (w:Za) (n:Int):Bool:= (decide (0 <=n) && decide (n < w.names)) && !(w.freed.any fun y=>y==n)
def Zaj (w:Za) (m:Int):Bool:=decide (0 <=m) && decide (m < (w.cells.length:Int))
def WV (w:Za) (m:Int) (c:Zb):Bool:=
 (Yj w c.name && (decide (-16 <=c.out) && decide (c.out <=1000000)) && (c.use || !(c.out==0))) &&
 (bif c.root || c.from_==-1 then c.from_==-1 && c.has==0 else Zaj w c.from_ && !(c.from_==m) && (decide (1 <=c.has) && decide (c.has <=1000000)))
def U9 (w:Za) (x:Zd):Bool:=
 (Zaj w x.Zw && Yj w x.name && (decide (1 <=x.w) && decide (x.w <=1000000))) &&
 (bif x.kind==1 then Zaj w x.via else bif x.kind==2 then x.via==0 else x.kind==3 && x.via==0 && x.w==16)
section
theorem Ze2 {F:Nat} (hF:1000 <=F) {w:Za} (sm:Small w) (st:Store) (e1:st.names=w.names) (e2:st.freed=w.freed) (n:Int):Zm6 F st n=some (Yj w n):=by
 unfold Zm6 Yj;rw [e1,e2,contains_eq hF sm.freed];simp only [ZmW,Option.bind_some];simp only [ge_iff_le];cases decide (0 <=n) <;> cases decide (n < w.names) <;> cases (w.freed.any fun y=>y==n) <;> rfl
theorem Ze6 {w:Za} (sm:Small w) (st:Store) (e1:st.machines= (w.cells.length:Int)) (n:Int):Zig st n=some (Zaj w n):=by
 unfold Zig Zaj;rw [e1]
theorem Zr3 {F:Nat} (hF:1000 <=F) {w:Za} (sm:Small w) (st:Store) (e0:st.machines= (w.cells.length:Int)) (e1:st.names=w.names) (e2:st.freed=w.freed) (m:Int) (c:Zb):Zne F st m c=some (WV w m c):=by
 unfold Zne;rw [Ze2 hF sm st e1 e2,Ze6 sm st e0];simp only [Option.bind_some];unfold WV;have a1:decide (c.out < -16)= !decide (-16 <=c.out):=by rw [← decide_not];exact decide_eq_decide.2 (by omega)
 have a2:decide (c.out > 1000000)= !decide (c.out <=1000000):=by rw [← decide_not];exact decide_eq_decide.2 (by omega)
 have a3:(c.from_ !=m)= !(c.from_==m):=rfl;rw [a1,a2,a3];simp only [ge_iff_le];generalize Yj w c.name=nm;generalize decide (-16 <=c.out)=oa;generalize decide (c.out <=1000000)=ob;generalize Zaj w c.from_=fm;generalize decide (1 <=c.has)=ha;generalize decide (c.has <=1000000)=hb;generalize (c.out==0)=o0;generalize (c.from_==m)=f1;generalize (c.from_==-1)=f2;generalize (c.has==0)=hz;generalize c.use=us;generalize c.root=ro;cases nm <;> cases oa <;> cases ob <;> cases us <;> cases o0 <;> cases ro <;> cases f2 <;> cases fm <;> cases f1 <;> cases ha <;> cases hb <;> rfl
theorem Zrl {F:Nat} (hF:1000 <=F) {w:Za} (sm:Small w) (st:Store) (e0:st.machines= (w.cells.length:Int)) (e1:st.names=w.names) (e2:st.freed=w.freed) (x:Zd):Znd F st x=some (U9 w x):=by
 unfold Znd;rw [Ze2 hF sm st e1 e2,Ze6 sm st e0,Ze6 sm st e0];simp only [ZmW,Option.bind_some];unfold U9;have a1:decide (x.w < 1)= !decide (1 <=x.w):=by rw [← decide_not];exact decide_eq_decide.2 (by omega)
 have a2:decide (x.w > 1000000)= !decide (x.w <=1000000):=by rw [← decide_not];exact decide_eq_decide.2 (by omega)
 rw [a1,a2];generalize Yj w x.name=nm;generalize Zaj w x.Zw=tm;generalize Zaj w x.via=vm;generalize decide (1 <=x.w)=ha;generalize decide (x.w <=1000000)=hb;generalize (x.kind==1)=k1;generalize (x.kind==2)=k2;generalize (x.kind==3)=k3;generalize (x.via==0)=v0;generalize (x.w==16)=w16;cases nm <;> cases tm <;> cases vm <;> cases ha <;> cases hb <;> cases k1 <;> cases k2 <;> cases k3 <;> cases v0 <;> cases w16 <;> rfl
end
end Go.Proofs.Ytekpjgmhkkjhgaa
end
section
namespace Go.Proofs.Ytekpjgmhkkjhgaa
open Go.Lf
def QE {α:Type} [Inhabited α] (l:List α) (k:Nat):α:=l[k-1]?.getD default
theorem Zqi {α:Type} [Inhabited α] (g:Bool) {l:List α} {k:Nat} (hk:k < l.length) (hl:l.length < 4611686018427387904):
 gd (g && decide ((k:Int) > 0)) (Yg l (ZK ((k:Int) - 1))) default=some (bif g && decide ((k:Int) > 0) then QE l k else default):=by
 cases g
 ·rfl
 ·by_cases h:0 < k
  ·have:decide ((k:Int) > 0)=true:=by simp;omega
   rw [this,Bool.true_and,ZcK,Zl4 (by omega) h,Z0,cond_true];unfold QE;have:k - 1 < l.length:=by omega
   simp [this]
  ·have:decide ((k:Int) > 0)=false:=by simp;omega
   rw [this];rfl
def KS (w:Za) (k:Nat) (x:Int):Bool:= !(decide (0 <=x) && decide (x < w.names)) || (decide ((k:Int) > 0) && decide (x <=QE w.freed k))
def KJ (w:Za) (m:Nat) (row:List Zb) (k:Nat) (c:Zb):Bool:= !(WV w m c) || (decide ((k:Int) > 0) && decide (c.name <= (QE row k).name))
def ZbH (w:Za):Bool:= (decide (1 <= (w.cells.length:Int)) && decide ((w.cells.length:Int) <=6)) && (decide (0 <=w.names) && decide (w.names <=12)) && (decide ((w.notes.length:Int) <=80) && decide ((w.freed.length:Int) <=w.names))
def Zc5 (w:Za):Bool:= !(anyI (fun m row=>anyI (KJ w m row) 0 row) 0 w.cells)
def KM (w:Za):Bool:= !(w.notes.any fun x=>!(U9 w x))
section
theorem ZrM {F:Nat} (hF:1000 <=F) {w:Za} (sm:Small w) (st:Store) (e0:st.machines= (w.cells.length:Int)) (e1:st.names=w.names) (e2:st.freed=w.freed):ZuG F st w=some (Zc5 w && KM w):=by
 have hc:=sm.cells;have hn:=sm.notes
 have l2:loop F (Zfk F st w) 0=some (KM w):=by
  refine(Xg w.notes (fun v (_:Unit)=>v) (Zfk F st w) (fun _ x s next=>bif !(U9 w x) then some false else next ()) (fun _=>some true) (by omega) (fun k y s next hy hk=>?_) (fun s next=>?_) (by omega) ()).trans ?_
  ·simp only [Zfk,Z0,hy,hk,decide_true,cond_true,Option.bind_some,Zrl hF sm st e0 e1 e2]
  ·simp [Zfk]
  ·rw [KQ (r:=some false) (fun _ x=>!(U9 w x)) (fun _ _ _ _=>rfl),ZeC];unfold KM;cases w.notes.any fun x=>!(U9 w x) <;> rfl
 have l1:∀ (m:Nat) (row:List Zb) (next:Int ->Option Bool),row.length < 1000 ->loop F (Zfl F st m next row) 0=bif anyI (KJ w m row) 0 row then some false else next (ZK ((m:Int) + 1)):=by
  intro m row next hr;refine(Xg row (fun v (_:Unit)=>v) (Zfl F st m next row) (fun k c s nx=>bif KJ w m row k c then some false else nx ()) (fun _=>next (ZK ((m:Int) + 1))) (by omega) (fun k y s nx hy hk=>?_) (fun s nx=>?_) (by omega) ()).trans ?_
  ·have hk':k < row.length:=by omega
   simp only [Zfl,Z0,hy,hk,decide_true,cond_true,Option.bind_some,Zr3 hF sm st e0 e1 e2,Zqi _ hk' (by omega),ZmW];unfold KJ;cases WV w m y <;> cases decide ((k:Int) > 0) <;> rfl
  ·simp [Zfl]
  ·rw [KQ (r:=some false) (KJ w m row) (fun k _ _ _=>by rw [Nat.zero_add])]
 unfold ZuG;refine(Xg w.cells (fun v (_:Unit)=>v) (Zh3 F st w) (fun m row s next=>bif anyI (KJ w m row) 0 row then some false else next ()) (fun _=>some (KM w)) (by omega) (fun k y s next hy hk=>?_) (fun s next=>?_) (by omega) ()).trans ?_
 ·have hr:=sm.rows y (List.mem_of_getElem? hy);simp only [Zh3,Z0,hy,hk,decide_true,cond_true,Option.bind_some];exact l1 k y next hr
 ·simp only [Zh3];rw [decide_eq_false (by omega),cond_false,l2]
 ·rw [KQ (r:=some false) (fun m row=>anyI (KJ w m row) 0 row) (fun k _ _ _=>by rw [Nat.zero_add])];unfold Zc5;cases anyI (fun m (row:List Zb)=>anyI (KJ w m row) 0 row) 0 w.cells <;> rfl
end
end Go.Proofs.Ytekpjgmhkkjhgaa
end
section
namespace Go.Proofs.Ytekpjgmhkkjhgaa
open Go.Lf
structure Shp (w:Za):Prop where
 c1:1 <=w.cells.length
 c6:w.cells.length <=6
 n0:0 <=w.names
 n12:w.names <=12
 notes:w.notes.length <=80
 cell:∀ (m:Nat) (row:List Zb) (k:Nat) (c:Zb),w.cells[m]? =some row ->row[k]? =some c ->WV w m c=true∧(0 < k ->(QE row k).name < c.name)
 note:∀ x ∈ w.notes,U9 w x=true
theorem rows_ok {w:Za} (h:Zc5 w=true) (m:Nat) (row:List Zb) (k:Nat) (c:Zb) (hm:w.cells[m]? =some row) (hk:row[k]? =some c):WV w m c=true∧(0 < k ->(QE row k).name < c.name):=by
 unfold Zc5 at h;rw [Bool.not_eq_true',← Bool.not_eq_true] at h;have h1:¬ KJ w m row k c=true:=fun hb=>h (Zco.2 ⟨m,row,hm,by rw [Nat.zero_add];exact Zco.2 ⟨k,c,hk,by rw [Nat.zero_add];exact hb⟩⟩)
 unfold KJ at h1;rw [Bool.or_eq_true,Bool.and_eq_true,decide_eq_true_eq,decide_eq_true_eq,Bool.not_eq_true'] at h1;refine⟨?_,fun h0=>?_⟩
 ·cases hc:WV w m c
  ·exact absurd (.inl hc) h1
  ·rfl
 ·by_cases hl:(QE row k).name < c.name
  ·exact hl
  ·exact absurd (.inr ⟨by omega,by omega⟩) h1
theorem asc {row:List Zb} (h:∀ k c,row[k]? =some c ->0 < k ->(QE row k).name < c.name):∀ (k j:Nat) (c d:Zb),j < k ->row[k]? =some c ->row[j]? =some d ->d.name < c.name:=by
 intro k
 induction k with
 | zero=>intro j c d h0;omega
 | succ k ih=>
   intro j c d hj hc hd;have hlt:k + 1 < row.length:= (List.getElem?_eq_some_iff.1 hc).1;have hp:=h (k + 1) c hc (by omega)
   have e:row[k]? =some (QE row (k + 1)):=by
    unfold QE;have:k < row.length:=by omega
    simp [this]
   by_cases hjk:j=k
   ·subst hjk;rw [e] at hd;cases hd;exact hp
   ·have:=ih j _ d (by omega) e hd;omega
theorem ZsS {w:Za} (h1:ZbH w=true) (h2:Zc5 w=true) (h3:KM w=true):Shp w:=by
 unfold ZbH at h1;simp only [Bool.and_eq_true,decide_eq_true_eq] at h1;obtain⟨⟨⟨b1,b2⟩,b3,b4⟩,b5,b6⟩:=h1;refine⟨by omega,by omega,b3,b4,by omega,rows_ok h2,fun x hx=>?_⟩;unfold KM at h3;rw [Bool.not_eq_true',List.any_eq_false] at h3;have:=h3 x hx
 simpa using this
theorem Zq7 {row:List Zb} (h:∀ k c,row[k]? =some c ->0 < k ->(QE row k).name < c.name) {k:Nat} {c:Zb} (hc:row[k]? =some c) (n:Int):
 (row.take (k + 1)).find? (fun x=>x.name==n)=if n=c.name then some c else(row.take k).find? (fun x=>x.name==n):=by
 have hlt:k < row.length:= (List.getElem?_eq_some_iff.1 hc).1
 have e:row.take (k + 1)=row.take k ++ [c]:=by
  rw [List.take_add_one,hc];rfl
 rw [e,List.find?_append];by_cases hn:n=c.name
 ·subst hn;rw [if_pos rfl]
  have:(row.take k).find? (fun x=>x.name==c.name)=none:=by
   rw [List.find?_eq_none];intro x hx;obtain⟨j,hj⟩:=List.mem_iff_getElem?.1 hx;have hjk:j < k:=by have:= (List.getElem?_eq_some_iff.1 hj).1;rw [List.length_take] at this;omega
   rw [List.getElem?_take_of_lt hjk] at hj;have:=asc h k j c x hjk hc hj;simp;omega
  rw [this];simp
 ·rw [if_neg hn];have: [c].find? (fun x=>x.name==n)=none:=by simp;exact fun e=>hn e.symm
  rw [this];cases (row.take k).find? (fun x=>x.name==n) <;> rfl
def MapOf (w:Za) (l:List (Ze×Zb)):Prop:=∀ a b:Int,Xt l ⟨a,b⟩=if 0 <=a∧a < (w.cells.length:Int) then cellOf w a.toNat b else none
theorem ZpQ {F:Nat} (hF:1000 <=F) {w:Za} (sm:Small w) (sh:Shp w):∃ cs,Zh5 F w=some ⟨(w.cells.length:Int),w.names,cs,w.notes,w.freed⟩∧MapOf w cs:=by
 have hc:=sm.cells;have hn:=sm.notes;have hf:=sm.freed;unfold Zh5 ZoW ZoV;rw [XD (by simp only [List.length_nil];omega) (by decide),XD (by simp only [List.length_nil];omega) (by decide)];simp only [Option.bind_some,List.nil_append]
 let I:Nat ->List (Ze×Zb) ->Prop:=fun m l=>∀ a b:Int,Xt l ⟨a,b⟩=if 0 <=a∧a < (m:Int) then cellOf w a.toNat b else none
 have inner:∀ (m:Nat) (row:List Zb) (next:Int×(List (Ze×Zb)) ->Option Store) (l:List (Ze×Zb)),w.cells[m]? =some row ->I m l ->∃ l',I (m + 1) l'∧loop F (ZaA m next row) (0,l)=next (ZK ((m:Int) + 1),l'):=by
  intro m row next l hm hI;have hr:=sm.rows row (List.mem_of_getElem? hm);have hro:rowOf w m=row:=by unfold rowOf;rw [hm];rfl
  have hasc:∀ k c,row[k]? =some c ->0 < k ->(QE row k).name < c.name:=fun k c hk=>(sh.cell m row k c hm hk).2
  let J:Nat ->List (Ze×Zb) ->Prop:=fun k l'=>∀ a b:Int,Xt l' ⟨a,b⟩=if a= (m:Int) then(row.take k).find? (fun x=>x.name==b) else Xt l ⟨a,b⟩
  have e:=Xg row (fun v s=>(v,s)) (ZaA m next row) (fun _ c s nx=>nx (Y1 s (Ze.mk m c.name) c)) (fun s=>next (ZK ((m:Int) + 1),s)) (by omega) (fun k y s nx hy hk=>by
   simp only [ZaA,Z0,hy,hk,decide_true,cond_true,Option.bind_some]) (fun s nx=>by simp only [ZaA];rw [decide_eq_false (by omega),cond_false]) (by omega:row.length < F) l
  obtain⟨e2,hJ⟩:=JQ (d:=fun s=>next (ZK ((m:Int) + 1),s)) (g:=fun(_:Nat) (c:Zb) s nx=>nx (Y1 s (Ze.mk m c.name) c)) (fun _ c s=>Y1 s (Ze.mk m c.name) c) J (l:=row) (i:=0) (s:=l) (fun a b=>by
   by_cases ha:a= (m:Int)
   ·rw [if_pos ha,hI a b,if_neg (by omega)];simp
   ·rw [if_neg ha]) (fun k c s nx hk hJ=>⟨rfl,fun a b=>by
    rw [Nat.zero_add] at hJ ⊢;rw [Ze4];by_cases ha:a= (m:Int)
    ·subst ha;rw [if_pos rfl,Zq7 hasc hk];by_cases hb:b=c.name
     ·rw [if_pos hb,hb,if_pos rfl]
     ·rw [if_neg hb,if_neg (fun q=>hb (by injection q)),hJ,if_pos rfl]
    ·rw [if_neg ha,if_neg (fun q=>ha (by injection q)),hJ,if_neg ha]⟩)
  refine⟨_,fun a b=>?_,e.trans e2⟩;rw [Nat.zero_add] at hJ;rw [hJ a b];by_cases ha:a= (m:Int)
  ·subst ha;rw [if_pos rfl,if_pos (by omega),List.take_length];unfold cellOf;rw [Int.toNat_natCast,hro]
  ·rw [if_neg ha,hI a b];by_cases hz:0 <=a∧a < (m:Int)
   ·rw [if_pos hz,if_pos (by omega)]
   ·rw [if_neg hz,if_neg (by omega)]
 have key:∀ (d m:Nat) (F':Nat) (l:List (Ze×Zb)),m + d=w.cells.length ->d < F' ->I m l ->∃ cs,loop F' (ZaB F w w.notes w.freed) ((m:Int),l)=some ⟨(w.cells.length:Int),w.names,cs,w.notes,w.freed⟩∧MapOf w cs:=by
  intro d
  induction d with
  | zero=>
    intro m F' l hm hF' hI;obtain⟨F',rfl⟩:=Nat.exists_eq_succ_of_ne_zero (n:=F') (by omega);have:m=w.cells.length:=by omega
    subst this;refine⟨l,?_,hI⟩;rw [Yh];simp only [ZaB];rw [decide_eq_false (by omega),cond_false]
  | succ d ih=>
    intro m F' l hm hF' hI;obtain⟨F',rfl⟩:=Nat.exists_eq_succ_of_ne_zero (n:=F') (by omega);have hlt:m < w.cells.length:=by omega
    obtain⟨l',h1,h2⟩:=inner m w.cells[m] (loop F' (ZaB F w w.notes w.freed)) l (by simp [hlt]) hI;obtain⟨cs,h3,h4⟩:=ih (m + 1) F' l' (by omega) (by omega) h1;refine⟨cs,?_,h4⟩;rw [Yh];have hg:w.cells[m]? =some w.cells[m]:=by simp [hlt]
    simp only [ZaB,Z0,hg,Option.bind_some];rw [decide_eq_true (by omega),cond_true,h2,Xp (by omega),h3]
 exact key w.cells.length 0 F [] (by omega) (by omega) (fun a b=>by rw [if_neg (by omega)];rfl)
def Jm {σ:Type} (w:Za) (y:Int ->Zb ->σ ->σ) (m:Nat) (n:Nat) (s:σ):σ:=match cellOf w m n with | some c=>y m c s | none=>s
theorem Qt {w:Za} {m:Nat} {n:Int} {c:Zb} (h:cellOf w m n=some c):c.name=n:=by
 unfold cellOf at h;have:=List.find?_some h
 simpa using this
theorem KZ {w:Za} {m:Nat} {n:Int} {c:Zb} (h:cellOf w m n=some c):∃ (row:List Zb) (k:Nat),w.cells[m]? =some row∧row[k]? =some c:=by
 unfold cellOf rowOf at h;have:=List.mem_of_find?_eq_some h;cases e:w.cells[m]? with
 | none=>rw [e] at this;simp at this
 | some row=>
   rw [e] at this;obtain⟨k,hk⟩:=List.mem_iff_getElem?.1 this;exact⟨row,k,rfl,hk⟩
structure Qg (w:Za) (st:Store):Prop where
 m:st.machines= (w.cells.length:Int)
 n:st.names=w.names
 notes:st.notes=w.notes
 freed:st.freed=w.freed
 cells:MapOf w st.cells
structure Szd (w:Za):Prop where
 c6:w.cells.length <=6
 n0:0 <=w.names
 n12:w.names <=12
 kind:∀ x ∈ w.notes,x.kind=1∨x.kind=2∨x.kind=3
theorem Shp.szd {w:Za} (sh:Shp w):Szd w:= ⟨sh.c6,sh.n0,sh.n12,fun x hx=>by
 have hx:=sh.note x hx;by_cases k1:x.kind=1
 ·exact .inl k1
 ·by_cases k2:x.kind=2
  ·exact .inr (.inl k2)
  ·have q1:(x.kind==1)=false:=by simp [k1]
   have q2:(x.kind==2)=false:=by simp [k2]
   unfold U9 at hx;rw [q1,q2] at hx;simp at hx;exact .inr (.inr hx.2.1.1)⟩
section
theorem ZlM {F:Nat} (hF:1000 <=F) {w:Za} (sm:Small w) (sh:Szd w) {st:Store} (so:Qg w st) {σ β:Type} (I:Nat ->σ ->Prop) (hI:∀ i s,I i s ->I (i + 1) s) {z:Zb} {E:σ ->Option β} {B1:Int×σ ->(Int×σ ->Option β) ->Option β} {B2:Int ->(Int×σ ->Option β) ->Int×σ ->(Int×σ ->Option β) ->Option β} {Y:Int ->Zb ->σ ->(σ ->Option β) ->Option β} (y':Int ->Zb ->σ ->σ)
 (hB1:∀ v s next,B1 (v,s) next=bif decide (v < st.machines) then loop F (B2 v next) (0,s) else E s)
 (hB2:∀ v0 next v s nx,B2 v0 next (v,s) nx=bif decide (v < st.names) then(Zag st.cells (Ze.mk v0 v) z).bind fun x=>bif x.2 then Y v0 x.1 s (fun s'=>nx (ZK (v + 1),s')) else nx (ZK (v + 1),s) else next (ZK (v0 + 1),s))
 (hy:∀ i (a:Nat) c s k,a < w.cells.length ->i < 100 ->I i s ->Y a c s k=k (y' a c s)∧I (i + 1) (y' a c s)) (s0:σ) (h0:I 0 s0):
 loop F B1 (0,s0)=E ((List.range w.cells.length).foldl (fun s m=>(List.range w.names.toNat).foldl (fun s n=>Jm w y' m n s) s) s0)∧
 I (w.cells.length * w.names.toNat) ((List.range w.cells.length).foldl (fun s m=>(List.range w.names.toNat).foldl (fun s n=>Jm w y' m n s) s) s0):=by
 have hc:=sh.c6;have hn:=sh.n0;have hn2:=sh.n12;have en:((w.names.toNat:Nat):Int)=w.names:=by omega
 have inner:∀ (m:Nat) (next:Int×σ ->Option β) (s:σ),m < w.cells.length ->I (m * w.names.toNat) s ->
  loop F (B2 m next) (0,s)=next (ZK ((m:Int) + 1),(List.range w.names.toNat).foldl (fun s n=>Jm w y' m n s) s)∧I ((m + 1) * w.names.toNat) ((List.range w.names.toNat).foldl (fun s n=>Jm w y' m n s) s):=by
  intro m next s hm hs
  have e:=Zbl w.names.toNat (fun v s=>(v,s)) (B2 m next) (fun k s nx=>match cellOf w m k with | some c=>Y m c s nx | none=>nx s) (fun s=>next (ZK ((m:Int) + 1),s)) (by omega) (fun k s nx hk=>by
   rw [hB2,so.n];rw [decide_eq_true (by omega),cond_true];unfold Zag;rw [so.cells,if_pos (by omega),Int.toNat_natCast];cases cellOf w m k with
   | some c=>rfl
   | none=>rfl) (fun s nx=>by rw [hB2,so.n];rw [decide_eq_false (by omega),cond_false]) (by omega:w.names.toNat < F) s
  obtain⟨e2,h2⟩:=JQ (d:=fun s=>next (ZK ((m:Int) + 1),s)) (g:=fun(_:Nat) (k:Nat) s nx=>match cellOf w m k with | some c=>Y m c s nx | none=>nx s) (fun _ k s=>Jm w y' m k s) (fun k s=>I (m * w.names.toNat + k) s) (l:=List.range w.names.toNat) (i:=0) (s:=s) hs (fun k x s nx hx hs=>by
   have hk:k < w.names.toNat:=by
    have:= (List.getElem?_eq_some_iff.1 hx).1
    simpa using this
   have:x=k:=by
    rw [List.getElem?_range hk] at hx
    simpa using hx.symm
   subst this;rw [Nat.zero_add] at hs ⊢
   have hb:m * w.names.toNat + x < 100:=by
    have:=Nat.mul_le_mul (show m <=5 by omega) (show w.names.toNat <=12 by omega);omega
   unfold Jm;cases cellOf w m x with
   | some c=>
     obtain⟨q1,q2⟩:=hy _ m c s nx hm hb hs;dsimp only;rw [q1];exact⟨rfl,q2⟩
   | none=>exact⟨rfl,hI _ _ hs⟩)
  rw [UD] at e2 h2;refine⟨e.trans e2,?_⟩;rw [List.length_range,Nat.zero_add] at h2;rw [Nat.add_mul,Nat.one_mul];exact h2
 have key:∀ (d m F':Nat) (s:σ),m + d=w.cells.length ->d < F' ->I (m * w.names.toNat) s ->
  loop F' B1 ((m:Int),s)=E ((List.range' m d).foldl (fun s m=>(List.range w.names.toNat).foldl (fun s n=>Jm w y' m n s) s) s)∧I (w.cells.length * w.names.toNat) ((List.range' m d).foldl (fun s m=>(List.range w.names.toNat).foldl (fun s n=>Jm w y' m n s) s) s):=by
  intro d
  induction d with
  | zero=>
    intro m F' s hm hF' hs;obtain⟨F',rfl⟩:=Nat.exists_eq_succ_of_ne_zero (n:=F') (by omega);have:m=w.cells.length:=by omega
    subst this;rw [Yh,hB1,so.m];rw [decide_eq_false (by omega),cond_false];exact⟨rfl,hs⟩
  | succ d ih=>
    intro m F' s hm hF' hs;obtain⟨F',rfl⟩:=Nat.exists_eq_succ_of_ne_zero (n:=F') (by omega);obtain⟨h1,h2⟩:=inner m (loop F' B1) s (by omega) hs;obtain⟨h3,h4⟩:=ih (m + 1) F' _ (by omega) (by omega) h2;rw [Yh,List.range'_succ,List.foldl_cons];refine⟨?_,h4⟩;rw [hB1,so.m];rw [decide_eq_true (by omega),cond_true,h1,Xp (by omega)];exact h3
 have:=key w.cells.length 0 F s0 (by omega) (by omega) (by rw [Nat.zero_mul];exact h0);rw [← List.range_eq_range'] at this;exact this
end
theorem fold_congr {σ:Type} {f g:σ ->Nat ->σ} {N:Nat} (h:∀ s m,m < N ->f s m=g s m) (s:σ):(List.range N).foldl f s= (List.range N).foldl g s:=by
 have:∀ M,M <=N ->(List.range M).foldl f s= (List.range M).foldl g s:=by
  intro M
  induction M with
  | zero=>intro _;rfl
  | succ M ih=>
    intro hM;rw [List.range_succ,List.foldl_append,List.foldl_append,ih (by omega)];simp only [List.foldl_cons,List.foldl_nil];exact h _ _ (by omega)
 exact this N (Nat.le_refl _)
theorem UC {σ τ α:Type} (V:σ ->τ) {f:σ ->α ->σ} {g:τ ->α ->τ} {l:List α} (h:∀ s x,x ∈ l ->V (f s x)=g (V s) x) (s:σ):V (l.foldl f s)=l.foldl g (V s):=by
 induction l generalizing s with
 | nil=>rfl
 | cons x l ih=>
   rw [List.foldl_cons,List.foldl_cons,ih (fun s y hy=>h s y (by simp [hy])),h s x (by simp)]
def YP (w:Za) (n:Int):List Int:=
 w.notes.foldl (fun(s:List Int) (x:Zd)=>bif(x.kind==3) && (x.name==n) then s ++ [x.Zw] else s)
   ((List.range w.cells.length).foldl (fun(s:List Int) (m:Nat)=>match cellOf w m n with | some c=>bif c.root then s ++ [(m:Int)] else s | none=>s) [])
theorem ZjF {α:Type} (f:List Int ->α ->List Int) (hf:∀ s x,(f s x).length <=s.length + 1) (l:List α) (s:List Int):(l.foldl f s).length <=s.length + l.length:=by
 induction l generalizing s with
 | nil=>simp
 | cons x l ih=>
   rw [List.foldl_cons];have:=ih (f s x);have:=hf s x;simp only [List.length_cons];omega
section
theorem Zoy {F:Nat} (hF:1000 <=F) {w:Za} (sm:Small w) (sh:Shp w) {st:Store} (so:Qg w st) {n:Nat} (hn:(n:Int) < w.names):ZuF F st n=some (YP w n):=by
 unfold ZuF
 let y':Int ->Zb ->List Int ->List Int:=fun a c s=>bif(c.name== (n:Int)) && c.root then s ++ [a] else s
 obtain⟨h1,h2⟩:=ZlM hF sm sh.szd so (z:=Zb.mk 0 false 0 0 0 false) (fun i (s:List Int)=>s.length <=i) (fun i s h=>Nat.le_succ_of_le h) (E:=Zfj F st n) (B1:=ZoT F st n) (B2:=ZoS F st n) (Y:=fun a c s k=>bif(c.name== (n:Int)) && c.root then(app 8 s [a]).bind k else k s) y' (fun v s next=>rfl) (fun v0 next v s nx=>rfl) (fun i a c s k _ hi hs=>by
  simp only [y'];cases ((c.name== (n:Int)) && c.root)
  ·exact⟨rfl,Nat.le_succ_of_le hs⟩
  ·simp only [cond_true];rw [XD (by simp;omega) (by decide)];exact⟨rfl,by simp;omega⟩) [] (Nat.le_refl _)
 rw [h1]
 have e:(List.range w.cells.length).foldl (fun s (m:Nat)=>(List.range w.names.toNat).foldl (fun s n=>Jm w y' m n s) s) []= (List.range w.cells.length).foldl (fun s (m:Nat)=>match cellOf w m n with | some c=>bif c.root then s ++ [(m:Int)] else s | none=>s) []:=by
  refine fold_congr (fun s m hm=>?_) _;refine Zei (V:=id) (fun i s=>Jm w y' m i s) (fun s=>match cellOf w m n with | some c=>bif c.root then s ++ [(m:Int)] else s | none=>s) (n:=n) (N:=w.names.toNat) (by omega) (fun i s hi hne=>?_) (fun s=>?_) s
  ·simp only [id,Jm];cases hc:cellOf w m i with
   | none=>rfl
   | some c=>
     have:=Qt hc;have hb:(c.name== (n:Int))=false:=by rw [this];simp;omega
     simp only [y',hb];rfl
  ·simp only [id,Jm];cases hc:cellOf w m n with
   | none=>rfl
   | some c=>
     have:=Qt hc;have hb:(c.name== (n:Int))=true:=by rw [this];simp
     simp only [y',hb];rfl
 rw [e];rw [e] at h2;unfold Zfj;have hlen:=Nat.mul_le_mul sh.c6 (show w.names.toNat <=12 by have:=sh.n12;have:=sh.n0;omega);have hno:=sm.notes;refine(Xg w.notes (fun v (s:List Int)=>(v,s)) (Zh2 st n) (fun _ x s next=>bif(x.kind==3) && (x.name== (n:Int)) then(app 8 s [x.Zw]).bind next else next s) (fun s=>some s) (by omega) (fun k y s next hy hk=>?_) (fun s next=>?_) (by omega) _).trans ?_
 ·simp only [Zh2,so.notes,Z0,hy,hk,decide_true,cond_true,Option.bind_some,Zh1]
 ·simp only [Zh2,so.notes];rw [decide_eq_false (by omega),cond_false]
 ·rw [(JQ (fun _ (x:Zd) s=>bif(x.kind==3) && (x.name== (n:Int)) then s ++ [x.Zw] else s) (fun k (s:List Int)=>s.length <=72 + k) (by simp at h2 ⊢;omega) (fun k x s next hx hs=>by
   have:= (List.getElem?_eq_some_iff.1 hx).1;cases ((x.kind==3) && (x.name== (n:Int)))
   ·exact⟨rfl,by simp;omega⟩
   ·simp only [cond_true];rw [XD (by simp;omega) (by decide)];exact⟨rfl,by simp;omega⟩)).1,UD]
  rfl
end
end Go.Proofs.Ytekpjgmhkkjhgaa
end
section
namespace Go.Proofs.Ytekpjgmhkkjhgaa
open Go.Lf
abbrev Acc:=List (Ze×Int)
def val (v:Acc) (k:Ze):Int:= (Xt v k).getD 0
def upd (v:Acc) (k:Ze) (x:Int):Acc:=Y1 (WQ v k 0) k (ZK (val v k + x))
theorem Wu (v:Acc) (k k':Ze) (x:Int):val (upd v k x) k'=if k'=k then ZK (val v k + x) else val v k':=by
 unfold val upd;rw [Ze4,Zjx];by_cases h:k'=k
 ·rw [if_pos h,if_pos h];rfl
 ·rw [if_neg h,if_neg h,if_neg h]
theorem ZsG:ZK 0=0:=YM (by decide) (by decide)
def Zpv (a:Int) (c:Zb) (q:Acc×Acc):Acc×Acc:= (upd q.1 ⟨a,c.name⟩ c.out,bif decide (c.from_ >=0) then upd q.2 ⟨c.from_,c.name⟩ c.has else q.2)
def Zpu (x:Zd) (q:Acc×Acc):Acc×Acc:=bif x.kind==1 then(q.1,upd q.2 ⟨x.via,x.name⟩ x.w) else bif x.kind==2 then(q.1,upd q.2 ⟨x.Zw,x.name⟩ x.w) else(upd q.1 ⟨x.Zw,x.name⟩ 16,q.2)
def UZ (w:Za):Acc×Acc:= (List.range w.cells.length).foldl (fun s m=>(List.range w.names.toNat).foldl (fun s n=>Jm w Zpv m n s) s) ([],[])
def Zcs (w:Za):Acc×Acc:=w.notes.foldl (fun q x=>Zpu x q) (UZ w)
def view (a n:Int) (q:Acc×Acc):Int×Int:= (val q.1 ⟨a,n⟩,val q.2 ⟨a,n⟩)
theorem ZqU {F:Nat} (hF:1000 <=F) {w:Za} (sm:Small w) (sh:Szd w) {st:Store} (so:Qg w st):ZrR F st=some (Zcs w):=by
 unfold ZrR;have hno:=sm.notes
 obtain⟨h1,_⟩:=ZlM hF sm sh so (z:=Zb.mk 0 false 0 0 0 false) (fun _ (_:Acc×Acc)=>True) (fun _ _ _=>trivial) (E:=Zfo F st) (B1:=ZoY F st) (B2:=ZoX F st) (Y:=fun a c s k=>bif decide (c.from_ >=0) then k (upd s.1 ⟨a,c.name⟩ c.out,upd s.2 ⟨c.from_,c.name⟩ c.has) else k (upd s.1 ⟨a,c.name⟩ c.out,s.2)) Zpv (fun v s next=>rfl) (fun v0 next v s nx=>by obtain⟨a,b⟩:=s;rfl) (fun i a c s k _ _ _=>⟨by
  unfold Zpv;cases decide (c.from_ >=0) <;> rfl,trivial⟩) ([],[]) trivial
 rw [h1];unfold Zfo;refine(Xg w.notes (fun v (s:Acc×Acc)=>(v,s.1,s.2)) (Zh4 st) (fun _ x s next=>next (Zpu x s)) (fun s=>some s) (by omega) (fun k y s next hy hk=>?_) (fun s next=>?_) (by omega) (UZ w)).trans ?_
 ·simp only [Zh4,so.notes,Z0,hy,hk,decide_true,cond_true,Option.bind_some,Zfn,Zay,Zpu];cases y.kind==1
  ·cases y.kind==2 <;> rfl
  ·rfl
 ·simp only [Zh4,so.notes];rw [decide_eq_false (by omega),cond_false]
 ·rw [(JQ (fun _ (x:Zd) s=>Zpu x s) (fun _ _=>True) trivial (fun _ _ _ _ _ _=>⟨rfl,trivial⟩)).1,UD]
  rfl
def hm (w:Za) (a n:Nat) (q:Int×Int) (m:Nat):Int×Int:=match cellOf w m n with
 | some c=>(if m=a then ZK (q.1 + c.out) else q.1,if c.from_= (a:Int) then ZK (q.2 + c.has) else q.2)
 | none=>q
theorem Zn1 {w:Za} {a n m:Nat} (hn:n < w.names.toNat) (q:Acc×Acc):
 view a n ((List.range w.names.toNat).foldl (fun s n=>Jm w Zpv m n s) q)=hm w a n (view a n q) m:=by
 refine Zei (view a n) (fun i s=>Jm w Zpv m i s) (fun q=>hm w a n q m) hn (fun i s hi hne=>?_) (fun s=>?_) q
 ·unfold Jm;cases hc:cellOf w m i with
  | none=>rfl
  | some c=>
    have hnm:=Qt hc;dsimp only;unfold view Zpv;have k1:¬ (Ze.mk (a:Int) (n:Int))=Ze.mk (m:Int) c.name:=fun e=>by injection e with _ e2;omega
    have k2:¬ (Ze.mk (a:Int) (n:Int))=Ze.mk c.from_ c.name:=fun e=>by injection e with _ e2;omega
    rw [Wu,if_neg k1];cases decide (c.from_ >=0)
    ·rfl
    ·simp only [cond_true];rw [Wu,if_neg k2]
 ·unfold Jm hm;cases hc:cellOf w m n with
  | none=>rfl
  | some c=>
    have hnm:=Qt hc;dsimp only;unfold view Zpv;dsimp only;rw [hnm];congr 1
    ·rw [Wu];by_cases e:m=a
     ·subst e;rw [if_pos rfl,if_pos rfl]
     ·rw [if_neg e,if_neg (fun q=>by injection q with q1 _;omega)]
    ·by_cases e:c.from_= (a:Int)
     ·rw [if_pos e,decide_eq_true (by omega),cond_true,Wu,e,if_pos rfl]
     ·rw [if_neg e];cases decide (c.from_ >=0)
      ·rfl
      ·simp only [cond_true];rw [Wu,if_neg (fun q=>by injection q with q1 _;omega)]
theorem ZvD (c:Zd ->Bool) (l:List Zd) (g:Int):l.foldl (fun(g:Int) x=>bif c x then ZK (g + 16) else g) (ZK g)=ZK (g + 16 * (l.countP c:Int)):=by
 induction l generalizing g with
 | nil=>simp
 | cons x l ih=>
   rw [List.foldl_cons,List.countP_cons];cases hc:c x
   ·simp only [cond_false];rw [ih];simp
   ·simp only [cond_true,if_true];rw [Zkd,ih];congr 1;omega
theorem ZlQ {w:Za} (sh:Szd w) {a n:Nat} (ha:a < w.cells.length) (hn:(n:Int) < w.names):val (Zcs w).1 ⟨a,n⟩=JR w a n∧val (Zcs w).2 ⟨a,n⟩=ZdF w a n:=by
 have e1:view a n (UZ w)= (List.range w.cells.length).foldl (fun q m=>hm w a n q m) (0,0):=
  UC (view a n) (fun s m _=>Zn1 (by omega) s) ([],[])
 have e2:((List.range w.cells.length).foldl (fun q m=>hm w a n q m) (0,0)).2= (List.range w.cells.length).foldl (fun s k=>ZmN w a n k s) 0:=by
  refine UC (fun q:Int×Int=>q.2) (fun s m _=>?_) (0,0);unfold hm ZmN;cases cellOf w m n with
  | none=>rfl
  | some c=>
    dsimp only;by_cases e:c.from_= (a:Int)
    ·rw [if_pos e];have:(c.from_== (a:Int))=true:=by simp [e]
     rw [this];rfl
    ·rw [if_neg e];have:(c.from_== (a:Int))=false:=by simp [e]
     rw [this];rfl
 have e3:((List.range w.cells.length).foldl (fun q m=>hm w a n q m) (0,0)).1=ZK (ZpP w a n):=by
  have f1:((List.range w.cells.length).foldl (fun q m=>hm w a n q m) (0,0)).1= (List.range w.cells.length).foldl (fun(g:Int) m=>match cellOf w m n with | some c=>if m=a then ZK (g + c.out) else g | none=>g) 0:=by
   refine UC (fun q:Int×Int=>q.1) (fun s m _=>?_) (0,0);unfold hm;cases cellOf w m n with
   | none=>rfl
   | some c=>rfl
  rw [f1]
  have:=Zei (V:=id) (fun m (g:Int)=>match cellOf w m n with | some c=>if m=a then ZK (g + c.out) else g | none=>g) (fun g=>match cellOf w a n with | some c=>ZK (g + c.out) | none=>g) ha (fun i s hi hne=>by
   simp only [id];cases cellOf w i n with
   | none=>rfl
   | some c=>dsimp only;rw [if_neg hne]) (fun s=>by
   simp only [id];cases cellOf w a n with
   | none=>rfl
   | some c=>simp) 0
  simp only [id] at this;rw [this];unfold ZpP;cases cellOf w a n with
  | none=>exact ZsG.symm
  | some c=>dsimp only;rw [Int.zero_add]
 have e4:view a n (Zcs w)=w.notes.foldl (fun q x=>(bif((x.kind==3) && (x.Zw== (a:Int))) && (x.name== (n:Int)) then ZK (q.1 + 16) else q.1,Zga a n x q.2)) (view a n (UZ w)):=by
  refine UC (view a n) (fun s x hx=>?_) (UZ w);have hx:=sh.kind x hx;unfold view Zpu Zga;by_cases k1:x.kind=1
  ·simp only [k1,beq_self_eq_true,cond_true,Bool.true_and];rw [Wu];have r1:((1:Int)==2)=false:=rfl;have r2:((1:Int)==3)=false:=rfl;simp only [r1,r2,Bool.false_and,Bool.or_false,cond_false];congr 1;by_cases e:Ze.mk (a:Int) (n:Int)=Ze.mk x.via x.name
   ·rw [if_pos e];injection e with z1 z2
    have b:((x.name== (n:Int)) && (x.via== (a:Int)))=true:=by simp [z1,z2]
    rw [b,cond_true,z1,z2]
   ·rw [if_neg e]
    have b:((x.name== (n:Int)) && (x.via== (a:Int)))=false:=by
     rw [Bool.and_eq_false_iff];by_cases z:x.name= (n:Int)
     ·right;simp;intro z2;exact e (by rw [z,z2])
     ·left;simp [z]
    rw [b,cond_false]
  ·by_cases k2:x.kind=2
   ·have r1:((2:Int)==1)=false:=rfl;have r2:((2:Int)==3)=false:=rfl;simp only [k2,r1,r2,beq_self_eq_true,cond_true,cond_false,Bool.true_and,Bool.false_and,Bool.false_or];rw [Wu];congr 1;by_cases e:Ze.mk (a:Int) (n:Int)=Ze.mk x.Zw x.name
    ·rw [if_pos e];injection e with z1 z2
     have b:((x.name== (n:Int)) && (x.Zw== (a:Int)))=true:=by simp [z1,z2]
     rw [b,cond_true,z1,z2]
    ·rw [if_neg e]
     have b:((x.name== (n:Int)) && (x.Zw== (a:Int)))=false:=by
      rw [Bool.and_eq_false_iff];by_cases z:x.name= (n:Int)
      ·right;simp;intro z2;exact e (by rw [z,z2])
      ·left;simp [z]
     rw [b,cond_false]
   ·have q1:(x.kind==1)=false:=by simp [k1]
    have q2:(x.kind==2)=false:=by simp [k2]
    have q3:(x.kind==3)=true:=by
     rcases hx with z | z | z
     ·exact absurd z k1
     ·exact absurd z k2
     ·simp [z]
    simp only [q1,q2,q3,cond_false,Bool.true_and,Bool.false_and,Bool.or_false,Bool.and_false];rw [Wu];congr 1;by_cases e:Ze.mk (a:Int) (n:Int)=Ze.mk x.Zw x.name
    ·rw [if_pos e];injection e with z1 z2
     have b:((x.Zw== (a:Int)) && (x.name== (n:Int)))=true:=by simp [z1,z2]
     rw [b,cond_true,z1,z2]
    ·rw [if_neg e]
     have b:((x.Zw== (a:Int)) && (x.name== (n:Int)))=false:=by
      rw [Bool.and_eq_false_iff];by_cases z:x.name= (n:Int)
      ·left;simp;intro z2;exact e (by rw [z,z2])
      ·right;simp [z]
     rw [b,cond_false]
 constructor
 ·show(view a n (Zcs w)).1=_;rw [e4,UC (fun q:Int×Int=>q.1) (g:=fun(g:Int) (x:Zd)=>bif((x.kind==3) && (x.Zw== (a:Int))) && (x.name== (n:Int)) then ZK (g + 16) else g) (fun s x _=>rfl),e1,e3,ZvD];unfold JR Zb6;congr 1;omega
 ·show(view a n (Zcs w)).2=_;rw [e4,UC (fun q:Int×Int=>q.2) (g:=fun(g:Int) (x:Zd)=>Zga a n x g) (fun s x _=>rfl),e1,e2]
  rfl
def Y8 (w:Za) (n h:Int):Nat ->Int ->Bool
 | 0,a=>a==h
 | k + 1,a=>bif a==h then true else match cellOf w a.toNat n with
   | none=>false
   | some c=>bif decide (c.from_ < 0) then false else Y8 w n h k c.from_
def WT (w:Za) (n h:Int):Bool:= !((List.range w.cells.length).any fun m=>(cellOf w m n).isSome && !(Y8 w n h w.cells.length m))
theorem Shp.from_ {w:Za} (sh:Shp w) {m:Nat} {n:Int} {c:Zb} (h:cellOf w m n=some c) (h0:¬ c.from_ < 0):0 <=c.from_∧c.from_ < (w.cells.length:Int):=by
 obtain⟨row,k,h1,h2⟩:=KZ h;have:= (sh.cell m row k c h1 h2).1;unfold WV at this;rw [Bool.and_eq_true] at this;have:=this.2;have e:(c.from_==-1)=false:=by simp;omega
 rw [e] at this;cases hr:c.root
 ·rw [hr] at this;simp only [Bool.or_self,cond_false,Bool.and_eq_true] at this;have:=this.1.1;unfold Zaj at this
  simpa using this
 ·rw [hr] at this;simp at this
section
theorem Zom {F:Nat} (hF:1000 <=F) {w:Za} (sm:Small w) (sh:Shp w) {st:Store} (so:Qg w st) (n h:Int):ZrP F st n h=some (WT w n h):=by
 have hc:=sm.cells;have h6:=sh.c6
 let z:Zb:=Zb.mk 0 false 0 0 0 false
 have key:∀ (d i F' m:Nat) (next:Int ->Option Bool) (a:Int),i + d=w.cells.length ->d < F' ->0 <=a ->a < (w.cells.length:Int) ->
  loop F' (ZhZ st n h m next) (a,(cellOf w a.toNat n).isSome,(i:Int),((cellOf w a.toNat n).getD z).name,((cellOf w a.toNat n).getD z).root,((cellOf w a.toNat n).getD z).from_,((cellOf w a.toNat n).getD z).has,((cellOf w a.toNat n).getD z).out,((cellOf w a.toNat n).getD z).use)=bif Y8 w n h d a then next (ZK ((m:Int) + 1)) else some false:=by
  intro d
  induction d with
  | zero=>
    intro i F' m next a hi hF' h0 h1;obtain⟨F',rfl⟩:=Nat.exists_eq_succ_of_ne_zero (n:=F') (by omega);rw [Yh];simp only [ZhZ,Y8,so.m];rw [decide_eq_false (by omega),cond_false];have:(a !=h)= !(a==h):=rfl;rw [this];cases a==h <;> rfl
  | succ d ih=>
    intro i F' m next a hi hF' h0 h1;obtain⟨F',rfl⟩:=Nat.exists_eq_succ_of_ne_zero (n:=F') (by omega);rw [Yh];simp only [ZhZ,Y8,so.m];rw [decide_eq_true (by omega),cond_true];cases a==h
    ·simp only [cond_false];cases hq:cellOf w a.toNat n with
     | none=>rfl
     | some c=>
       simp only [Option.isSome_some,Bool.not_true,Bool.false_or,Option.getD_some];by_cases hf:c.from_ < 0
       ·rw [decide_eq_true hf];rfl
       ·rw [decide_eq_false hf];simp only [cond_false];have hv:=sh.from_ hq hf;unfold Zag;rw [so.cells,if_pos hv,Option.bind_some,Xp (by omega)];exact ih (i + 1) F' m next c.from_ (by omega) (by omega) hv.1 hv.2
    ·rfl
 unfold ZrP;refine(Zbl w.cells.length (fun v (_:Unit)=>v) (Zh0 F st n h) (fun m s next=>bif(cellOf w m n).isSome && !(Y8 w n h w.cells.length m) then some false else next ()) (fun _=>some true) (by omega) (fun m s next hm=>?_) (fun s next=>?_) (by omega) ()).trans ?_
 ·simp only [Zh0,so.m];rw [decide_eq_true (by omega),cond_true];unfold Zag;rw [so.cells,if_pos (by omega),Option.bind_some,Int.toNat_natCast];have:=key w.cells.length 0 F m next (m:Int) (by omega) (by omega) (by omega) (by omega);rw [Int.toNat_natCast] at this;cases hq:cellOf w m n with
  | none=>rfl
  | some c=>
    rw [hq] at this;simp only [Option.isSome_some,Bool.not_true,cond_false,Bool.true_and,Option.getD_some];refine Eq.trans this ?_;cases Y8 w n h w.cells.length m <;> rfl
 ·simp only [Zh0,so.m];rw [decide_eq_false (by omega),cond_false]
 ·rw [KQ (r:=some false) (fun _ m=>(cellOf w m n).isSome && !(Y8 w n h w.cells.length m)) (fun _ _ _ _=>rfl),ZeC];unfold WT;cases (List.range w.cells.length).any fun m=>(cellOf w m n).isSome && !(Y8 w n h w.cells.length m) <;> rfl
end
def ZlA (w:Za) (m:Nat) (n:Int):Nat:=Zb6 w m n + (match cellOf w m n with | some c=>bif c.root then 1 else 0 | none=>0)
def WK (w:Za) (n:Int) (q:Int×Int) (m:Nat):Int×Int:=bif decide ((ZlA w m n:Int) > 0) then(ZK (q.1 + (ZlA w m n:Int)),(m:Int)) else q
theorem UB {α σ:Type} (P:σ ->Prop) (f:σ ->α ->σ) (l:List α) (h:∀ s x,x ∈ l ->P s ->P (f s x)) (s:σ) (h0:P s):P (l.foldl f s):=by
 induction l generalizing s with
 | nil=>exact h0
 | cons x l ih=>exact ih (fun s y hy=>h s y (by simp [hy])) _ (h s x (by simp) h0)
theorem Zbm {w:Za} (sh:Shp w) (n:Int):∀ x ∈ YP w n,0 <=x∧x < (w.cells.length:Int):=by
 unfold YP;refine UB (fun s:List Int=>∀ x ∈ s,0 <=x∧x < (w.cells.length:Int)) _ _ (fun s x hx hs=>?_) _ ?_
 ·cases h:(x.kind==3) && (x.name==n)
  ·exact hs
  ·intro y hy;simp only [cond_true,List.mem_append,List.mem_singleton] at hy;rcases hy with hy | hy
   ·exact hs y hy
   ·subst hy;have:=sh.note x hx;unfold U9 Zaj at this;simp only [Bool.and_eq_true,decide_eq_true_eq] at this;exact this.1.1.1
 ·refine UB (fun s:List Int=>∀ x ∈ s,0 <=x∧x < (w.cells.length:Int)) _ _ (fun s m hm hs=>?_) _ (by simp);rw [List.mem_range] at hm;cases cellOf w m n with
  | none=>exact hs
  | some c=>
    dsimp only;cases c.root
    ·exact hs
    ·intro y hy;simp only [cond_true,List.mem_append,List.mem_singleton] at hy;rcases hy with hy | hy
     ·exact hs y hy
     ·subst hy;omega
theorem ZoA {w:Za} (sh:Shp w) (n:Int):(YP w n).length <=100:=by
 have h:(YP w n).length <=w.cells.length + w.notes.length:=by
  unfold YP;refine Nat.le_trans (ZjF _ (fun s x=>?_) w.notes _) (Nat.add_le_add_right (Nat.le_trans (ZjF _ (fun s m=>?_) (List.range w.cells.length) []) (by simp)) _)
  ·cases (x.kind==3) && (x.name==n) <;> simp
  ·cases cellOf w m n with
   | none=>simp
   | some c=>dsimp only;cases c.root <;> simp
 have:=sh.c6;have:=sh.notes;omega
theorem Zr1 {c:Zd ->Bool} (l:List Zd) (k:Nat):l.foldl (fun(k:Nat) x=>bif c x then k + 1 else k) k=k + l.countP c:=by
 induction l generalizing k with
 | nil=>rfl
 | cons x l ih=>
   rw [List.foldl_cons,ih,List.countP_cons];cases c x <;> simp;omega
theorem Kr {w:Za} {m:Nat} (hm:m < w.cells.length) (n:Int):(YP w n).count (m:Int)=ZlA w m n:=by
 unfold YP
 rw [UC (fun s:List Int=>s.count (m:Int)) (g:=fun(k:Nat) (x:Zd)=>bif((x.kind==3) && (x.Zw== (m:Int))) && (x.name==n) then k + 1 else k) (fun s x hx=>by
  cases h1:x.kind==3 <;> cases h2:x.name==n <;> cases h3:x.Zw== (m:Int) <;> simp [List.count_append,List.count_singleton,h3])]
 rw [Zr1]
 rw [UC (fun s:List Int=>s.count (m:Int)) (g:=fun(k:Nat) (m':Nat)=>match cellOf w m' n with | some c=>bif c.root && (m'==m) then k + 1 else k | none=>k) (fun s m' hx=>by
  cases cellOf w m' n with
  | none=>rfl
  | some c=>
    dsimp only;cases c.root
    ·rfl
    ·by_cases e:m'=m
     ·subst e;simp
     ·have e1:(m'==m)=false:=by simp [e]
      have e2:¬ (m':Int)= (m:Int):=by omega
      simp [e1,List.count_append,List.count_singleton,e2])]
 have:=Zei (V:=id) (fun m' (k:Nat)=>match cellOf w m' n with | some c=>bif c.root && (m'==m) then k + 1 else k | none=>k) (fun k=>match cellOf w m n with | some c=>bif c.root then k + 1 else k | none=>k) hm (fun i s hi hne=>by
  simp only [id];cases cellOf w i n with
  | none=>rfl
  | some c=>
    have e1:(i==m)=false:=by simp [hne]
    dsimp only;rw [e1,Bool.and_false];rfl) (fun s=>by
  simp only [id];cases cellOf w m n with
  | none=>rfl
  | some c=>simp) 0
 simp only [id] at this;rw [List.count_nil,this];unfold ZlA Zb6;cases cellOf w m n with
 | none=>simp
 | some c=>cases c.root <;> simp <;> omega
theorem Znu (L:List Int) (h:∀ x ∈ L,0 <=x) (M:Nat):L.countP (fun x=>decide (x < ((M + 1:Nat):Int)))=L.countP (fun x=>decide (x < (M:Int))) + L.count (M:Int):=by
 induction L with
 | nil=>rfl
 | cons x L ih=>
   have:=ih (fun y hy=>h y (by simp [hy]));rw [List.countP_cons,List.countP_cons,List.count_cons,this];have h0:=h x (by simp);by_cases e:x= (M:Int)
   ·subst e;have a1:decide ((M:Int) < ((M + 1:Nat):Int))=true:=by simp;omega
    have a2:decide ((M:Int) < (M:Int))=false:=by simp
    rw [a1,a2];simp;omega
   ·have a3:(x== (M:Int))=false:=by simp [e]
    by_cases l:x < (M:Int)
    ·have a1:decide (x < ((M + 1:Nat):Int))=true:=by simp;omega
     have a2:decide (x < (M:Int))=true:=by simp [l]
     rw [a1,a2,a3];simp;omega
    ·have a1:decide (x < ((M + 1:Nat):Int))=false:=by simp;omega
     have a2:decide (x < (M:Int))=false:=by simp;omega
     rw [a1,a2,a3];simp
theorem ZeU {w:Za} (sh:Shp w) (n:Int):((List.range w.cells.length).foldl (WK w n) (0,0)).1= ((YP w n).length:Int)∧∀ h,YP w n= [h] ->((List.range w.cells.length).foldl (WK w n) (0,0)).2=h:=by
 have hl:=ZoA sh n;have hr:=Zbm sh n
 have key:∀ M,M <=w.cells.length ->((List.range M).foldl (WK w n) (0,0)).1= ((YP w n).countP (fun x=>decide (x < (M:Int))):Int)∧(((List.range M).foldl (WK w n) (0,0)).1 ≠ 0 ->((List.range M).foldl (WK w n) (0,0)).2 ∈ YP w n):=by
  intro M
  induction M with
  | zero=>
    intro _
    have:(YP w n).countP (fun x=>decide (x < ((0:Nat):Int)))=0:=by
     rw [List.countP_eq_zero];intro x hx;have:= (hr x hx).1;simp;omega
    rw [this];exact⟨rfl,fun h=>absurd rfl h⟩
  | succ M ih=>
    intro hM;obtain⟨i1,i2⟩:=ih (by omega);rw [List.range_succ,List.foldl_append];simp only [List.foldl_cons,List.foldl_nil];rw [Znu _ (fun x hx=>(hr x hx).1)];have hc:=Kr (w:=w) (m:=M) (by omega) n;have hle:=List.countP_le_length (p:=fun x=>decide (x < (M:Int))) (l:=YP w n);have hle2:=List.count_le_length (a:= (M:Int)) (l:=YP w n);generalize (List.range M).foldl (WK w n) (0,0)=q at i1 i2 ⊢;unfold WK;rw [← hc];by_cases h0:(YP w n).count (M:Int)=0
    ·have:decide ((((YP w n).count (M:Int):Nat):Int) > 0)=false:=by simp [h0]
     rw [this,cond_false,h0];exact⟨i1,i2⟩
    ·have:decide ((((YP w n).count (M:Int):Nat):Int) > 0)=true:=decide_eq_true (by omega);rw [this,cond_true];refine⟨?_,fun _=>?_⟩
     ·show ZK (q.1 + _)=_;rw [i1,YM] <;> omega
     ·have hp:0 < (YP w n).count (M:Int):=Nat.pos_of_ne_zero h0;exact List.count_pos_iff.1 hp
 obtain⟨k1,k2⟩:=key w.cells.length (Nat.le_refl _)
 have e:(YP w n).countP (fun x=>decide (x < (w.cells.length:Int)))= (YP w n).length:=by
  rw [List.countP_eq_length];intro x hx
  simpa using (hr x hx).2
 rw [e] at k1;refine⟨k1,fun h hh=>?_⟩;have:=k2 (by rw [k1,hh];simp);rw [hh] at this
 simpa using this
end Go.Proofs.Ytekpjgmhkkjhgaa
end
section
namespace Go.Proofs.Ytekpjgmhkkjhgaa
open Go.Lf
def Zsb (w:Za) (n:Int) (m:Nat):Bool:= (JR w m n !=ZdF w m n) || decide (JR w m n > 1000000)
def QB (w:Za) (n:Int):Int×Int:= (List.range w.cells.length).foldl (WK w n) (0,0)
def Ww (w:Za) (n:Int):Bool:= !((List.range w.cells.length).any (Zsb w n)) && ((QB w n).1==1 && WT w n (QB w n).2)
def Zac (w:Za):Bool:=ZbH w && (!(anyI (KS w) 0 w.freed) && (Zc5 w && KM w))
def KL (w:Za):Bool:=Zac w && !((List.range w.names.toNat).any fun n=>Yj w n && !(Ww w n))
theorem ZfX {w:Za} (h:Zac w=true):Shp w:=by
 unfold Zac at h;simp only [Bool.and_eq_true] at h;exact ZsS h.1 h.2.2.1 h.2.2.2
section
theorem Ztz {F:Nat} (hF:1000 <=F) {w:Za} (sm:Small w) (sh:Shp w) (n:Int):(((YP w n).length:Int)==1)= ((QB w n).1==1)∧((YP w n).length=1 ->YP w n= [(QB w n).2]):=by
 obtain⟨h1,h2⟩:=ZeU sh n;unfold QB;refine⟨by rw [h1],fun hl=>?_⟩;obtain⟨h,hh⟩:=List.length_eq_one_iff.1 hl;rw [h2 h hh];exact hh
theorem Zqn {F:Nat} (hF:1000 <=F) {w:Za} (sm:Small w):ZrV F w=some (KL w):=by
 unfold ZrV;have hf:=sm.freed;have hc:=sm.cells;have hn:=sm.notes
 have e0:((((((decide ((w.cells.length:Int) < 1)) || (decide ((w.cells.length:Int) > 6))) || (decide (w.names < 0))) || (decide (w.names > 12))) || (decide ((w.notes.length:Int) > 80))) || (decide ((w.freed.length:Int) > w.names)))= !(ZbH w):=by
  unfold ZbH;rw [Bool.eq_iff_iff];simp only [Bool.or_eq_true,decide_eq_true_eq,Bool.not_eq_true',← Bool.not_eq_true,Bool.and_eq_true];omega
 rw [e0];cases h0:ZbH w
 ·unfold KL Zac;rw [h0];rfl
 ·have h0':=h0;unfold ZbH at h0';simp only [Bool.and_eq_true,decide_eq_true_eq] at h0';have en:((w.names.toNat:Nat):Int)=w.names:=by omega
  simp only [Bool.not_true,cond_false];refine(Xg w.freed (fun v (_:Unit)=>v) (Zia F w) (fun k x s next=>bif KS w k x then some false else next ()) (fun _=>bif Zc5 w && KM w then some (!((List.range w.names.toNat).any fun n=>Yj w n && !(Ww w n))) else some false) (by omega) (fun k y s next hy hk=>?_) (fun s next=>?_) (by omega) ()).trans ?_
  ·have hk':k < w.freed.length:=by omega
   simp only [Zia,Z0,hy,hk,decide_true,cond_true,Option.bind_some,Zqi _ hk' (by omega)];unfold KS;have a1:decide (y < 0)= !decide (0 <=y):=by rw [← decide_not];exact decide_eq_decide.2 (by omega)
   have a2:decide (y >=w.names)= !decide (y < w.names):=by rw [← decide_not];exact decide_eq_decide.2 (by omega)
   rw [a1,a2];cases decide (0 <=y) <;> cases decide (y < w.names) <;> cases decide ((k:Int) > 0) <;> rfl
  ·simp only [Zia];rw [decide_eq_false (by omega),cond_false,ZrM hF sm _ rfl rfl rfl,Option.bind_some];cases hr:Zc5 w && KM w
   ·rfl
   ·simp only [Bool.not_true,cond_false,cond_true];rw [Bool.and_eq_true] at hr;have sh:=ZsS h0 hr.1 hr.2;obtain⟨cs,q1,q2⟩:=ZpQ hF sm sh;have so:Qg w ⟨(w.cells.length:Int),w.names,cs,w.notes,w.freed⟩:= ⟨rfl,rfl,rfl,rfl,q2⟩
    rw [q1,Option.bind_some,ZqU hF sm sh.szd so,Option.bind_some];generalize hst:(⟨(w.cells.length:Int),w.names,cs,w.notes,w.freed⟩:Store)=st at so;refine(Zbl w.names.toNat (fun v (_:Unit)=>v) (Zh9 F st (Zcs w)) (fun n s next=>bif Yj w n && !(Ww w n) then some false else next ()) (fun _=>some true) (by omega) (fun n s next hnn=>?_) (fun s next=>?_) (by omega) ()).trans ?_
    ·have ZAl:(n:Int) < w.names:=by omega
     simp only [Zh9,so.n];rw [decide_eq_true ZAl,cond_true,Ze2 hF sm st so.n so.freed,Option.bind_some];cases Yj w n
     ·rfl
     ·simp only [Bool.not_true,cond_false,Bool.true_and];rw [Zoy hF sm sh so ZAl,Option.bind_some];obtain⟨n1,n2⟩:=Ztz hF sm sh (n:Int);have e5:(((YP w n).length:Int) !=1)= !((QB w n).1==1):=by rw [← n1];rfl
      rw [e5,Bool.not_not];unfold Ww;cases h1:(QB w n).1==1
      ·simp only [ZmX,Option.bind_some,Bool.not_false,Bool.true_or,cond_true,Bool.false_and,Bool.and_false]
      ·rw [h1] at n1
       have hl:(YP w n).length=1:=by
        have:=eq_of_beq n1;omega
       rw [n2 hl];have eg:Yg [(QB w n).2] 0=some (QB w n).2:=rfl;simp only [ZcK,eg,Option.bind_some,Zom hF sm sh so,Bool.not_true,Bool.false_or,Bool.true_and];cases WT w n (QB w n).2
       ·simp only [Bool.not_false,cond_true,Bool.and_false]
       ·simp only [Bool.not_true,cond_false,Bool.and_true,Bool.not_not];refine(Zbl w.cells.length (fun v (_:Unit)=>v) (Zh8 st (Zcs w) n next) (fun m s nx=>bif Zsb w n m then some false else nx ()) (fun _=>next (ZK ((n:Int) + 1))) (by omega) (fun m s nx hm=>?_) (fun s nx=>?_) (by omega) ()).trans ?_
        ·simp only [Zh8,so.m];obtain⟨g1,g2⟩:=ZlQ sh.szd hm ZAl;rw [decide_eq_true (by omega),cond_true];have p1:Zay (Zcs w).1 ⟨(m:Int),(n:Int)⟩ 0=some (JR w m n):=by rw [← g1];rfl
         have p2:Zay (Zcs w).2 ⟨(m:Int),(n:Int)⟩ 0=some (ZdF w m n):=by rw [← g2];rfl
         simp only [p1,p2,Option.bind_some,ZmW];unfold Zsb;cases JR w m n !=ZdF w m n <;> rfl
        ·simp only [Zh8,so.m,Zh7];rw [decide_eq_false (by omega),cond_false]
        ·rw [KQ (r:=some false) (fun _ m=>Zsb w n m) (fun _ _ _ _=>rfl),ZeC]
    ·simp only [Zh9,so.n];rw [decide_eq_false (by omega),cond_false]
    ·rw [KQ (r:=some false) (fun _ (n:Nat)=>Yj w n && !(Ww w n)) (fun _ _ _ _=>rfl),ZeC];cases (List.range w.names.toNat).any fun n=>Yj w n && !(Ww w n) <;> rfl
  ·rw [KQ (r:=some false) (KS w) (fun k _ _ _=>by rw [Nat.zero_add])];unfold KL Zac;rw [h0];cases anyI (KS w) 0 w.freed
   ·cases Zc5 w && KM w <;> rfl
   ·rfl
end
end Go.Proofs.Ytekpjgmhkkjhgaa
end
section
namespace Go.Proofs.Ytekpjgmhkkjhgaa
open Go.Lf
abbrev Row:=List Zb
def Uk (r:Row):Prop:=r.Pairwise fun a b=>a.name < b.name
def UL (r:Row) (n:Int):Option Zb:=r.find? fun c=>c.name==n
def put (c:Zb):Row ->Row
 | []=>[c]
 | d::r=>if d.name < c.name then d::put c r else if d.name=c.name then c::r else c::d::r
def rmv (n:Int) (r:Row):Row:=r.filter fun c=>!(c.name==n)
theorem Qd {r:Row} {n:Int} {c:Zb} (h:UL r n=some c):c.name=n:=by
 unfold UL at h;have:=List.find?_some h;simpa using this
theorem Zbo {r:Row} {n:Int} {c:Zb} (h:UL r n=some c):c ∈ r:=List.mem_of_find?_eq_some h
theorem YK (d:Zb) (r:Row) (n:Int):UL (d::r) n=if d.name=n then some d else UL r n:=by
 unfold UL;rw [List.find?_cons];by_cases h:d.name=n
 ·have:(d.name==n)=true:=by simp [h]
  rw [this,if_pos h]
 ·have:(d.name==n)=false:=by simp [h]
  rw [this,if_neg h]
theorem ZkQ (n:Int):UL [] n=none:=rfl
theorem Uk.tail {d:Zb} {r:Row} (s:Uk (d::r)):Uk r:= (List.pairwise_cons.1 s).2
theorem Uk.head {d:Zb} {r:Row} (s:Uk (d::r)):∀ c ∈ r,d.name < c.name:= (List.pairwise_cons.1 s).1
theorem Zca {r:Row} {n:Int} (h:∀ c ∈ r,n < c.name):UL r n=none:=by
 unfold UL;rw [List.find?_eq_none];intro c hc;have:=h c hc;simp;omega
theorem ZoP {r:Row} (s:Uk r) {c:Zb} (h:c ∈ r):UL r c.name=some c:=by
 induction r with
 | nil=>simp at h
 | cons d r ih=>
   rw [YK];rcases List.mem_cons.1 h with rfl | h
   ·rw [if_pos rfl]
   ·have:=s.head c h;rw [if_neg (by omega)];exact ih s.tail h
theorem Zal (c:Zb) {r:Row} (s:Uk r) (n:Int):UL (put c r) n=if n=c.name then some c else UL r n:=by
 induction r with
 | nil=>rw [put,YK,ZkQ];by_cases h:n=c.name <;> simp [h];exact fun e=>h e.symm
 | cons d r ih=>
   unfold put;by_cases h1:d.name < c.name
   ·rw [if_pos h1,YK,YK,ih s.tail];by_cases h2:d.name=n
    ·rw [if_pos h2,if_pos h2,if_neg (by omega)]
    ·rw [if_neg h2,if_neg h2]
   ·rw [if_neg h1];by_cases h2:d.name=c.name
    ·rw [if_pos h2,YK,YK];by_cases h3:n=c.name
     ·rw [if_pos h3.symm,if_pos h3]
     ·rw [if_neg (fun e=>h3 e.symm),if_neg h3,if_neg (by omega)]
    ·rw [if_neg h2,YK];by_cases h3:n=c.name
     ·rw [if_pos h3.symm,if_pos h3]
     ·rw [if_neg (fun e=>h3 e.symm),if_neg h3]
theorem Zws {c x:Zb} {r:Row} (h:x ∈ put c r):x=c∨x ∈ r:=by
 induction r with
 | nil=>simp [put] at h;exact .inl h
 | cons d r ih=>
   unfold put at h;split at h
   ·rcases List.mem_cons.1 h with rfl | h
    ·exact .inr (by simp)
    ·exact(ih h).imp id fun z=>by simp [z]
   ·split at h
    ·rcases List.mem_cons.1 h with rfl | h
     ·exact .inl rfl
     ·exact .inr (by simp [h])
    ·rcases List.mem_cons.1 h with rfl | h
     ·exact .inl rfl
     ·exact .inr h
theorem Uk.put {c:Zb} {r:Row} (s:Uk r):Uk (put c r):=by
 induction r with
 | nil=>exact List.pairwise_singleton _ _
 | cons d r ih=>
   unfold Go.Proofs.Ytekpjgmhkkjhgaa.put;by_cases h1:d.name < c.name
   ·rw [if_pos h1];refine List.pairwise_cons.2 ⟨fun x hx=>?_,ih s.tail⟩;rcases Zws hx with rfl | hx
    ·exact h1
    ·exact s.head x hx
   ·rw [if_neg h1];by_cases h2:d.name=c.name
    ·rw [if_pos h2];exact List.pairwise_cons.2 ⟨fun x hx=>by have:=s.head x hx;omega,s.tail⟩
    ·rw [if_neg h2];refine List.pairwise_cons.2 ⟨fun x hx=>?_,s⟩;rcases List.mem_cons.1 hx with rfl | hx
     ·omega
     ·have:=s.head x hx;omega
theorem Zqj (n:Int) (r:Row) (k:Int):UL (rmv n r) k=if k=n then none else UL r k:=by
 induction r with
 | nil=>simp [rmv,UL]
 | cons d r ih=>
   unfold rmv at ih ⊢;rw [List.filter_cons];by_cases h:d.name=n
   ·have:(!(d.name==n))=false:=by simp [h]
    rw [if_neg (by simp [h]),ih,YK];by_cases hk:k=n
    ·rw [if_pos hk,if_pos hk]
    ·rw [if_neg hk,if_neg hk,if_neg (by omega)]
   ·rw [if_pos (by simp [h]),YK,ih,YK];by_cases hk:k=n
    ·rw [if_pos hk,if_pos hk,if_neg (by omega)]
    ·rw [if_neg hk,if_neg hk]
theorem Uk.rmv {r:Row} (s:Uk r) (n:Int):Uk (rmv n r):=List.Pairwise.filter _ s
theorem Uk.ext:∀ {r q:Row},Uk r ->Uk q ->(∀ n,UL r n=UL q n) ->r=q
 | [],[],_,_,_=>rfl
 | [],d::q,_,_,h=>by have:=h d.name;rw [YK,if_pos rfl] at this;simp [UL] at this
 | d::r,[],_,_,h=>by have:=h d.name;rw [YK,if_pos rfl] at this;simp [UL] at this
 | d::r,e::q,s,t,h=>by
   have hde:d=e:=by
    have h1:=h d.name;have h2:=h e.name;rw [YK,if_pos rfl,YK] at h1;rw [YK,YK,if_pos rfl] at h2;by_cases hn:e.name=d.name
    ·rw [if_pos hn] at h1;exact Option.some.inj h1
    ·rw [if_neg hn] at h1;rw [if_neg (fun z=>hn z.symm)] at h2;have m1:=t.head d (Zbo h1.symm);have m2:=s.head e (Zbo h2);omega
   subst hde;congr 1;refine Uk.ext s.tail t.tail fun n=>?_
   have:=h n;rw [YK,YK] at this;by_cases hn:d.name=n
   ·rw [Zca (fun c hc=>by have:=s.head c hc;omega),Zca (fun c hc=>by have:=t.head c hc;omega)]
   ·rwa [if_neg hn,if_neg hn] at this
def blank (n:Int):Zb:= ⟨n,false,-1,0,0,false⟩
def look (r:Row) (n:Int):Zb:= (UL r n).getD (blank n)
def cw (w:Za) (m:Nat) (r:Row):Za:= ⟨w.cells.set m r,w.notes,w.names,w.freed⟩
theorem set_self {α:Type} {l:List α} {m:Nat} {x:α} (h:l[m]? =some x):l.set m x=l:=by
 apply List.ext_getElem?;intro k;rw [List.getElem?_set];by_cases hk:m=k
 ·subst hk;have:= (List.getElem?_eq_some_iff.1 h).1;rw [if_pos rfl,if_pos this,h]
 ·rw [if_neg hk]
def Jr (n:Int):List Int ->List Int
 | []=>[n]
 | x::l=>if x > n then n::x::l else x::Jr n l
def YW (w:Za) (m:Nat) (n:Int) (c:Zb):Za:=
 bif c.use || (c.out !=0) then w else
  ⟨w.cells.set m (rmv n (rowOf w m)),bif c.root then w.notes else bif decide (c.from_ >=0) then w.notes ++ [⟨2,c.from_,n,0,c.has⟩] else w.notes,w.names,bif c.root then Jr n w.freed else w.freed⟩
theorem JP (r:Row) (n:Int):(look r n).name=n:=by
 unfold look;cases h:UL r n with
 | none=>rfl
 | some c=>exact Qd h
theorem ZpL {r:Row} (s:Uk r) {c d:Zb} (h:c.name=d.name):put c (put d r)=put c r:=by
 refine Uk.ext s.put.put s.put fun k=>?_
 rw [Zal _ s.put,Zal _ s,Zal _ s];by_cases hk:k=c.name
 ·rw [if_pos hk,if_pos hk]
 ·rw [if_neg hk,if_neg hk,if_neg (by omega)]
theorem Qn {w:Za} {m:Nat} (hm:m < w.cells.length) (r:Row):rowOf (cw w m r) m=r:=by
 unfold rowOf cw;simp [hm]
theorem ZgG {c:Zb} (r:Row):(put c r).length <=r.length + 1:=by
 induction r with
 | nil=>simp [put]
 | cons d r ih=>
   unfold put;split
   ·simp;omega
   ·split
    ·simp
    ·simp
def sent (w:Za) (x:Zd):Za:= ⟨w.cells,w.notes ++ [x],w.names,w.freed⟩
def Xe (w:Za) (m:Nat) (n Zw x:Int):Za:=
 bif Zw != (m:Int) then sent w ⟨2,Zw,n,0,x⟩ else cw w m (put {look (rowOf w m) n with out:=ZK ((look (rowOf w m) n).out - x)} (rowOf w m))
theorem Small.cw {w:Za} (s:Small w) {m:Nat} {r:Row} (h:r.length < 1000):Small (cw w m r):=by
 refine⟨by show(w.cells.set m r).length < 1000;simp;exact s.cells,fun q hq=>?_,s.notes,s.freed⟩;have hq:q ∈ w.cells.set m r:=hq;rcases List.mem_or_eq_of_mem_set hq with z | z
 ·exact s.rows q z
 ·rw [z];exact h
def XC (w:Za) (x:Zd):Za:=
 let m:=x.Zw.toNat
 let r:=rowOf w m
 let c:=look r x.name
 let a:=cw w m
 bif x.kind==1 then
  bif(!c.root && (c.from_==-1)) && (x.via !=x.Zw) then a (put ⟨c.name,c.root,x.via,x.w,c.out,true⟩ r)
  else bif(!c.root && decide (c.from_ >=0)) && (c.from_==x.via) then a (put ⟨c.name,c.root,c.from_,ZK (c.has + x.w),c.out,true⟩ r)
  else Xe (a (put ⟨c.name,c.root,c.from_,c.has,c.out,true⟩ r)) m x.name x.via x.w
 else bif x.kind==2 then
  let d:Zb:= ⟨c.name,c.root,c.from_,c.has,ZK (c.out - x.w),c.use⟩
  YW (a (put d r)) m x.name d
 else
  let d:Zb:= ⟨c.name,true,-1,0,ZK (c.out + 16),c.use⟩
  let b:=a (put d r)
  let e:=bif decide (c.from_ >=0) then Xe b m x.name c.from_ c.has else b
  YW e m x.name (look (rowOf e m) x.name)
theorem Ya {w:Za} {m:Nat} {r:Row}:(cw w m r).cells.length=w.cells.length:=by unfold cw;simp
theorem Zze (w:Za) (m:Nat) (r q:Row):cw (cw w m r) m q=cw w m q:=by unfold cw;simp
theorem ZcT {w:Za} {m:Nat} (hm:m < w.cells.length) (n Zw x:Int):rowOf (Xe w m n Zw x) m=rowOf w m∨rowOf (Xe w m n Zw x) m=put {look (rowOf w m) n with out:=ZK ((look (rowOf w m) n).out - x)} (rowOf w m):=by
 unfold Xe;cases (Zw != (m:Int))
 ·right;rw [cond_false,Qn hm]
 ·left;rfl
theorem Zse {w:Za} {m:Nat} (n Zw x:Int):(Xe w m n Zw x).cells.length=w.cells.length:=by
 unfold Xe;cases (Zw != (m:Int))
 ·rw [cond_false,Ya]
 ·rfl
theorem ZnF {w:Za} {m:Nat} (s:Small w) (hr:(rowOf w m).length < 990) (hn:w.notes.length < 990) (n Zw x:Int):Small (Xe w m n Zw x):=by
 unfold Xe;cases (Zw != (m:Int))
 ·rw [cond_false];exact s.cw (by have:=ZgG (c:= {look (rowOf w m) n with out:=ZK ((look (rowOf w m) n).out - x)}) (rowOf w m);omega)
 ·exact⟨s.cells,s.rows,by show(w.notes ++ [_]).length < 1000;simp;omega,s.freed⟩
section
variable {F:Nat} {w:Za} {m:Nat} {n:Int}
theorem Zff (hm:m < w.cells.length) (Yr:Uk (rowOf w m)) {d:Zb} (hd:d.name=n):UL (rowOf (cw w m (put d (rowOf w m))) m) n=some d:=by
 rw [Qn hm,Zal _ Yr,if_pos hd.symm]
theorem Qr {r:Row} {d:Zb} (h:UL r n=some d):look r n=d:=by unfold look;rw [h];rfl
structure At1 (w:Za) (m:Nat) (n:Int):Prop where
 sm:Small w
 hm:m < w.cells.length
 Yr:Uk (rowOf w m)
 rl:(rowOf w m).length < 950
 nl:w.notes.length < 950
 has:∃ d,UL (rowOf w m) n=some d
theorem At1.put (sm:Small w) (hm:m < w.cells.length) (Yr:Uk (rowOf w m)) (hr:(rowOf w m).length < 940) (hn:w.notes.length < 940) {d:Zb} (hd:d.name=n):At1 (cw w m (put d (rowOf w m))) m n:=by
 have hl:=ZgG (c:=d) (rowOf w m);exact⟨sm.cw (by omega),by rw [Ya];exact hm,by rw [Qn hm];exact Yr.put,by rw [Qn hm];omega,by show w.notes.length < 950;omega,d,Zff hm Yr hd⟩
theorem Zvk (sm:Small w) (hm:m < w.cells.length) (Yr:Uk (rowOf w m)) (hr:(rowOf w m).length < 945) (hn:w.notes.length < 945) (Zw x:Int) (hd:∃ d,UL (rowOf w m) n=some d):At1 (Xe w m n Zw x) m n:=by
 refine⟨ZnF sm (by omega) (by omega) n Zw x,by rw [Zse];exact hm,?_,?_,?_,?_⟩
 ·rcases ZcT hm n Zw x with h | h <;> rw [h]
  ·exact Yr
  ·exact Yr.put
 ·have hl:=ZgG (c:= {look (rowOf w m) n with out:=ZK ((look (rowOf w m) n).out - x)}) (rowOf w m);rcases ZcT hm n Zw x with h | h <;> rw [h] <;> omega
 ·unfold Xe;cases (Zw != (m:Int))
  ·rw [cond_false];show w.notes.length < 950;omega
  ·rw [cond_true];show(w.notes ++ [_]).length < 950;simp;omega
 ·rcases ZcT hm n Zw x with h | h <;> rw [h]
  ·exact hd
  ·exact⟨_,by rw [Zal _ Yr,if_pos (by exact(JP _ _).symm)]⟩
end
end Go.Proofs.Ytekpjgmhkkjhgaa
end
section
namespace Go.Proofs.Ytekpjgmhkkjhgaa
open Go.Lf
section
variable {w:Za} {st:Store} {m:Nat} {n:Int}
theorem Y2 (w:Za) (a:Nat) (b:Int):cellOf w a b=UL (rowOf w a) b:=rfl
theorem Qg.get (s:Qg w st) (hm:m < w.cells.length):Xt st.cells ⟨m,n⟩=UL (rowOf w m) n:=by
 rw [s.cells,if_pos (by omega),Int.toNat_natCast,Y2]
theorem Zew (s:Qg w st) (hm:m < w.cells.length):Zgi st m n=some (look (rowOf w m) n):=by
 unfold Zgi Zag;rw [s.get hm];cases h:UL (rowOf w m) n with
 | none=>
   rw [show look (rowOf w m) n=blank n by unfold look;rw [h];rfl]
   rfl
 | some c=>
   rw [Qr h]
   rfl
theorem Ux {a:Nat} (h:a ≠ m) (r:Row):rowOf (cw w m r) a=rowOf w a:=by
 unfold rowOf cw;simp only;rw [List.getElem?_set_ne (fun z=>h z.symm)]
theorem MapOf.put {l:List (Ze×Zb)} (s:MapOf w l) (hm:m < w.cells.length) (Yr:Uk (rowOf w m)) {c:Zb} (hc:c.name=n):MapOf (cw w m (put c (rowOf w m))) (Y1 l ⟨m,n⟩ c):=by
 intro a b;rw [Ze4,Ya,s a b];by_cases ha:0 <=a∧a < (w.cells.length:Int)
 ·rw [if_pos ha,if_pos ha,Y2,Y2];by_cases he:a= (m:Int)
  ·subst he;rw [Int.toNat_natCast,Qn hm,Zal _ Yr];by_cases hb:b=n
   ·subst hb;rw [if_pos rfl,if_pos hc.symm]
   ·rw [if_neg (fun z=>hb (by injection z)),if_neg (fun z=>hb (z.trans hc))]
  ·rw [if_neg (fun z=>he (by injection z)),Ux (by omega)]
 ·rw [if_neg ha,if_neg ha,if_neg (fun z=>ha (by injection z with z1 _;rw [z1];omega))]
theorem Qg.put (s:Qg w st) (hm:m < w.cells.length) (Yr:Uk (rowOf w m)) {c:Zb} (hc:c.name=n):Qg (cw w m (Go.Proofs.Ytekpjgmhkkjhgaa.put c (rowOf w m))) ⟨st.machines,st.names,Y1 st.cells ⟨m,n⟩ c,st.notes,st.freed⟩:=
 ⟨by rw [Ya];exact s.m,s.n,s.notes,s.freed,s.cells.put hm Yr hc⟩
theorem Qg.sent (s:Qg w st) (hn:w.notes.length < 1000) (x:Zd):∃ st',Zan st x=some st'∧Qg (sent w x) st':=by
 unfold Zan;rw [s.notes,XD (by simp;omega) (by decide)];exact⟨_,rfl,s.m,s.n,rfl,s.freed,s.cells⟩
theorem Zsc (s:Qg w st) (hm:m < w.cells.length) (Yr:Uk (rowOf w m)) (hn:w.notes.length < 1000) (Zw x:Int):∃ st',Zgh st m n Zw x=some st'∧Qg (Xe w m n Zw x) st':=by
 unfold Zgh Xe;cases (Zw != (m:Int))
 ·simp only [cond_false];rw [Zew s hm,Option.bind_some];exact⟨_,rfl,s.put hm Yr (by exact JP _ _)⟩
 ·simp only [cond_true];obtain⟨st',h1,h2⟩:=s.sent hn ⟨2,Zw,n,0,x⟩;rw [h1];exact⟨st',rfl,h2⟩
end
end Go.Proofs.Ytekpjgmhkkjhgaa
end
section
namespace Go.Proofs.Ytekpjgmhkkjhgaa
open Go.Lf
section
variable {κ ν:Type} [DecidableEq κ]
def UK (l:List (κ×ν)):Prop:= (l.map (·.1)).Nodup
theorem UK.nil:UK ([]:List (κ×ν)):=List.nodup_nil
theorem UK.Y1 {l:List (κ×ν)} (u:UK l) (k:κ) (x:ν):UK (Y1 l k x):=by
 unfold Go.Lf.Y1;cases e:Z9 l k with
 | some q=>
   unfold UK at u ⊢
   have:(l.modify q.1 fun p=>(p.1,x)).map (·.1)=l.map (·.1):=by
    apply List.ext_getElem?;intro i;rw [List.getElem?_map,List.getElem?_map,List.getElem?_modify];cases l[i]? with
    | none=>rfl
    | some p=>simp only [Option.map_some];split <;> rfl
   dsimp only;rw [this];exact u
 | none=>
   unfold UK at u ⊢;dsimp only;rw [List.map_append,List.nodup_append];refine⟨u,by simp,fun a ha b hb=>?_⟩;simp at hb;subst hb;obtain⟨p,hp,rfl⟩:=List.mem_map.1 ha;exact Zbj.1 e p hp
theorem UK.ZaO {l:List (κ×ν)} (u:UK l) (k:κ):UK (ZaO l k):=by
 unfold Go.Lf.ZaO;cases e:Z9 l k with
 | some q=>
   unfold UK at u ⊢;dsimp only;exact u.sublist ((List.eraseIdx_sublist l q.1).map _)
 | none=>exact u
theorem KP (p:κ×ν) (l:List (κ×ν)) (k:κ):Z9 (p::l) k=if p.1=k then some (0,p.2) else(Z9 l k).map fun q=>(q.1 + 1,q.2):=rfl
theorem Zjy:∀ {l:List (κ×ν)},UK l ->∀ k k':κ,Xt (ZaO l k) k'=if k'=k then none else Xt l k'
 | [],_,k,k'=>by simp [ZaO,Xt,Z9]
 | p::l,u,k,k'=>by
   have u':p.1 ∉ l.map (·.1)∧UK l:=List.nodup_cons.1 u;have ih:=Zjy u'.2 k k';unfold ZaO Xt at ih ⊢;rw [KP p l k,KP p l k'];have hmm:∀ o:Option (Nat×ν),Option.map (·.2) (Option.map (fun q=>(q.1 + 1,q.2)) o)=Option.map (·.2) o:=fun o=>by cases o <;> rfl
   by_cases hp:p.1=k
   ·rw [if_pos hp];show Option.map _ (Z9 ((p::l).eraseIdx 0) k')=_;rw [List.eraseIdx_cons_zero];by_cases hk:k'=k
    ·rw [if_pos hk,hk];have:Z9 l k=none:=Zbj.2 fun q hq e=>u'.1 (List.mem_map.2 ⟨q,hq,e.trans hp.symm⟩)
     rw [this];rfl
    ·rw [if_neg hk,if_neg (fun z=>hk (z.symm.trans hp)),hmm]
   ·rw [if_neg hp];cases e:Z9 l k with
    | none=>
      rw [e] at ih;dsimp only [Option.map_none] at ih ⊢;rw [KP];by_cases hk:k'=k
      ·rw [if_pos hk] at ih ⊢;rw [if_neg (fun z=>hp (z.trans hk)),hmm];exact ih
      ·rw [if_neg hk]
    | some q=>
      rw [e] at ih;dsimp only [Option.map_some] at ih ⊢;rw [List.eraseIdx_cons_succ,KP];by_cases h3:p.1=k'
      ·rw [if_pos h3,if_neg (fun z=>hp (h3.trans z)),if_pos h3]
      ·rw [if_neg h3,if_neg h3,hmm,hmm];exact ih
end
theorem MapOf.rmv {w:Za} {m:Nat} {n:Int} {l:List (Ze×Zb)} (s:MapOf w l) (u:UK l) (hm:m < w.cells.length):MapOf (cw w m (rmv n (rowOf w m))) (ZaO l ⟨m,n⟩):=by
 intro a b;rw [Zjy u,Ya,s a b];by_cases ha:0 <=a∧a < (w.cells.length:Int)
 ·rw [if_pos ha,if_pos ha,Y2,Y2];by_cases he:a= (m:Int)
  ·subst he;rw [Int.toNat_natCast,Qn hm,Zqj];by_cases hb:b=n
   ·subst hb;rw [if_pos rfl,if_pos rfl]
   ·rw [if_neg (fun z=>hb (by injection z)),if_neg hb]
  ·rw [if_neg (fun z=>he (by injection z)),Ux (by omega)]
 ·rw [if_neg ha,if_neg ha];split <;> rfl
end Go.Proofs.Ytekpjgmhkkjhgaa
end
section
namespace Go.Proofs.Ytekpjgmhkkjhgaa
open Go.Lf
def Asc (l:List Int):Prop:=l.Pairwise (· <=·)
theorem Zwt (a b:Int):Zgf a b=some (decide (a < b)):=by
 unfold Zgf ZjO;simp [gd]
theorem ZhK {x:Int}:∀ {l:List Int},(∀ y ∈ l,y <=x) ->Jr x l=l ++ [x]
 | [],_=>rfl
 | y::l,h=>by
   have:=h y (by simp);rw [Jr,if_neg (by omega),ZhK (fun z hz=>h z (by simp [hz]))];rfl
theorem ZjB {x y:Int} (h:x < y):∀ {l:List Int},Jr x (l ++ [y])=Jr x l ++ [y]
 | []=>by
   have h':y > x:=h;show(if y > x then x::y:: [] else y::Jr x [])=_;rw [if_pos h'];rfl
 | z::l=>by
   rw [List.cons_append,Jr,Jr];by_cases hz:z > x
   ·rw [if_pos hz,if_pos hz];rfl
   ·rw [if_neg hz,if_neg hz,ZjB h];rfl
theorem Zed {x z:Int}:∀ {l:List Int},z ∈ Jr x l ->z=x∨z ∈ l
 | [],h=>by simp [Jr] at h;exact .inl h
 | y::l,h=>by
   rw [Jr] at h;split at h
   ·rcases List.mem_cons.1 h with h | h
    ·exact .inl h
    ·exact .inr h
   ·rcases List.mem_cons.1 h with h | h
    ·exact .inr (by simp [h])
    ·exact(Zed h).imp id fun q=>by simp [q]
theorem Asc.Jr {x:Int}:∀ {l:List Int},Asc l ->Asc (Jr x l)
 | [],_=>List.pairwise_singleton _ _
 | y::l,s=>by
   have s':=List.pairwise_cons.1 s;unfold Go.Proofs.Ytekpjgmhkkjhgaa.Jr;by_cases h:y > x
   ·rw [if_pos h];refine List.pairwise_cons.2 ⟨fun z hz=>?_,s⟩;rcases List.mem_cons.1 hz with rfl | hz
    ·omega
    ·have:=s'.1 z hz;omega
   ·rw [if_neg h];refine List.pairwise_cons.2 ⟨fun z hz=>?_,Asc.Jr s'.2⟩;rcases Zed hz with rfl | hz
    ·omega
    ·exact s'.1 z hz
theorem ZhJ (x:Int):∀ l:List Int,(Jr x l).length=l.length + 1
 | []=>rfl
 | y::l=>by
   rw [Jr];split
   ·rfl
   ·simp [ZhJ x l]
theorem Zqh {α:Type} (p s:List α) (x:α):(p ++ x::s)[p.length]? =some x:=by simp
theorem Zoo (i:Int) (next:Int×List Int ->Option (List Int)):∀ (k:Nat) (pre suf:List Int) (x:Int) (F:Nat),pre.length=k ->k < F ->k < 100000 ->Asc pre ->loop F (ZgR 0 i next) ((k:Int),pre ++ x::suf)=next (ZK (i + 1),Jr x pre ++ suf):=by
 intro k
 induction k with
 | zero=>
   intro pre suf x F hp hF _ _;obtain⟨F,rfl⟩:=Nat.exists_eq_succ_of_ne_zero (n:=F) (by omega);have:pre= []:=List.eq_nil_of_length_eq_zero hp;subst this;rw [Yh]
   rfl
 | succ k ih=>
   intro pre suf x F hp hF hk hs;obtain⟨F,rfl⟩:=Nat.exists_eq_succ_of_ne_zero (n:=F) (by omega)
   obtain⟨p,y,rfl⟩:∃ p y,pre=p ++ [y]:=by
    refine⟨pre.dropLast,pre.getLast (by intro z;rw [z] at hp;simp at hp),?_⟩;exact(List.dropLast_concat_getLast _).symm
   have hpl:p.length=k:=by simpa using hp
   have hs':=List.pairwise_append.1 hs;rw [Yh];have e0:(p ++ [y]) ++ x::suf=p ++ y::x::suf:=by simp
   rw [e0]
   have g1:Yg (p ++ y::x::suf) ((k + 1:Nat):Int)=some x:=by
    rw [Z0,← hpl];rw [List.getElem?_append_right (by omega)];simp
   have g2:Yg (p ++ y::x::suf) (k:Int)=some y:=by rw [Z0,← hpl];exact Zqh _ _ _
   have ew:ZK (((k + 1:Nat):Int) - 1)= (k:Int):=by rw [Zl4 (by omega) (by omega)];rfl
   have hgt:decide (((k + 1:Nat):Int) > 0)=true:=decide_eq_true (by omega);simp only [ZgR,hgt,gd,cond_true,g1,g2,ew,Option.bind_some,Zwt,Bool.true_and];cases hlt:decide (x < y)
   ·rw [cond_false];have hle:y <=x:=by simpa using hlt
    rw [ZhK (fun z hz=>by
     rcases List.mem_append.1 hz with hz | hz
     ·have:=hs'.2.2 z hz y (by simp);omega
     ·simp at hz;omega)]
    simp
   ·rw [cond_true];have hxy:x < y:=by simpa using hlt
    have s1:Jw (p ++ y::x::suf) ((k + 1:Nat):Int) y=p ++ y::y::suf:=by
     unfold Jw;rw [Int.toNat_natCast,← hpl,List.set_append_right _ _ (by omega)];simp
    have g3:Yg (p ++ y::y::suf) (k:Int)=some y:=by rw [Z0,← hpl];exact Zqh _ _ _
    have s2:Jw (p ++ y::y::suf) (k:Int) x=p ++ x::y::suf:=by
     unfold Jw;rw [Int.toNat_natCast,← hpl,List.set_append_right _ _ (by omega)];simp
    rw [s1,g3,Option.bind_some,s2,ih p (y::suf) x F hpl (by omega) (by omega) hs'.1,ZjB hxy];simp
theorem Zhv {F:Nat} (hF:100 <=F):∀ (d:Nat) (S rest:List Int) (n F':Nat),rest.length=d ->S.length + d=n ->n <=90 ->d < F' ->Asc S ->loop F' (ZcM F 0 n) ((S.length:Int),S ++ rest)=some (rest.foldl (fun S x=>Jr x S) S):=by
 intro d
 induction d with
 | zero=>
   intro S rest n F' hr hn hn9 hF' hs;obtain⟨F',rfl⟩:=Nat.exists_eq_succ_of_ne_zero (n:=F') (by omega);have:rest= []:=List.eq_nil_of_length_eq_zero hr;subst this;rw [Yh];simp only [ZcM];rw [decide_eq_false (by omega),cond_false];simp
 | succ d ih=>
   intro S rest n F' hr hn hn9 hF' hs;obtain⟨F',rfl⟩:=Nat.exists_eq_succ_of_ne_zero (n:=F') (by omega)
   match rest,hr with
   | x::r,hr=>
     rw [Yh];simp only [ZcM];rw [decide_eq_true (by omega),cond_true,Zoo _ _ S.length S r x F rfl (by omega) (by omega) hs,Xp (by omega),List.foldl_cons];have:=ih (Jr x S) r n F' (by simpa using hr) (by rw [ZhJ];omega) hn9 (by omega) hs.Jr;rw [ZhJ] at this;exact this
theorem Zm2:∀ (l S:List Int),Asc (S ++ l) ->l.foldl (fun S x=>Jr x S) S=S ++ l
 | [],S,_=>by simp
 | x::l,S,h=>by
   rw [List.foldl_cons,ZhK (fun y hy=>(List.pairwise_append.1 h).2.2 y hy x (by simp)),Zm2 l _ (by simpa using h)];simp
theorem Zwa {F:Nat} (hF:100 <=F) {l:List Int} (hl:l.length <=11) (hs:Asc l) (n:Int):Zm8 F (l ++ [n])=some (Jr n l):=by
 have hlen:(l ++ [n]).length=l.length + 1:=by simp
 unfold Zm8 ZuX
 have e1:∃ q,Qc (IntKind.wrap .u64 ((l ++ [n]).length:Int))=some q:=by
  rw [hlen];have hw:∀ k:Nat,k <=12 ->IntKind.wrap .u64 (k:Int)= (k:Int):=by decide
  have:=hw (l.length + 1) (by omega);rw [this];unfold Qc;rw [decide_eq_true (by omega),decide_eq_true (by omega)];exact⟨_,rfl⟩
 obtain⟨q,e1⟩:=e1;rw [e1,Option.bind_some];unfold Zqw;obtain⟨F',rfl⟩:=Nat.exists_eq_succ_of_ne_zero (n:=F) (by omega);rw [Yh];simp only [Zlh];have ew:ZK (((l ++ [n]).length:Int) - 0)= ((l.length + 1:Nat):Int):=by rw [hlen];exact YM (by omega) (by omega)
 rw [ew,decide_eq_true (by omega),cond_true];unfold Zqv;have e2:ZK ((0:Int) + 1)=1:=by rw [show(0:Int) + 1=1 from rfl];exact YM (by omega) (by omega)
 rw [e2]
 have key:loop (F' + 1) (ZcM (F' + 1) 0 ((l ++ [n]).length:Int)) (1,l ++ [n])=some (Jr n l):=by
  match l,hl,hs,hlen with
  | [],_,_,_=>exact Zhv (F:=F' + 1) hF 0 [n] [] 1 (F' + 1) rfl rfl (by omega) (by omega) (List.pairwise_singleton _ _)
  | x::r,hl,hs,hlen=>
    have:=Zhv (F:=F' + 1) hF (r.length + 1) [x] (r ++ [n]) ((x::r ++ [n]).length) (F' + 1) (by simp) (by simp;omega) (by simp at hl ⊢;omega) (by simp at hl;omega) (List.pairwise_singleton _ _);rw [List.foldl_append,Zm2 r [x] hs] at this;exact this
 rw [key];rfl
def CI (c:Zb):Prop:= (c.from_ >=0∧c.root=false)∨(c.from_=-1∧c.has=0)
theorem Zu0 {c:Zb} {n:Int} (hn:c.name=n) (hu:c.use=false) (ho:c.out=0) (hr:c.root=false) (hi:CI c):Zao c (blank n)= !decide (c.from_ >=0):=by
 unfold Zao blank;rcases hi with⟨h,_⟩ | ⟨h1,h2⟩
 ·rw [decide_eq_true h];have:(c.from_==-1)=false:=by simp;omega
  simp [this]
 ·rw [decide_eq_false (by omega)];simp [hn,hu,ho,hr,h1,h2]
theorem Zae {F:Nat} (hF:100 <=F) {w:Za} {st:Store} {m:Nat} {n:Int} (s:Qg w st) (u:UK st.cells) (hm:m < w.cells.length) (hnl:w.notes.length < 1000) {c:Zb} (hc:UL (rowOf w m) n=some c) (hi:CI c) (ha:Asc w.freed) (hf:w.freed.length <=11):
 ∃ st',Zgg F st m n=some st'∧Qg (YW w m n c) st'∧UK st'.cells:=by
 have hcn:=Qd hc;unfold Zgg YW;rw [Zew s hm,Qr hc,Option.bind_some];cases hu:(c.use || (c.out !=0))
 ·simp only [cond_false]
  have hu1:c.use=false:=by
   cases h:c.use
   ·rfl
   ·rw [h] at hu;cases hu
  have hu2:c.out=0:=by
   rw [hu1,Bool.false_or] at hu
   simpa using hu
  have hmap:MapOf (cw w m (rmv n (rowOf w m))) (ZaO st.cells ⟨m,n⟩):=s.cells.rmv u hm;cases hr:c.root
  ·simp only [cond_false];unfold Zm9;rw [Option.bind_some];have he:=Zu0 hcn hu1 hu2 hr hi;unfold blank at he;rw [he];cases hfr:decide (c.from_ >=0)
   ·refine⟨_,rfl,⟨by show st.machines=_;rw [s.m];simp,s.n,s.notes,s.freed,hmap⟩,u.ZaO _⟩
   ·simp only [Bool.not_true,Bool.not_false,cond_true];unfold Zan;dsimp only;rw [s.notes,XD (by simp;omega) (by decide)];refine⟨_,rfl,⟨by show st.machines=_;rw [s.m];simp,s.n,rfl,s.freed,hmap⟩,u.ZaO _⟩
  ·simp only [cond_true];rw [s.freed,XD (by simp;omega) (by decide),Option.bind_some,Zwa hF hf ha,Option.bind_some];refine⟨_,rfl,⟨by show st.machines=_;rw [s.m];simp,s.n,s.notes,rfl,hmap⟩,u.ZaO _⟩
 ·simp only [cond_true];exact⟨st,rfl,s,u⟩
theorem CI.blank (n:Int):CI (blank n):= .inr ⟨rfl,rfl⟩
theorem ZqP {F:Nat} {w:Za} {st:Store} {m:Nat} {n:Int} (s:Qg w st) (u:UK st.cells) (hm:m < w.cells.length) (Yr:Uk (rowOf w m)) (hn:w.notes.length < 1000) (Zw x:Int):∃ st',Zgh st m n Zw x=some st'∧Qg (Xe w m n Zw x) st'∧UK st'.cells:=by
 obtain⟨st',h1,h2⟩:=Zsc s hm Yr hn Zw x (n:=n);refine⟨st',h1,h2,?_⟩;unfold Zgh Zan at h1;cases ht:(Zw != (m:Int))
 ·rw [ht,cond_false,Zew s hm,Option.bind_some] at h1;cases h1;exact u.Y1 _ _
 ·rw [ht,cond_true,s.notes,XD (by simp;omega) (by decide)] at h1;cases h1;exact u
theorem Zsd {w:Za} {m:Nat} {n:Int} (hm:m < w.cells.length) (Yr:Uk (rowOf w m)) (Zw x:Int) (hi:CI (look (rowOf w m) n)):CI (look (rowOf (Xe w m n Zw x) m) n):=by
 rcases ZcT hm n Zw x with h | h <;> rw [h]
 ·exact hi
 ·rw [Qr (by rw [Zal _ Yr,if_pos (by exact(JP _ _).symm)])];exact hi
theorem Zis {F:Nat} (hF:100 <=F) {w:Za} {st:Store} (s:Qg w st) (u:UK st.cells) (sm:Small w) {m:Nat} (hm:m < w.cells.length) (hrl:(rowOf w m).length < 900) (hnl:w.notes.length < 900) (x:Zd) (hto:x.Zw= (m:Int)) (Yr:Uk (rowOf w m)) (hi:CI (look (rowOf w m) x.name)) (ha:Asc w.freed) (hf:w.freed.length <=11):
 ∃ st',ZrS F st x=some st'∧Qg (XC w x) st'∧UK st'.cells:=by
 have hln:=JP (rowOf w m) x.name;have hat:∀ {d:Zb},d.name=x.name ->At1 (cw w m (put d (rowOf w m))) m x.name:=fun hd=>At1.put sm hm Yr (by omega) (by omega) hd
 have hst:∀ {d:Zb},d.name=x.name ->Qg (cw w m (put d (rowOf w m))) ⟨st.machines,st.names,Y1 st.cells ⟨m,x.name⟩ d,st.notes,st.freed⟩:=fun hd=>s.put hm Yr hd
 unfold ZrS XC;rw [hto,Zew s hm];simp only [Option.bind_some,Int.toNat_natCast];obtain⟨c,hcc⟩:∃ c,look (rowOf w m) x.name=c:= ⟨_,rfl⟩
 rw [hcc] at hln hi;simp only [hcc]
 have hlt:decide (c.from_ < 0)= (c.from_==-1):=by
  rcases hi with⟨h,_⟩ | ⟨h,_⟩
  ·rw [decide_eq_false (by omega)];symm;simp;omega
  ·rw [decide_eq_true (by omega),h];rfl
 have hge:(decide (c.from_ >=0) && (c.from_==x.via))= ((!c.root && decide (c.from_ >=0)) && (c.from_==x.via)):=by
  rcases hi with⟨h,h2⟩ | ⟨h,_⟩
  ·rw [h2];simp
  ·rw [decide_eq_false (by omega)];simp
 cases hk1:(x.kind==1)
 ·simp only [cond_false];cases hk2:(x.kind==2)
  ·simp only [cond_false];have h1:=hst (d:= ⟨c.name,true,-1,0,ZK (c.out + 16),c.use⟩) hln;have hA:=hat (d:= ⟨c.name,true,-1,0,ZK (c.out + 16),c.use⟩) hln;have u1:=u.Y1 (⟨m,x.name⟩:Ze) (⟨c.name,true,-1,0,ZK (c.out + 16),c.use⟩:Zb);have hd:(⟨c.name,true,-1,0,ZK (c.out + 16),c.use⟩:Zb).name=x.name:=hln;have hlk:=Qr (Zff hm Yr hd);cases hfr:decide (c.from_ >=0)
   ·simp only [cond_false];unfold Zfp;rw [hto];obtain⟨d,hdd⟩:=hA.has;obtain⟨st',q1,q2,q3⟩:=Zae hF h1 u1 hA.hm (by show w.notes.length < 1000;omega) hdd (by rw [← Qr hdd,hlk];exact .inr ⟨rfl,rfl⟩) ha hf;rw [show st.notes=w.notes from s.notes,show st.freed=w.freed from s.freed] at q1;rw [show st.notes=w.notes from s.notes,show st.freed=w.freed from s.freed];refine⟨st',(congrArg (fun o=>Option.bind o fun x61=>some x61) q1).trans rfl,?_,q3⟩;rw [Qr hdd];exact q2
   ·simp only [cond_true];obtain⟨st1,p1,p2,p3⟩:=ZqP (F:=F) (n:=x.name) h1 u1 hA.hm hA.Yr (by show w.notes.length < 1000;omega) c.from_ c.has;rw [p1,Option.bind_some];have hbh:=Zvk hA.sm hA.hm hA.Yr (by have:=ZgG (c:= (⟨c.name,true,-1,0,ZK (c.out + 16),c.use⟩:Zb)) (rowOf w m);rw [Qn hm];omega) (by show w.notes.length < 945;omega) c.from_ c.has hA.has;have hci:CI (look (rowOf (Xe (cw w m (put (⟨c.name,true,-1,0,ZK (c.out + 16),c.use⟩:Zb) (rowOf w m))) m x.name c.from_ c.has) m) x.name):=Zsd hA.hm hA.Yr _ _ (by rw [hlk];exact .inr ⟨rfl,rfl⟩);obtain⟨d,hdd⟩:=hbh.has
    have hfree:(Xe (cw w m (put (⟨c.name,true,-1,0,ZK (c.out + 16),c.use⟩:Zb) (rowOf w m))) m x.name c.from_ c.has).freed=w.freed:=by
     unfold Xe;cases (c.from_ != (m:Int)) <;> rfl
    obtain⟨st',q1,q2,q3⟩:=Zae hF p2 p3 hbh.hm (by have:=hbh.nl;omega) hdd (by rw [← Qr hdd];exact hci) (by rw [hfree];exact ha) (by rw [hfree];exact hf);unfold Zfp;rw [hto];refine⟨st',(congrArg (fun o=>Option.bind o fun x61=>some x61) q1).trans rfl,?_,q3⟩;rw [Qr hdd];exact q2
  ·simp only [cond_true];have h1:=hst (d:= ⟨c.name,c.root,c.from_,c.has,ZK (c.out - x.w),c.use⟩) hln;have hd:(⟨c.name,c.root,c.from_,c.has,ZK (c.out - x.w),c.use⟩:Zb).name=x.name:=hln;have u1:=u.Y1 (⟨m,x.name⟩:Ze) (⟨c.name,c.root,c.from_,c.has,ZK (c.out - x.w),c.use⟩:Zb);obtain⟨st',q1,q2,q3⟩:=Zae hF h1 u1 (hat hd).hm (by show w.notes.length < 1000;omega) (Zff hm Yr hd) hi ha hf;exact⟨st',(congrArg (fun o=>Option.bind o fun x61=>some x61) q1).trans rfl,q2,q3⟩
 ·simp only [cond_true];rw [hlt,hge];cases hc1:((!c.root && (c.from_==-1)) && (x.via != (m:Int)))
  ·simp only [cond_false];cases hc2:((!c.root && decide (c.from_ >=0)) && (c.from_==x.via))
   ·simp only [cond_false];have h1:=hst (d:= ⟨c.name,c.root,c.from_,c.has,c.out,true⟩) hln;have hA:=hat (d:= ⟨c.name,c.root,c.from_,c.has,c.out,true⟩) hln;obtain⟨st1,p1,p2,p3⟩:=ZqP (F:=F) (n:=x.name) h1 (u.Y1 _ _) hA.hm hA.Yr (by show w.notes.length < 1000;omega) x.via x.w;exact⟨st1,(congrArg (fun o=>Option.bind o fun x18=>some x18) p1).trans rfl,p2,p3⟩
   ·simp only [cond_true];exact⟨_,rfl,hst (d:= ⟨c.name,c.root,c.from_,ZK (c.has + x.w),c.out,true⟩) hln,u.Y1 _ _⟩
  ·simp only [cond_true];exact⟨_,rfl,hst (d:= ⟨c.name,c.root,x.via,x.w,c.out,true⟩) hln,u.Y1 _ _⟩
def Zd3 (w:Za) (d:Zn) (m:Nat) (c:Zb):Za:=
 bif decide (c.from_ >=0) && decide (c.has >=2) then sent (cw w m (put ⟨c.name,c.root,c.from_,ZK (c.has - ZK (c.has.tdiv 2)),c.out,c.use⟩ (rowOf w m))) ⟨1,d.Zw,d.name,c.from_,ZK (c.has.tdiv 2)⟩
 else sent (cw w m (put ⟨c.name,c.root,c.from_,c.has,ZK (c.out + 16),c.use⟩ (rowOf w m))) ⟨1,d.Zw,d.name,d.at_,16⟩
theorem ZGH (a:Int):Zri a 2=some (ZK (a.tdiv 2)):=rfl
theorem ZsV {w:Za} {st:Store} (s:Qg w st) (u:UK st.cells) {m:Nat} (hm:m < w.cells.length) (Yr:Uk (rowOf w m)) (hnl:w.notes.length < 1000) (d:Zn) (hat:d.at_= (m:Int)) {c:Zb} (hc:UL (rowOf w m) d.name=some c):
 ∃ st',Znb st d=some st'∧Qg (Zd3 w d m c) st'∧UK st'.cells:=by
 have hn:=Qd hc;unfold Znb Zd3;rw [hat,Zew s hm,Qr hc,Option.bind_some];simp only [ZGH,Option.bind_some];cases (decide (c.from_ >=0) && decide (c.has >=2))
 ·simp only [cond_false];unfold ZcN;rw [hat];have h1:=s.put hm Yr (c:= ⟨c.name,c.root,c.from_,c.has,ZK (c.out + 16),c.use⟩) hn;obtain⟨st',q1,q2⟩:=h1.sent (by show w.notes.length < 1000;exact hnl) ⟨1,d.Zw,d.name,(m:Int),16⟩;refine⟨st',(congrArg (fun o=>Option.bind o fun x21=>some x21) q1).trans rfl,q2,?_⟩;unfold Zan at q1;dsimp only at q1;rw [s.notes,XD (by simp;omega) (by decide)] at q1;cases q1;exact u.Y1 _ _
 ·simp only [cond_true];unfold ZcN;rw [hat];have h1:=s.put hm Yr (c:= ⟨c.name,c.root,c.from_,ZK (c.has - ZK (c.has.tdiv 2)),c.out,c.use⟩) hn;obtain⟨st',q1,q2⟩:=h1.sent (by show w.notes.length < 1000;exact hnl) ⟨1,d.Zw,d.name,c.from_,ZK (c.has.tdiv 2)⟩;refine⟨st',(congrArg (fun o=>Option.bind o fun x21=>some x21) q1).trans rfl,q2,?_⟩;unfold Zan at q1;dsimp only at q1;rw [s.notes,XD (by simp;omega) (by decide)] at q1;cases q1;exact u.Y1 _ _
theorem Ka {α:Type} {xs:List α} {a b:Nat} (h1:a <=b) (h2:b <=xs.length):slL xs (a:Int) (b:Int)=some ((xs.take b).drop a):=by
 unfold slL;rw [decide_eq_true (by omega),decide_eq_true (by omega),decide_eq_true (by omega)];simp
theorem Ztg {l:List Zd} {k:Nat} (hk:k < l.length) (hl:l.length < 1000):Zna l (k:Int) (ZK ((k:Int) + 1))=some (l.take k ++ l.drop (k + 1)):=by
 unfold Zna;have e0:slL l 0 (k:Int)=some ((l.take k).drop 0):=Ka (a:=0) (Nat.zero_le k) (by omega);rw [Xp (by omega),Ka (by omega) (by omega),Option.bind_some,e0,Ka (by omega) (Nat.le_refl _)];have:((k:Int)== ((k + 1:Nat):Int))=false:=by simp;omega
 rw [this,cond_false];simp only [Option.bind_some,List.drop_zero,List.take_length];rw [XD (by simp;omega) (by decide)]
 rfl
def Ze1 (w:Za):Zb:= ⟨w.names,true,-1,0,0,true⟩
def Zd9 (w:Za) (m:Nat):Za:= ⟨w.cells.set m (put (Ze1 w) (rowOf w m)),w.notes,ZK (w.names + 1),w.freed⟩
theorem Ztx {w:Za} {st:Store} (s:Qg w st) (u:UK st.cells) {m:Nat} (hm:m < w.cells.length) (Yr:Uk (rowOf w m)):Qg (Zd9 w m) ⟨st.machines,ZK (st.names + 1),Y1 st.cells ⟨m,w.names⟩ (Ze1 w),st.notes,st.freed⟩∧UK (Y1 st.cells (⟨m,w.names⟩:Ze) (Ze1 w)):=by
 have h:=s.put hm Yr (c:=Ze1 w) (n:=w.names) rfl;refine⟨⟨?_,by show ZK (st.names + 1)=ZK (w.names + 1);rw [s.n],s.notes,s.freed,?_⟩,u.Y1 _ _⟩
 ·show st.machines=_;rw [s.m];unfold Zd9;simp
 ·exact h.cells
end Go.Proofs.Ytekpjgmhkkjhgaa
end
