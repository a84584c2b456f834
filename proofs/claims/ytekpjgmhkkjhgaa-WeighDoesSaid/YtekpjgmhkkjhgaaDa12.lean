/- Does Part 12 of the proof. -/
import Derived.Test.YtekpjgmhkkjhgaaDa11
set_option linter.all false
section
noncomputable section
namespace Go.Proofs.Ytekpjgmhkkjhgaa
open Go.Yy Go.Lf
theorem Zvn {h:H} {r:Bool} (hL:Zvo=some r):Pure XX 14 #[] h (.bool r):=by
 cases hL;intro wm;have e:ev (cfg XW fun _=>false) 1 (.call 14 #[] wm h)=some (.fin (.ret (.bool true)) h):=rfl;exact Zfo (X:=XW) mixed 1 _ _ e
end Go.Proofs.Ytekpjgmhkkjhgaa
end
end
section
namespace Go.Proofs.Ytekpjgmhkkjhgaa
open Go.Lf
def Zvj (F:Nat) (p0:Za) (p1:Zv):Option (Za×Int):=
 (Zpi F p0).bind fun x7=>(gd (!(!x7)) (ZrH p1 (p0.cells.length:Int)) default).bind fun x8=>(bif((!x7) || (!x8)) then some ((Za.mk [] [] 0 []),2) else(Zve F p0 p1).bind fun x10=>some (x10.1,x10.2))
def ZgI (F:Nat) (p0:Store) (p1:Int) (p2:Int):Option Store:=
 (ZgK p0 p1 p2).bind fun x1=>(bif(x1.use || (x1.out !=0)) then some p0 else(bif x1.root then(app 8 p0.freed [p2]).bind fun z8=>(Znf F z8).bind fun Uq=>some (Store.mk p0.machines p0.names (ZaT p0.cells (Zg.mk p1 p2)) p0.notes Uq) else(Zng p2).bind fun x16=>(bif(!(JO x1 x16)) then(Zat (Store.mk p0.machines p0.names (ZaT p0.cells (Zg.mk p1 p2)) p0.notes p0.freed) (Zf.mk 2 x1.from_ p2 0 x1.has)).bind fun x17=>some x17 else some (Store.mk p0.machines p0.names (ZaT p0.cells (Zg.mk p1 p2)) p0.notes p0.freed))))
end Go.Proofs.Ytekpjgmhkkjhgaa
end
section
set_option maxRecDepth 20000
noncomputable section
namespace Go.Proofs.Ytekpjgmhkkjhgaa
open Go.Yy Go.Lf
theorem ZCx {F wm:Nat} {h:H} {p0:Za} {p1:Zv} {Zr:Option Addr} {Zq:Nat} {Zp:Option Addr} {Zo:Nat} {Zn:Option Addr} {Zm:Nat} {r:(Za×Int)} (ZJ:wm <=h.size) (Zw:Sl (rSl Zd) wm h Zr Zq p0.cells) (ZF:Sl Ze wm h Zp Zo p0.notes) (ZC:Sl (ZA .i64) wm h Zn Zm p0.freed) (hL:Zvj F p0 p1=some r):
 WR XX 18 #[.agg [.slice Zr p0.cells.length Zq,.slice Zp p0.notes.length Zo,.int .i64 p0.names,.slice Zn p0.freed.length Zm].toArray,.agg [.int .i64 p1.Xf,.int .i64 p1.at_,.int .i64 p1.name,.int .i64 p1.ZH].toArray] wm h (CP (fun(v:Value) (Gb:List (Ast wm))=>∃ (YC:Option Addr) (YA:Nat) (YB:Nat) (Xc:Nat ->Option Addr×Nat×Nat) (Y2:Option Addr) (YX:Nat) (Y0:Nat) (Y1:Option Addr) (YW:Nat) (YZ:Nat),v= .tuple [.agg [.slice YC YA YB,.slice Y2 YX Y0,.int .i64 r.1.names,.slice Y1 YW YZ].toArray,.int .i64 r.2].toArray∧Gb= [JV wm (Ye Zd) YC YA YB Xc r.1.cells,ow wm Ze Y2 YX Y0 r.1.notes,ow wm (ZA .i64) Y1 YW YZ r.1.freed]) [] h):=by
 refine bg Try.ntmps18 ZJ ZO.nil ?_;intro T hT hS;unfold Zvj at hL;refine r3 ?_;rintro _ h2 ⟨b1,eb1,rfl,hS⟩;refine r1 ?_;rintro _ h4 ⟨b3,eb3,rfl,hS⟩;refine r1 ?_;rintro _ h6 ⟨b5,eb5,rfl,hS⟩;refine r6 ?_;refine r1 ?_;obtain⟨x7,hx7,hL⟩:=bind_some hL;refine WO.cp gN rfl (YF.fn ZzH (Zc lk Zj)) (Zvh (hS.Qv Zw) (hS.Qv ZF) (hS.Qv ZC) hx7) ?_;refine r6 ?_;obtain⟨x8,hx8,hL⟩:=Z0 hL;refine WO.gcp (Zh.no rfl rfl rfl (Yb rfl fh)) rfl (fun hg=>(YF.fn ZE6 (Zc (Yw (ZR rfl (Zi rfl fh)) rfl hg) (Zc (Yw fh rfl hg) Zj)))) (fun hg=>ZCo (hx8 hg)) ?_;refine r4 ?_;refine cn hL ?_ ?_
 ·intro hc hL;refine r2 ?_;refine WO.w gN rfl (XQ Ze6 ZG rfl (cs':= [.slice none 0 0,.slice none 0 0,.int .i64 0,.slice none 0 0]) rfl) ?_;refine r1 ?_;rintro h9 hS;refine r4 ?_;refine r1 ?_;have hS:=hS.Zjj (e:= (Ye Zd)) (ps:=fun _=>(Ye Zd).dflt);have hS:=hS.nil (e:=Ze);have hS:=hS.nil (e:= (ZA .i64));have hr:=Option.some.inj hL;subst hr;exact ZX.gen (vs:= [.agg [.slice none 0 0,.slice none 0 0,.int .i64 0,.slice none 0 0].toArray,.int .i64 2]) rfl (ZP (Ya rfl (Yb rfl (ZR rfl fh))) (ZV X7 Y4 (hS.Qw k3) (j:=0) rfl rfl (ws:= [.slice none 0 0,.slice none 0 0,.int .i64 0,.slice none 0 0]) rfl) (Z5 lk Zu)) rfl ⟨_,⟨none,0,0,(fun _=>(Ye Zd).dflt),none,0,0,none,0,0,rfl,rfl⟩,hT ▸ hS.only (.c k2 (.c k1 (.c k0 .n)))⟩
 ·intro hc hL;refine r6 ?_;obtain⟨x10,Ztx,hL⟩:=bind_some hL;refine WO.cl gN rfl (YF.fn ZE5 (Zc lk (Zc lk Zj))) hS .n (fun g' hz hf hO=>ZCm (by rw [hz];exact hS.hw) ((hS.sl Zw).mono hf) ((hS.sl ZF).mono hf) ((hS.sl ZC).mono hf) Ztx) ?_;rintro _ h20 _ ⟨a11,n12,c13,ZDZ,a14,n15,c16,a17,n18,c19,rfl,rfl⟩ hS;obtain rfl:=hS.Uv k0;obtain rfl:=hS.on k1;obtain rfl:=hS.on k2;refine r3 ?_;rintro h22 hS;refine r4 ?_;have hr:=Option.some.inj hL;subst hr;exact ZX.gen (vs:= [.agg [.slice a11 x10.1.cells.length c13,.slice a14 x10.1.notes.length c16,.int .i64 x10.1.names,.slice a17 x10.1.freed.length c19].toArray,.int .i64 x10.2]) rfl (ZP (Ya rfl (Ya rfl (ZR rfl fh))) (ZV X7 Y4 (hS.Qw k0) (j:=0) rfl rfl (ws:= [.slice a11 x10.1.cells.length c13,.slice a14 x10.1.notes.length c16,.int .i64 x10.1.names,.slice a17 x10.1.freed.length c19]) rfl) (Z5 lk Zu)) rfl ⟨_,⟨a11,x10.1.cells.length,c13,ZDZ,a14,x10.1.notes.length,c16,a17,x10.1.freed.length,c19,rfl,rfl⟩,hT ▸ hS.only (.c k1 (.c k1 (.c k1 .n)))⟩
theorem Zls {F wm:Nat} {h:H} {p0:Store} {p1 p2:Int} {ZM:Nat} {Zp:Option Addr} {Zo Yr:Nat} {Zn:Option Addr} {Zm Yq XA:Nat} {r:Store} (ZJ:wm <=h.size) (hO:ZO (wm:=wm) [bx wm XA [.int .i64 p0.machines,.int .i64 p0.names,.map (some ZM),.slice Zp Yr Zo,.slice Zn Yq Zm],mp wm Zl Zt (some ZM) p0.cells,ow wm Ze Zp Yr Zo p0.notes,ow wm (ZA .i64) Zn Yq Zm p0.freed] h) (hL:ZgI F p0 p1 p2=some r):
 WR XX 106 #[.pointer (some ⟨XA,0,none⟩),.int .i64 p1,.int .i64 p2] wm h (CP (fun(v:Value) (Gb:List (Ast wm))=>∃ (JF:Nat) (JJ:Option Addr) (JE:Nat) (JH:Nat) (JI:Option Addr) (JD:Nat) (JG:Nat),v= .tuple [].toArray∧Gb= [bx wm XA [.int .i64 r.machines,.int .i64 r.names,.map (some JF),.slice JJ JE JH,.slice JI JD JG],mp wm Zl Zt (some JF) r.cells,ow wm Ze JJ JE JH r.notes,ow wm (ZA .i64) JI JD JG r.freed]) [bx wm XA [.int .i64 p0.machines,.int .i64 p0.names,.map (some ZM),.slice Zp Yr Zo,.slice Zn Yq Zm],mp wm Zl Zt (some ZM) p0.cells,ow wm Ze Zp Yr Zo p0.notes,ow wm (ZA .i64) Zn Yq Zm p0.freed] h):=by
 refine bg Try.ntmps106 ZJ hO ?_;intro T hT hS;unfold ZgI at hL;obtain rfl:=hS.on k2;obtain rfl:=hS.on k3;refine r4 ?_;refine r1 ?_;obtain⟨x1,hx1,hL⟩:=bind_some hL;refine WO.cp gN rfl (YF.fn Zk9 (Zc lk (Zc lk (Zc lk Zj)))) (WR.YP rfl (Zhk (Nat.le_refl _) (hS.Qw k0) (.inl (hS.lt k0)) (hS.mrd k1) (hS.ord k2) (hS.ord k3) hx1)) ?_;refine r1 ?_;rintro _ h3 ⟨b2,eb2,rfl,hS⟩;refine r1 ?_;rintro h4 hS;refine QW ?_;refine r2 ?_;refine cn hL ?_ ?_
 ·intro hc hL;refine r2 ?_;have hr:=Option.some.inj hL;subst hr;exact ZX.gen (vs:= []) rfl Zu rfl ⟨_,⟨ZM,Zp,p0.notes.length,Zo,Zn,p0.freed.length,Zm,rfl,rfl⟩,hT ▸ hS.only (.c k1 (.c k1 (.c k1 (.c k1 .n))))⟩
 ·intro hc hL;refine r8 ?_;refine r2 ?_;refine WO.w gN rfl (Xn XY (Zk lk (Zk lk ZG)) rfl (cs':= [.int .i64 p1,.int .i64 p2]) rfl) ?_;refine WO.hw gN (ZAL (kv:=Zl) (vv:=Zt) (k:= (Zg.mk p1 p2)) hS k2 Y5 rfl Uf (Zz (ZR rfl (Zi rfl fh)) rfl) (Zz fh rfl)) ?_;rintro h5 hS;refine r8 ?_;refine r2 ?_;refine cn hL ?_ ?_
  ·intro hc hL;refine r8 ?_;refine WO.hn gN rfl (ZaO (e:= (ZA .i64)) hS Xp Yx Ud rfl rfl rfl (Zk lk ZG) rfl [((),p2)] rfl (xs:= [p2]) rfl (by intro q hq;simp only [List.mem_cons,List.not_mem_nil,or_false] at hq;subst hq;exact trivial) rfl) ?_;rintro _ h7 ⟨b6,eb6,rfl,hS⟩;obtain⟨z8,hz8,hL⟩:=bind_some hL;refine WO.hv gN rfl (KF (e:= (ZA .i64)) hS k5 Kq lk lk (hS.QI k0) (hS.on k0) hz8) ?_;rintro _ h11 ⟨a9,c10,rfl,hS⟩;refine r3 ?_;rintro h12 hS;refine r6 ?_;refine r1 ?_;obtain⟨Uq,ZgT,hL⟩:=bind_some hL;refine WO.cl gN rfl (YF.fn ZBt (Zc lk Zj)) hS (.c k1 .n) (fun g' hz hf hO=>Zyk (by rw [hz];exact hS.hw) hO ZgT) ?_;rintro _ h14 _ ⟨rfl,rfl⟩ hS;refine r2 ?_;refine ZX.Yo ?_;have hr:=Option.some.inj hL;subst hr;exact ZX.gen (vs:= []) rfl Zu rfl ⟨_,⟨ZM,Zp,p0.notes.length,Zo,a9,z8.length,c10,rfl,rfl⟩,hT ▸ hS.only (.c k1 (.c k2 (.c k3 (.c k0 .n))))⟩
  ·intro hc hL;refine r1 ?_;refine WC.Yn mixed (by kernel_rfl) ?_;refine r2 ?_;obtain⟨x16,hx16,hL⟩:=bind_some hL;refine WX.cp gN rfl (YF.fn ZtX (Zc lk Zj)) (WR.YP rfl (ZqH (Nat.le_refl _) hx16)) ?_ rfl rfl;refine WX.w gN rfl (Y3 (Zz (ZR rfl fh) rfl) (Zz fh rfl) (Zi5 (xs:= [.int .i64 x1.name,.bool x1.root,.int .i64 x1.from_,.int .i64 x1.has,.int .i64 x1.out,.bool x1.use]) (ys:= [.int .i64 x16.name,.bool x16.root,.int .i64 x16.from_,.int .i64 x16.has,.int .i64 x16.out,.bool x16.use]) (Zz4 x1 x16) rfl rfl)) ?_ rfl;refine r3 ?_;refine cn hL ?_ ?_
   ·intro hc hL;refine r6 ?_;refine r1 ?_;refine WO.w gN rfl (XQ ZgN (Zk lk (Zk lk (Zk lk (Zk lk ZG)))) rfl (cs':= [.int .i64 2,.int .i64 x1.from_,.int .i64 p2,.int .i64 0,.int .i64 x1.has]) rfl) ?_;obtain⟨x17,ZA9,hL⟩:=bind_some hL;refine WO.cl gN rfl (YF.fn Zk8 (Zc lk (Zc lk Zj))) hS (.c k2 (.c k0 (.c k1 (.c k1 .n)))) (fun g' hz hf hO=>Zhj (by rw [hz];exact hS.hw) hO ZA9) ?_;rintro _ h25 _ ⟨m18,a19,n20,c21,a22,n23,c24,rfl,rfl⟩ hS;obtain rfl:=hS.on k2;obtain rfl:=hS.on k3;refine r2 ?_;refine ZX.Yo ?_;have hr:=Option.some.inj hL;subst hr;exact ZX.gen (vs:= []) rfl Zu rfl ⟨_,⟨m18,a19,x17.notes.length,c21,a22,x17.freed.length,c24,rfl,rfl⟩,hT ▸ hS.only (.c k0 (.c k0 (.c k0 (.c k0 .n))))⟩
   ·intro hc hL;refine r2 ?_;refine ZX.Yo ?_;have hr:=Option.some.inj hL;subst hr;exact ZX.gen (vs:= []) rfl Zu rfl ⟨_,⟨ZM,Zp,p0.notes.length,Zo,Zn,p0.freed.length,Zm,rfl,rfl⟩,hT ▸ hS.only (.c k2 (.c k0 (.c k1 (.c k1 .n))))⟩
end Go.Proofs.Ytekpjgmhkkjhgaa
end
end
section
namespace Go.Proofs.Ytekpjgmhkkjhgaa
open Go.Lf
def ZfX (F:Nat) (p1:Zf):Int×Int×(List (Zg×Zb))×(List Zf)×(List Int) ->Option Store:=fun(v49,v50,v51,v53,v57)=>
 (ZgI F (Store.mk v49 v50 v51 v53 v57) p1.ZH p1.name).bind fun x61=>some x61
def Zvb (F:Nat) (p0:Store) (p1:Zf):Option Store:=
 (ZgK p0 p1.ZH p1.name).bind fun x5=>(bif(p1.kind==1) then(bif(((!x5.root) && (decide (x5.from_ < 0))) && (p1.via !=p1.ZH)) then some (Store.mk p0.machines p0.names (Xh p0.cells (Zg.mk p1.ZH p1.name) (Zb.mk x5.name x5.root p1.via p1.w x5.out true)) p0.notes p0.freed) else(bif((decide (x5.from_ >=0)) && (x5.from_==p1.via)) then some (Store.mk p0.machines p0.names (Xh p0.cells (Zg.mk p1.ZH p1.name) (Zb.mk x5.name x5.root x5.from_ (ZQ (x5.has + p1.w)) x5.out true)) p0.notes p0.freed) else(ZgJ (Store.mk p0.machines p0.names (Xh p0.cells (Zg.mk p1.ZH p1.name) (Zb.mk x5.name x5.root x5.from_ x5.has x5.out true)) p0.notes p0.freed) p1.ZH p1.name p1.via p1.w).bind fun x18=>some x18)) else(bif(p1.kind==2) then(ZgI F (Store.mk p0.machines p0.names (Xh p0.cells (Zg.mk p1.ZH p1.name) (Zb.mk x5.name x5.root x5.from_ x5.has (ZQ (x5.out - p1.w)) x5.use)) p0.notes p0.freed) p1.ZH p1.name).bind fun x30=>some x30 else(bif decide (x5.from_ >=0) then(ZgJ (Store.mk p0.machines p0.names (Xh p0.cells (Zg.mk p1.ZH p1.name) (Zb.mk x5.name true (-1) 0 (ZQ (x5.out + 16)) x5.use)) p0.notes p0.freed) p1.ZH p1.name x5.from_ x5.has).bind fun x71=>(ZfX F p1) (x71.machines,x71.names,x71.cells,x71.notes,x71.freed) else(ZfX F p1) (p0.machines,p0.names,Xh p0.cells (Zg.mk p1.ZH p1.name) (Zb.mk x5.name true (-1) 0 (ZQ (x5.out + 16)) x5.use),p0.notes,p0.freed))))
def ZfM:Zg ->Int ->Option Bool:=fun ZHD ZDu=>
 (bif decide (ZDu > 1000000) then some true else some false)
def ZaF (F:Nat):Int×Int×(List (Zg×Zb))×(List Zf)×(List Int) ->Option (PR Store):=fun(v14,v15,v16,v18,v22)=>
 (bif decide ((v18.length:Int) > 80) then some (.Jr 3) else(ZrF F (Store.mk v14 v15 v16 v18 v22)).bind fun QC=>(ZjS (ZfM) QC.1).bind fun q37=>(bif q37 then some (.Jr 3) else some (.ok (Store.mk v14 v15 v16 v18 v22))))
def Zu3 (F:Nat) (p0:Store) (p1:Zv):Option (PR Store):=
 (Znj p0 p1).bind fun x3=>prC x3 (fun e5=>some (.Jr e5)) (fun y4=>(bif(p1.Xf==1) then(ZaF F) (p0.machines,ZQ (p0.names + 1),Xh p0.cells (Zg.mk p1.at_ p0.names) (Zb.mk p0.names true (-1) 0 0 true),p0.notes,p0.freed) else(bif(p1.Xf==2) then(Zni p0 p1).bind fun x103=>(ZaF F) (x103.machines,x103.names,x103.cells,x103.notes,x103.freed) else(bif(p1.Xf==3) then(ZaB p0.cells (Zg.mk p1.at_ p1.name) (Zb.mk 0 false 0 0 0 false)).bind fun x113=>(ZgI F (Store.mk p0.machines p0.names (Xh p0.cells (Zg.mk p1.at_ p1.name) (Zb.mk x113.name x113.root x113.from_ x113.has x113.out false)) p0.notes p0.freed) p1.at_ p1.name).bind fun Zl7=>(ZaF F) (Zl7.machines,Zl7.names,Zl7.cells,Zl7.notes,Zl7.freed) else(bif(p1.Xf==4) then(ZaB p0.cells (Zg.mk p1.at_ p1.name) (Zb.mk 0 false 0 0 0 false)).bind fun Jq=>(Zat (Store.mk p0.machines p0.names (Xh p0.cells (Zg.mk p1.at_ p1.name) (Zb.mk Jq.name false p1.ZH 16 Jq.out Jq.use)) p0.notes p0.freed) (Zf.mk 3 p1.ZH p1.name 0 16)).bind fun Zl6=>(ZaF F) (Zl6.machines,Zl6.names,Zl6.cells,Zl6.notes,Zl6.freed) else(ZL p0.notes p1.at_).bind fun ZbS=>(Znh p0.notes p1.at_ (ZQ (p1.at_ + 1))).bind fun Zwz=>(Zvb F (Store.mk p0.machines p0.names p0.cells Zwz p0.freed) ZbS).bind fun Zl4=>(ZaF F) (Zl4.machines,Zl4.names,Zl4.cells,Zl4.notes,Zl4.freed))))))
end Go.Proofs.Ytekpjgmhkkjhgaa
end
section
set_option maxRecDepth 20000
noncomputable section
namespace Go.Proofs.Ytekpjgmhkkjhgaa
open Go.Yy Go.Lf
theorem ZCg {F wm:Nat} {h:H} {p0:Store} {p1:Zf} {ZM:Nat} {Zp:Option Addr} {Zo Yr:Nat} {Zn:Option Addr} {Zm Yq XA:Nat} {r:Store} (ZJ:wm <=h.size) (hO:ZO (wm:=wm) [bx wm XA [.int .i64 p0.machines,.int .i64 p0.names,.map (some ZM),.slice Zp Yr Zo,.slice Zn Yq Zm],mp wm Zl Zt (some ZM) p0.cells,ow wm Ze Zp Yr Zo p0.notes,ow wm (ZA .i64) Zn Yq Zm p0.freed] h) (hL:Zvb F p0 p1=some r):
 WR XX 66 #[.pointer (some ⟨XA,0,none⟩),.agg [.int .i64 p1.kind,.int .i64 p1.ZH,.int .i64 p1.name,.int .i64 p1.via,.int .i64 p1.w].toArray] wm h (CP (fun(v:Value) (Gb:List (Ast wm))=>∃ (JF:Nat) (JJ:Option Addr) (JE:Nat) (JH:Nat) (JI:Option Addr) (JD:Nat) (JG:Nat),v= .tuple [].toArray∧Gb= [bx wm XA [.int .i64 r.machines,.int .i64 r.names,.map (some JF),.slice JJ JE JH,.slice JI JD JG],mp wm Zl Zt (some JF) r.cells,ow wm Ze JJ JE JH r.notes,ow wm (ZA .i64) JI JD JG r.freed]) [bx wm XA [.int .i64 p0.machines,.int .i64 p0.names,.map (some ZM),.slice Zp Yr Zo,.slice Zn Yq Zm],mp wm Zl Zt (some ZM) p0.cells,ow wm Ze Zp Yr Zo p0.notes,ow wm (ZA .i64) Zn Yq Zm p0.freed] h):=by
 refine bg Try.ntmps66 ZJ hO ?_;intro T hT hS;unfold Zvb at hL;obtain rfl:=hS.on k2;obtain rfl:=hS.on k3;refine r3 ?_;rintro _ h2 ⟨b1,eb1,rfl,hS⟩;refine r1 ?_;rintro _ h4 ⟨b3,eb3,rfl,hS⟩;refine r8 ?_;refine r1 ?_;obtain⟨x5,hx5,hL⟩:=bind_some hL;refine WO.cp gN rfl (YF.fn Zk9 (Zc lk (Zc lk (Zc lk Zj)))) (WR.YP rfl (Zhk (Nat.le_refl _) (hS.Qw k2) (.inl (hS.lt k2)) (hS.mrd k3) (hS.ord k4) (hS.ord k5) hx5)) ?_;refine r1 ?_;rintro _ h7 ⟨b6,eb6,rfl,hS⟩;refine r1 ?_;rintro h8 hS;refine r4 ?_;refine WO.w gN rfl (Zgl (Zc lk (Zc lk (Zc lk Zj)))) ?_;refine r16 ?_;refine cn hL ?_ ?_
 ·intro hc hL;refine r4 ?_;rintro h9 hS;refine r16 ?_;refine r6 ?_;refine r1 ?_;refine cn hL ?_ ?_
  ·intro hc hL;refine r1 ?_;refine WC.Yn mixed (by kernel_rfl) ?_;refine r3 ?_;refine WX.wr (fun x=>x=b3) hS gN rfl (fun _ _ hR=>Zy YS (Zz fh rfl) (At.eqv (hR b3 rfl) (hS.Qw k1)) (j:=4) rfl (v:= .int .i64 p1.w) rfl) ?_ rfl rfl;rintro h10 e11 hS;refine r1 ?_;refine WX.hu gN (ZbK hS k0 Yx lk lk (vs:= [.int .i64 p1.via]) rfl rfl rfl rfl (cs':= [.int .i64 x5.name,.bool x5.root,.int .i64 p1.via,.int .i64 x5.has,.int .i64 x5.out,.bool true]) rfl) ?_ rfl rfl [3] (by kernel_rfl) (.c .z (hS.dj (.c k0 (.c k0 .n))) Yh.e);rintro h12 hS;refine WX.w gN rfl (XJ Zle lk) ?_ (by kernel_rfl);refine WX.hu gN (ZbK hS k0 Yx lk lk (vs:= [.int .i64 p1.w]) rfl rfl rfl rfl (cs':= [.int .i64 x5.name,.bool x5.root,.int .i64 p1.via,.int .i64 p1.w,.int .i64 x5.out,.bool true]) rfl) ?_ rfl (by kernel_rfl) [] (by kernel_rfl) Yh.e;rintro h13 hS;refine r4 ?_;refine WO.inl gN rfl (YF.clo (first:= []) (cap:= [.pointer (some ⟨b6,0,none⟩),.pointer (some ⟨b1,0,none⟩),.pointer (some ⟨b3,0,none⟩)]) lk Zh7 Zj rfl) (WF.begin (args:= [_,_,_]) (fn:=Try.f104) (by kernel_rfl) (by exact rfl) Try.ntmps104 (by simp) ?_);simp only [ZT,Z4,Nat.reduceAdd];refine WC.Yn mixed (by kernel_rfl) ?_;refine r8 ?_;refine WX.w gN rfl (Xn XY (Zk lk (Zk lk ZG)) rfl (cs':= [.int .i64 p1.ZH,.int .i64 p1.name]) rfl) ?_ rfl;refine r1 ?_;refine WX.hu gN (ZbZ (kv:=Zl) (vv:=Zt) (k:= (Zg.mk p1.ZH p1.name)) (v:= (Zb.mk x5.name x5.root p1.via p1.w x5.out true)) hS k4 Y5 Uf (Zz (Yb rfl (ZR rfl fh)) rfl) (Zz (Zi rfl fh) rfl) (Zz fh rfl)) ?_ rfl rfl [] (by kernel_rfl) Yh.e;rintro h14 hS;refine r1 ?_;refine ZX.Yo ?_;refine ZX.gen (vs:= []) rfl Zu rfl ?_;refine r3 ?_;refine ZX.Yo ?_;have hr:=Option.some.inj hL;subst hr;exact ZX.gen (vs:= []) rfl Zu rfl ⟨_,⟨ZM,Zp,p0.notes.length,Zo,Zn,p0.freed.length,Zm,rfl,rfl⟩,hT ▸ hS.only (.c k4 (.c k0 (.c k3 (.c k3 .n))))⟩
  ·intro hc hL;refine QW ?_;refine r3 ?_;refine cn hL ?_ ?_
   ·intro hc hL;refine r8 ?_;refine r1 ?_;rintro h15 hS;refine r4 ?_;refine WO.inl gN rfl (YF.clo (first:= []) (cap:= [.pointer (some ⟨b6,0,none⟩),.pointer (some ⟨b1,0,none⟩),.pointer (some ⟨b3,0,none⟩)]) lk Zh7 Zj rfl) (WF.begin (args:= [_,_,_]) (fn:=Try.f104) (by kernel_rfl) (by exact rfl) Try.ntmps104 (by simp) ?_);simp only [ZT,Z4,Nat.reduceAdd];refine WC.Yn mixed (by kernel_rfl) ?_;refine r8 ?_;refine WX.w gN rfl (Xn XY (Zk lk (Zk lk ZG)) rfl (cs':= [.int .i64 p1.ZH,.int .i64 p1.name]) rfl) ?_ rfl;refine r1 ?_;refine WX.hu gN (ZbZ (kv:=Zl) (vv:=Zt) (k:= (Zg.mk p1.ZH p1.name)) (v:= (Zb.mk x5.name x5.root x5.from_ (ZQ (x5.has + p1.w)) x5.out true)) hS k4 Y5 Uf (Zz (Yb rfl (ZR rfl fh)) rfl) (Zz (Zi rfl fh) rfl) (Zz fh rfl)) ?_ rfl rfl [] (by kernel_rfl) Yh.e;rintro h16 hS;refine r1 ?_;refine ZX.Yo ?_;refine ZX.gen (vs:= []) rfl Zu rfl ?_;refine r3 ?_;refine ZX.Yo ?_;have hr:=Option.some.inj hL;subst hr;exact ZX.gen (vs:= []) rfl Zu rfl ⟨_,⟨ZM,Zp,p0.notes.length,Zo,Zn,p0.freed.length,Zm,rfl,rfl⟩,hT ▸ hS.only (.c k4 (.c k0 (.c k3 (.c k3 .n))))⟩
   ·intro hc hL;refine r3 ?_;refine WO.inl gN rfl (YF.clo (first:= []) (cap:= [.pointer (some ⟨b6,0,none⟩),.pointer (some ⟨b1,0,none⟩),.pointer (some ⟨b3,0,none⟩)]) lk Zh7 Zj rfl) (WF.begin (args:= [_,_,_]) (fn:=Try.f104) (by kernel_rfl) (by exact rfl) Try.ntmps104 (by simp) ?_);simp only [ZT,Z4,Nat.reduceAdd];refine WC.Yn mixed (by kernel_rfl) ?_;refine r8 ?_;refine WX.w gN rfl (Xn XY (Zk lk (Zk lk ZG)) rfl (cs':= [.int .i64 p1.ZH,.int .i64 p1.name]) rfl) ?_ rfl;refine r1 ?_;refine WX.hu gN (ZbZ (kv:=Zl) (vv:=Zt) (k:= (Zg.mk p1.ZH p1.name)) (v:= (Zb.mk x5.name x5.root x5.from_ x5.has x5.out true)) hS k4 Y5 Uf (Zz (Yb rfl (ZR rfl fh)) rfl) (Zz (Zi rfl fh) rfl) (Zz fh rfl)) ?_ rfl rfl [] (by kernel_rfl) Yh.e;rintro h17 hS;refine r1 ?_;refine ZX.Yo ?_;refine ZX.gen (vs:= []) rfl Zu rfl ?_;refine QW ?_;obtain⟨x18,ZdQ,hL⟩:=bind_some hL;refine WO.cl gN rfl (YF.fn ZtZ (Zc lk (Zc lk (Zc lk (Zc lk (Zc lk Zj)))))) hS (.c k4 (.c k0 (.c k3 (.c k3 .n)))) (fun g' hz hf hO=>ZqK (by rw [hz];exact hS.hw) hO ZdQ) ?_;rintro _ h26 _ ⟨m19,a20,n21,c22,a23,n24,c25,rfl,rfl⟩ hS;obtain rfl:=hS.on k2;obtain rfl:=hS.on k3;refine r3 ?_;refine ZX.Yo ?_;have hr:=Option.some.inj hL;subst hr;exact ZX.gen (vs:= []) rfl Zu rfl ⟨_,⟨m19,a20,x18.notes.length,c22,a23,x18.freed.length,c25,rfl,rfl⟩,hT ▸ hS.only (.c k0 (.c k0 (.c k0 (.c k0 .n))))⟩
 ·intro hc hL;refine r6 ?_;refine cn hL ?_ ?_
  ·intro hc hL;refine r8 ?_;refine r1 ?_;rintro h28 hS;refine r4 ?_;refine r1 ?_;refine WO.inl gN rfl (YF.clo (first:= []) (cap:= [.pointer (some ⟨b6,0,none⟩),.pointer (some ⟨b1,0,none⟩),.pointer (some ⟨b3,0,none⟩)]) lk Zh7 Zj rfl) (WF.begin (args:= [_,_,_]) (fn:=Try.f104) (by kernel_rfl) (by exact rfl) Try.ntmps104 (by simp) ?_);simp only [ZT,Z4,Nat.reduceAdd];refine WC.Yn mixed (by kernel_rfl) ?_;refine r8 ?_;refine WX.w gN rfl (Xn XY (Zk lk (Zk lk ZG)) rfl (cs':= [.int .i64 p1.ZH,.int .i64 p1.name]) rfl) ?_ rfl;refine r1 ?_;refine WX.hu gN (ZbZ (kv:=Zl) (vv:=Zt) (k:= (Zg.mk p1.ZH p1.name)) (v:= (Zb.mk x5.name x5.root x5.from_ x5.has (ZQ (x5.out - p1.w)) x5.use)) hS k4 Y5 Uf (Zz (Yb rfl (ZR rfl fh)) rfl) (Zz (Zi rfl fh) rfl) (Zz fh rfl)) ?_ rfl rfl [] (by kernel_rfl) Yh.e;rintro h29 hS;refine r1 ?_;refine ZX.Yo ?_;refine ZX.gen (vs:= []) rfl Zu rfl ?_;refine r8 ?_;obtain⟨x30,ZfH,hL⟩:=bind_some hL;refine WO.cl gN rfl (YF.fn ZoY (Zc lk (Zc lk (Zc lk Zj)))) hS (.c k4 (.c k0 (.c k3 (.c k3 .n)))) (fun g' hz hf hO=>Zls (by rw [hz];exact hS.hw) hO ZfH) ?_;rintro _ h38 _ ⟨m31,a32,n33,c34,a35,n36,c37,rfl,rfl⟩ hS;obtain rfl:=hS.on k2;obtain rfl:=hS.on k3;refine r2 ?_;refine ZX.Yo ?_;have hr:=Option.some.inj hL;subst hr;exact ZX.gen (vs:= []) rfl Zu rfl ⟨_,⟨m31,a32,x30.notes.length,c34,a35,x30.freed.length,c37,rfl,rfl⟩,hT ▸ hS.only (.c k0 (.c k0 (.c k0 (.c k0 .n))))⟩
  ·intro hc hL;refine r1 ?_;refine WC.Yn mixed (by kernel_rfl) ?_;refine QW ?_;rintro h40 hS;refine r2 ?_;rintro h41 hS;refine r2 ?_;rintro h42 hS;refine r8 ?_;refine r1 ?_;rintro h43 hS;refine r4 ?_;refine r1 ?_;refine WO.inl gN rfl (YF.clo (first:= []) (cap:= [.pointer (some ⟨b6,0,none⟩),.pointer (some ⟨b1,0,none⟩),.pointer (some ⟨b3,0,none⟩)]) lk Zh7 Zj rfl) (WF.begin (args:= [_,_,_]) (fn:=Try.f104) (by kernel_rfl) (by exact rfl) Try.ntmps104 (by simp) ?_);simp only [ZT,Z4,Nat.reduceAdd];refine WC.Yn mixed (by kernel_rfl) ?_;refine r8 ?_;refine WX.w gN rfl (Xn XY (Zk lk (Zk lk ZG)) rfl (cs':= [.int .i64 p1.ZH,.int .i64 p1.name]) rfl) ?_ rfl;refine r1 ?_;refine WX.hu gN (ZbZ (kv:=Zl) (vv:=Zt) (k:= (Zg.mk p1.ZH p1.name)) (v:= (Zb.mk x5.name true (-1) 0 (ZQ (x5.out + 16)) x5.use)) hS k4 Y5 Uf (Zz (Yb rfl (ZR rfl fh)) rfl) (Zz (Zi rfl fh) rfl) (Zz fh rfl)) ?_ rfl rfl [] (by kernel_rfl) Yh.e;rintro h44 hS;refine r1 ?_;refine ZX.Yo ?_;refine ZX.gen (vs:= []) rfl Zu rfl ?_;refine r2 ?_;refine WC.Ke (r:=r) (fun(p:Int×Int×(List (Zg×Zb))×(List Zf)×(List Int)) (s:Fs)=>match p with | (v49,v50,v51,v53,v57)=>∃ (UX:Fr) (h45:H) (m52:Nat) (a54:Option Addr) (c55:Nat) (n56:Nat) (a58:Option Addr) (c59:Nat) (n60:Nat),s= ⟨UX,[],h45,none⟩∧Sp wm T h [bx wm b1 [.pointer (some ⟨XA,0,none⟩)],mp wm Zl Zt (some m52) v51,ow wm Ze a54 n56 c55 v53,ow wm (ZA .i64) a58 n60 c59 v57,bx wm XA [.int .i64 v49,.int .i64 v50,.map (some m52),.slice a54 n56 c55,.slice a58 n60 c59],bx wm b3 [.int .i64 p1.kind,.int .i64 p1.ZH,.int .i64 p1.name,.int .i64 p1.via,.int .i64 p1.w]] h45∧UX.at 2= .pointer (some ⟨b1,0,none⟩)∧UX.at 3= .pointer (some ⟨b3,0,none⟩)) (ZfX F p1) ?_ ?_
   ·clear hL hS;rintro⟨v49,v50,v51,v53,v57⟩ s hL ⟨UX,h45,m52,a54,c55,n56,a58,c59,n60,rfl,hS,e47,e48⟩;obtain rfl:=hS.on k2;obtain rfl:=hS.on k3;dsimp only [ZfX] at hL;refine r6 ?_;obtain⟨x61,Zw9,hL⟩:=bind_some hL;refine WO.cl gN rfl (YF.fn ZoY (Zc lk (Zc lk (Zc lk Zj)))) hS (.c k4 (.c k1 (.c k1 (.c k1 .n)))) (fun g' hz hf hO=>Zls (by rw [hz];exact hS.hw) hO Zw9) ?_;rintro _ h69 _ ⟨m62,a63,n64,c65,a66,n67,c68,rfl,rfl⟩ hS;obtain rfl:=hS.on k2;obtain rfl:=hS.on k3;refine r2 ?_;refine ZX.Yo ?_;have hr:=Option.some.inj hL;subst hr;exact ZX.gen (vs:= []) rfl Zu rfl ⟨_,⟨m62,a63,x61.notes.length,c65,a66,x61.freed.length,c68,rfl,rfl⟩,hT ▸ hS.only (.c k0 (.c k0 (.c k0 (.c k0 .n))))⟩
   ·skip;refine r6 ?_;refine cn hL ?_ ?_
    ·intro hc hL;refine r8 ?_;obtain⟨x71,ZIB,hL⟩:=bind_some hL;refine WO.cl gN rfl (YF.fn ZtZ (Zc lk (Zc lk (Zc lk (Zc lk (Zc lk Zj)))))) hS (.c k4 (.c k0 (.c k3 (.c k3 .n)))) (fun g' hz hf hO=>ZqK (by rw [hz];exact hS.hw) hO ZIB) ?_;rintro _ h79 _ ⟨m72,a73,n74,c75,a76,n77,c78,rfl,rfl⟩ hS;obtain rfl:=hS.on k2;obtain rfl:=hS.on k3;refine r1 ?_;exact Y7.Yo _ hL ⟨_,_,m72,a73,c75,x71.notes.length,a76,c78,x71.freed.length,rfl,hS.only (.c k6 (.c k1 (.c k1 (.c k1 (.c k0 (.c k1 .n)))))),YK⟩
    ·intro hc hL;refine r1 ?_;exact Y7.Yo _ hL ⟨_,_,ZM,Zp,Zo,p0.notes.length,Zn,Zm,p0.freed.length,rfl,hS.only (.c k3 (.c k0 (.c k3 (.c k3 (.c k2 (.c k1 .n)))))),YK⟩
theorem Zu2 {F wm:Nat} {h:H} {p0:Store} {p1:Zv} {ZM:Nat} {Zp:Option Addr} {Zo Yr:Nat} {Zn:Option Addr} {Zm Yq XA:Nat} {r:(PR Store)} (ZJ:wm <=h.size) (hO:ZO (wm:=wm) [bx wm XA [.int .i64 p0.machines,.int .i64 p0.names,.map (some ZM),.slice Zp Yr Zo,.slice Zn Yq Zm],mp wm Zl Zt (some ZM) p0.cells,ow wm Ze Zp Yr Zo p0.notes,ow wm (ZA .i64) Zn Yq Zm p0.freed] h) (hL:Zu3 F p0 p1=some r):
 WF XX 95 #[.pointer (some ⟨XA,0,none⟩),.agg [.int .i64 p1.Xf,.int .i64 p1.at_,.int .i64 p1.name,.int .i64 p1.ZH].toArray] wm h (PQ 32 (fun(r:Store) (v:Value) (Gb:List (Ast wm))=>∃ (JF:Nat) (JJ:Option Addr) (JE:Nat) (JH:Nat) (JI:Option Addr) (JD:Nat) (JG:Nat),v= .tuple [].toArray∧Gb= [bx wm XA [.int .i64 r.machines,.int .i64 r.names,.map (some JF),.slice JJ JE JH,.slice JI JD JG],mp wm Zl Zt (some JF) r.cells,ow wm Ze JJ JE JH r.notes,ow wm (ZA .i64) JI JD JG r.freed]) [bx wm XA [.int .i64 p0.machines,.int .i64 p0.names,.map (some ZM),.slice Zp Yr Zo,.slice Zn Yq Zm],mp wm Zl Zt (some ZM) p0.cells,ow wm Ze Zp Yr Zo p0.notes,ow wm (ZA .i64) Zn Yq Zm p0.freed] h r):=by
 refine WF.Zgj (args:= [_,_]) (fn:=Try.f95) (by kernel_rfl) (by exact rfl) Try.ntmps95 (by simp) ?_;simp only [ZT,Z4,Nat.reduceAdd];obtain⟨T,hT,hS⟩:∃ T,T=XG (wm:=wm) [bx wm XA [.int .i64 p0.machines,.int .i64 p0.names,.map (some ZM),.slice Zp Yr Zo,.slice Zn Yq Zm],mp wm Zl Zt (some ZM) p0.cells,ow wm Ze Zp Yr Zo p0.notes,ow wm (ZA .i64) Zn Yq Zm p0.freed]∧Sp wm T h [bx wm XA [.int .i64 p0.machines,.int .i64 p0.names,.map (some ZM),.slice Zp Yr Zo,.slice Zn Yq Zm],mp wm Zl Zt (some ZM) p0.cells,ow wm Ze Zp Yr Zo p0.notes,ow wm (ZA .i64) Zn Yq Zm p0.freed] h:= ⟨_,rfl,Sp.start ZJ hO⟩
 unfold Zu3 at hL;obtain rfl:=hS.on k2;obtain rfl:=hS.on k3;refine r3 ?_;rintro _ h2 ⟨b1,eb1,rfl,hS⟩;refine r6 ?_;obtain⟨x3,hx3,hL⟩:=bind_some hL;rcases x3 with y4 | e5
 ·skip;replace hL:=ZsN hL;refine WO.clR gN rfl (YF.fn ZtY (Zc lk (Zc lk Zj))) hS.hw (PQ.ok (ZqI (Nat.le_refl _) (hS.Qw k1) (.inl (hS.lt k1)) (hS.mrd k2) (hS.ord k3) (hS.ord k4) hx3)) ?_;rintro _ h6 _ ⟨rfl,rfl⟩ hR7;have hS:=hS.clR hR7 .n;refine r8 ?_;refine WO.w gN rfl (Xn XY (Zk lk (Zk lk ZG)) rfl (cs':= [.int .i64 p1.at_,.int .i64 p1.name]) rfl) ?_;refine r1 ?_;rintro _ h9 ⟨b8,eb8,rfl,hS⟩;refine r1 ?_;rintro h10 hS;refine r2 ?_;refine WC.Ke (r:=r) (fun(p:Int×Int×(List (Zg×Zb))×(List Zf)×(List Int)) (s:Fs)=>match p with | (v14,v15,v16,v18,v22)=>∃ (ZB0:Fr) (h11:H) (m17:Nat) (a19:Option Addr) (c20:Nat) (n21:Nat) (a23:Option Addr) (c24:Nat) (n25:Nat),s= ⟨ZB0,[],h11,none⟩∧Sp wm T h [mp wm Zl Zt (some m17) v16,ow wm Ze a19 n21 c20 v18,ow wm (ZA .i64) a23 n25 c24 v22,bx wm XA [.int .i64 v14,.int .i64 v15,.map (some m17),.slice a19 n21 c20,.slice a23 n25 c24]] h11∧ZB0.at 0= .pointer (some ⟨XA,0,none⟩)) (ZaF F) ?_ ?_
  ·clear hL hS;rintro⟨v14,v15,v16,v18,v22⟩ s hL ⟨ZB0,h11,m17,a19,c20,n21,a23,c24,n25,rfl,hS,e13⟩;obtain rfl:=hS.on k1;obtain rfl:=hS.on k2;dsimp only [ZaF] at hL;refine r8 ?_;refine r3 ?_;refine cn hL ?_ ?_
   ·intro hc hL;refine r1 ?_;refine WO.w gN rfl (Zgk lk (by kernel_rfl)) ?_;refine WO.pnc gN lk ?_;refine QD.panic ?_;refine X0.ofX ?_;refine Zbc.Jr ?_;have hr:=Option.some.inj hL;subst hr;exact⟨rfl,hT ▸ hS.only .n⟩
   ·intro hc hL;refine r4 ?_;refine r1 ?_;obtain⟨QC,ZfI,hL⟩:=bind_some hL;refine WO.clR gN rfl (YF.fn ZzF (Zc lk Zj)) hS.hw (Zva (Nat.le_refl _) (hS.Qw k3) (.inl (hS.lt k3)) (hS.mrd k0) (hS.ord k1) (hS.ord k2) ZfI) ?_;rintro _ h29 _ ⟨m27,m28,rfl,rfl⟩ ZJh;have hS:=hS.clR ZJh (.c (cvM hS.hw) (.c (cvM hS.hw) .n));refine r8 ?_;refine r2 ?_;refine WO.rng gN rfl hS U0 lk (hS.get k0).at_ ?_;rintro h36 b31 ZO0 ZMa hS ZIV ZI9;refine r3 ?_;obtain⟨q37,ZIP,hL⟩:=bind_some hL;refine WC.loop (WL.ZH9 [11,137,138,139,140,141,142,143] (pv 32 3) ZIP hS k0 fh ZIV ZI9 rfl rfl rfl rfl rfl rfl rfl rfl ?_ ?_ ?_)
    ·clear hL hS;rintro⟨ZHD,ZDu⟩ p40 hL h41 U9 Zdg hS ZJt;dsimp only [ZfM] at hL;have e45:=Zdg.at (t:=0) rfl (Ya rfl (Yb rfl (ZR rfl (Zi rfl e13))));have e46:=Zdg.at (t:=123) rfl (Ya rfl (Yb rfl (ZR rfl fh)));have e47:=Zdg.at (t:=124) rfl (Ya rfl (Yb rfl (Zi rfl fh)));have e48:=Zdg.at (t:=125) rfl (Ya rfl (Yb rfl fh));have e49:=Zdg.at (t:=126) rfl (Ya rfl (ZR rfl (Zi rfl fh)));have e50:=Zdg.at (t:=127) rfl (Ya rfl (ZR rfl fh));have e51:=Zdg.at (t:=128) rfl (Ya rfl (Zi rfl fh));have e52:=Zdg.at (t:=131) rfl (Ya rfl fh);have e53:=Zdg.at (t:=132) rfl (Yb rfl (ZR rfl (Zi rfl fh)));have e54:=Zdg.at (t:=130) rfl (Yb rfl (ZR rfl fh));have e55:=Zdg.at (t:=133) rfl (Yb rfl (Zi rfl fh));have e56:=Zdg.at (t:=134) rfl (Yb rfl fh);have e57:=Zdg.at (t:=8) rfl (ZR rfl (Zi rfl fh));have e58:=Zdg.at (t:=9) rfl (ZR rfl fh);have e59:=Zdg.at (t:=135) rfl (Zi rfl fh);have e60:=Zdg.at (t:=136) rfl fh;refine r4 ?_;refine WC.Zpt lk rfl ?_;refine r4 ?_;refine r1 ?_;refine WO.w gN rfl (ZvR lk ZJt) ?_;refine r8 ?_;refine r2 ?_;refine cn hL ?_ ?_
     ·intro hc hL;refine r1 ?_;refine WO.w gN rfl (Zgk lk (by kernel_rfl)) ?_;refine WO.pnc gN lk ?_;refine Wx.panic ?_;have hp:=Option.some.inj hL;subst hp;exact ZpQ.panic (.s rfl (.s rfl (.s rfl (.s rfl (.s rfl (.s rfl (.s rfl (.s rfl .z))))))))
     ·intro hc hL;refine r2 ?_;have hp:=Option.some.inj hL;subst hp;exact ZpQ.Yo (.s rfl (.s rfl (.s rfl (.s rfl (.s rfl (.s rfl (.s rfl .z)))))))
    ·intro ZIO h62 ZOi Zdf hS;replace hL:=WZ ZIO hL;have e65:=Zdf.at (t:=0) rfl (Ya rfl (Yb rfl (ZR rfl (Zi rfl e13))));have e66:=Zdf.at (t:=123) rfl (Ya rfl (Yb rfl (ZR rfl fh)));have e67:=Zdf.at (t:=124) rfl (Ya rfl (Yb rfl (Zi rfl fh)));have e68:=Zdf.at (t:=125) rfl (Ya rfl (Yb rfl fh));have e69:=Zdf.at (t:=126) rfl (Ya rfl (ZR rfl (Zi rfl fh)));have e70:=Zdf.at (t:=127) rfl (Ya rfl (ZR rfl fh));have e71:=Zdf.at (t:=128) rfl (Ya rfl (Zi rfl fh));have e72:=Zdf.at (t:=131) rfl (Ya rfl fh);have e73:=Zdf.at (t:=132) rfl (Yb rfl (ZR rfl (Zi rfl fh)));have e74:=Zdf.at (t:=130) rfl (Yb rfl (ZR rfl fh));have e75:=Zdf.at (t:=133) rfl (Yb rfl (Zi rfl fh));have e76:=Zdf.at (t:=134) rfl (Yb rfl fh);have e77:=Zdf.at (t:=8) rfl (ZR rfl (Zi rfl fh));have e78:=Zdf.at (t:=9) rfl (ZR rfl fh);have e79:=Zdf.at (t:=135) rfl (Zi rfl fh);have e80:=Zdf.at (t:=136) rfl fh;refine r4 ?_;refine WC.Zgc lk rfl ?_;refine r2 ?_;refine Zy1.exit ?_;refine r1 ?_;refine X0.Yo ?_;have hr:=Option.some.inj hL;subst hr;exact X0.ZuO rfl Zu rfl ⟨_,⟨m17,a19,v18.length,c20,a23,v22.length,c24,rfl,rfl⟩,hT ▸ hS.only (.c k5 (.c k2 (.c k2 (.c k2 .n))))⟩
    ·intro ZIN h82 ZOh Zde hS;replace hL:=WY ZIN hL;have e85:=Zde.at (t:=0) rfl (Ya rfl (Yb rfl (ZR rfl (Zi rfl e13))));have e86:=Zde.at (t:=123) rfl (Ya rfl (Yb rfl (ZR rfl fh)));have e87:=Zde.at (t:=124) rfl (Ya rfl (Yb rfl (Zi rfl fh)));have e88:=Zde.at (t:=125) rfl (Ya rfl (Yb rfl fh));have e89:=Zde.at (t:=126) rfl (Ya rfl (ZR rfl (Zi rfl fh)));have e90:=Zde.at (t:=127) rfl (Ya rfl (ZR rfl fh));have e91:=Zde.at (t:=128) rfl (Ya rfl (Zi rfl fh));have e92:=Zde.at (t:=131) rfl (Ya rfl fh);have e93:=Zde.at (t:=132) rfl (Yb rfl (ZR rfl (Zi rfl fh)));have e94:=Zde.at (t:=130) rfl (Yb rfl (ZR rfl fh));have e95:=Zde.at (t:=133) rfl (Yb rfl (Zi rfl fh));have e96:=Zde.at (t:=134) rfl (Yb rfl fh);have e97:=Zde.at (t:=8) rfl (ZR rfl (Zi rfl fh));have e98:=Zde.at (t:=9) rfl (ZR rfl fh);have e99:=Zde.at (t:=135) rfl (Zi rfl fh);have e100:=Zde.at (t:=136) rfl fh;refine Wx.panic ?_;refine X0.ofX ?_;refine Zbc.Jr ?_;have hr:=Option.some.inj hL;subst hr;exact⟨rfl,hT ▸ hS.only .n⟩
  ·skip;refine QW ?_;refine r1 ?_;refine cn hL ?_ ?_
   ·intro hc hL;refine r1 ?_;refine WC.Yn mixed (by kernel_rfl) ?_;refine r8 ?_;refine r2 ?_;refine WX.w gN rfl (Xn XY (Zk lk (Zk lk ZG)) rfl (cs':= [.int .i64 p1.at_,.int .i64 p0.names]) rfl) ?_ rfl;refine r4 ?_;refine WX.w gN rfl (XQ ZnL (Zk lk (Zk lk (Zk lk (Zk lk ZG)))) rfl (cs':= [.int .i64 p0.names,.bool true,.int .i64 (-1),.int .i64 0,.int .i64 0,.bool true]) rfl) ?_ rfl;refine WX.hu gN (ZbZ (kv:=Zl) (vv:=Zt) (k:= (Zg.mk p1.at_ p0.names)) (v:= (Zb.mk p0.names true (-1) 0 0 true)) hS k3 Y5 Uf (Zz (Ya rfl (Yb rfl fh)) rfl) (Zz (Yb rfl (Zi rfl fh)) rfl) (Zz fh rfl)) ?_ rfl rfl [] (by kernel_rfl) Yh.e;rintro ZJJ hS;refine r8 ?_;refine r3 ?_;rintro ZGk hS;refine r2 ?_;exact Y7.Yo _ hL ⟨_,_,ZM,Zp,Zo,p0.notes.length,Zn,Zm,p0.freed.length,rfl,hS.only (.c k1 (.c k3 (.c k3 (.c k0 .n)))),YK⟩
   ·intro hc hL;refine r6 ?_;refine cn hL ?_ ?_
    ·intro hc hL;refine r3 ?_;obtain⟨x103,Ztw,hL⟩:=bind_some hL;refine WO.cl gN rfl (YF.fn ZBv (Zc lk (Zc lk Zj))) hS (.c k2 (.c k2 (.c k2 (.c k2 .n)))) (fun g' hz hf hO=>Zym (by rw [hz];exact hS.hw) hO Ztw) ?_;rintro _ ZJG _ ⟨ZIe,a105,n106,c107,ZKu,n109,ZKa,rfl,rfl⟩ hS;obtain rfl:=hS.on k2;obtain rfl:=hS.on k3;refine r2 ?_;exact Y7.Yo _ hL ⟨_,_,ZIe,a105,c107,x103.notes.length,ZKu,ZKa,x103.freed.length,rfl,hS.only (.c k1 (.c k1 (.c k1 (.c k0 .n)))),YK⟩
    ·intro hc hL;refine r6 ?_;refine cn hL ?_ ?_
     ·intro hc hL;refine r1 ?_;refine WC.Yn mixed (by kernel_rfl) ?_;refine r4 ?_;refine r1 ?_;obtain⟨x113,hx113,hL⟩:=bind_some hL;refine WX.w gN rfl (Zda (kv:=Zl) (vv:=Zt) (k:= (Zg.mk p1.at_ p1.name)) (z:= (Zb.mk 0 false 0 0 0 false)) Y5 Uf QF (Zz (Zi rfl fh) rfl) (Zz fh rfl) (hS.get k3).at_ hx113 (w:= .agg [.int .i64 x113.name,.bool x113.root,.int .i64 x113.from_,.int .i64 x113.has,.int .i64 x113.out,.bool x113.use].toArray) rfl) ?_ rfl;refine WX.hn gN rfl (ZhE hS QF (vs:= [.int .i64 0,.bool false,.int .i64 0,.int .i64 0,.int .i64 0,.bool false]) rfl) ?_ rfl;rintro _ ZN9 ⟨ZPm,ZL1,rfl,hS⟩;refine WX.hu gN (ZbK hS k0 ZW lk lk (vs:= [.int .i64 x113.name,.bool x113.root,.int .i64 x113.from_,.int .i64 x113.has,.int .i64 x113.out,.bool x113.use]) rfl rfl rfl rfl (cs':= [.int .i64 x113.name,.bool x113.root,.int .i64 x113.from_,.int .i64 x113.has,.int .i64 x113.out,.bool x113.use]) rfl) ?_ rfl rfl [] (by kernel_rfl) Yh.e;rintro h116 hS;refine r6 ?_;rintro ZN8 hS;refine r3 ?_;refine WC.Yn mixed (by kernel_rfl) ?_;refine r6 ?_;refine WX.hu gN (ZbZ (kv:=Zl) (vv:=Zt) (k:= (Zg.mk p1.at_ p1.name)) (v:= (Zb.mk x113.name x113.root x113.from_ x113.has x113.out false)) hS k4 Y5 Uf (Zz (ZR rfl fh) rfl) (Zz (Zi rfl fh) rfl) (Zz fh rfl)) ?_ rfl rfl [] (by kernel_rfl) Yh.e;rintro ZN7 hS;refine r8 ?_;obtain⟨Zl7,ZEp,hL⟩:=bind_some hL;refine WO.cl gN rfl (YF.fn ZoY (Zc lk (Zc lk (Zc lk Zj)))) hS (.c k4 (.c k0 (.c k3 (.c k3 .n)))) (fun g' hz hf hO=>Zls (by rw [hz];exact hS.hw) hO ZEp) ?_;rintro _ h127 _ ⟨ZId,ZKs,n122,ZJ8,a124,n125,ZJ7,rfl,rfl⟩ hS;obtain rfl:=hS.on k2;obtain rfl:=hS.on k3;refine r2 ?_;exact Y7.Yo _ hL ⟨_,_,ZId,ZKs,ZJ8,Zl7.notes.length,a124,ZJ7,Zl7.freed.length,rfl,hS.only (.c k1 (.c k1 (.c k1 (.c k0 .n)))),YK⟩
     ·intro hc hL;refine r6 ?_;refine cn hL ?_ ?_
      ·intro hc hL;refine r1 ?_;refine WC.Yn mixed (by kernel_rfl) ?_;refine r4 ?_;refine r1 ?_;obtain⟨Jq,ZEo,hL⟩:=bind_some hL;refine WX.w gN rfl (Zda (kv:=Zl) (vv:=Zt) (k:= (Zg.mk p1.at_ p1.name)) (z:= (Zb.mk 0 false 0 0 0 false)) Y5 Uf QF (Zz (Zi rfl fh) rfl) (Zz fh rfl) (hS.get k3).at_ ZEo (w:= .agg [.int .i64 Jq.name,.bool Jq.root,.int .i64 Jq.from_,.int .i64 Jq.has,.int .i64 Jq.out,.bool Jq.use].toArray) rfl) ?_ rfl;refine WX.hn gN rfl (ZhE hS QF (vs:= [.int .i64 0,.bool false,.int .i64 0,.int .i64 0,.int .i64 0,.bool false]) rfl) ?_ rfl;rintro _ ZN6 ⟨ZPi,ZL0,rfl,hS⟩;refine WX.hu gN (ZbK hS k0 ZW lk lk (vs:= [.int .i64 Jq.name,.bool Jq.root,.int .i64 Jq.from_,.int .i64 Jq.has,.int .i64 Jq.out,.bool Jq.use]) rfl rfl rfl rfl (cs':= [.int .i64 Jq.name,.bool Jq.root,.int .i64 Jq.from_,.int .i64 Jq.has,.int .i64 Jq.out,.bool Jq.use]) rfl) ?_ rfl rfl [] (by kernel_rfl) Yh.e;rintro ZN5 hS;refine r3 ?_;refine WC.Yn mixed (by kernel_rfl) ?_;refine r1 ?_;refine WX.wr (fun x=>x=b1) hS gN rfl (fun _ _ hR=>Zy YS (Zz fh rfl) (At.eqv (hR b1 rfl) (hS.Qw k2)) (j:=3) rfl (v:= .int .i64 p1.ZH) rfl) ?_ rfl rfl;rintro ZN4 ZOO hS;refine r1 ?_;refine WX.hu gN (ZbK hS k0 Zp0 lk lk (vs:= [.bool false]) rfl rfl rfl rfl (cs':= [.int .i64 Jq.name,.bool false,.int .i64 Jq.from_,.int .i64 Jq.has,.int .i64 Jq.out,.bool Jq.use]) rfl) ?_ rfl rfl [1] (by kernel_rfl) (.c .z (hS.dj (.c k0 (.c k1 .n))) Yh.e);rintro ZN2 hS;refine WX.w gN rfl (XJ Zqv lk) ?_ (by kernel_rfl);refine WX.hu gN (ZbK hS k0 Yx lk lk (vs:= [.int .i64 p1.ZH]) rfl rfl rfl rfl (cs':= [.int .i64 Jq.name,.bool false,.int .i64 p1.ZH,.int .i64 Jq.has,.int .i64 Jq.out,.bool Jq.use]) rfl) ?_ rfl (by kernel_rfl) [] (by kernel_rfl) Yh.e;rintro ZN1 hS;refine WX.w gN rfl (XJ Zle lk) ?_ (by kernel_rfl);refine WX.hu gN (ZbK hS k0 Yx lk lk (vs:= [.int .i64 16]) rfl rfl rfl rfl (cs':= [.int .i64 Jq.name,.bool false,.int .i64 p1.ZH,.int .i64 16,.int .i64 Jq.out,.bool Jq.use]) rfl) ?_ rfl (by kernel_rfl) [] (by kernel_rfl) Yh.e;rintro ZN0 hS;refine r3 ?_;refine WC.Yn mixed (by kernel_rfl) ?_;refine r6 ?_;refine WX.hu gN (ZbZ (kv:=Zl) (vv:=Zt) (k:= (Zg.mk p1.at_ p1.name)) (v:= (Zb.mk Jq.name false p1.ZH 16 Jq.out Jq.use)) hS k4 Y5 Uf (Zz (ZR rfl fh) rfl) (Zz (Zi rfl fh) rfl) (Zz fh rfl)) ?_ rfl rfl [] (by kernel_rfl) Yh.e;rintro ZNZ hS;refine r8 ?_;refine WO.w gN rfl (XQ ZgN (Zk lk (Zk lk (Zk lk (Zk lk ZG)))) rfl (cs':= [.int .i64 3,.int .i64 p1.ZH,.int .i64 p1.name,.int .i64 0,.int .i64 16]) rfl) ?_;obtain⟨Zl6,ZEn,hL⟩:=bind_some hL;refine WO.cl gN rfl (YF.fn Zk8 (Zc lk (Zc lk Zj))) hS (.c k4 (.c k0 (.c k3 (.c k3 .n)))) (fun g' hz hf hO=>Zhj (by rw [hz];exact hS.hw) hO ZEn) ?_;rintro _ ZJE _ ⟨ZIc,a141,n142,c143,Zwf,n145,c146,rfl,rfl⟩ hS;obtain rfl:=hS.on k2;obtain rfl:=hS.on k3;refine r2 ?_;exact Y7.Yo _ hL ⟨_,_,ZIc,a141,c143,Zl6.notes.length,Zwf,c146,Zl6.freed.length,rfl,hS.only (.c k1 (.c k1 (.c k1 (.c k0 .n)))),YK⟩
      ·intro hc hL;refine r1 ?_;refine WC.Yn mixed (by kernel_rfl) ?_;refine r6 ?_;obtain⟨ZbS,Zzp,hL⟩:=bind_some hL;obtain⟨ZPe,ZM2,_,ZBF,ZBO,ZJo⟩:=Src.at_ (hS.QI k4) Zzp;refine WX.w gN rfl (Zx QV YV lk lk rfl ZBF Zzp) ?_ rfl;refine WX.w gN rfl (Ql ZbJ YV (Zz fh rfl) ZBO (j:=0) rfl rfl (ws:= [.int .i64 ZbS.kind,.int .i64 ZbS.ZH,.int .i64 ZbS.name,.int .i64 ZbS.via,.int .i64 ZbS.w]) rfl) ?_ rfl;refine WX.hn gN rfl (ZhE hS KT (vs:= [.int .i64 0,.int .i64 0,.int .i64 0,.int .i64 0,.int .i64 0]) rfl) ?_ rfl;rintro _ ZNY ⟨ZKl,ZLZ,rfl,hS⟩;refine WX.hu gN (ZbK hS k0 YV lk lk (vs:= [.int .i64 ZbS.kind,.int .i64 ZbS.ZH,.int .i64 ZbS.name,.int .i64 ZbS.via,.int .i64 ZbS.w]) rfl rfl rfl rfl (cs':= [.int .i64 ZbS.kind,.int .i64 ZbS.ZH,.int .i64 ZbS.name,.int .i64 ZbS.via,.int .i64 ZbS.w]) rfl) ?_ rfl rfl [] (by kernel_rfl) Yh.e;rintro ZNX hS;refine r3 ?_;refine WC.Yn mixed (by kernel_rfl) ?_;refine r8 ?_;refine r2 ?_;obtain⟨Zwz,ZEl,hL⟩:=bind_some hL;refine WX.cl gN rfl (YF.fn ZBu (Zc lk (Zc lk (Zc lk Zj)))) hS (.c k5 .n) (fun g' hz hf hO=>Zyl (by rw [hz];exact hS.hw) hO ZEl) ?_ rfl rfl [] (by kernel_rfl) Yh.e;rintro _ ZJD _ ⟨a156,n157,ZGG,rfl,rfl⟩ hS;obtain rfl:=hS.on k0;refine WX.w gN rfl (Zpy lk) ?_ (by kernel_rfl);refine WX.w gN rfl (XJ Zld lk) ?_ (by kernel_rfl);refine WX.hu gN (ZbK hS k4 Zoi lk lk (vs:= [.slice a156 Zwz.length ZGG]) rfl rfl rfl rfl (cs':= [.int .i64 p0.machines,.int .i64 p0.names,.map (some ZM),.slice a156 Zwz.length ZGG,.slice Zn p0.freed.length Zm]) rfl) ?_ rfl (by kernel_rfl) [] (by kernel_rfl) Yh.e;rintro ZNU hS;refine r4 ?_;refine r1 ?_;obtain⟨Zl4,ZEk,hL⟩:=bind_some hL;refine WO.cl gN rfl (YF.fn ZE1 (Zc lk (Zc lk Zj))) hS (.c k0 (.c k4 (.c k0 (.c k3 .n)))) (fun g' hz hf hO=>ZCg (by rw [hz];exact hS.hw) hO ZEk) ?_;rintro _ ZGj _ ⟨ZIb,a164,n165,ZCQ,a167,n168,ZCP,rfl,rfl⟩ hS;obtain rfl:=hS.on k2;obtain rfl:=hS.on k3;refine r2 ?_;exact Y7.Yo _ hL ⟨_,_,ZIb,a164,ZCQ,Zl4.notes.length,a167,ZCP,Zl4.freed.length,rfl,hS.only (.c k1 (.c k1 (.c k1 (.c k0 .n)))),YK⟩
 ·skip;replace hL:=Zp8 hL;refine WO.ZJ2 gN (YF.fn ZtY (Zc lk (Zc lk Zj))) hS.hw hS (ZqI (Nat.le_refl _) (hS.Qw k1) (.inl (hS.lt k1)) (hS.mrd k2) (hS.ord k3) (hS.ord k4) hx3) ?_;rintro ZJC hS;refine QD.panic ?_;refine X0.ofX ?_;refine Zbc.Jr ?_;have hr:=Option.some.inj hL;subst hr;exact⟨rfl,hT ▸ hS.only .n⟩
end Go.Proofs.Ytekpjgmhkkjhgaa
end
end
section
namespace Go.Proofs.Ytekpjgmhkkjhgaa
open Go.Lf
def ZrI (F:Nat) (p0:Store) (p1:Zv):Option ((Option Store)×Int):=
 (Zu4 F p0).bind fun x7=>(Zu3 F x7 p1).bind fun x19=>prC x19 (fun e21=>some (none,e21)) (fun y20=>some ((some y20),0))
end Go.Proofs.Ytekpjgmhkkjhgaa
end
section
set_option maxRecDepth 20000
noncomputable section
namespace Go.Proofs.Ytekpjgmhkkjhgaa
open Go.Yy Go.Lf
theorem Zvf {F wm:Nat} {h:H} {p0:Store} {p1:Zv} {ZM:Option Nat} {Zp:Option Addr} {Zo:Nat} {Zn:Option Addr} {Zm XA UW:Nat} {r:((Option Store)×Int)} (ZJ:wm <=h.size) (Xe:At h XA UW [.int .i64 p0.machines,.int .i64 p0.names,.map ZM,.slice Zp p0.notes.length Zo,.slice Zn p0.freed.length Zm]) (Xd:Stb wm h XA) (Zw:UC Zl Zt wm h ZM p0.cells) (ZF:Sl Ze wm h Zp Zo p0.notes) (ZC:Sl (ZA .i64) wm h Zn Zm p0.freed) (hL:ZrI F p0 p1=some r):
 WR XX 57 #[.pointer (some ⟨XA,UW,none⟩),.agg [.int .i64 p1.Xf,.int .i64 p1.at_,.int .i64 p1.name,.int .i64 p1.ZH].toArray] wm h (CP (fun(v:Value) (Gb:List (Ast wm))=>match r.1 with | some y=>∃ (rb0:Nat) (Zb0:Nat) (Y2:Option Addr) (YX:Nat) (Y0:Nat) (Y1:Option Addr) (YW:Nat) (YZ:Nat),v= .tuple [.pointer (some ⟨rb0,0,none⟩),.int .i64 r.2].toArray∧Gb= [bx wm rb0 [.int .i64 y.machines,.int .i64 y.names,.map (some Zb0),.slice Y2 YX Y0,.slice Y1 YW YZ],mp wm Zl Zt (some Zb0) y.cells,ow wm Ze Y2 YX Y0 y.notes,ow wm (ZA .i64) Y1 YW YZ y.freed] | none=>v= .tuple [.pointer none,.int .i64 r.2].toArray∧Gb= []) [] h):=by
 refine WF.Zgj (args:= [_,_]) (fn:=Try.f57) (by kernel_rfl) (by exact rfl) Try.ntmps57 (by simp) ?_;simp only [ZT,Z4,Nat.reduceAdd];obtain⟨T,hT,hS⟩:∃ T,T=XG (wm:=wm) []∧Sp wm T h [] h:= ⟨_,rfl,Sp.start ZJ ZO.nil⟩
 unfold ZrI at hL;refine r3 ?_;rintro _ h2 ⟨b1,eb1,rfl,hS⟩;refine r1 ?_;rintro _ h4 ⟨b3,eb3,rfl,hS⟩;refine r1 ?_;rintro _ h6 ⟨b5,eb5,rfl,hS⟩;refine r4 ?_;refine WO.w gN rfl (Zgl (Zc lk (Zc lk Zj))) ?_;refine WO.dfr gN lk ?_;refine r4 ?_;refine r1 ?_;obtain⟨x7,hx7,hL⟩:=bind_some hL;refine WO.cl gN rfl (YF.fn ZEU (Zc lk Zj)) hS .n (fun g' hz hf hO=>ZB5 (by rw [hz];exact hS.hw) (At.fz hf (Stb.fz hS.fz Xe Xd) (At.fz hS.fz Xd Xe)) (Stb.fz hf (At.fz hS.fz Xd Xe) (Stb.fz hS.fz Xe Xd)) ((hS.ms Zw).fz hf) ((hS.sl ZF).mono hf) ((hS.sl ZC).mono hf) hx7) ?_;rintro _ h16 _ ⟨b8,m9,a10,n11,c12,a13,n14,c15,rfl,rfl⟩ hS;obtain rfl:=hS.on k2;obtain rfl:=hS.on k3;refine r1 ?_;rintro h18 hS;refine r6 ?_;obtain⟨x19,Zjn,hL⟩:=bind_some hL;rcases x19 with y20 | e21
 ·skip;replace hL:=ZsN hL;refine WO.cl gN rfl (YF.fn ZzC (Zc lk (Zc lk Zj))) hS (.c k1 (.c k1 (.c k1 (.c k1 .n)))) (fun g' hz hf hO=>(PQ.ok (Zu2 (by rw [hz];exact hS.hw) hO Zjn))) ?_;rintro _ h29 _ ⟨m22,a23,n24,c25,a26,n27,c28,rfl,rfl⟩ hS;obtain rfl:=hS.on k2;obtain rfl:=hS.on k3;refine r6 ?_;rintro h31 hS;refine r1 ?_;rintro h32 hS;refine r3 ?_;refine X0.ofP ?_;refine Zbc.dfn (cap:= [.pointer (some ⟨b3,0,none⟩),.pointer (some ⟨b5,0,none⟩)]) (fn2:=Try.f93) (by kernel_rfl) (by exact rfl) Try.ntmps93 (by simp) rfl ?_;simp only [ZT,Z4,Nat.reduceAdd];refine DC.seq ?_;refine DC.rec .ret (Tr.set (Tr.set (Tr.set (Tr.set (Tr.set (Tr.set (Tr.set (Tr.set (Tr.set .nil 0 (.pointer (some ⟨b3,0,none⟩))) 1 (.pointer (some ⟨b5,0,none⟩))) 5 (.nilIface)) 6 (.tuple [.int .i64 0,.bool false].toArray)) 4 (.tuple [.int .i64 0,.bool false].toArray)) 7 (.int .i64 0)) 8 (.bool false)) 2 (.int .i64 0)) 3 (.bool false)) (by exact rfl) rfl ?_;refine⟨rfl,?_⟩;refine DC.seq ?_;refine DC.rgn rfl ?_;refine r3 ?_;refine⟨rfl,?_⟩;refine DC.ZvD lk rfl ?_;refine DC.skip ?_;refine⟨rfl,rfl,?_⟩;refine Zbc.ofL ?_ rfl;have hr:=Option.some.inj hL;subst hr;exact X0.gen rfl (ZP (Ya rfl fh) (KR Zv3 (hS.Qw k1) (j:=0) rfl (v:= .pointer (some ⟨b8,0,none⟩)) rfl) (ZP (Yb rfl (ZR rfl (Zi rfl fh))) (KR Zv4 (hS.Qw k0) (j:=0) rfl (v:= .int .i64 0) rfl) Zu)) rfl ⟨_,⟨b8,m22,a23,y20.notes.length,c25,a26,y20.freed.length,c28,rfl,rfl⟩,hT ▸ hS.only (.c k2 (.c k2 (.c k2 (.c k2 .n))))⟩
 ·skip;replace hL:=Zp8 hL;refine WO.clX gN (YF.fn ZzC (Zc lk (Zc lk Zj))) hS (.c k1 (.c k1 (.c k1 (.c k1 .n)))) (fun g' hz hf hO=>Zu2 (by rw [hz];exact hS.hw) hO Zjn) ?_;rintro h33 hS;refine QD.panic ?_;refine X0.ofX ?_;refine Zbc.dfn (cap:= [.pointer (some ⟨b3,0,none⟩),.pointer (some ⟨b5,0,none⟩)]) (fn2:=Try.f93) (by kernel_rfl) (by exact rfl) Try.ntmps93 (by simp) rfl ?_;simp only [ZT,Z4,Nat.reduceAdd];refine DC.seq ?_;refine DC.rec (.rcv (pv 32 e21)) (Tr.set (Tr.set (Tr.set (Tr.set (Tr.set (Tr.set (Tr.set (Tr.set (Tr.set .nil 0 (.pointer (some ⟨b3,0,none⟩))) 1 (.pointer (some ⟨b5,0,none⟩))) 5 (.iface 32 (.int .i64 e21))) 6 (.tuple [.int .i64 e21,.bool true].toArray)) 4 (.tuple [.int .i64 e21,.bool true].toArray)) 7 (.int .i64 e21)) 8 (.bool true)) 2 (.int .i64 e21)) 3 (.bool true)) (by exact rfl) rfl ?_;refine⟨rfl,?_⟩;refine DC.seq ?_;refine DC.rgn rfl ?_;refine r3 ?_;refine⟨rfl,?_⟩;refine DC.ZvC lk rfl ?_;refine DC.rgn rfl ?_;refine r3 ?_;rintro h34 hS;refine r1 ?_;rintro h35 hS;refine r1 ?_;refine⟨rfl,rfl,?_⟩;refine Zbc.ofL ?_ rfl;have hr:=Option.some.inj hL;subst hr;exact X0.gen rfl (ZP (Yb rfl (ZR rfl fh)) (KR Zv3 (hS.Qw k1) (j:=0) rfl (v:= .pointer none) rfl) (ZP (Yb rfl (Zi rfl fh)) (KR Zv4 (hS.Qw k0) (j:=0) rfl (v:= .int .i64 e21) rfl) Zu)) rfl ⟨_,⟨rfl,rfl⟩,hT ▸ hS.only .n⟩
end Go.Proofs.Ytekpjgmhkkjhgaa
end
end
section
namespace Go.Proofs.Ytekpjgmhkkjhgaa
open Go.Lf
def Zvk (F:Nat) (p0:Za) (p1:Zv):Option (Za×Int):=
 (Zvg F p0).bind fun x7=>(gd (!(!x7)) (ZrJ p1 (p0.cells.length:Int)) default).bind fun x8=>(bif((!x7) || (!x8)) then some ((Za.mk [] [] 0 []),2) else(Zjs F p0).bind fun x10=>(ZrI F x10 p1).bind fun x21=>opt x21.1 ((bif(x21.2 !=0) then some ((Za.mk [] [] 0 []),x21.2) else none)) (fun y22=>(bif(x21.2 !=0) then some ((Za.mk [] [] 0 []),x21.2) else(Zne F y22).bind fun x44=>some (x44,0))))
end Go.Proofs.Ytekpjgmhkkjhgaa
end
section
set_option maxRecDepth 20000
noncomputable section
namespace Go.Proofs.Ytekpjgmhkkjhgaa
open Go.Yy Go.Lf
theorem ZCy {F wm:Nat} {h:H} {p0:Za} {p1:Zv} {Zr:Option Addr} {Zq:Nat} {Zp:Option Addr} {Zo:Nat} {Zn:Option Addr} {Zm:Nat} {r:(Za×Int)} (ZJ:wm <=h.size) (Zw:Sl (rSl Zd) wm h Zr Zq p0.cells) (ZF:Sl Ze wm h Zp Zo p0.notes) (ZC:Sl (ZA .i64) wm h Zn Zm p0.freed) (hL:Zvk F p0 p1=some r):
 WR XX 17 #[.agg [.slice Zr p0.cells.length Zq,.slice Zp p0.notes.length Zo,.int .i64 p0.names,.slice Zn p0.freed.length Zm].toArray,.agg [.int .i64 p1.Xf,.int .i64 p1.at_,.int .i64 p1.name,.int .i64 p1.ZH].toArray] wm h (CP (fun(v:Value) (Gb:List (Ast wm))=>∃ (YC:Option Addr) (YA:Nat) (YB:Nat) (Xc:Nat ->Option Addr×Nat×Nat) (Y2:Option Addr) (YX:Nat) (Y0:Nat) (Y1:Option Addr) (YW:Nat) (YZ:Nat),v= .tuple [.agg [.slice YC YA YB,.slice Y2 YX Y0,.int .i64 r.1.names,.slice Y1 YW YZ].toArray,.int .i64 r.2].toArray∧Gb= [JV wm (Ye Zd) YC YA YB Xc r.1.cells,ow wm Ze Y2 YX Y0 r.1.notes,ow wm (ZA .i64) Y1 YW YZ r.1.freed]) [] h):=by
 refine bg Try.ntmps17 ZJ ZO.nil ?_;intro T hT hS;unfold Zvk at hL;refine r3 ?_;rintro _ h2 ⟨b1,eb1,rfl,hS⟩;refine r1 ?_;rintro _ h4 ⟨b3,eb3,rfl,hS⟩;refine r1 ?_;rintro _ h6 ⟨b5,eb5,rfl,hS⟩;refine r6 ?_;refine r1 ?_;obtain⟨x7,hx7,hL⟩:=bind_some hL;refine WO.cp gN rfl (YF.fn ZE8 (Zc lk Zj)) (WR.YP rfl (ZCr (Nat.le_refl _) (hS.Qv Zw) (hS.Qv ZF) (hS.Qv ZC) hx7)) ?_;refine r6 ?_;obtain⟨x8,hx8,hL⟩:=Z0 hL;refine WO.gcp (Zh.no rfl rfl rfl (Yb rfl fh)) rfl (fun hg=>(YF.fn ZE7 (Zc (Yw (ZR rfl (Zi rfl fh)) rfl hg) (Zc (Yw fh rfl hg) Zj)))) (fun hg=>ZCq (hx8 hg)) ?_;refine r4 ?_;refine cn hL ?_ ?_
 ·intro hc hL;refine r2 ?_;refine WO.w gN rfl (XQ Ze6 ZG rfl (cs':= [.slice none 0 0,.slice none 0 0,.int .i64 0,.slice none 0 0]) rfl) ?_;refine r1 ?_;rintro h9 hS;refine r4 ?_;refine r1 ?_;have hS:=hS.Zjj (e:= (Ye Zd)) (ps:=fun _=>(Ye Zd).dflt);have hS:=hS.nil (e:=Ze);have hS:=hS.nil (e:= (ZA .i64));have hr:=Option.some.inj hL;subst hr;exact ZX.gen (vs:= [.agg [.slice none 0 0,.slice none 0 0,.int .i64 0,.slice none 0 0].toArray,.int .i64 2]) rfl (ZP (Ya rfl (Yb rfl (ZR rfl fh))) (ZV X7 Y4 (hS.Qw k3) (j:=0) rfl rfl (ws:= [.slice none 0 0,.slice none 0 0,.int .i64 0,.slice none 0 0]) rfl) (Z5 lk Zu)) rfl ⟨_,⟨none,0,0,(fun _=>(Ye Zd).dflt),none,0,0,none,0,0,rfl,rfl⟩,hT ▸ hS.only (.c k2 (.c k1 (.c k0 .n)))⟩
 ·intro hc hL;refine r3 ?_;refine WC.Yn mixed (by kernel_rfl) ?_;refine r1 ?_;obtain⟨x10,Ztx,hL⟩:=bind_some hL;refine WX.cl0 gN rfl (YF.fn ZtR (Zc lk Zj)) hS .n (fun g' hz hf hO=>Zpg (by rw [hz];exact hS.hw) ((hS.sl Zw).mono hf) ((hS.sl ZF).mono hf) ((hS.sl ZC).mono hf) Ztx) ?_ rfl rfl;rintro _ h19 _ ⟨b11,m12,a13,n14,c15,a16,n17,c18,rfl,rfl⟩ hS;obtain rfl:=hS.on k2;obtain rfl:=hS.on k3;refine r1 ?_;obtain⟨x21,Zcj,hL⟩:=bind_some hL;rcases ZxA:x21.1 with _ | y22
  ·skip;rw [ZxA] at hL;replace hL:=ZsU hL;refine WX.clR gN rfl (YF.fn ZzG (Zc lk (Zc lk Zj))) hS.hw (Zvf (Nat.le_refl _) (hS.Qw k0) (.inl (hS.lt k0)) (hS.mrd k1) (hS.ord k2) (hS.ord k3) Zcj) ?_ rfl rfl;rintro v26 h24 ZPu ZFw ZJi;rw [ZxA] at ZFw;obtain⟨rfl,rfl⟩:=ZFw;have hS:=hS.clR ZJi .n;refine QW ?_;refine r2 ?_;refine cn hL ?_ ?_
   ·intro hc hL;refine r2 ?_;refine WO.w gN rfl (XQ Ze6 ZG rfl (cs':= [.slice none 0 0,.slice none 0 0,.int .i64 0,.slice none 0 0]) rfl) ?_;refine r2 ?_;rintro h29 hS;refine r4 ?_;refine r1 ?_;have hS:=hS.Zjj (e:= (Ye Zd)) (ps:=fun _=>(Ye Zd).dflt);have hS:=hS.nil (e:=Ze);have hS:=hS.nil (e:= (ZA .i64));have hr:=Option.some.inj hL;subst hr;exact ZX.gen (vs:= [.agg [.slice none 0 0,.slice none 0 0,.int .i64 0,.slice none 0 0].toArray,.int .i64 x21.2]) rfl (ZP (Ya rfl (Ya rfl (Ya rfl (ZR rfl fh)))) (ZV X7 Y4 (hS.Qw k3) (j:=0) rfl rfl (ws:= [.slice none 0 0,.slice none 0 0,.int .i64 0,.slice none 0 0]) rfl) (Z5 lk Zu)) rfl ⟨_,⟨none,0,0,(fun _=>(Ye Zd).dflt),none,0,0,none,0,0,rfl,rfl⟩,hT ▸ hS.only (.c k2 (.c k1 (.c k0 .n)))⟩
   ·intro hc hL;cases hL
  ·skip;rw [ZxA] at hL;replace hL:=ZsT hL;refine WX.clR gN rfl (YF.fn ZzG (Zc lk (Zc lk Zj))) hS.hw (Zvf (Nat.le_refl _) (hS.Qw k0) (.inl (hS.lt k0)) (hS.mrd k1) (hS.ord k2) (hS.ord k3) Zcj) ?_ rfl rfl;rintro v40 h38 ZPt ZFv ZJf;rw [ZxA] at ZFv;obtain⟨b30,m31,a32,n33,c34,a35,n36,c37,rfl,rfl⟩:=ZFv;have hS:=hS.clR ZJf (.c (cvB hS.hw) (.c (cvM hS.hw) (.c (cvO (fun _ _ _ _=>trivial) hS.hw) (.c (cvO (fun _ _ _ _=>trivial) hS.hw) .n))));obtain rfl:=hS.on k2;obtain rfl:=hS.on k3;refine QW ?_;refine r2 ?_;refine cn hL ?_ ?_
   ·intro hc hL;refine r2 ?_;refine WO.w gN rfl (XQ Ze6 ZG rfl (cs':= [.slice none 0 0,.slice none 0 0,.int .i64 0,.slice none 0 0]) rfl) ?_;refine r2 ?_;rintro h43 hS;refine r4 ?_;refine r1 ?_;have hS:=hS.Zjj (e:= (Ye Zd)) (ps:=fun _=>(Ye Zd).dflt);have hS:=hS.nil (e:=Ze);have hS:=hS.nil (e:= (ZA .i64));have hr:=Option.some.inj hL;subst hr;exact ZX.gen (vs:= [.agg [.slice none 0 0,.slice none 0 0,.int .i64 0,.slice none 0 0].toArray,.int .i64 x21.2]) rfl (ZP (Ya rfl (Ya rfl (Ya rfl (ZR rfl fh)))) (ZV X7 Y4 (hS.Qw k3) (j:=0) rfl rfl (ws:= [.slice none 0 0,.slice none 0 0,.int .i64 0,.slice none 0 0]) rfl) (Z5 lk Zu)) rfl ⟨_,⟨none,0,0,(fun _=>(Ye Zd).dflt),none,0,0,none,0,0,rfl,rfl⟩,hT ▸ hS.only (.c k2 (.c k1 (.c k0 .n)))⟩
   ·intro hc hL;refine r4 ?_;refine r1 ?_;obtain⟨x44,Zjm,hL⟩:=bind_some hL;refine WO.clR gN rfl (YF.fn ZtS (Zc lk Zj)) hS.hw (Zph (Nat.le_refl _) (hS.Qw k0) (.inl (hS.lt k0)) (hS.mrd k1) (hS.ord k2) (hS.ord k3) Zjm) ?_;rintro _ h54 _ ⟨a45,n46,c47,ZDW,a48,n49,c50,a51,n52,c53,rfl,rfl⟩ ZJe;have hS:=hS.clR ZJe (.c (cvN (fun _ _ _ _=>trivial) hS.hw) (.c (cvO (fun _ _ _ _=>trivial) hS.hw) (.c (cvO (fun _ _ _ _=>trivial) hS.hw) .n)));obtain rfl:=hS.Uv k0;obtain rfl:=hS.on k1;obtain rfl:=hS.on k2;refine r1 ?_;rintro h56 hS;refine r4 ?_;have hr:=Option.some.inj hL;subst hr;exact ZX.gen (vs:= [.agg [.slice a45 x44.cells.length c47,.slice a48 x44.notes.length c50,.int .i64 x44.names,.slice a51 x44.freed.length c53].toArray,.int .i64 0]) rfl (ZP (Ya rfl (Ya rfl (Ya rfl (ZR rfl fh)))) (ZV X7 Y4 (hS.Qw k0) (j:=0) rfl rfl (ws:= [.slice a45 x44.cells.length c47,.slice a48 x44.notes.length c50,.int .i64 x44.names,.slice a51 x44.freed.length c53]) rfl) (Z5 lk Zu)) rfl ⟨_,⟨a45,x44.cells.length,c47,ZDW,a48,x44.notes.length,c50,a51,x44.freed.length,c53,rfl,rfl⟩,hT ▸ hS.only (.c k1 (.c k1 (.c k1 .n)))⟩
end Go.Proofs.Ytekpjgmhkkjhgaa
end
end
section
namespace Go.Proofs.Ytekpjgmhkkjhgaa
open Go.Lf
def f3L (F:Nat) (p0:Int) (p1:Za) (p2:Zv):Option Bool:=
 (Zvp F p1).bind fun x5=>(bif x5 then(Zvo).bind fun x6=>some x6 else(Zvm F p0).bind fun x7=>(Zvl F p0).bind fun x22=>(Zvk F p1 p2).bind fun x37=>(Zvj F p1 p2).bind fun x52=>(Zpj F x7.1 x22.1).bind fun x67=>(gd (!((!x67) || (x7.2 !=x22.2))) (Zpj F x37.1 x52.1) default).bind fun x68=>(bif((((!x67) || (x7.2 !=x22.2)) || (!x68)) || (x37.2 !=x52.2)) then some false else(gd (!(x37.2 !=0)) (Zpi F x37.1) default).bind fun x69=>(gd ((x37.2 !=0) || x69) (Zvo) default).bind fun x70=>some (((x37.2 !=0) || x69) && x70)))
end Go.Proofs.Ytekpjgmhkkjhgaa
end
section
set_option maxRecDepth 20000
noncomputable section
namespace Go.Proofs.Ytekpjgmhkkjhgaa
open Go.Yy Go.Lf
theorem ZGp {F wm:Nat} {h:H} {p0:Int} {p1:Za} {p2:Zv} {QB:Option Addr} {QA:Nat} {UF:Option Addr} {UE:Nat} {U5:Option Addr} {U4:Nat} {r:Bool} (ZJ:wm <=h.size) (Ua:Sl (rSl Zd) wm h QB QA p1.cells) (K5:Sl Ze wm h UF UE p1.notes) (ZaD:Sl (ZA .i64) wm h U5 U4 p1.freed) (hL:f3L F p0 p1 p2=some r):
 WR XX 3 #[.int .i64 p0,.agg [.slice QB p1.cells.length QA,.slice UF p1.notes.length UE,.int .i64 p1.names,.slice U5 p1.freed.length U4].toArray,.agg [.int .i64 p2.Xf,.int .i64 p2.at_,.int .i64 p2.name,.int .i64 p2.ZH].toArray] wm h (CP (fun(v:Value) (Gb:List (Ast wm))=>v= .bool r∧Gb= []) [] h):=by
 refine bg Try.ntmps3 ZJ ZO.nil ?_;intro T hT hS;unfold f3L at hL;refine r3 ?_;rintro _ h2 ⟨b1,eb1,rfl,hS⟩;refine r1 ?_;rintro _ h4 ⟨b3,eb3,rfl,hS⟩;refine r6 ?_;refine r1 ?_;obtain⟨x5,hx5,hL⟩:=bind_some hL;refine WO.cp gN rfl (YF.fn ZFe (Zc lk Zj)) (WR.YP rfl (ZCB (Nat.le_refl _) (hS.Qv Ua) (hS.Qv K5) (hS.Qv ZaD) hx5)) ?_;refine r2 ?_;refine cn hL ?_ ?_
 ·intro hc hL;refine r2 ?_;obtain⟨x6,hx6,hL⟩:=bind_some hL;refine WO.cp gN rfl (YF.fn ZzJ Zj) (Zvn hx6) ?_;refine r4 ?_;refine r1 ?_;exact rt hL hT hS
 ·intro hc hL;refine r4 ?_;refine r1 ?_;obtain⟨x7,hx7,hL⟩:=bind_some hL;refine WO.cl gN rfl (YF.fn ZFd (Zc lk Zj)) hS .n (fun g' hz hf hO=>ZCA (by rw [hz];exact hS.hw) hx7) ?_;rintro _ h17 _ ⟨a8,n9,c10,ZDU,a11,n12,c13,a14,n15,c16,rfl,rfl⟩ hS;obtain rfl:=hS.Uv k0;obtain rfl:=hS.on k1;obtain rfl:=hS.on k2;refine r4 ?_;rintro _ h20 ⟨b19,ZJW,rfl,hS⟩;refine r1 ?_;rintro h21 hS;refine r6 ?_;obtain⟨x22,ZoC,hL⟩:=bind_some hL;refine WO.cl gN rfl (YF.fn ZFc (Zc lk Zj)) hS .n (fun g' hz hf hO=>ZCz (by rw [hz];exact hS.hw) ZoC) ?_;rintro _ h32 _ ⟨a23,n24,c25,ZKJ,a26,n27,c28,a29,n30,c31,rfl,rfl⟩ hS;obtain rfl:=hS.Uv k0;obtain rfl:=hS.on k1;obtain rfl:=hS.on k2;refine r4 ?_;rintro _ h35 ⟨b34,ZJU,rfl,hS⟩;refine r1 ?_;rintro h36 hS;refine r6 ?_;refine r1 ?_;obtain⟨x37,Zrr,hL⟩:=bind_some hL;refine WO.cl gN rfl (YF.fn ZFb (Zc lk (Zc lk Zj))) hS .n (fun g' hz hf hO=>ZCy (by rw [hz];exact hS.hw) ((hS.sl Ua).mono hf) ((hS.sl K5).mono hf) ((hS.sl ZaD).mono hf) Zrr) ?_;rintro _ h47 _ ⟨a38,n39,c40,ZKI,a41,n42,c43,a44,n45,c46,rfl,rfl⟩ hS;obtain rfl:=hS.Uv k0;obtain rfl:=hS.on k1;obtain rfl:=hS.on k2;refine r4 ?_;rintro _ h50 ⟨b49,ZGv,rfl,hS⟩;refine r1 ?_;rintro h51 hS;refine r6 ?_;refine r1 ?_;obtain⟨x52,ZA7,hL⟩:=bind_some hL;refine WO.cl gN rfl (YF.fn ZFa (Zc lk (Zc lk Zj))) hS .n (fun g' hz hf hO=>ZCx (by rw [hz];exact hS.hw) ((hS.sl Ua).mono hf) ((hS.sl K5).mono hf) ((hS.sl ZaD).mono hf) ZA7) ?_;rintro _ h62 _ ⟨a53,n54,c55,ZKH,a56,n57,c58,a59,n60,c61,rfl,rfl⟩ hS;simp only [List.cons_append,List.nil_append] at hS;obtain rfl:=hS.Uv k0;obtain rfl:=hS.on k1;obtain rfl:=hS.on k2;refine r4 ?_;rintro _ h65 ⟨b64,ZJR,rfl,hS⟩;refine r1 ?_;rintro h66 hS;refine r8 ?_;obtain⟨x67,ZIE,hL⟩:=bind_some hL;refine WO.cp gN rfl (YF.fn ZzI (Zc lk (Zc lk Zj))) (Zvi (hS.nrd k13 KZ) (hS.ord k14) (hS.ord k15) (hS.nrd k9 KZ) (hS.ord k10) (hS.ord k11) ZIE) ?_;refine r8 ?_;refine r1 ?_;obtain⟨x68,ZID,hL⟩:=Z0 hL;refine WO.gcp (Zh.no rfl rfl rfl (ZR rfl fh)) rfl (fun hg=>(YF.fn ZzI (Zc (Yw (Zi rfl fh) rfl hg) (Zc (Yw fh rfl hg) Zj)))) (fun hg=>Zvi (hS.nrd k5 KZ) (hS.ord k6) (hS.ord k7) (hS.nrd k1 KZ) (hS.ord k2) (hS.ord k3) (ZID hg)) ?_;refine r8 ?_;refine r1 ?_;refine cn hL ?_ ?_
  ·intro hc hL;refine r6 ?_;refine r1 ?_;exact rt hL hT hS
  ·intro hc hL;refine r8 ?_;obtain⟨x69,ZIC,hL⟩:=Z0 hL;refine WO.gcp (Zh.no rfl rfl rfl (Zi rfl fh)) rfl (fun hg=>(YF.fn ZzH (Zc (Yw fh rfl hg) Zj))) (fun hg=>Zvh (hS.nrd k5 KZ) (hS.ord k6) (hS.ord k7) (ZIC hg)) ?_;refine r2 ?_;obtain⟨x70,ZoA,hL⟩:=Z0 hL;refine WO.gcp (Zh.yes rfl rfl rfl fh) rfl (fun hg=>(YF.fn ZzJ Zj)) (fun hg=>Zvn (ZoA hg)) ?_;refine r4 ?_;refine r1 ?_;exact rt hL hT hS
theorem ZGq {F:Nat} {h:H} {p0:Int} {p1:Za} {p2:Zv} {QB:Option Addr} {QA:Nat} {UF:Option Addr} {UE:Nat} {U5:Option Addr} {U4:Nat} {r:Bool} (Ua:Sl (rSl Zd) h.size h QB QA p1.cells) (K5:Sl Ze h.size h UF UE p1.notes) (ZaD:Sl (ZA .i64) h.size h U5 U4 p1.freed) (hL:f3L F p0 p1 p2=some r):Pure XX 3 #[.int .i64 p0,.agg [.slice QB p1.cells.length QA,.slice UF p1.notes.length UE,.int .i64 p1.names,.slice U5 p1.freed.length U4].toArray,.agg [.int .i64 p2.Xf,.int .i64 p2.at_,.int .i64 p2.name,.int .i64 p2.ZH].toArray] h (.bool r):=
 WR.YP rfl (ZGp (Nat.le_refl _) Ua K5 ZaD hL)
end Go.Proofs.Ytekpjgmhkkjhgaa
end
end
section
end
section
namespace Go.Proofs.Ytekpjgmhkkjhgaa
abbrev CV:=Int ->Option Zb
def Yz (cv:CV) (m:Int) (o:Option Zb):CV:=fun a=>if a=m then o else cv a
def Qr:Option Zb ->Int | some c=>c.out | none=>0
def Uh:Option Zb ->Nat | some c=>if c.root=true then 1 else 0 | none=>0
def Km (a:Int):Option Zb ->Int | some c=>if c.from_=a then c.has else 0 | none=>0
def U8 (a:Int) (x:Zf):Int:=if(x.kind=1∧x.via=a)∨(x.kind=2∧x.ZH=a) then x.w else 0
def Qd (a:Int) (x:Zf):Int:=if x.kind=3∧x.ZH=a then 16 else 0
def Xb (f:Zf ->Int):List Zf ->Int | []=>0 | x::l=>f x + Xb f l
def Zai (f:Nat ->Int):Nat ->Int | 0=>0 | k + 1=>Zai f k + f k
def Ub:List Zf ->Nat | []=>0 | x::l=>(if x.kind=3 then 1 else 0) + Ub l
def Jw (M:Nat) (cv:CV) (ns:List Zf) (a:Int):Int:=Zai (fun m=>Km a (cv m)) M + Xb (U8 a) ns
def K6 (cv:CV) (ns:List Zf) (a:Int):Int:=Qr (cv a) + Xb (Qd a) ns
theorem Qb (f:Zf ->Int) (l r:List Zf):Xb f (l ++ r)=Xb f l + Xb f r:=by
 induction l with
 | nil=>simp [Xb]
 | cons x l ih=>simp only [List.cons_append,Xb,ih];omega
theorem Za5 (l r:List Zf):Ub (l ++ r)=Ub l + Ub r:=by
 induction l with
 | nil=>simp [Ub]
 | cons x l ih=>simp only [List.cons_append,Ub,ih];omega
theorem QH (f:Zf ->Int) (x:Zf):Xb f [x]=f x:=by simp [Xb]
theorem Ze3 (x:Zf):Ub [x]=if x.kind=3 then 1 else 0:=by simp [Ub]
theorem ZbW {f:Zf ->Int} {l:List Zf} (h:∀ x ∈ l,0 <=f x):0 <=Xb f l:=by
 induction l with
 | nil=>simp [Xb]
 | cons x l ih=>
   have:=h x (by simp);have:=ih fun y hy=>h y (by simp [hy])
   simp only [Xb];omega
theorem ZwF {f:Zf ->Int} {l:List Zf} (h:∀ x ∈ l,0 <=f x) {x:Zf} (hx:x ∈ l):f x <=Xb f l:=by
 induction l with
 | nil=>simp at hx
 | cons y l ih=>
   have h1:=h y (by simp);have h2:=ZbW fun z hz=>h z (List.mem_cons_of_mem _ hz)
   simp only [Xb];rcases List.mem_cons.1 hx with rfl | hx
   ·omega
   ·have:=ih (fun z hz=>h z (List.mem_cons_of_mem _ hz)) hx;omega
theorem Zfl {f:Zf ->Int} {l r:List Zf} (h:l.Perm r):Xb f l=Xb f r:=by
 induction h with
 | nil=>rfl
 | cons x _ ih=>simp only [Xb,ih]
 | swap x y l=>simp only [Xb];omega
 | trans _ _ i1 i2=>exact i1.trans i2
theorem ZrQ {l r:List Zf} (h:l.Perm r):Ub l=Ub r:=by
 induction h with
 | nil=>rfl
 | cons x _ ih=>simp only [Ub,ih]
 | swap x y l=>simp only [Ub];omega
 | trans _ _ i1 i2=>exact i1.trans i2
theorem ZbV {f:Nat ->Int} {M:Nat} (h:∀ m,m < M ->0 <=f m):0 <=Zai f M:=by
 induction M with
 | zero=>simp [Zai]
 | succ M ih=>
   have:=h M (by omega);have:=ih fun m hm=>h m (by omega)
   simp only [Zai];omega
theorem ZwE {f:Nat ->Int} {M:Nat} (h:∀ m,m < M ->0 <=f m) {m:Nat} (hm:m < M):f m <=Zai f M:=by
 induction M with
 | zero=>omega
 | succ M ih=>
   have h1:=h M (by omega);have h2:=ZbV fun m (hm:m < M)=>h m (by omega)
   simp only [Zai];by_cases e:m=M
   ·subst e;omega
   ·have:=ih (fun m hm=>h m (by omega)) (by omega);omega
theorem Zob {f g:Nat ->Int} {M:Nat} (h:∀ m,m < M ->f m=g m):Zai f M=Zai g M:=by
 induction M with
 | zero=>rfl
 | succ M ih=>simp only [Zai];rw [ih fun m hm=>h m (by omega),h M (by omega)]
theorem Zsv {f g:Nat ->Int} {M k:Nat} (hk:k < M) (h:∀ m,m < M ->m ≠ k ->f m=g m):Zai f M=Zai g M - g k + f k:=by
 induction M with
 | zero=>omega
 | succ M ih=>
   simp only [Zai];by_cases e:k=M
   ·subst e;rw [Zob fun m hm=>h m (by omega) (by omega)];omega
   ·rw [ih (by omega) (fun m hm hn=>h m (by omega) hn),h M (by omega) (fun z=>e z.symm)];omega
theorem Zev {M:Nat} {cv:CV} {ns:List Zf} {m:Int} (h0:0 <=m) (h1:m < M) (o:Option Zb) (a:Int):
 Jw M (Yz cv m o) ns a=Jw M cv ns a - Km a (cv m) + Km a o:=by
 unfold Jw;have hm:((m.toNat:Nat):Int)=m:=by omega
 rw [Zsv (k:=m.toNat) (g:=fun k=>Km a (cv k)) (by omega) (fun k hk hne=>by
  unfold Yz;rw [if_neg (by omega)])]
 have:Yz cv m o ((m.toNat:Nat):Int)=o:=by unfold Yz;rw [if_pos hm]
 rw [this,hm];omega
theorem ZcO (cv:CV) (m:Int) (o:Option Zb):Yz cv m o m=o:=by simp [Yz]
theorem Zee {cv:CV} {m a:Int} {o:Option Zb} (h:a ≠ m):Yz cv m o a=cv a:=by simp [Yz,h]
structure Nm (M:Nat) (n:Int) (cv:CV) (ns:List Zf) (h:Int):Prop where
 rng:∀ m c,cv m=some c ->0 <=m∧m < M
 nam:∀ m c,cv m=some c ->c.name=n
 cel:∀ m c,cv m=some c ->(c.root=false∧0 <=c.from_∧c.from_ < M∧c.from_ ≠ m∧1 <=c.has)∨(c.from_=-1∧c.has=0)
 nts:∀ x ∈ ns,(0 <=x.ZH∧x.ZH < M)∧x.name=n∧1 <=x.w∧((x.kind=1∧0 <=x.via∧x.via < M)∨(x.kind=2∧x.via=0)∨(x.kind=3∧x.via=0∧x.w=16∧x.ZH=h))
 hM:0 <=h∧h < M
 rt:∀ m c,cv m=some c ->c.root=true ->m=h
 one:Uh (cv h) + Ub ns=1
 acc:∀ a:Int,0 <=a ->a < M ->K6 cv ns a=Jw M cv ns a
 lead:∃ dep:Int ->Nat,∀ m c,cv m=some c ->m ≠ h ->0 <=c.from_∧(cv c.from_ ≠ none∨c.from_=h)∧dep c.from_ < dep m
theorem Nm.perm {M:Nat} {n:Int} {cv:CV} {ns ns':List Zf} {h:Int} (H:Nm M n cv ns h) (p:ns.Perm ns'):Nm M n cv ns' h:=
 {H with
  nts:=fun x hx=>H.nts x (p.mem_iff.2 hx)
  one:=by rw [← ZrQ p];exact H.one
  acc:=fun a h0 h1=>by
   have:=H.acc a h0 h1;unfold K6 Jw at this ⊢;rw [← Zfl p,← Zfl p];exact this}
section
variable {M:Nat} {n:Int} {cv:CV} {ns:List Zf} {h:Int}
theorem Nm.Zcm (H:Nm M n cv ns h) {a:Int} (h0:0 <=a) (m:Int):0 <=Km a (cv m):=by
 unfold Km;cases e:cv m with
 | none=>simp
 | some c=>
   dsimp only;split
   ·rcases H.cel m c e with⟨_,_,_,_,h5⟩ | ⟨h1,h2⟩ <;> omega
   ·omega
theorem Nm.Zbo (H:Nm M n cv ns h) (a:Int):∀ x ∈ ns,0 <=U8 a x:=by
 intro x hx;have:= (H.nts x hx).2.2.1;unfold U8;split <;> omega
theorem Nm.ZcV (H:Nm M n cv ns h) {m:Int} {c:Zb} (e:cv m=some c) (hf:0 <=c.from_):1 <=c.has∧c.has <=Jw M cv ns c.from_:=by
 have hr:=H.rng m c e;have hh:1 <=c.has:=by rcases H.cel m c e with⟨_,_,_,_,h5⟩ | ⟨h1,h2⟩ <;> omega
 refine⟨hh,?_⟩;have h1:=ZwE (f:=fun k=>Km c.from_ (cv k)) (M:=M) (fun k _=>H.Zcm hf k) (m:=m.toNat) (by omega);have h2:=ZbW (H.Zbo c.from_);have hm:((m.toNat:Nat):Int)=m:=by omega
 have h3:Km c.from_ (cv ((m.toNat:Nat):Int))=c.has:=by rw [hm,e];simp [Km]
 rw [h3] at h1;unfold Jw;omega
theorem Nm.UI (H:Nm M n cv ns h) {a:Int} (h0:0 <=a) {x:Zf} (hx:x ∈ ns):U8 a x <=Jw M cv ns a:=by
 have h1:=ZbV (f:=fun k=>Km a (cv k)) (M:=M) (fun k _=>H.Zcm h0 k);have h2:=ZwF (H.Zbo a) hx;unfold Jw;omega
theorem Zhu (H:∀ x ∈ ns,x.kind=3 ->x.ZH=h) (a:Int):Xb (Qd a) ns=if a=h then 16 * (Ub ns:Int) else 0:=by
 induction ns with
 | nil=>simp [Xb,Ub]
 | cons x l ih=>
   have i:=ih fun y hy=>H y (by simp [hy])
   have hx:=H x (by simp);simp only [Xb,Ub];rw [i];unfold Qd;by_cases h3:x.kind=3
   ·have:=hx h3;by_cases ha:a=h
    ·rw [if_pos ⟨h3,by omega⟩,if_pos ha,if_pos ha,if_pos h3];omega
    ·rw [if_neg (by omega),if_neg ha,if_neg ha];omega
   ·rw [if_neg (fun z=>h3 z.1),if_neg h3];split <;> omega
theorem Nm.giv (H:Nm M n cv ns h) (a:Int):K6 cv ns a=Qr (cv a) + if a=h then 16 * (Ub ns:Int) else 0:=by
 unfold K6;rw [Zhu (h:=h) (fun x hx h3=>by rcases(H.nts x hx).2.2.2 with z | z | z <;> omega)]
theorem Nm.ZmJ (H:Nm M n cv ns h) {a:Int} (h0:0 <=a):0 <=Jw M cv ns a:=by
 have h1:=ZbV (f:=fun k=>Km a (cv k)) (M:=M) (fun k _=>H.Zcm h0 k);have h2:=ZbW (H.Zbo a);unfold Jw;omega
theorem Nm.there (H:Nm M n cv ns h) {a:Int} (h0:0 <=a) (h1:a < M) (hp:1 <=Jw M cv ns a):cv a ≠ none∨a=h:=by
 have:=H.acc a h0 h1;rw [H.giv] at this;by_cases e:a=h
 ·exact .inr e
 ·rw [if_neg e] at this;refine .inl fun z=>?_
  rw [z] at this;simp [Qr] at this;omega
theorem Nm.Zoo (H:Nm M n cv ns h) {m:Int} {c:Zb} (e:cv m=some c):-16 <=c.out∧(m ≠ h ->0 <=c.out)∧(Ub ns=0 ->0 <=c.out):=by
 have hr:=H.rng m c e;have h1:=H.acc m hr.1 hr.2;have h2:=H.ZmJ hr.1;have h3:=H.one;rw [H.giv,e] at h1;simp only [Qr] at h1;refine⟨?_,fun hm=>?_,fun hc=>?_⟩
 ·split at h1 <;> omega
 ·rw [if_neg hm] at h1;omega
 ·rw [hc] at h1;split at h1 <;> omega
theorem Nm.ZCK (H:Nm M n cv ns h):Ub ns <=1:=by have:=H.one;omega
theorem Nm.WK (H:Nm M n cv ns h) {m:Int} {c:Zb} (h0:m=h∨∃ d,cv m=some d∧d.from_=c.from_):
 ∃ dep:Int ->Nat,∀ a d,Yz cv m (some c) a=some d ->a ≠ h ->0 <=d.from_∧(Yz cv m (some c) d.from_ ≠ none∨d.from_=h)∧dep d.from_ < dep a:=by
 obtain⟨dep,L⟩:=H.lead;refine⟨dep,fun a d hd ha=>?_⟩
 have key:∀ f:Int,(cv f ≠ none∨f=h) ->(Yz cv m (some c) f ≠ none∨f=h):=by
  intro f hf;unfold Yz;split
  ·exact .inl (by simp)
  ·exact hf
 unfold Yz at hd;split at hd
 ·rename_i e;cases hd;rcases h0 with z | ⟨d,z1,z2⟩
  ·exact absurd (e.trans z) ha
  ·obtain⟨l1,l2,l3⟩:=L m d z1 (by rw [← e];exact ha);rw [z2] at l1 l2 l3;exact⟨l1,key _ l2,by rw [e];exact l3⟩
 ·obtain⟨l1,l2,l3⟩:=L a d hd ha;exact⟨l1,key _ l2,l3⟩
end
end Go.Proofs.Ytekpjgmhkkjhgaa
end
section
namespace Go.Proofs.Ytekpjgmhkkjhgaa
def ZvO (n:Int):Zb:= ⟨n,false,-1,0,0,false⟩
section
variable {M:Nat} {n:Int} {cv:CV} {ns ns':List Zf} {h m:Int}
def Zcg (n:Int) (cv:CV) (m:Int):Zb:= (cv m).getD (ZvO n)
structure Lk (M:Nat) (n:Int) (cv:CV) (h m:Int) (c:Zb):Prop where
 nam:c.name=n
 cel:(c.root=false∧0 <=c.from_∧c.from_ < M∧c.from_ ≠ m∧1 <=c.has)∨(c.from_=-1∧c.has=0)
 out:Qr (cv m)=c.out
 has:∀ a,0 <=a ->Km a (cv m)=Km a (some c)
 root:Uh (cv m)=Uh (some c)
 rt:c.root=true ->m=h
 or:cv m=some c∨(cv m=none∧c.root=false∧c.from_=-1∧c.out=0∧c.use=false)
theorem Nm.look (H:Nm M n cv ns h) (m:Int):Lk M n cv h m (Zcg n cv m):=by
 unfold Zcg;cases e:cv m with
 | none=>
   refine⟨rfl,.inr ⟨rfl,rfl⟩,by rw [e];rfl,fun a ha=>?_,by rw [e];rfl,(fun z=>Bool.noConfusion z),.inr ⟨e,rfl,rfl,rfl,rfl⟩⟩;rw [e];show 0=if(-1:Int)=a then(0:Int) else 0
   split <;> rfl
 | some c=>
   refine⟨H.nam m c e,H.cel m c e,by rw [e];rfl,fun a ha=>by rw [e];rfl,by rw [e];rfl,H.rt m c e,.inl e⟩
theorem Nm.put (H:Nm M n cv ns h) (h0:0 <=m) (h1:m < M) {c:Zb} (hn:c.name=n)
 (hc:(c.root=false∧0 <=c.from_∧c.from_ < M∧c.from_ ≠ m∧1 <=c.has)∨(c.from_=-1∧c.has=0))
 (hns:∀ x ∈ ns',(0 <=x.ZH∧x.ZH < M)∧x.name=n∧1 <=x.w∧((x.kind=1∧0 <=x.via∧x.via < M)∨(x.kind=2∧x.via=0)∨(x.kind=3∧x.via=0∧x.w=16∧x.ZH=h)))
 (hrt:c.root=true ->m=h) (hone:(if h=m then Uh (some c) else Uh (cv h)) + Ub ns'=1)
 (hacc:∀ a:Int,0 <=a ->a < M ->(if a=m then c.out else Qr (cv a)) + Xb (Qd a) ns' + Km a (cv m) + Xb (U8 a) ns=Qr (cv a) + Xb (Qd a) ns + Km a (some c) + Xb (U8 a) ns')
 (hl:∃ dep:Int ->Nat,∀ a d,Yz cv m (some c) a=some d ->a ≠ h ->0 <=d.from_∧(Yz cv m (some c) d.from_ ≠ none∨d.from_=h)∧dep d.from_ < dep a):
 Nm M n (Yz cv m (some c)) ns' h where
 rng a d hd:=by
  unfold Yz at hd;split at hd
  ·subst_vars;omega
  ·exact H.rng a d hd
 nam a d hd:=by
  unfold Yz at hd;split at hd
  ·cases hd;exact hn
  ·exact H.nam a d hd
 cel a d hd:=by
  unfold Yz at hd;split at hd
  ·subst_vars;cases hd;exact hc
  ·exact H.cel a d hd
 nts:=hns
 hM:=H.hM
 rt a d hd hr:=by
  unfold Yz at hd;split at hd
  ·subst_vars;cases hd;exact hrt hr
  ·exact H.rt a d hd hr
 one:=by
  rw [← hone];unfold Yz;split <;> rfl
 acc a a0 a1:=by
  have q:=H.acc a a0 a1;have p:=hacc a a0 a1;rw [Zev h0 h1];unfold K6 at q ⊢;unfold Jw at q ⊢;have:Qr (Yz cv m (some c) a)=if a=m then c.out else Qr (cv a):=by unfold Yz;split <;> rfl
  rw [this];omega
 lead:=hl
theorem Nm.tail (H:∀ x ∈ ns,(0 <=x.ZH∧x.ZH < M)∧x.name=n∧1 <=x.w∧((x.kind=1∧0 <=x.via∧x.via < M)∨(x.kind=2∧x.via=0)∨(x.kind=3∧x.via=0∧x.w=16∧x.ZH=h))) (hs:∀ x ∈ ns',x ∈ ns):∀ x ∈ ns',(0 <=x.ZH∧x.ZH < M)∧x.name=n∧1 <=x.w∧((x.kind=1∧0 <=x.via∧x.via < M)∨(x.kind=2∧x.via=0)∨(x.kind=3∧x.via=0∧x.w=16∧x.ZH=h)):=fun x hx=>H x (hs x hx)
theorem WV {x:Zf} (k:x.kind=1) (a:Int):Qd a x=0:=by unfold Qd;rw [if_neg (by omega)]
theorem ZcR {x:Zf} (k:x.kind=2) (a:Int):Qd a x=0:=by unfold Qd;rw [if_neg (by omega)]
theorem ZkL {x:Zf} (k:x.kind=3) (a:Int):Qd a x=if x.ZH=a then 16 else 0:=by
 unfold Qd;by_cases e:x.ZH=a
 ·rw [if_pos ⟨k,e⟩,if_pos e]
 ·rw [if_neg (fun z=>e z.2),if_neg e]
theorem WU {x:Zf} (k:x.kind=1) (a:Int):U8 a x=if x.via=a then x.w else 0:=by
 unfold U8;by_cases e:x.via=a
 ·rw [if_pos (.inl ⟨k,e⟩),if_pos e]
 ·rw [if_neg (by rintro(z | z) <;> omega),if_neg e]
theorem Zbp {x:Zf} (k:x.kind=2) (a:Int):U8 a x=if x.ZH=a then x.w else 0:=by
 unfold U8;by_cases e:x.ZH=a
 ·rw [if_pos (.inr ⟨k,e⟩),if_pos e]
 ·rw [if_neg (by rintro(z | z) <;> omega),if_neg e]
theorem Zqc {x:Zf} (k:x.kind=3) (a:Int):U8 a x=0:=by
 unfold U8;rw [if_neg (by rintro(z | z) <;> omega)]
theorem cnt1 {x:Zf} {l:List Zf} (k:¬ x.kind=3):Ub (x::l)=Ub l:=by simp only [Ub,if_neg k];omega
theorem Qn (a:Int) (c:Zb):Km a (some c)=if c.from_=a then c.has else 0:=rfl
theorem Nm.use (H:Nm M n cv ns h) {c:Zb} (e:cv m=some c) (u:Bool):Nm M n (Yz cv m (some ⟨c.name,c.root,c.from_,c.has,c.out,u⟩)) ns h:=by
 have hr:=H.rng m c e;refine H.put hr.1 hr.2 (by exact H.nam m c e) (by exact H.cel m c e) H.nts (by exact H.rt m c e) ?_ (fun a a0 a1=>?_) (H.WK (.inr ⟨c,e,rfl⟩))
 ·rw [← H.one];by_cases z:h=m
  ·rw [if_pos z,z,e];rfl
  ·rw [if_neg z]
 ·rw [e];by_cases z:a=m
  ·rw [if_pos z,z,e];simp only [Qr,Qn]
  ·rw [if_neg z];simp only [Qn]
theorem Nm.ZuL {x:Zf} (H:Nm M n cv (x::ns) h) (k:x.kind=1) {c:Zb} (L:Lk M n cv h x.ZH c) (hr:c.root=false) (hf:c.from_=-1) (hv:x.via ≠ x.ZH) (u:Bool):
 Nm M n (Yz cv x.ZH (some ⟨c.name,c.root,x.via,x.w,c.out,u⟩)) ns h:=by
 have hx:=H.nts x (by simp);have hvr:0 <=x.via∧x.via < M:=by rcases hx.2.2.2 with z | z | z <;> omega
 have hh:=H.UI hvr.1 (x:=x) (by simp);rw [WU k,if_pos rfl] at hh;have ht:=H.there hvr.1 hvr.2 (by omega);refine H.put hx.1.1 hx.1.2 L.nam (.inl ⟨hr,hvr.1,hvr.2,hv,hx.2.2.1⟩) (Nm.tail H.nts (by simp_all)) (by rw [hr];simp) ?_ (fun a a0 a1=>?_) ?_
 ·have o:=H.one;rw [cnt1 (by omega)] at o;have:Uh (some (Zb.mk c.name c.root x.via x.w c.out u))=Uh (some c):=rfl;rw [this];by_cases z:h=x.ZH
  ·rw [if_pos z,← L.root,← z];omega
  ·rw [if_neg z];omega
 ·rw [L.has a a0];simp only [Xb,WV k,WU k,Qn,hf];rw [if_neg (by omega:¬ (-1:Int)=a)];by_cases z:a=x.ZH
  ·rw [if_pos z,z,L.out];omega
  ·rw [if_neg z];omega
 ·by_cases z:x.ZH=h
  ·exact H.WK (.inl z)
  ·obtain⟨dep,l⟩:=H.lead;rcases L.or with e | ⟨e,_⟩
   ·obtain⟨l1,_⟩:=l _ c e z;omega
   refine⟨fun a=>if a=x.ZH then dep x.via + 1 else dep a,fun a d hd ha=>?_⟩;dsimp only;unfold Yz at hd;split at hd
   ·rename_i ea;cases hd;refine⟨hvr.1,?_,?_⟩
    ·show Yz cv x.ZH _ x.via ≠ none∨x.via=h;rw [Zee hv];exact ht
    ·show(if x.via=x.ZH then _ else dep x.via) < _;rw [if_pos ea,if_neg hv];omega
   ·rename_i ea;obtain⟨l1,l2,l3⟩:=l a d hd ha
    have hne:d.from_ ≠ x.ZH:=by
     intro w;rw [w] at l2;rcases l2 with q | q
     ·exact q e
     ·exact z q
    rw [if_neg hne,if_neg ea,Zee hne];exact⟨l1,l2,l3⟩
theorem Nm.Zrx {x:Zf} (H:Nm M n cv (x::ns) h) (k:x.kind=1) {c:Zb} (L:Lk M n cv h x.ZH c) (hf:0 <=c.from_) (hv:c.from_=x.via) (u:Bool):
 Nm M n (Yz cv x.ZH (some ⟨c.name,c.root,c.from_,c.has + x.w,c.out,u⟩)) ns h:=by
 have hx:=H.nts x (by simp);have hce:cv x.ZH=some c:=by rcases L.or with e | ⟨_,_,e,_⟩;exact e;omega
 have Zrv:c.root=false∧0 <=c.from_∧c.from_ < M∧c.from_ ≠ x.ZH∧1 <=c.has:=by rcases L.cel with z | z;exact z;omega
 refine H.put hx.1.1 hx.1.2 L.nam (.inl ⟨Zrv.1,Zrv.2.1,Zrv.2.2.1,Zrv.2.2.2.1,?_⟩) (Nm.tail H.nts (by simp_all)) L.rt ?_ (fun a a0 a1=>?_) (H.WK (.inr ⟨c,hce,rfl⟩))
 ·show 1 <=c.has + x.w;omega
 ·have o:=H.one;rw [cnt1 (by omega)] at o;have:Uh (some (Zb.mk c.name c.root c.from_ (c.has + x.w) c.out u))=Uh (some c):=rfl;rw [this];by_cases z:h=x.ZH
  ·rw [if_pos z,← L.root,← z];omega
  ·rw [if_neg z];omega
 ·rw [L.has a a0];simp only [Xb,WV k,WU k,Qn,hv];by_cases z:a=x.ZH
  ·rw [if_pos z,z,L.out];split <;> omega
  ·rw [if_neg z];split <;> omega
theorem Nm.Zry {x y:Zf} (H:Nm M n cv (x::ns) h) (k:x.kind=1) (hy:y= ⟨2,x.via,n,0,x.w⟩):Nm M n cv (ns ++ [y]) h:=by
 have hx:=H.nts x (by simp);have hvr:0 <=x.via∧x.via < M:=by rcases hx.2.2.2 with z | z | z <;> omega
 refine{H with nts:=fun z hz=>?_,one:= ?_,acc:=fun a a0 a1=>?_}
 ·rcases List.mem_append.1 hz with q | q
  ·exact H.nts z (by simp [q])
  ·rw [List.mem_singleton.1 q,hy];exact⟨hvr,rfl,hx.2.2.1,.inr (.inl ⟨rfl,rfl⟩)⟩
 ·have o:=H.one;rw [cnt1 (by omega)] at o;rw [Za5,Ze3,hy];simp;omega
 ·have q:=H.acc a a0 a1;unfold K6 Jw at q ⊢;simp only [Xb,WV k,WU k] at q;have h2:y.kind=2:=by rw [hy]
  rw [Qb,Qb,QH,QH,ZcR h2,Zbp h2,hy];dsimp only;omega
theorem Nm.Zj5 {x:Zf} (H:Nm M n cv (x::ns) h) (k:(x.kind=1∧x.via=x.ZH)∨x.kind=2) {c:Zb} (L:Lk M n cv h x.ZH c) (u:Bool):
 Nm M n (Yz cv x.ZH (some ⟨c.name,c.root,c.from_,c.has,c.out - x.w,u⟩)) ns h:=by
 have hx:=H.nts x (by simp);have hh:=H.UI hx.1.1 (x:=x) (by simp)
 have hH:∀ a,U8 a x=if x.ZH=a then x.w else 0:=by
  intro a;rcases k with⟨k,v⟩ | k
  ·rw [WU k,v]
  ·exact Zbp k a
 have hG:∀ a,Qd a x=0:=by
  intro a;rcases k with⟨k,v⟩ | k
  ·exact WV k a
  ·exact ZcR k a
 have hk3:¬ x.kind=3:=by omega
 rw [hH,if_pos rfl] at hh;have ht:=H.there hx.1.1 hx.1.2 (by omega);refine H.put hx.1.1 hx.1.2 L.nam (by exact L.cel) (Nm.tail H.nts (by simp_all)) (by exact L.rt) ?_ (fun a a0 a1=>?_) ?_
 ·have o:=H.one;rw [cnt1 hk3] at o;have:Uh (some (Zb.mk c.name c.root c.from_ c.has (c.out - x.w) u))=Uh (some c):=rfl;rw [this];by_cases z:h=x.ZH
  ·rw [if_pos z,← L.root,← z];omega
  ·rw [if_neg z];omega
 ·rw [L.has a a0];simp only [Xb,hG,hH,Qn];by_cases z:a=x.ZH
  ·rw [if_pos z,z,L.out,if_pos rfl];omega
  ·rw [if_neg z,if_neg (by omega:¬ x.ZH=a)];omega
 ·refine H.WK ?_;rcases L.or with e | ⟨e,_⟩
  ·exact .inr ⟨c,e,rfl⟩
  ·rcases ht with z | z
   ·exact absurd e z
   ·exact .inl z
theorem Nm.home {x:Zf} (H:Nm M n cv (x::ns) h) (k:x.kind=3) {c:Zb} (L:Lk M n cv h x.ZH c) (u:Bool) {ys:List Zf}
 (hy:ys=if 0 <=c.from_ then [⟨2,c.from_,n,0,c.has⟩] else []):
 Nm M n (Yz cv x.ZH (some ⟨c.name,true,-1,0,c.out + 16,u⟩)) (ns ++ ys) h:=by
 have hx:=H.nts x (by simp);have hh:x.ZH=h:=by rcases hx.2.2.2 with z | z | z <;> omega
 have o:=H.one;simp only [Ub,k,if_true] at o;refine H.put hx.1.1 hx.1.2 L.nam (.inr ⟨rfl,rfl⟩) ?_ (fun _=>hh) ?_ (fun a a0 a1=>?_) (H.WK (.inl hh))
 ·intro z hz;rcases List.mem_append.1 hz with q | q
  ·exact H.nts z (by simp [q])
  ·rw [hy] at q;split at q
   ·rename_i hf;rw [List.mem_singleton.1 q];rcases L.cel with w | w
    ·exact⟨⟨w.2.1,w.2.2.1⟩,rfl,w.2.2.2.2,.inr (.inl ⟨rfl,rfl⟩)⟩
    ·omega
   ·simp at q
 ·rw [if_pos hh.symm,Za5,show Uh (some (Zb.mk c.name true (-1) 0 (c.out + 16) u))=1 from rfl];have:Ub ys=0:=by rw [hy];split <;> simp [Ub]
  omega
 ·rw [L.has a a0];have hG:Xb (Qd a) ys=0:=by rw [hy];split <;> simp [Xb,Qd]
  have hH:Xb (U8 a) ys=if c.from_=a then c.has else 0:=by
   rw [hy];by_cases hf:0 <=c.from_
   ·rw [if_pos hf,QH,Zbp rfl]
   ·rw [if_neg hf,if_neg (by omega)];rfl
  rw [Qb,Qb,hG,hH];simp only [Xb,ZkL k,Zqc k,Qn];rw [if_neg (by omega:¬ (-1:Int)=a)];by_cases z:a=x.ZH
  ·rw [if_pos z,z,L.out,if_pos rfl];omega
  ·rw [if_neg z,if_neg (by omega:¬ x.ZH=a)];omega
theorem Nm.gone (H:Nm M n cv ns h) {c:Zb} (e:cv m=some c) (ho:c.out=0) (hr:c.root=false) {ys:List Zf}
 (hy:ys=if 0 <=c.from_ then [⟨2,c.from_,n,0,c.has⟩] else []):Nm M n (Yz cv m none) (ns ++ ys) h:=by
 have hm:=H.rng m c e;have Zrv:=H.cel m c e;have hG:∀ a,Xb (Qd a) ys=0:=by intro a;rw [hy];split <;> simp [Xb,Qd]
 have hH:∀ a,0 <=a ->Xb (U8 a) ys=Km a (some c):=by
  intro a a0;rw [hy,Qn];by_cases hf:0 <=c.from_
  ·rw [if_pos hf,QH,Zbp rfl]
  ·rw [if_neg hf,if_neg (by omega)];rfl
 refine⟨?_,?_,?_,?_,H.hM,?_,?_,?_,?_⟩
 ·intro a d hd;unfold Yz at hd;split at hd
  ·cases hd
  ·exact H.rng a d hd
 ·intro a d hd;unfold Yz at hd;split at hd
  ·cases hd
  ·exact H.nam a d hd
 ·intro a d hd;unfold Yz at hd;split at hd
  ·cases hd
  ·exact H.cel a d hd
 ·intro z hz;rcases List.mem_append.1 hz with q | q
  ·exact H.nts z q
  ·rw [hy] at q;split at q
   ·rename_i hf;rw [List.mem_singleton.1 q];rcases Zrv with w | w
    ·exact⟨⟨w.2.1,w.2.2.1⟩,rfl,w.2.2.2.2,.inr (.inl ⟨rfl,rfl⟩)⟩
    ·omega
   ·simp at q
 ·intro a d hd;unfold Yz at hd;split at hd
  ·cases hd
  ·exact H.rt a d hd
 ·have o:=H.one;have:Ub ys=0:=by rw [hy];split <;> simp [Ub]
  rw [Za5,this]
  have:Uh (Yz cv m none h)=Uh (cv h):=by
   unfold Yz;split
   ·rename_i z;rw [z,e];simp [Uh,hr]
   ·rfl
  rw [this];omega
 ·intro a a0 a1;have q:=H.acc a a0 a1;rw [Zev hm.1 hm.2,e];unfold K6 Jw at *;rw [Qb,Qb,hG,hH a a0]
  have:Qr (Yz cv m none a)=Qr (cv a):=by
   unfold Yz;split
   ·rename_i z;rw [z,e];simp [Qr,ho]
   ·rfl
  rw [this];simp only [Qn] at *;have:Km a none=0:=rfl;omega
 ·obtain⟨dep,l⟩:=H.lead;refine⟨dep,fun a d hd ha=>?_⟩;unfold Yz at hd;split at hd
  ·cases hd
  ·obtain⟨l1,l2,l3⟩:=l a d hd ha;refine⟨l1,?_,l3⟩;by_cases z:d.from_=m
   ·by_cases zh:m=h
    ·exact .inr (z.trans zh)
    ·exfalso;have q:=H.ZcV hd l1;rw [z] at q;have p:=H.acc m hm.1 hm.2;rw [H.giv,if_neg zh,e] at p;simp only [Qr] at p;omega
   ·rw [Zee z];exact l2
theorem Nm.last (H:Nm M n cv ns h) {c:Zb} (e:cv m=some c) (ho:c.out=0) (hr:c.root=true):(∀ a,a ≠ m ->cv a=none)∧ns= []:=by
 have hmh:=H.rt m c e hr;subst hmh;have o:=H.one;rw [e] at o;have h0:Ub ns=0:=by simp only [Uh,hr,if_true] at o;omega
 have hz:Jw M cv ns m=0:=by
  rw [← H.acc m H.hM.1 H.hM.2,H.giv,if_pos rfl,e,h0];simp [Qr,ho]
 obtain⟨dep,l⟩:=H.lead
 have key:∀ k a,dep a <=k ->a ≠ m ->cv a=none:=by
  intro k
  induction k with
  | zero=>
    intro a hk ha;cases ec:cv a with
    | none=>rfl
    | some d=>have:=l a d ec ha;omega
  | succ k ih=>
    intro a hk ha;cases ec:cv a with
    | none=>rfl
    | some d=>
      exfalso;obtain⟨l1,l2,l3⟩:=l a d ec ha;by_cases z:d.from_=m
      ·have:=H.ZcV ec l1;rw [z] at this;omega
      ·rcases l2 with l2 | l2
       ·exact l2 (ih _ (by omega) z)
       ·exact z l2
 have k1:∀ a,a ≠ m ->cv a=none:=fun a ha=>key (dep a) a (Nat.le_refl _) ha
 refine⟨k1,?_⟩;cases ns with
 | nil=>rfl
 | cons x l'=>
   exfalso;have hx:=H.nts x (by simp)
   have hk3:¬ x.kind=3:=by
    intro z;simp only [Ub,z,if_true] at h0;omega
   have hbad:∀ a:Int,0 <=a ->a < M ->1 <=Jw M cv (x::l') a ->False:=by
    intro a a0 a1 hp;by_cases z:a=m
    ·rw [z] at hp;omega
    ·have:=H.acc a a0 a1;rw [H.giv,if_neg z,k1 a z] at this;simp only [Qr] at this;omega
   rcases hx.2.2.2 with z | z | z
   ·have:=H.UI z.2.1 (x:=x) (by simp);rw [WU z.1,if_pos rfl] at this;exact hbad _ z.2.1 z.2.2 (by omega)
   ·have:=H.UI hx.1.1 (x:=x) (by simp);rw [Zbp z.1,if_pos rfl] at this;exact hbad _ hx.1.1 hx.1.2 (by omega)
   ·exact hk3 z.1
theorem Nm.ZwL (H:Nm M n cv ns h) {c:Zb} (e:cv m=some c) (hf:0 <=c.from_) {t w:Int} (ht:0 <=t∧t < M) (h1:1 <=w) (h2:w < c.has) {y:Zf} (hy:y= ⟨1,t,n,c.from_,w⟩):
 Nm M n (Yz cv m (some ⟨c.name,c.root,c.from_,c.has - w,c.out,c.use⟩)) (ns ++ [y]) h:=by
 have hm:=H.rng m c e;have hc:c.root=false∧0 <=c.from_∧c.from_ < M∧c.from_ ≠ m∧1 <=c.has:=by rcases H.cel m c e with z | z;exact z;omega
 have ky:y.kind=1:=by rw [hy]
 refine H.put hm.1 hm.2 (by exact H.nam m c e) (.inl ⟨hc.1,hc.2.1,hc.2.2.1,hc.2.2.2.1,by show 1 <=c.has - w;omega⟩) ?_ (by exact H.rt m c e) ?_ (fun a a0 a1=>?_) (H.WK (.inr ⟨c,e,rfl⟩))
 ·intro z hz;rcases List.mem_append.1 hz with q | q
  ·exact H.nts z q
  ·rw [List.mem_singleton.1 q,hy];exact⟨ht,rfl,h1,.inl ⟨rfl,hc.2.1,hc.2.2.1⟩⟩
 ·have o:=H.one;rw [Za5,Ze3,ky,← o];by_cases z:h=m
  ·rw [if_pos z,z,e];rfl
  ·rw [if_neg z];simp
 ·rw [e,Qb,Qb,QH,QH,WV ky,WU ky,hy];simp only [Qn];by_cases z:a=m
  ·rw [if_pos z,z,e];simp only [Qr];split <;> omega
  ·rw [if_neg z];split <;> omega
theorem Nm.ZwN (H:Nm M n cv ns h) {c:Zb} (e:cv m=some c) {t w:Int} (ht:0 <=t∧t < M) (h1:1 <=w) {y:Zf} (hy:y= ⟨1,t,n,m,w⟩):
 Nm M n (Yz cv m (some ⟨c.name,c.root,c.from_,c.has,c.out + w,c.use⟩)) (ns ++ [y]) h:=by
 have hm:=H.rng m c e;have ky:y.kind=1:=by rw [hy]
 refine H.put hm.1 hm.2 (by exact H.nam m c e) (by exact H.cel m c e) ?_ (by exact H.rt m c e) ?_ (fun a a0 a1=>?_) (H.WK (.inr ⟨c,e,rfl⟩))
 ·intro z hz;rcases List.mem_append.1 hz with q | q
  ·exact H.nts z q
  ·rw [List.mem_singleton.1 q,hy];exact⟨ht,rfl,h1,.inl ⟨rfl,hm⟩⟩
 ·have o:=H.one;rw [Za5,Ze3,ky,← o];by_cases z:h=m
  ·rw [if_pos z,z,e];rfl
  ·rw [if_neg z];simp
 ·rw [e,Qb,Qb,QH,QH,WV ky,WU ky,hy];simp only [Qn];by_cases z:a=m
  ·rw [if_pos z,z,e,if_pos rfl];simp only [Qr];omega
  ·rw [if_neg z,if_neg (by omega:¬ m=a)];omega
theorem Nm.go (H:Nm M n cv ns h) {c:Zb} (e:cv m=some c) (hr:c.root=true) {t:Int} (ht:0 <=t∧t < M) (hne:t ≠ m) {y:Zf} (hy:y= ⟨3,t,n,0,16⟩):
 Nm M n (Yz cv m (some ⟨c.name,false,t,16,c.out,c.use⟩)) (ns ++ [y]) t:=by
 have hm:=H.rng m c e;have hmh:=H.rt m c e hr;subst hmh;have hc:c.from_=-1∧c.has=0:=by rcases H.cel m c e with z | z;exact absurd hr (by simp [z.1]);exact z
 have ky:y.kind=3:=by rw [hy]
 have o:=H.one;rw [e] at o;have h0:Ub ns=0:=by simp only [Uh,hr,if_true] at o;omega
 have no3:∀ x ∈ ns,¬ x.kind=3:=by
  intro x hx z
  have:∀ l:List Zf,x ∈ l ->1 <=Ub l:=by
   intro l
   induction l with
   | nil=>simp
   | cons w l ih=>
     intro q;simp only [Ub];rcases List.mem_cons.1 q with rfl | q
     ·rw [if_pos z];omega
     ·have:=ih q;omega
  have:=this ns hx;omega
 refine⟨?_,?_,?_,?_,ht,?_,?_,?_,?_⟩
 ·intro a d hd;unfold Yz at hd;split at hd
  ·subst_vars;exact hm
  ·exact H.rng a d hd
 ·intro a d hd;unfold Yz at hd;split at hd
  ·cases hd;exact H.nam m c e
  ·exact H.nam a d hd
 ·intro a d hd;unfold Yz at hd;split at hd
  ·subst_vars;cases hd;exact .inl ⟨rfl,ht.1,ht.2,hne,by show(1:Int) <=16;omega⟩
  ·exact H.cel a d hd
 ·intro z hz;rcases List.mem_append.1 hz with q | q
  ·have:=H.nts z q;refine⟨this.1,this.2.1,this.2.2.1,?_⟩;rcases this.2.2.2 with w | w | w
   ·exact .inl w
   ·exact .inr (.inl w)
   ·exact absurd w.1 (no3 z q)
  ·rw [List.mem_singleton.1 q,hy];exact⟨ht,rfl,by show(1:Int) <=16;omega,.inr (.inr ⟨rfl,rfl,rfl,rfl⟩)⟩
 ·intro a d hd hrd;unfold Yz at hd;split at hd
  ·cases hd;cases hrd
  ·rename_i z;exact absurd (H.rt a d hd hrd) z
 ·rw [Za5,Ze3,if_pos ky,Zee hne,h0]
  have:Uh (cv t)=0:=by
   cases ec:cv t with
   | none=>rfl
   | some d=>
     show(if d.root=true then 1 else 0)=0;by_cases z:d.root=true
     ·exact absurd (H.rt t d ec z) hne
     ·rw [if_neg z]
  omega
 ·intro a a0 a1;have q:=H.acc a a0 a1;rw [Zev hm.1 hm.2,e];unfold K6 Jw at *;rw [Qb,Qb,QH,QH,ZkL ky,Zqc ky,hy];simp only [Qn,hc.1,hc.2] at *
  have:Qr (Yz cv m (some ⟨c.name,false,t,16,c.out,c.use⟩) a)=Qr (cv a):=by
   unfold Yz;split
   ·rename_i z;rw [z,e];rfl
   ·rfl
  rw [this];rw [if_neg (by omega:¬ (-1:Int)=a)];omega
 ·obtain⟨dep,l⟩:=H.lead;refine⟨fun a=>if a=t then 0 else dep a + 1,fun a d hd ha=>?_⟩;dsimp only;rw [if_neg ha];unfold Yz at hd;split at hd
  ·cases hd;dsimp only;rw [if_pos rfl];exact⟨ht.1,.inr rfl,by omega⟩
  ·rename_i z;obtain⟨l1,l2,l3⟩:=l a d hd z;refine⟨l1,?_,?_⟩
   ·by_cases q:d.from_=m
    ·rw [q,ZcO];exact .inl (by simp)
    ·rw [Zee q];rcases l2 with l2 | l2
     ·exact .inl l2
     ·exact absurd l2 q
   ·split <;> omega
theorem Nm.fresh (hm:0 <=m∧m < M):Nm M n (Yz (fun _=>none) m (some ⟨n,true,-1,0,0,true⟩)) [] m where
 rng a d hd:=by
  unfold Yz at hd;split at hd
  ·subst_vars;exact hm
  ·cases hd
 nam a d hd:=by
  unfold Yz at hd;split at hd
  ·cases hd;rfl
  ·cases hd
 cel a d hd:=by
  unfold Yz at hd;split at hd
  ·cases hd;exact .inr ⟨rfl,rfl⟩
  ·cases hd
 nts x hx:=by simp at hx
 hM:=hm
 rt a d hd _:=by
  unfold Yz at hd;split at hd
  ·assumption
  ·cases hd
 one:=by rw [ZcO];rfl
 acc a a0 a1:=by
  rw [Zev hm.1 hm.2];unfold K6 Jw
  have:Zai (fun m=>Km a none) M=0:=by
   have:∀ k,Zai (fun m=>Km a none) k=0:=by
    intro k;induction k with
    | zero=>rfl
    | succ k ih=>simp only [Zai,ih];rfl
   exact this M
  rw [this]
  have:Qr (Yz (fun _=>none) m (some ⟨n,true,-1,0,0,true⟩) a)=0:=by
   unfold Yz;split <;> rfl
  rw [this,Qn];simp [Xb,Km]
 lead:= ⟨fun _=>0,fun a d hd ha=>by
  unfold Yz at hd;split at hd
  ·rename_i z;exact absurd z ha
  ·cases hd⟩
end
end Go.Proofs.Ytekpjgmhkkjhgaa
end
section
namespace Go.Lf
theorem Zhs (n:Int):ZQ n=Int.bmod n 18446744073709551616:=by
 unfold ZQ Go.IntKind.wrap;have e1:(2 ^ IntKind.i64.bits:Int)=18446744073709551616:=by decide
 have e2:(2 ^ (IntKind.i64.bits - 1):Int)=9223372036854775808:=by decide
 have e3:IntKind.i64.signed=true:=rfl;rw [e1,e2,e3];dsimp only;unfold Int.bmod;have:=Int.emod_nonneg n (b:=18446744073709551616) (by decide);have:=Int.emod_lt_of_pos n (b:=18446744073709551616) (by decide);simp;split <;> split <;> omega
theorem Zg5 (a b:Int):ZQ (ZQ a + b)=ZQ (a + b):=by
 rw [Zhs,Zhs,Zhs];simp
theorem JC {k:Nat} (h:k < 4611686018427387904):ZQ ((k:Int) + 1)= ((k + 1:Nat):Int):=by
 rw [Q5 (by omega) (by omega)];rfl
theorem Zma {k:Nat} (h:k < 4611686018427387904) (h0:0 < k):ZQ ((k:Int) - 1)= ((k - 1:Nat):Int):=by
 rw [Q5 (by omega) (by omega)];omega
theorem YL {α:Type} {JA:Nat} {xs ys:List α} (h:xs.length + ys.length <=1000000) (hb:JA <=1000):app JA xs ys=some (xs ++ ys):=
 ZpB (Nat.le_trans (Nat.mul_le_mul (show 2 * (xs.length + ys.length) + 1000 <=2001000 by omega) hb) (by decide))
def iter {α β σ:Type} (g:Nat ->α ->σ ->(σ ->Option β) ->Option β) (d:σ ->Option β):Nat ->List α ->σ ->Option β
 | _,[],s=>d s
 | i,x::l,s=>g i x s (fun s'=>iter g d (i + 1) l s')
theorem Yd {α β σ γ:Type} (l:List α) (mk:Int ->σ ->γ) (body:γ ->(γ ->Option β) ->Option β) (g:Nat ->α ->σ ->(σ ->Option β) ->Option β) (d:σ ->Option β)
 (hl:l.length < 4611686018427387904)
 (hb:∀ (k:Nat) x s next,l[k]? =some x ->((k:Int) < (l.length:Int)) ->body (mk k s) next=g k x s (fun s'=>next (mk (ZQ (k + 1)) s')))
 (he:∀ s next,body (mk l.length s) next=d s) {F:Nat} (hF:l.length < F) (s:σ):loop F body (mk 0 s)=iter g d 0 l s:=by
 have key:∀ (m k F:Nat) s,k + m=l.length ->m < F ->loop F body (mk k s)=iter g d k (l.drop k) s:=by
  intro m
  induction m with
  | zero=>
    intro k F s hk hF;obtain⟨F,rfl⟩:=Nat.exists_eq_succ_of_ne_zero (n:=F) (by omega);have:k=l.length:=by omega
    subst this;rw [Y9,he,List.drop_length];rfl
  | succ m ih=>
    intro k F s hk hF;obtain⟨F,rfl⟩:=Nat.exists_eq_succ_of_ne_zero (n:=F) (by omega);have hlt:k < l.length:=by omega
    rw [Y9,hb k l[k] s _ (by simp [hlt]) (by omega),List.drop_eq_getElem_cons hlt,iter];congr 1;funext s';rw [JC (by omega)];exact ih (k + 1) F s' (by omega) (by omega)
 have:=key l.length 0 F s (by omega) (by omega)
 simpa using this
theorem Qe {β σ γ:Type} (n:Nat) (mk:Int ->σ ->γ) (body:γ ->(γ ->Option β) ->Option β) (g:Nat ->σ ->(σ ->Option β) ->Option β) (d:σ ->Option β)
 (hl:n < 4611686018427387904)
 (hb:∀ (k:Nat) s next,k < n ->body (mk k s) next=g k s (fun s'=>next (mk (ZQ (k + 1)) s')))
 (he:∀ s next,body (mk n s) next=d s) {F:Nat} (hF:n < F) (s:σ):loop F body (mk 0 s)=iter (fun _ k s next=>g k s next) d 0 (List.range n) s:=by
 refine Yd (List.range n) mk body (fun _ k s next=>g k s next) d (by simpa using hl) (fun k x s next hx hk=>?_) (by simpa using he) (by simpa using hF) s;rw [List.length_range] at hk
 have:x=k:=by
  rw [List.getElem?_range (by omega)] at hx
  simpa using hx.symm
 subst this;exact hb _ s next (by omega)
def anyI {α:Type} (c:Nat ->α ->Bool):Nat ->List α ->Bool
 | _,[]=>false
 | i,x::l=>c i x || anyI c (i + 1) l
theorem Za9 {α:Type} {c:Nat ->α ->Bool}:∀ {l:List α} {i:Nat},anyI c i l=true↔∃ j x,l[j]? =some x∧c (i + j) x=true
 | [],i=>by simp [anyI]
 | y::l,i=>by
   unfold anyI;rw [Bool.or_eq_true,Za9 (l:=l)]
   constructor
   ·rintro(h | ⟨j,x,h1,h2⟩)
    ·exact⟨0,y,rfl,h⟩
    ·exact⟨j + 1,x,h1,by rw [← h2];congr 1;omega⟩
   ·rintro⟨j,x,h1,h2⟩;cases j with
    | zero=>simp at h1;subst h1;exact .inl h2
    | succ j=>exact .inr ⟨j,x,by simpa using h1,by rw [← h2];congr 1;omega⟩
theorem JR {α:Type} (c:α ->Bool) (l:List α) (i:Nat):anyI (fun _ x=>c x) i l=l.any c:=by
 induction l generalizing i with
 | nil=>rfl
 | cons x l ih=>unfold anyI;rw [ih];rfl
theorem ZpE {α:Type} {c c':Nat ->α ->Bool} {l:List α} {i:Nat} (h:∀ j x,l[j]? =some x ->c (i + j) x=c' (i + j) x):anyI c i l=anyI c' i l:=by
 induction l generalizing i with
 | nil=>rfl
 | cons x l ih=>
   unfold anyI;rw [ih (fun j y hy=>by have:=h (j + 1) y (by simpa using hy);rwa [show i + (j + 1)=i + 1 + j by omega] at this)];have:=h 0 x rfl;rw [Nat.add_zero] at this;rw [this]
theorem XT {α β σ:Type} {g:Nat ->α ->σ ->(σ ->Option β) ->Option β} {d:σ ->Option β} {r:Option β} (c:Nat ->α ->Bool) {l:List α} {i:Nat} {s:σ}
 (hg:∀ k x next,l[k]? =some x ->g (i + k) x s next=bif c (i + k) x then r else next s):iter g d i l s=bif anyI c i l then r else d s:=by
 induction l generalizing i with
 | nil=>rfl
 | cons x l ih=>
   unfold iter anyI;have:=hg 0 x (fun s'=>iter g d (i + 1) l s') rfl;rw [Nat.add_zero] at this;rw [this];cases c i x
   ·rw [cond_false,Bool.false_or];exact ih (fun k y next hy=>by rw [show i + 1 + k=i + (k + 1) by omega];exact hg (k + 1) y next (by simpa using hy))
   ·rfl
def foldI {α σ:Type} (f:Nat ->α ->σ ->σ):Nat ->List α ->σ ->σ
 | _,[],s=>s
 | i,x::l,s=>foldI f (i + 1) l (f i x s)
theorem Y6 {α β σ:Type} {g:Nat ->α ->σ ->(σ ->Option β) ->Option β} {d:σ ->Option β} (f:Nat ->α ->σ ->σ) (I:Nat ->σ ->Prop) {l:List α} {i:Nat} {s:σ} (h0:I i s)
 (hg:∀ k x s next,l[k]? =some x ->I (i + k) s ->g (i + k) x s next=next (f (i + k) x s)∧I (i + k + 1) (f (i + k) x s)):iter g d i l s=d (foldI f i l s)∧I (i + l.length) (foldI f i l s):=by
 induction l generalizing i s with
 | nil=>exact⟨rfl,h0⟩
 | cons x l ih=>
   unfold iter foldI;have:=hg 0 x s (fun s'=>iter g d (i + 1) l s') rfl h0;rw [Nat.add_zero] at this;rw [this.1]
   have:=ih this.2 (fun k y s next hy hI=>by
    rw [show i + 1 + k=i + (k + 1) by omega] at hI ⊢;exact hg (k + 1) y s next (by simpa using hy) hI)
   rwa [show i + 1 + l.length=i + (x::l).length by simp;omega] at this
theorem X6 {α σ:Type} (f:α ->σ ->σ) (l:List α) (i:Nat) (s:σ):foldI (fun _=>f) i l s=l.foldl (fun s x=>f x s) s:=by
 induction l generalizing i s with
 | nil=>rfl
 | cons x l ih=>exact ih _ _
theorem ZeG {σ τ:Type} (V:σ ->τ) (f:Nat ->σ ->σ) (h:τ ->τ) {n N:Nat} (hn:n < N) (h1:∀ i s,i < N ->i ≠ n ->V (f i s)=V s) (h2:∀ s,V (f n s)=h (V s)) (s:σ):
 V ((List.range N).foldl (fun s i=>f i s) s)=h (V s):=by
 have key:∀ M,M <=N ->V ((List.range M).foldl (fun s i=>f i s) s)=if n < M then h (V s) else V s:=by
  intro M
  induction M with
  | zero=>intro _;simp
  | succ M ih=>
    intro hM;rw [List.range_succ,List.foldl_append];simp only [List.foldl_cons,List.foldl_nil];by_cases e:M=n
    ·subst e;rw [h2,ih (by omega),if_neg (by omega),if_pos (by omega)]
    ·rw [h1 _ _ (by omega) e,ih (by omega)];by_cases hm:n < M
     ·rw [if_pos hm,if_pos (by omega)]
     ·rw [if_neg hm,if_neg (by omega)]
 rw [key N (Nat.le_refl _),if_pos hn]
end Go.Lf
end
section
end
section
namespace Go.Proofs.Ytekpjgmhkkjhgaa
open Go.Lf
structure Small (w:Za):Prop where
 cells:w.cells.length < 1000
 rows:∀ r ∈ w.cells,r.length < 1000
 notes:w.notes.length < 1000
 freed:w.freed.length < 1000
def rowOf (w:Za) (m:Nat):List Zb:=w.cells[m]?.getD []
def cellOf (w:Za) (m:Nat) (n:Int):Option Zb:= (rowOf w m).find? (fun c=>c.name==n)
theorem Small.row {w:Za} (s:Small w) (m:Nat):(rowOf w m).length < 1000:=by
 unfold rowOf;cases e:w.cells[m]? with
 | none=>simp
 | some r=>exact s.rows r (List.mem_of_getElem? e)
theorem Yl {w:Za} {m:Nat} (h:m < w.cells.length):w.cells[m]? =some (rowOf w m):=by
 unfold rowOf;simp [h]
theorem has_eq {F:Nat} (hF:1000 <=F) {l:List Int} (hl:l.length < 1000) (x:Int):Znd F l x=some (l.any fun y=>y==x):=by
 unfold Znd;refine(Yd l (fun v (_:Unit)=>v) (Ziw l x) (fun _ y s next=>bif y==x then some true else next ()) (fun _=>some false) (by omega) (fun k y s next hy hk=>?_) (fun s next=>?_) (by omega) ()).trans ?_
 ·simp [Ziw,ZB,hy,hk]
 ·simp [Ziw]
 ·rw [XT (r:=some true) (fun _ y=>y==x) (fun _ _ _ _=>rfl),JR];cases l.any fun y=>y==x <;> rfl
theorem ZjY {α β σ:Type} {g:Nat ->α ->σ ->(σ ->Option β) ->Option β} {d:σ ->Option β} (r:Nat ->Option β) (c:α ->Bool) {l:List α} {i:Nat} {s:σ}
 (hg:∀ k x next,l[k]? =some x ->g (i + k) x s next=bif c x then r (i + k) else next s):
 (∃ j x,l.find? c=some x∧l[j]? =some x∧iter g d i l s=r (i + j))∨(l.find? c=none∧iter g d i l s=d s):=by
 induction l generalizing i with
 | nil=>exact .inr ⟨rfl,rfl⟩
 | cons x l ih=>
   unfold iter;have:=hg 0 x (fun s'=>iter g d (i + 1) l s') rfl;rw [Nat.add_zero] at this;rw [this];cases hc:c x
   ·rw [cond_false,List.find?_cons,hc];rcases ih (i:=i + 1) (fun k y next hy=>by rw [show i + 1 + k=i + (k + 1) by omega];exact hg (k + 1) y next (by simpa using hy)) with⟨j,y,h1,h2,h3⟩ | ⟨h1,h2⟩
    ·exact .inl ⟨j + 1,y,h1,by simpa using h2,by rw [h3];congr 1;omega⟩
    ·exact .inr ⟨h1,h2⟩
   ·exact .inl ⟨0,x,by rw [List.find?_cons,hc],rfl,rfl⟩
theorem find_eq {F:Nat} (hF:1000 <=F) {w:Za} (sm:Small w) {m:Nat} (hm:m < w.cells.length) (n:Int):
 (∃ (j:Nat) (c:Zb),cellOf w m n=some c∧(rowOf w m)[j]? =some c∧Zdh F w m n=some (j:Int))∨(cellOf w m n=none∧Zdh F w m n=some (-1)):=by
 have hr:=Yl hm;have hl:=sm.row m
 have e:Zdh F w m n=iter (fun k (y:Zb) (_:Unit) next=>bif y.name==n then some (k:Int) else next ()) (fun _=>some (-1)) 0 (rowOf w m) ():=by
  unfold Zdh;refine(Yd (rowOf w m) (fun v (_:Unit)=>v) (Ziq w m n) _ _ (by omega) (fun k y s next hy hk=>?_) (fun s next=>?_) (by omega) ())
  ·simp only [Ziq,ZB,hr,hy,hk,decide_true,Option.bind_some,cond_true]
  ·simp [Ziq,ZB,hr]
 rw [e];rcases ZjY (l:=rowOf w m) (i:=0) (s:= ()) (d:=fun _=>some (-1)) (g:=fun k (y:Zb) (_:Unit) next=>bif y.name==n then some (k:Int) else next ()) (fun k=>some (k:Int)) (fun c=>c.name==n) (fun _ _ _ _=>rfl) with⟨j,x,h1,h2,h3⟩ | ⟨h1,h2⟩
 ·exact .inl ⟨j,x,h1,h2,by rw [h3,Nat.zero_add]⟩
 ·exact .inr ⟨h1,h2⟩
def ZaE (w:Za) (m n:Int):Nat:=w.notes.countP fun x=>(x.kind==3 && x.ZH==m) && x.name==n
theorem Zpq {α:Type} (c:α ->Bool) (l:List α) (a:Nat) (h:a + l.length < 4611686018427387904):
 l.foldl (fun(s:Int) x=>bif c x then ZQ (s + 1) else s) (a:Int)= ((a + l.countP c:Nat):Int):=by
 induction l generalizing a with
 | nil=>rfl
 | cons x l ih=>
   rw [List.foldl_cons,List.countP_cons];simp only [List.length_cons] at h;cases hc:c x
   ·simp only [cond_false];rw [ih a (by omega)];simp
   ·simp only [cond_true,if_true];rw [JC (by omega),ih (a + 1) (by omega)];congr 1;omega
theorem ZmG {F:Nat} (hF:1000 <=F) {w:Za} (sm:Small w) (m n:Int):Zkj F w m n=some (ZaE w m n:Int):=by
 have hl:=sm.notes;unfold Zkj;refine(Yd w.notes (fun v (s:Int)=>(s,v)) (ZeR w m n) (fun _ x s next=>next (bif((x.kind==3) && (x.ZH==m)) && (x.name==n) then ZQ (s + 1) else s)) (fun s=>some s) (by omega) (fun k y s next hy hk=>?_) (fun s next=>?_) (by omega) 0).trans ?_
 ·simp only [ZeR,ZB,hy,hk,decide_true,cond_true,Option.bind_some,ZeQ];cases ((y.kind==3) && (y.ZH==m)) && (y.name==n) <;> rfl
 ·simp [ZeR]
 ·rw [(Y6 (fun _ x s=>bif((x.kind==3) && (x.ZH==m)) && (x.name==n) then ZQ (s + 1) else s) (fun _ _=>True) trivial (fun _ _ _ _ _ _=>⟨rfl,trivial⟩)).1];rw [X6];have:=Zpq (fun x:Zf=>((x.kind==3) && (x.ZH==m)) && (x.name==n)) w.notes 0 (by omega);rw [Nat.zero_add] at this;exact congrArg some this
def ZjQ (w:Za) (m:Nat) (n:Int):Int:=match cellOf w m n with | some c=>c.out | none=>0
def XB (w:Za) (m:Nat) (n:Int):Int:=ZQ (16 * (ZaE w m n:Int) + ZjQ w m n)
theorem Zm3 {F:Nat} (hF:1000 <=F) {w:Za} (sm:Small w) {m:Nat} (hm:m < w.cells.length) (n:Int):Znc F w m n=some (XB w m n):=by
 unfold Znc;rw [ZmG hF sm];rcases find_eq hF sm hm n with⟨j,c,h1,h2,h3⟩ | ⟨h1,h3⟩
 ·rw [h3];have hj:decide ((j:Int) >=0)=true:=by simp
  simp only [Option.bind_some,hj,cond_true,ZB,Yl hm,h2,ZfT];unfold XB ZjQ;rw [h1,Zg5]
 ·rw [h3];simp only [Option.bind_some,ZfT];unfold XB ZjQ;rw [h1];simp
def Zew (w:Za) (m n:Int) (k:Nat) (s:Int):Int:=match cellOf w k n with | some c=>bif c.from_==m then ZQ (s + c.has) else s | none=>s
def ZaX (m n:Int) (x:Zf) (s:Int):Int:=bif(x.name==n) && (((x.kind==1) && (x.via==m)) || ((x.kind==2) && (x.ZH==m))) then ZQ (s + x.w) else s
def Zbv (w:Za) (m n:Int):Int:=w.notes.foldl (fun s x=>ZaX m n x s) ((List.range w.cells.length).foldl (fun s k=>Zew w m n k s) 0)
theorem ZxC {F:Nat} (hF:1000 <=F) {w:Za} (sm:Small w) (m n:Int):Zu9 F w m n=some (Zbv w m n):=by
 have hl:=sm.notes;have hc:=sm.cells
 have notes:∀ s:Int,loop F (ZfR w m n) (s,0)=some (w.notes.foldl (fun s x=>ZaX m n x s) s):=by
  intro s;refine(Yd w.notes (fun v (s:Int)=>(s,v)) (ZfR w m n) (fun _ x s next=>next (ZaX m n x s)) (fun s=>some s) (by omega) (fun k y s next hy hk=>?_) (fun s next=>?_) (by omega) s).trans ?_
  ·simp only [ZfR,ZB,hy,hk,decide_true,cond_true,Option.bind_some,Zir,ZaX];cases (y.name==n) && (((y.kind==1) && (y.via==m)) || ((y.kind==2) && (y.ZH==m))) <;> rfl
  ·simp [ZfR]
  ·rw [(Y6 (fun _ x s=>ZaX m n x s) (fun _ _=>True) trivial (fun _ _ _ _ _ _=>⟨rfl,trivial⟩)).1,X6]
 unfold Zu9;refine(Qe w.cells.length (fun v (s:Int)=>(s,v)) (ZfS F w m n) (fun k s next=>next (Zew w m n k s)) (fun s=>some (w.notes.foldl (fun s x=>ZaX m n x s) s)) (by omega) (fun k s next hk=>?_) (fun s next=>?_) (by omega) 0).trans ?_
 ·have hk':decide ((k:Int) < (w.cells.length:Int))=true:=by simpa using hk
  rcases find_eq hF sm hk n with⟨j,c,h1,h2,h3⟩ | ⟨h1,h3⟩
  ·have hj:decide ((j:Int) >=0)=true:=by simp
   simp only [ZfS,hk',cond_true,h3,Option.bind_some,hj,KL,ZB,Yl hk,h2,ZfQ,Zew,h1,Bool.true_and];cases c.from_==m <;> rfl
  ·simp only [ZfS,hk',cond_true,h3,Option.bind_some,Zew,h1,ZfQ]
   rfl
 ·simp only [ZfS];rw [decide_eq_false (by omega),cond_false];exact notes s
 ·rw [(Y6 (fun _ k s=>Zew w m n k s) (fun _ _=>True) trivial (fun _ _ _ _ _ _=>⟨rfl,trivial⟩)).1,X6]
  rfl
end Go.Proofs.Ytekpjgmhkkjhgaa
end
section
namespace Go.Proofs.Ytekpjgmhkkjhgaa
open Go.Lf
theorem K7 {α:Type} (g:Bool) (a d:α):gd g (some a) d=some (bif g then a else d):=by cases g <;> rfl
theorem contains_eq {F:Nat} (hF:1000 <=F) {l:List Int} (hl:l.length < 1000) (x:Int):ZrE F l x=some (l.any fun y=>y==x):=by
 unfold ZrE ZqJ
 have e:=Yd l (fun v (_:Unit)=>v) (Zc1 l x) (fun k y s next=>bif x==y then some (k:Int) else next ()) (fun _=>some (-1)) (by omega) (fun k y s next hy hk=>by
  simp only [Zc1,ZB,hy,hk,decide_true,Option.bind_some,cond_true]) (fun s next=>by simp [Zc1]) (by omega:l.length < F) ()
 rw [show loop F (Zc1 l x) 0=_ from e];rcases ZjY (l:=l) (i:=0) (s:= ()) (d:=fun _=>some (-1)) (g:=fun k (y:Int) (_:Unit) next=>bif x==y then some (k:Int) else next ()) (fun k=>some (k:Int)) (fun c=>x==c) (fun _ _ _ _=>rfl) with⟨j,y,h1,h2,h3⟩ | ⟨h1,h2⟩
 ·rw [h3]
  have:(l.any fun y=>y==x)=true:=by
   rw [List.any_eq_true];have:=List.find?_some h1;exact⟨y,List.mem_of_find?_eq_some h1,by simpa using (by simpa using this:x=y).symm⟩
  rw [this];simp
 ·rw [h2]
  have:(l.any fun y=>y==x)=false:=by
   rw [List.any_eq_false];rw [List.find?_eq_none] at h1;intro y hy;have:=h1 y hy;simp at this ⊢;exact fun e=>this e.symm
  rw [this];rfl
def Ym (w:Za) (n:Int):Bool:= (decide (0 <=n) && decide (n < w.names)) && !(w.freed.any fun y=>y==n)
def KA (w:Za) (m:Int):Bool:=decide (0 <=m) && decide (m < (w.cells.length:Int))
def J6 (w:Za) (m:Int) (c:Zb):Bool:=
 (Ym w c.name && (decide (-16 <=c.out) && decide (c.out <=1000000)) && (c.use || !(c.out==0))) &&
 (bif c.root || c.from_==-1 then c.from_==-1 && c.has==0 else KA w c.from_ && !(c.from_==m) && (decide (1 <=c.has) && decide (c.has <=1000000)))
def JL (w:Za) (x:Zf):Bool:=
 (KA w x.ZH && Ym w x.name && (decide (1 <=x.w) && decide (x.w <=1000000))) &&
 (bif x.kind==1 then KA w x.via else bif x.kind==2 then x.via==0 else x.kind==3 && x.via==0 && x.w==16)
theorem in_lt (a n:Int) (h0:0 <=n) (h1:n <=1000):ZaZ a 0 (ZQ (n - 1))=some (decide (0 <=a) && decide (a < n)):=by
 unfold ZaZ;rw [Q5 (by omega) (by omega)];congr 2;exact decide_eq_decide.2 (by omega)
theorem Zj0 (a b c:Int):ZaZ a b c=some (decide (b <=a) && decide (a <=c)):=rfl
section
theorem ZvH {F:Nat} (hF:1000 <=F) {w:Za} (sm:Small w) (h0:0 <=w.names) (h1:w.names <=1000) (m:Int) (c:Zb):ZuZ F w m c=some (J6 w m c):=by
 unfold ZuZ;have:=sm.cells;rw [in_lt _ _ h0 h1,in_lt _ _ (by omega) (by omega),Zj0,Zj0,has_eq hF sm.freed];simp only [K7,Option.bind_some];unfold J6 Ym KA;generalize (w.freed.any fun y=>y==c.name)=fr;generalize (decide (0 <=c.name) && decide (c.name < w.names))=nm;generalize (decide (-16 <=c.out) && decide (c.out <=1000000))=ou;generalize (decide (0 <=c.from_) && decide (c.from_ < (w.cells.length:Int)))=fm;generalize (decide (1 <=c.has) && decide (c.has <=1000000))=ha;generalize (c.out==0)=o0;have:(c.from_ !=m)= !(c.from_==m):=rfl;rw [this];generalize (c.from_==m)=f1;generalize (c.from_==-1)=f2;generalize (c.has==0)=hz;generalize c.use=us;generalize c.root=ro;cases nm <;> cases ou <;> cases us <;> cases o0 <;> cases fr <;> cases ro <;> cases f2 <;> cases fm <;> cases f1 <;> cases ha <;> rfl
theorem ZfA {F:Nat} (hF:1000 <=F) {w:Za} (sm:Small w) (st:Store) (e1:st.names=w.names) (e2:st.freed=w.freed) (n:Int):Znb F st n=some (Ym w n):=by
 unfold Znb Ym;rw [e1,e2,contains_eq hF sm.freed];simp only [K7,Option.bind_some];simp only [ge_iff_le];cases decide (0 <=n) <;> cases decide (n < w.names) <;> cases (w.freed.any fun y=>y==n) <;> rfl
theorem ZfD {w:Za} (sm:Small w) (st:Store) (e1:st.machines= (w.cells.length:Int)) (n:Int):ZiJ st n=some (KA w n):=by
 unfold ZiJ KA;rw [e1]
theorem ZrT {F:Nat} (hF:1000 <=F) {w:Za} (sm:Small w) (st:Store) (e0:st.machines= (w.cells.length:Int)) (e1:st.names=w.names) (e2:st.freed=w.freed) (m:Int) (c:Zb):Znl F st m c=some (J6 w m c):=by
 unfold Znl;rw [ZfA hF sm st e1 e2,ZfD sm st e0];simp only [Option.bind_some];unfold J6;have a1:decide (c.out < -16)= !decide (-16 <=c.out):=by rw [← decide_not];exact decide_eq_decide.2 (by omega)
 have a2:decide (c.out > 1000000)= !decide (c.out <=1000000):=by rw [← decide_not];exact decide_eq_decide.2 (by omega)
 have a3:(c.from_ !=m)= !(c.from_==m):=rfl;rw [a1,a2,a3];simp only [ge_iff_le];generalize Ym w c.name=nm;generalize decide (-16 <=c.out)=oa;generalize decide (c.out <=1000000)=ob;generalize KA w c.from_=fm;generalize decide (1 <=c.has)=ha;generalize decide (c.has <=1000000)=hb;generalize (c.out==0)=o0;generalize (c.from_==m)=f1;generalize (c.from_==-1)=f2;generalize (c.has==0)=hz;generalize c.use=us;generalize c.root=ro;cases nm <;> cases oa <;> cases ob <;> cases us <;> cases o0 <;> cases ro <;> cases f2 <;> cases fm <;> cases f1 <;> cases ha <;> cases hb <;> rfl
theorem ZsX {F:Nat} (hF:1000 <=F) {w:Za} (sm:Small w) (h0:0 <=w.names) (h1:w.names <=1000) (x:Zf):ZuY F w x=some (JL w x):=by
 unfold ZuY;have:=sm.cells;rw [in_lt _ _ h0 h1,in_lt _ _ (by omega) (by omega),in_lt _ _ (by omega) (by omega),Zj0,has_eq hF sm.freed];simp only [K7,Option.bind_some];unfold JL Ym KA;generalize (w.freed.any fun y=>y==x.name)=fr;generalize (decide (0 <=x.name) && decide (x.name < w.names))=nm;generalize (decide (0 <=x.ZH) && decide (x.ZH < (w.cells.length:Int)))=tm;generalize (decide (0 <=x.via) && decide (x.via < (w.cells.length:Int)))=vm;generalize (decide (1 <=x.w) && decide (x.w <=1000000))=ha;generalize (x.kind==1)=k1;generalize (x.kind==2)=k2;generalize (x.kind==3)=k3;generalize (x.via==0)=v0;generalize (x.w==16)=w16;cases nm <;> cases fr <;> cases tm <;> cases vm <;> cases ha <;> cases k1 <;> cases k2 <;> cases k3 <;> cases v0 <;> cases w16 <;> rfl
theorem Zrh {F:Nat} (hF:1000 <=F) {w:Za} (sm:Small w) (st:Store) (e0:st.machines= (w.cells.length:Int)) (e1:st.names=w.names) (e2:st.freed=w.freed) (x:Zf):Znk F st x=some (JL w x):=by
 unfold Znk;rw [ZfA hF sm st e1 e2,ZfD sm st e0,ZfD sm st e0];simp only [K7,Option.bind_some];unfold JL;have a1:decide (x.w < 1)= !decide (1 <=x.w):=by rw [← decide_not];exact decide_eq_decide.2 (by omega)
 have a2:decide (x.w > 1000000)= !decide (x.w <=1000000):=by rw [← decide_not];exact decide_eq_decide.2 (by omega)
 rw [a1,a2];generalize Ym w x.name=nm;generalize KA w x.ZH=tm;generalize KA w x.via=vm;generalize decide (1 <=x.w)=ha;generalize decide (x.w <=1000000)=hb;generalize (x.kind==1)=k1;generalize (x.kind==2)=k2;generalize (x.kind==3)=k3;generalize (x.via==0)=v0;generalize (x.w==16)=w16;cases nm <;> cases tm <;> cases vm <;> cases ha <;> cases hb <;> cases k1 <;> cases k2 <;> cases k3 <;> cases v0 <;> cases w16 <;> rfl
end
end Go.Proofs.Ytekpjgmhkkjhgaa
end
section
namespace Go.Proofs.Ytekpjgmhkkjhgaa
open Go.Lf
def Qc {α:Type} [Inhabited α] (l:List α) (k:Nat):α:=l[k-1]?.getD default
theorem Zhf {α:Type} [Inhabited α] (g:Bool) {l:List α} {k:Nat} (hk:k < l.length) (hl:l.length < 4611686018427387904):
 gd (g && decide ((k:Int) > 0)) (ZL l (ZQ ((k:Int) - 1))) default=some (bif g && decide ((k:Int) > 0) then Qc l k else default):=by
 cases g
 ·rfl
 ·by_cases h:0 < k
  ·have:decide ((k:Int) > 0)=true:=by simp;omega
   rw [this,Bool.true_and,KL,Zma (by omega) h,ZB,cond_true];unfold Qc;have:k - 1 < l.length:=by omega
   simp [this]
  ·have:decide ((k:Int) > 0)=false:=by simp;omega
   rw [this];rfl
def QN (w:Za) (k:Nat) (x:Int):Bool:= !(decide (0 <=x) && decide (x < w.names)) || (decide ((k:Int) > 0) && decide (x <=Qc w.freed k))
def Q7 (w:Za) (m:Nat) (row:List Zb) (k:Nat) (c:Zb):Bool:= !(J6 w m c) || (decide ((k:Int) > 0) && decide (c.name <= (Qc row k).name))
def J8 (w:Za):Bool:= (decide (1 <= (w.cells.length:Int)) && decide ((w.cells.length:Int) <=6)) && (decide (0 <=w.names) && decide (w.names <=12)) && (decide ((w.notes.length:Int) <=80) && decide ((w.freed.length:Int) <=w.names))
def KX (w:Za):Bool:= !(anyI (fun m row=>anyI (Q7 w m row) 0 row) 0 w.cells)
def ZdC (w:Za):Bool:= !(anyI (fun m row=>decide ((row.length:Int) > w.names) || anyI (Q7 w m row) 0 row) 0 w.cells)
def Js (w:Za):Bool:= !(w.notes.any fun x=>!(JL w x))
section
theorem Zq8 {F:Nat} (hF:1000 <=F) {w:Za} (sm:Small w):Zvd F w=some (J8 w && (!(anyI (QN w) 0 w.freed) && (ZdC w && Js w))):=by
 unfold Zvd;have hc:=sm.cells;have hn:=sm.notes;have hf:=sm.freed;rw [Zj0,Zj0];simp only [K7,Option.bind_some];cases hs:J8 w
 ·have:((((!(decide (1 <= (w.cells.length:Int)) && decide ((w.cells.length:Int) <=6))) || !(bif !(!(decide (1 <= (w.cells.length:Int)) && decide ((w.cells.length:Int) <=6))) then(decide (0 <=w.names) && decide (w.names <=12)) else default)) || decide ((w.notes.length:Int) > 80)) || decide ((w.freed.length:Int) > w.names))=true:=by
   unfold J8 at hs;have a1:decide ((w.notes.length:Int) > 80)= !decide ((w.notes.length:Int) <=80):=by rw [← decide_not];exact decide_eq_decide.2 (by omega)
   have a2:decide ((w.freed.length:Int) > w.names)= !decide ((w.freed.length:Int) <=w.names):=by rw [← decide_not];exact decide_eq_decide.2 (by omega)
   rw [a1,a2]
   revert hs
   generalize decide (1 <= (w.cells.length:Int))=b1;generalize decide ((w.cells.length:Int) <=6)=b2;generalize decide (0 <=w.names)=b3;generalize decide (w.names <=12)=b4;generalize decide ((w.notes.length:Int) <=80)=b5;generalize decide ((w.freed.length:Int) <=w.names)=b6
   revert b1 b2 b3 b4 b5 b6
   decide
  rw [this];rfl
 ·have hs':=hs;unfold J8 at hs;simp only [Bool.and_eq_true,decide_eq_true_eq] at hs;obtain⟨⟨⟨b1,b2⟩,b3,b4⟩,b5,b6⟩:=hs
  have:((((!(decide (1 <= (w.cells.length:Int)) && decide ((w.cells.length:Int) <=6))) || !(bif !(!(decide (1 <= (w.cells.length:Int)) && decide ((w.cells.length:Int) <=6))) then(decide (0 <=w.names) && decide (w.names <=12)) else default)) || decide ((w.notes.length:Int) > 80)) || decide ((w.freed.length:Int) > w.names))=false:=by
   rw [decide_eq_true b1,decide_eq_true b2,decide_eq_true b3,decide_eq_true b4,decide_eq_false (by omega:¬ (w.notes.length:Int) > 80),decide_eq_false (by omega:¬ (w.freed.length:Int) > w.names)]
   rfl
  rw [this,cond_false,Bool.true_and]
  have e3:loop F (Zf1 F w) 0=some (Js w):=by
   refine(Yd w.notes (fun v (_:Unit)=>v) (Zf1 F w) (fun _ x s next=>bif !(JL w x) then some false else next ()) (fun _=>some true) (by omega) (fun k y s next hy hk=>?_) (fun s next=>?_) (by omega) ()).trans ?_
   ·simp only [Zf1,ZB,hy,hk,decide_true,cond_true,Option.bind_some,ZsX hF sm b3 (by omega)]
   ·simp [Zf1]
   ·rw [XT (r:=some false) (fun _ x=>!(JL w x)) (fun _ _ _ _=>rfl),JR];unfold Js;cases w.notes.any fun x=>!(JL w x) <;> rfl
  have e2:∀ (m:Nat) (row:List Zb) (next:Int ->Option Bool),row.length < 1000 ->loop F (Zf2 F w m next row) 0=bif anyI (Q7 w m row) 0 row then some false else next (ZQ ((m:Int) + 1)):=by
   intro m row next hr;refine(Yd row (fun v (_:Unit)=>v) (Zf2 F w m next row) (fun k c s nx=>bif Q7 w m row k c then some false else nx ()) (fun _=>next (ZQ ((m:Int) + 1))) (by omega) (fun k y s nx hy hk=>?_) (fun s nx=>?_) (by omega) ()).trans ?_
   ·have hk':k < row.length:=by omega
    simp only [Zf2,ZB,hy,hk,decide_true,cond_true,Option.bind_some,ZvH hF sm b3 (by omega),Zhf _ hk' (by omega),K7];unfold Q7;cases J6 w m y <;> cases decide ((k:Int) > 0) <;> rfl
   ·simp [Zf2]
   ·rw [XT (r:=some false) (Q7 w m row) (fun k _ _ _=>by rw [Nat.zero_add])]
  have e1:loop F (Zf3 F w) 0=some (ZdC w && Js w):=by
   refine(Yd w.cells (fun v (_:Unit)=>v) (Zf3 F w) (fun m row s next=>bif decide ((row.length:Int) > w.names) || anyI (Q7 w m row) 0 row then some false else next ()) (fun _=>some (Js w)) (by omega) (fun k y s next hy hk=>?_) (fun s next=>?_) (by omega) ()).trans ?_
   ·have hr:=sm.rows y (List.mem_of_getElem? hy);simp only [Zf3,ZB,hy,hk,decide_true,cond_true,Option.bind_some];rw [e2 k y next hr];cases decide ((y.length:Int) > w.names) <;> rfl
   ·simp only [Zf3];rw [decide_eq_false (by omega),cond_false,e3]
   ·rw [XT (r:=some false) (fun m row=>decide ((row.length:Int) > w.names) || anyI (Q7 w m row) 0 row) (fun k _ _ _=>by rw [Nat.zero_add])];unfold ZdC;cases anyI (fun m (row:List Zb)=>decide ((row.length:Int) > w.names) || anyI (Q7 w m row) 0 row) 0 w.cells <;> rfl
  refine(Yd w.freed (fun v (_:Unit)=>v) (Zix F w) (fun k x s next=>bif QN w k x then some false else next ()) (fun _=>some (ZdC w && Js w)) (by omega) (fun k y s next hy hk=>?_) (fun s next=>?_) (by omega) ()).trans ?_
  ·have hk':k < w.freed.length:=by omega
   simp only [Zix,ZB,hy,hk,decide_true,cond_true,Option.bind_some,in_lt _ _ b3 (by omega:w.names <=1000),Zhf _ hk' (by omega),K7];unfold QN;cases (decide (0 <=y) && decide (y < w.names)) <;> cases decide ((k:Int) > 0) <;> rfl
  ·simp only [Zix];rw [decide_eq_false (by omega),cond_false,e1]
  ·rw [XT (r:=some false) (QN w) (fun k _ _ _=>by rw [Nat.zero_add])];cases anyI (QN w) 0 w.freed <;> rfl
theorem ZrA {F:Nat} (hF:1000 <=F) {w:Za} (sm:Small w) (st:Store) (e0:st.machines= (w.cells.length:Int)) (e1:st.names=w.names) (e2:st.freed=w.freed):Zu6 F st w=some (KX w && Js w):=by
 have hc:=sm.cells;have hn:=sm.notes
 have l2:loop F (ZfO F st w) 0=some (Js w):=by
  refine(Yd w.notes (fun v (_:Unit)=>v) (ZfO F st w) (fun _ x s next=>bif !(JL w x) then some false else next ()) (fun _=>some true) (by omega) (fun k y s next hy hk=>?_) (fun s next=>?_) (by omega) ()).trans ?_
  ·simp only [ZfO,ZB,hy,hk,decide_true,cond_true,Option.bind_some,Zrh hF sm st e0 e1 e2]
  ·simp [ZfO]
  ·rw [XT (r:=some false) (fun _ x=>!(JL w x)) (fun _ _ _ _=>rfl),JR];unfold Js;cases w.notes.any fun x=>!(JL w x) <;> rfl
 have l1:∀ (m:Nat) (row:List Zb) (next:Int ->Option Bool),row.length < 1000 ->loop F (ZfP F st m next row) 0=bif anyI (Q7 w m row) 0 row then some false else next (ZQ ((m:Int) + 1)):=by
  intro m row next hr;refine(Yd row (fun v (_:Unit)=>v) (ZfP F st m next row) (fun k c s nx=>bif Q7 w m row k c then some false else nx ()) (fun _=>next (ZQ ((m:Int) + 1))) (by omega) (fun k y s nx hy hk=>?_) (fun s nx=>?_) (by omega) ()).trans ?_
  ·have hk':k < row.length:=by omega
   simp only [ZfP,ZB,hy,hk,decide_true,cond_true,Option.bind_some,ZrT hF sm st e0 e1 e2,Zhf _ hk' (by omega),K7];unfold Q7;cases J6 w m y <;> cases decide ((k:Int) > 0) <;> rfl
  ·simp [ZfP]
  ·rw [XT (r:=some false) (Q7 w m row) (fun k _ _ _=>by rw [Nat.zero_add])]
 unfold Zu6;refine(Yd w.cells (fun v (_:Unit)=>v) (Zio F st w) (fun m row s next=>bif anyI (Q7 w m row) 0 row then some false else next ()) (fun _=>some (Js w)) (by omega) (fun k y s next hy hk=>?_) (fun s next=>?_) (by omega) ()).trans ?_
 ·have hr:=sm.rows y (List.mem_of_getElem? hy);simp only [Zio,ZB,hy,hk,decide_true,cond_true,Option.bind_some];exact l1 k y next hr
 ·simp only [Zio];rw [decide_eq_false (by omega),cond_false,l2]
 ·rw [XT (r:=some false) (fun m row=>anyI (Q7 w m row) 0 row) (fun k _ _ _=>by rw [Nat.zero_add])];unfold KX;cases anyI (fun m (row:List Zb)=>anyI (Q7 w m row) 0 row) 0 w.cells <;> rfl
end
end Go.Proofs.Ytekpjgmhkkjhgaa
end
section
namespace Go.Proofs.Ytekpjgmhkkjhgaa
open Go.Lf
structure Shp (w:Za):Prop where
 c1:1 <=w.cells.length
 c6:w.cells.length <=6
 n0:0 <=w.names
 n12:w.names <=12
 notes:w.notes.length <=80
 cell:∀ (m:Nat) (row:List Zb) (k:Nat) (c:Zb),w.cells[m]? =some row ->row[k]? =some c ->J6 w m c=true∧(0 < k ->(Qc row k).name < c.name)
 note:∀ x ∈ w.notes,JL w x=true
theorem Zpv {w:Za} {m:Int} {c:Zb} (h:J6 w m c=true):0 <=c.name∧c.name < w.names:=by
 unfold J6 Ym at h;simp only [Bool.and_eq_true,decide_eq_true_eq] at h;exact⟨h.1.1.1.1.1,h.1.1.1.1.2⟩
theorem rows_ok {w:Za} (h:KX w=true) (m:Nat) (row:List Zb) (k:Nat) (c:Zb) (hm:w.cells[m]? =some row) (hk:row[k]? =some c):J6 w m c=true∧(0 < k ->(Qc row k).name < c.name):=by
 unfold KX at h;rw [Bool.not_eq_true',← Bool.not_eq_true] at h;have h1:¬ Q7 w m row k c=true:=fun hb=>h (Za9.2 ⟨m,row,hm,by rw [Nat.zero_add];exact Za9.2 ⟨k,c,hk,by rw [Nat.zero_add];exact hb⟩⟩)
 unfold Q7 at h1;rw [Bool.or_eq_true,Bool.and_eq_true,decide_eq_true_eq,decide_eq_true_eq,Bool.not_eq_true'] at h1;refine⟨?_,fun h0=>?_⟩
 ·cases hc:J6 w m c
  ·exact absurd (.inl hc) h1
  ·rfl
 ·by_cases hl:(Qc row k).name < c.name
  ·exact hl
  ·exact absurd (.inr ⟨by omega,by omega⟩) h1
theorem asc {row:List Zb} (h:∀ k c,row[k]? =some c ->0 < k ->(Qc row k).name < c.name):∀ (k j:Nat) (c d:Zb),j < k ->row[k]? =some c ->row[j]? =some d ->d.name < c.name:=by
 intro k
 induction k with
 | zero=>intro j c d h0;omega
 | succ k ih=>
   intro j c d hj hc hd;have hlt:k + 1 < row.length:= (List.getElem?_eq_some_iff.1 hc).1;have hp:=h (k + 1) c hc (by omega)
   have e:row[k]? =some (Qc row (k + 1)):=by
    unfold Qc;have:k < row.length:=by omega
    simp [this]
   by_cases hjk:j=k
   ·subst hjk;rw [e] at hd;cases hd;exact hp
   ·have:=ih j _ d (by omega) e hd;omega
theorem ZyP {row:List Zb} {n:Int} (h:∀ k c,row[k]? =some c ->(0 <=c.name∧c.name < n)∧(0 < k ->(Qc row k).name < c.name)) (h0:0 <=n):(row.length:Int) <=n:=by
 have key:∀ (k:Nat) (c:Zb),row[k]? =some c ->(k:Int) <=c.name:=by
  intro k
  induction k with
  | zero=>intro c hc;exact(h 0 c hc).1.1
  | succ k ih=>
    intro c hc;have hlt:k + 1 < row.length:= (List.getElem?_eq_some_iff.1 hc).1
    have e:row[k]? =some (Qc row (k + 1)):=by
     unfold Qc;have:k < row.length:=by omega
     simp [this]
    have:=ih _ e;have:= (h (k + 1) c hc).2 (by omega);omega
 by_cases hz:row.length=0
 ·omega
 ·have hlt:row.length - 1 < row.length:=by omega
  have e:row[row.length - 1]? =some row[row.length - 1]:=by simp [hlt]
  have:=key _ _ e;have:= (h _ _ e).1.2;omega
theorem ZwO {w:Za} (h0:0 <=w.names):ZdC w=KX w:=by
 cases h:KX w
 ·unfold KX at h;unfold ZdC;rw [Bool.not_eq_false'] at h ⊢;rw [Za9] at h ⊢;obtain⟨j,x,h1,h2⟩:=h;exact⟨j,x,h1,by rw [h2,Bool.or_true]⟩
 ·have h':=h;unfold KX at h;unfold ZdC;rw [Bool.not_eq_true'] at h ⊢;rw [← h];refine ZpE fun j row hj=>?_
  have:decide ((row.length:Int) > w.names)=false:=by
   have:=ZyP (row:=row) (n:=w.names) (fun k c hk=>⟨Zpv (rows_ok h' j row k c hj hk).1,(rows_ok h' j row k c hj hk).2⟩) h0;exact decide_eq_false (by omega)
  rw [this,Bool.false_or]
theorem ZsA {w:Za} (h1:J8 w=true) (h2:KX w=true) (h3:Js w=true):Shp w:=by
 unfold J8 at h1;simp only [Bool.and_eq_true,decide_eq_true_eq] at h1;obtain⟨⟨⟨b1,b2⟩,b3,b4⟩,b5,b6⟩:=h1;refine⟨by omega,by omega,b3,b4,by omega,rows_ok h2,fun x hx=>?_⟩;unfold Js at h3;rw [Bool.not_eq_true',List.any_eq_false] at h3;have:=h3 x hx
 simpa using this
theorem Zq5 {row:List Zb} (h:∀ k c,row[k]? =some c ->0 < k ->(Qc row k).name < c.name) {k:Nat} {c:Zb} (hc:row[k]? =some c) (n:Int):
 (row.take (k + 1)).find? (fun x=>x.name==n)=if n=c.name then some c else(row.take k).find? (fun x=>x.name==n):=by
 have hlt:k < row.length:= (List.getElem?_eq_some_iff.1 hc).1
 have e:row.take (k + 1)=row.take k ++ [c]:=by
  rw [List.take_add_one,hc];rfl
 rw [e,List.find?_append];by_cases hn:n=c.name
 ·subst hn;rw [if_pos rfl]
  have:(row.take k).find? (fun x=>x.name==c.name)=none:=by
   rw [List.find?_eq_none];intro x hx;obtain⟨j,hj⟩:=List.mem_iff_getElem?.1 hx;have hjk:j < k:=by have:= (List.getElem?_eq_some_iff.1 hj).1;rw [List.length_take] at this;omega
   rw [List.getElem?_take_of_lt hjk] at hj;have:=asc h k j c x hjk hc hj;simp;omega
  rw [this];simp
 ·rw [if_neg hn];have: [c].find? (fun x=>x.name==n)=none:=by simp;exact fun e=>hn e.symm
  rw [this];cases (row.take k).find? (fun x=>x.name==n) <;> rfl
def MapOf (w:Za) (l:List (Zg×Zb)):Prop:=∀ a b:Int,XD l ⟨a,b⟩=if 0 <=a∧a < (w.cells.length:Int) then cellOf w a.toNat b else none
theorem Zqa {F:Nat} (hF:1000 <=F) {w:Za} (sm:Small w) (sh:Shp w):∃ cs,Zjs F w=some ⟨(w.cells.length:Int),w.names,cs,w.notes,w.freed⟩∧MapOf w cs:=by
 have hc:=sm.cells;have hn:=sm.notes;have hf:=sm.freed;unfold Zjs Zpb Zpa;rw [YL (by simp only [List.length_nil];omega) (by decide),YL (by simp only [List.length_nil];omega) (by decide)];simp only [Option.bind_some,List.nil_append]
 let I:Nat ->List (Zg×Zb) ->Prop:=fun m l=>∀ a b:Int,XD l ⟨a,b⟩=if 0 <=a∧a < (m:Int) then cellOf w a.toNat b else none
 have inner:∀ (m:Nat) (row:List Zb) (next:Int×(List (Zg×Zb)) ->Option Store) (l:List (Zg×Zb)),w.cells[m]? =some row ->I m l ->∃ l',I (m + 1) l'∧loop F (ZaH m next row) (0,l)=next (ZQ ((m:Int) + 1),l'):=by
  intro m row next l hm hI;have hr:=sm.rows row (List.mem_of_getElem? hm);have hro:rowOf w m=row:=by unfold rowOf;rw [hm];rfl
  have hasc:∀ k c,row[k]? =some c ->0 < k ->(Qc row k).name < c.name:=fun k c hk=>(sh.cell m row k c hm hk).2
  let J:Nat ->List (Zg×Zb) ->Prop:=fun k l'=>∀ a b:Int,XD l' ⟨a,b⟩=if a= (m:Int) then(row.take k).find? (fun x=>x.name==b) else XD l ⟨a,b⟩
  have e:=Yd row (fun v s=>(v,s)) (ZaH m next row) (fun _ c s nx=>nx (Xh s (Zg.mk m c.name) c)) (fun s=>next (ZQ ((m:Int) + 1),s)) (by omega) (fun k y s nx hy hk=>by
   simp only [ZaH,ZB,hy,hk,decide_true,cond_true,Option.bind_some]) (fun s nx=>by simp only [ZaH];rw [decide_eq_false (by omega),cond_false]) (by omega:row.length < F) l
  obtain⟨e2,hJ⟩:=Y6 (d:=fun s=>next (ZQ ((m:Int) + 1),s)) (g:=fun(_:Nat) (c:Zb) s nx=>nx (Xh s (Zg.mk m c.name) c)) (fun _ c s=>Xh s (Zg.mk m c.name) c) J (l:=row) (i:=0) (s:=l) (fun a b=>by
   by_cases ha:a= (m:Int)
   ·rw [if_pos ha,hI a b,if_neg (by omega)];simp
   ·rw [if_neg ha]) (fun k c s nx hk hJ=>⟨rfl,fun a b=>by
    rw [Nat.zero_add] at hJ ⊢;rw [ZfB];by_cases ha:a= (m:Int)
    ·subst ha;rw [if_pos rfl,Zq5 hasc hk];by_cases hb:b=c.name
     ·rw [if_pos hb,hb,if_pos rfl]
     ·rw [if_neg hb,if_neg (fun q=>hb (by injection q)),hJ,if_pos rfl]
    ·rw [if_neg ha,if_neg (fun q=>ha (by injection q)),hJ,if_neg ha]⟩)
  refine⟨_,fun a b=>?_,e.trans e2⟩;rw [Nat.zero_add] at hJ;rw [hJ a b];by_cases ha:a= (m:Int)
  ·subst ha;rw [if_pos rfl,if_pos (by omega),List.take_length];unfold cellOf;rw [Int.toNat_natCast,hro]
  ·rw [if_neg ha,hI a b];by_cases hz:0 <=a∧a < (m:Int)
   ·rw [if_pos hz,if_pos (by omega)]
   ·rw [if_neg hz,if_neg (by omega)]
 have key:∀ (d m:Nat) (F':Nat) (l:List (Zg×Zb)),m + d=w.cells.length ->d < F' ->I m l ->∃ cs,loop F' (ZaI F w w.notes w.freed) ((m:Int),l)=some ⟨(w.cells.length:Int),w.names,cs,w.notes,w.freed⟩∧MapOf w cs:=by
  intro d
  induction d with
  | zero=>
    intro m F' l hm hF' hI;obtain⟨F',rfl⟩:=Nat.exists_eq_succ_of_ne_zero (n:=F') (by omega);have:m=w.cells.length:=by omega
    subst this;refine⟨l,?_,hI⟩;rw [Y9];simp only [ZaI];rw [decide_eq_false (by omega),cond_false]
  | succ d ih=>
    intro m F' l hm hF' hI;obtain⟨F',rfl⟩:=Nat.exists_eq_succ_of_ne_zero (n:=F') (by omega);have hlt:m < w.cells.length:=by omega
    obtain⟨l',h1,h2⟩:=inner m w.cells[m] (loop F' (ZaI F w w.notes w.freed)) l (by simp [hlt]) hI;obtain⟨cs,h3,h4⟩:=ih (m + 1) F' l' (by omega) (by omega) h1;refine⟨cs,?_,h4⟩;rw [Y9];have hg:w.cells[m]? =some w.cells[m]:=by simp [hlt]
    simp only [ZaI,ZB,hg,Option.bind_some];rw [decide_eq_true (by omega),cond_true,h2,JC (by omega),h3]
 exact key w.cells.length 0 F [] (by omega) (by omega) (fun a b=>by rw [if_neg (by omega)];rfl)
end Go.Proofs.Ytekpjgmhkkjhgaa
end
section
namespace Go.Proofs.Ytekpjgmhkkjhgaa
open Go.Lf
def Jt {σ:Type} (w:Za) (y:Int ->Zb ->σ ->σ) (m:Nat) (n:Nat) (s:σ):σ:=match cellOf w m n with | some c=>y m c s | none=>s
theorem QY {w:Za} {m:Nat} {n:Int} {c:Zb} (h:cellOf w m n=some c):c.name=n:=by
 unfold cellOf at h;have:=List.find?_some h
 simpa using this
theorem Zac {w:Za} {m:Nat} {n:Int} {c:Zb} (h:cellOf w m n=some c):∃ (row:List Zb) (k:Nat),w.cells[m]? =some row∧row[k]? =some c:=by
 unfold cellOf rowOf at h;have:=List.mem_of_find?_eq_some h;cases e:w.cells[m]? with
 | none=>rw [e] at this;simp at this
 | some row=>
   rw [e] at this;obtain⟨k,hk⟩:=List.mem_iff_getElem?.1 this;exact⟨row,k,rfl,hk⟩
structure Qm (w:Za) (st:Store):Prop where
 m:st.machines= (w.cells.length:Int)
 n:st.names=w.names
 notes:st.notes=w.notes
 freed:st.freed=w.freed
 cells:MapOf w st.cells
structure Szd (w:Za):Prop where
 c6:w.cells.length <=6
 n0:0 <=w.names
 n12:w.names <=12
 kind:∀ x ∈ w.notes,x.kind=1∨x.kind=2∨x.kind=3
theorem Shp.szd {w:Za} (sh:Shp w):Szd w:= ⟨sh.c6,sh.n0,sh.n12,fun x hx=>by
 have hx:=sh.note x hx;by_cases k1:x.kind=1
 ·exact .inl k1
 ·by_cases k2:x.kind=2
  ·exact .inr (.inl k2)
  ·have q1:(x.kind==1)=false:=by simp [k1]
   have q2:(x.kind==2)=false:=by simp [k2]
   unfold JL at hx;rw [q1,q2] at hx;simp at hx;exact .inr (.inr hx.2.1.1)⟩
section
theorem ZlU {F:Nat} (hF:1000 <=F) {w:Za} (sm:Small w) (sh:Szd w) {st:Store} (so:Qm w st) {σ β:Type} (I:Nat ->σ ->Prop) (hI:∀ i s,I i s ->I (i + 1) s) {z:Zb} {E:σ ->Option β} {B1:Int×σ ->(Int×σ ->Option β) ->Option β} {B2:Int ->(Int×σ ->Option β) ->Int×σ ->(Int×σ ->Option β) ->Option β} {Y:Int ->Zb ->σ ->(σ ->Option β) ->Option β} (y':Int ->Zb ->σ ->σ)
 (hB1:∀ v s next,B1 (v,s) next=bif decide (v < st.machines) then loop F (B2 v next) (0,s) else E s)
 (hB2:∀ v0 next v s nx,B2 v0 next (v,s) nx=bif decide (v < st.names) then(Zan st.cells (Zg.mk v0 v) z).bind fun x=>bif x.2 then Y v0 x.1 s (fun s'=>nx (ZQ (v + 1),s')) else nx (ZQ (v + 1),s) else next (ZQ (v0 + 1),s))
 (hy:∀ i (a:Nat) c s k,a < w.cells.length ->i < 100 ->I i s ->Y a c s k=k (y' a c s)∧I (i + 1) (y' a c s)) (s0:σ) (h0:I 0 s0):
 loop F B1 (0,s0)=E ((List.range w.cells.length).foldl (fun s m=>(List.range w.names.toNat).foldl (fun s n=>Jt w y' m n s) s) s0)∧
 I (w.cells.length * w.names.toNat) ((List.range w.cells.length).foldl (fun s m=>(List.range w.names.toNat).foldl (fun s n=>Jt w y' m n s) s) s0):=by
 have hc:=sh.c6;have hn:=sh.n0;have hn2:=sh.n12;have en:((w.names.toNat:Nat):Int)=w.names:=by omega
 have inner:∀ (m:Nat) (next:Int×σ ->Option β) (s:σ),m < w.cells.length ->I (m * w.names.toNat) s ->
  loop F (B2 m next) (0,s)=next (ZQ ((m:Int) + 1),(List.range w.names.toNat).foldl (fun s n=>Jt w y' m n s) s)∧I ((m + 1) * w.names.toNat) ((List.range w.names.toNat).foldl (fun s n=>Jt w y' m n s) s):=by
  intro m next s hm hs
  have e:=Qe w.names.toNat (fun v s=>(v,s)) (B2 m next) (fun k s nx=>match cellOf w m k with | some c=>Y m c s nx | none=>nx s) (fun s=>next (ZQ ((m:Int) + 1),s)) (by omega) (fun k s nx hk=>by
   rw [hB2,so.n];rw [decide_eq_true (by omega),cond_true];unfold Zan;rw [so.cells,if_pos (by omega),Int.toNat_natCast];cases cellOf w m k with
   | some c=>rfl
   | none=>rfl) (fun s nx=>by rw [hB2,so.n];rw [decide_eq_false (by omega),cond_false]) (by omega:w.names.toNat < F) s
  obtain⟨e2,h2⟩:=Y6 (d:=fun s=>next (ZQ ((m:Int) + 1),s)) (g:=fun(_:Nat) (k:Nat) s nx=>match cellOf w m k with | some c=>Y m c s nx | none=>nx s) (fun _ k s=>Jt w y' m k s) (fun k s=>I (m * w.names.toNat + k) s) (l:=List.range w.names.toNat) (i:=0) (s:=s) hs (fun k x s nx hx hs=>by
   have hk:k < w.names.toNat:=by
    have:= (List.getElem?_eq_some_iff.1 hx).1
    simpa using this
   have:x=k:=by
    rw [List.getElem?_range hk] at hx
    simpa using hx.symm
   subst this;rw [Nat.zero_add] at hs ⊢
   have hb:m * w.names.toNat + x < 100:=by
    have:=Nat.mul_le_mul (show m <=5 by omega) (show w.names.toNat <=12 by omega);omega
   unfold Jt;cases cellOf w m x with
   | some c=>
     obtain⟨q1,q2⟩:=hy _ m c s nx hm hb hs;dsimp only;rw [q1];exact⟨rfl,q2⟩
   | none=>exact⟨rfl,hI _ _ hs⟩)
  rw [X6] at e2 h2;refine⟨e.trans e2,?_⟩;rw [List.length_range,Nat.zero_add] at h2;rw [Nat.add_mul,Nat.one_mul];exact h2
 have key:∀ (d m F':Nat) (s:σ),m + d=w.cells.length ->d < F' ->I (m * w.names.toNat) s ->
  loop F' B1 ((m:Int),s)=E ((List.range' m d).foldl (fun s m=>(List.range w.names.toNat).foldl (fun s n=>Jt w y' m n s) s) s)∧I (w.cells.length * w.names.toNat) ((List.range' m d).foldl (fun s m=>(List.range w.names.toNat).foldl (fun s n=>Jt w y' m n s) s) s):=by
  intro d
  induction d with
  | zero=>
    intro m F' s hm hF' hs;obtain⟨F',rfl⟩:=Nat.exists_eq_succ_of_ne_zero (n:=F') (by omega);have:m=w.cells.length:=by omega
    subst this;rw [Y9,hB1,so.m];rw [decide_eq_false (by omega),cond_false];exact⟨rfl,hs⟩
  | succ d ih=>
    intro m F' s hm hF' hs;obtain⟨F',rfl⟩:=Nat.exists_eq_succ_of_ne_zero (n:=F') (by omega);obtain⟨h1,h2⟩:=inner m (loop F' B1) s (by omega) hs;obtain⟨h3,h4⟩:=ih (m + 1) F' _ (by omega) (by omega) h2;rw [Y9,List.range'_succ,List.foldl_cons];refine⟨?_,h4⟩;rw [hB1,so.m];rw [decide_eq_true (by omega),cond_true,h1,JC (by omega)];exact h3
 have:=key w.cells.length 0 F s0 (by omega) (by omega) (by rw [Nat.zero_mul];exact h0);rw [← List.range_eq_range'] at this;exact this
end
theorem fold_congr {σ:Type} {f g:σ ->Nat ->σ} {N:Nat} (h:∀ s m,m < N ->f s m=g s m) (s:σ):(List.range N).foldl f s= (List.range N).foldl g s:=by
 have:∀ M,M <=N ->(List.range M).foldl f s= (List.range M).foldl g s:=by
  intro M
  induction M with
  | zero=>intro _;rfl
  | succ M ih=>
    intro hM;rw [List.range_succ,List.foldl_append,List.foldl_append,ih (by omega)];simp only [List.foldl_cons,List.foldl_nil];exact h _ _ (by omega)
 exact this N (Nat.le_refl _)
theorem UL {σ τ α:Type} (V:σ ->τ) {f:σ ->α ->σ} {g:τ ->α ->τ} {l:List α} (h:∀ s x,x ∈ l ->V (f s x)=g (V s) x) (s:σ):V (l.foldl f s)=l.foldl g (V s):=by
 induction l generalizing s with
 | nil=>rfl
 | cons x l ih=>
   rw [List.foldl_cons,List.foldl_cons,ih (fun s y hy=>h s y (by simp [hy])),h s x (by simp)]
def Y8 (w:Za) (n:Int):List Int:=
 w.notes.foldl (fun(s:List Int) (x:Zf)=>bif(x.kind==3) && (x.name==n) then s ++ [x.ZH] else s)
   ((List.range w.cells.length).foldl (fun(s:List Int) (m:Nat)=>match cellOf w m n with | some c=>bif c.root then s ++ [(m:Int)] else s | none=>s) [])
theorem Zj4 {α:Type} (f:List Int ->α ->List Int) (hf:∀ s x,(f s x).length <=s.length + 1) (l:List α) (s:List Int):(l.foldl f s).length <=s.length + l.length:=by
 induction l generalizing s with
 | nil=>simp
 | cons x l ih=>
   rw [List.foldl_cons];have:=ih (f s x);have:=hf s x;simp only [List.length_cons];omega
section
theorem ZoL {F:Nat} (hF:1000 <=F) {w:Za} (sm:Small w) (sh:Shp w) {st:Store} (so:Qm w st) {n:Nat} (hn:(n:Int) < w.names):Zu5 F st n=some (Y8 w n):=by
 unfold Zu5
 let y':Int ->Zb ->List Int ->List Int:=fun a c s=>bif(c.name== (n:Int)) && c.root then s ++ [a] else s
 obtain⟨h1,h2⟩:=ZlU hF sm sh.szd so (z:=Zb.mk 0 false 0 0 0 false) (fun i (s:List Int)=>s.length <=i) (fun i s h=>Nat.le_succ_of_le h) (E:=ZfN F st n) (B1:=Zo8 F st n) (B2:=Zo7 F st n) (Y:=fun a c s k=>bif(c.name== (n:Int)) && c.root then(app 8 s [a]).bind k else k s) y' (fun v s next=>rfl) (fun v0 next v s nx=>rfl) (fun i a c s k _ hi hs=>by
  simp only [y'];cases ((c.name== (n:Int)) && c.root)
  ·exact⟨rfl,Nat.le_succ_of_le hs⟩
  ·simp only [cond_true];rw [YL (by simp;omega) (by decide)];exact⟨rfl,by simp;omega⟩) [] (Nat.le_refl _)
 rw [h1]
 have e:(List.range w.cells.length).foldl (fun s (m:Nat)=>(List.range w.names.toNat).foldl (fun s n=>Jt w y' m n s) s) []= (List.range w.cells.length).foldl (fun s (m:Nat)=>match cellOf w m n with | some c=>bif c.root then s ++ [(m:Int)] else s | none=>s) []:=by
  refine fold_congr (fun s m hm=>?_) _;refine ZeG (V:=id) (fun i s=>Jt w y' m i s) (fun s=>match cellOf w m n with | some c=>bif c.root then s ++ [(m:Int)] else s | none=>s) (n:=n) (N:=w.names.toNat) (by omega) (fun i s hi hne=>?_) (fun s=>?_) s
  ·simp only [id,Jt];cases hc:cellOf w m i with
   | none=>rfl
   | some c=>
     have:=QY hc;have hb:(c.name== (n:Int))=false:=by rw [this];simp;omega
     simp only [y',hb];rfl
  ·simp only [id,Jt];cases hc:cellOf w m n with
   | none=>rfl
   | some c=>
     have:=QY hc;have hb:(c.name== (n:Int))=true:=by rw [this];simp
     simp only [y',hb];rfl
 rw [e];rw [e] at h2;unfold ZfN;have hlen:=Nat.mul_le_mul sh.c6 (show w.names.toNat <=12 by have:=sh.n12;have:=sh.n0;omega);have hno:=sm.notes;refine(Yd w.notes (fun v (s:List Int)=>(v,s)) (Zin st n) (fun _ x s next=>bif(x.kind==3) && (x.name== (n:Int)) then(app 8 s [x.ZH]).bind next else next s) (fun s=>some s) (by omega) (fun k y s next hy hk=>?_) (fun s next=>?_) (by omega) _).trans ?_
 ·simp only [Zin,so.notes,ZB,hy,hk,decide_true,cond_true,Option.bind_some,Zim]
 ·simp only [Zin,so.notes];rw [decide_eq_false (by omega),cond_false]
 ·rw [(Y6 (fun _ (x:Zf) s=>bif(x.kind==3) && (x.name== (n:Int)) then s ++ [x.ZH] else s) (fun k (s:List Int)=>s.length <=72 + k) (by simp at h2 ⊢;omega) (fun k x s next hx hs=>by
   have:= (List.getElem?_eq_some_iff.1 hx).1;cases ((x.kind==3) && (x.name== (n:Int)))
   ·exact⟨rfl,by simp;omega⟩
   ·simp only [cond_true];rw [YL (by simp;omega) (by decide)];exact⟨rfl,by simp;omega⟩)).1,X6]
  rfl
end
end Go.Proofs.Ytekpjgmhkkjhgaa
end
section
namespace Go.Proofs.Ytekpjgmhkkjhgaa
open Go.Lf
abbrev Acc:=List (Zg×Int)
def val (v:Acc) (k:Zg):Int:= (XD v k).getD 0
def upd (v:Acc) (k:Zg) (x:Int):Acc:=Xh (Kj v k 0) k (ZQ (val v k + x))
theorem WT (v:Acc) (k k':Zg) (x:Int):val (upd v k x) k'=if k'=k then ZQ (val v k + x) else val v k':=by
 unfold val upd;rw [ZfB,ZjU];by_cases h:k'=k
 ·rw [if_pos h,if_pos h];rfl
 ·rw [if_neg h,if_neg h,if_neg h]
theorem Zst:ZQ 0=0:=Q5 (by decide) (by decide)
def ZpJ (a:Int) (c:Zb) (q:Acc×Acc):Acc×Acc:= (upd q.1 ⟨a,c.name⟩ c.out,bif decide (c.from_ >=0) then upd q.2 ⟨c.from_,c.name⟩ c.has else q.2)
def ZpI (x:Zf) (q:Acc×Acc):Acc×Acc:=bif x.kind==1 then(q.1,upd q.2 ⟨x.via,x.name⟩ x.w) else bif x.kind==2 then(q.1,upd q.2 ⟨x.ZH,x.name⟩ x.w) else(upd q.1 ⟨x.ZH,x.name⟩ 16,q.2)
def Wq (w:Za):Acc×Acc:= (List.range w.cells.length).foldl (fun s m=>(List.range w.names.toNat).foldl (fun s n=>Jt w ZpJ m n s) s) ([],[])
def ZcG (w:Za):Acc×Acc:=w.notes.foldl (fun q x=>ZpI x q) (Wq w)
def view (a n:Int) (q:Acc×Acc):Int×Int:= (val q.1 ⟨a,n⟩,val q.2 ⟨a,n⟩)
theorem ZqZ {F:Nat} (hF:1000 <=F) {w:Za} (sm:Small w) (sh:Szd w) {st:Store} (so:Qm w st):ZrF F st=some (ZcG w):=by
 unfold ZrF;have hno:=sm.notes
 obtain⟨h1,_⟩:=ZlU hF sm sh so (z:=Zb.mk 0 false 0 0 0 false) (fun _ (_:Acc×Acc)=>True) (fun _ _ _=>trivial) (E:=ZfV F st) (B1:=Zpe F st) (B2:=Zpd F st) (Y:=fun a c s k=>bif decide (c.from_ >=0) then k (upd s.1 ⟨a,c.name⟩ c.out,upd s.2 ⟨c.from_,c.name⟩ c.has) else k (upd s.1 ⟨a,c.name⟩ c.out,s.2)) ZpJ (fun v s next=>rfl) (fun v0 next v s nx=>by obtain⟨a,b⟩:=s;rfl) (fun i a c s k _ _ _=>⟨by
  unfold ZpJ;cases decide (c.from_ >=0) <;> rfl,trivial⟩) ([],[]) trivial
 rw [h1];unfold ZfV;refine(Yd w.notes (fun v (s:Acc×Acc)=>(v,s.1,s.2)) (Zis st) (fun _ x s next=>next (ZpI x s)) (fun s=>some s) (by omega) (fun k y s next hy hk=>?_) (fun s next=>?_) (by omega) (Wq w)).trans ?_
 ·simp only [Zis,so.notes,ZB,hy,hk,decide_true,cond_true,Option.bind_some,ZfU,ZaB,ZpI];cases y.kind==1
  ·cases y.kind==2 <;> rfl
  ·rfl
 ·simp only [Zis,so.notes];rw [decide_eq_false (by omega),cond_false]
 ·rw [(Y6 (fun _ (x:Zf) s=>ZpI x s) (fun _ _=>True) trivial (fun _ _ _ _ _ _=>⟨rfl,trivial⟩)).1,X6]
  rfl
def hm (w:Za) (a n:Nat) (q:Int×Int) (m:Nat):Int×Int:=match cellOf w m n with
 | some c=>(if m=a then ZQ (q.1 + c.out) else q.1,if c.from_= (a:Int) then ZQ (q.2 + c.has) else q.2)
 | none=>q
theorem Zoa {w:Za} {a n m:Nat} (hn:n < w.names.toNat) (q:Acc×Acc):
 view a n ((List.range w.names.toNat).foldl (fun s n=>Jt w ZpJ m n s) q)=hm w a n (view a n q) m:=by
 refine ZeG (view a n) (fun i s=>Jt w ZpJ m i s) (fun q=>hm w a n q m) hn (fun i s hi hne=>?_) (fun s=>?_) q
 ·unfold Jt;cases hc:cellOf w m i with
  | none=>rfl
  | some c=>
    have hnm:=QY hc;dsimp only;unfold view ZpJ;have k1:¬ (Zg.mk (a:Int) (n:Int))=Zg.mk (m:Int) c.name:=fun e=>by injection e with _ e2;omega
    have k2:¬ (Zg.mk (a:Int) (n:Int))=Zg.mk c.from_ c.name:=fun e=>by injection e with _ e2;omega
    rw [WT,if_neg k1];cases decide (c.from_ >=0)
    ·rfl
    ·simp only [cond_true];rw [WT,if_neg k2]
 ·unfold Jt hm;cases hc:cellOf w m n with
  | none=>rfl
  | some c=>
    have hnm:=QY hc;dsimp only;unfold view ZpJ;dsimp only;rw [hnm];congr 1
    ·rw [WT];by_cases e:m=a
     ·subst e;rw [if_pos rfl,if_pos rfl]
     ·rw [if_neg e,if_neg (fun q=>by injection q with q1 _;omega)]
    ·by_cases e:c.from_= (a:Int)
     ·rw [if_pos e,decide_eq_true (by omega),cond_true,WT,e,if_pos rfl]
     ·rw [if_neg e];cases decide (c.from_ >=0)
      ·rfl
      ·simp only [cond_true];rw [WT,if_neg (fun q=>by injection q with q1 _;omega)]
theorem Zv9 (c:Zf ->Bool) (l:List Zf) (g:Int):l.foldl (fun(g:Int) x=>bif c x then ZQ (g + 16) else g) (ZQ g)=ZQ (g + 16 * (l.countP c:Int)):=by
 induction l generalizing g with
 | nil=>simp
 | cons x l ih=>
   rw [List.foldl_cons,List.countP_cons];cases hc:c x
   ·simp only [cond_false];rw [ih];simp
   ·simp only [cond_true,if_true];rw [Zg5,ih];congr 1;omega
theorem ZlY {w:Za} (sh:Szd w) {a n:Nat} (ha:a < w.cells.length) (hn:(n:Int) < w.names):val (ZcG w).1 ⟨a,n⟩=XB w a n∧val (ZcG w).2 ⟨a,n⟩=Zbv w a n:=by
 have e1:view a n (Wq w)= (List.range w.cells.length).foldl (fun q m=>hm w a n q m) (0,0):=
  UL (view a n) (fun s m _=>Zoa (by omega) s) ([],[])
 have e2:((List.range w.cells.length).foldl (fun q m=>hm w a n q m) (0,0)).2= (List.range w.cells.length).foldl (fun s k=>Zew w a n k s) 0:=by
  refine UL (fun q:Int×Int=>q.2) (fun s m _=>?_) (0,0);unfold hm Zew;cases cellOf w m n with
  | none=>rfl
  | some c=>
    dsimp only;by_cases e:c.from_= (a:Int)
    ·rw [if_pos e];have:(c.from_== (a:Int))=true:=by simp [e]
     rw [this];rfl
    ·rw [if_neg e];have:(c.from_== (a:Int))=false:=by simp [e]
     rw [this];rfl
 have e3:((List.range w.cells.length).foldl (fun q m=>hm w a n q m) (0,0)).1=ZQ (ZjQ w a n):=by
  have f1:((List.range w.cells.length).foldl (fun q m=>hm w a n q m) (0,0)).1= (List.range w.cells.length).foldl (fun(g:Int) m=>match cellOf w m n with | some c=>if m=a then ZQ (g + c.out) else g | none=>g) 0:=by
   refine UL (fun q:Int×Int=>q.1) (fun s m _=>?_) (0,0);unfold hm;cases cellOf w m n with
   | none=>rfl
   | some c=>rfl
  rw [f1]
  have:=ZeG (V:=id) (fun m (g:Int)=>match cellOf w m n with | some c=>if m=a then ZQ (g + c.out) else g | none=>g) (fun g=>match cellOf w a n with | some c=>ZQ (g + c.out) | none=>g) ha (fun i s hi hne=>by
   simp only [id];cases cellOf w i n with
   | none=>rfl
   | some c=>dsimp only;rw [if_neg hne]) (fun s=>by
   simp only [id];cases cellOf w a n with
   | none=>rfl
   | some c=>simp) 0
  simp only [id] at this;rw [this];unfold ZjQ;cases cellOf w a n with
  | none=>exact Zst.symm
  | some c=>dsimp only;rw [Int.zero_add]
 have e4:view a n (ZcG w)=w.notes.foldl (fun q x=>(bif((x.kind==3) && (x.ZH== (a:Int))) && (x.name== (n:Int)) then ZQ (q.1 + 16) else q.1,ZaX a n x q.2)) (view a n (Wq w)):=by
  refine UL (view a n) (fun s x hx=>?_) (Wq w);have hx:=sh.kind x hx;unfold view ZpI ZaX;by_cases k1:x.kind=1
  ·simp only [k1,beq_self_eq_true,cond_true,Bool.true_and];rw [WT];have r1:((1:Int)==2)=false:=rfl;have r2:((1:Int)==3)=false:=rfl;simp only [r1,r2,Bool.false_and,Bool.or_false,cond_false];congr 1;by_cases e:Zg.mk (a:Int) (n:Int)=Zg.mk x.via x.name
   ·rw [if_pos e];injection e with z1 z2
    have b:((x.name== (n:Int)) && (x.via== (a:Int)))=true:=by simp [z1,z2]
    rw [b,cond_true,z1,z2]
   ·rw [if_neg e]
    have b:((x.name== (n:Int)) && (x.via== (a:Int)))=false:=by
     rw [Bool.and_eq_false_iff];by_cases z:x.name= (n:Int)
     ·right;simp;intro z2;exact e (by rw [z,z2])
     ·left;simp [z]
    rw [b,cond_false]
  ·by_cases k2:x.kind=2
   ·have r1:((2:Int)==1)=false:=rfl;have r2:((2:Int)==3)=false:=rfl;simp only [k2,r1,r2,beq_self_eq_true,cond_true,cond_false,Bool.true_and,Bool.false_and,Bool.false_or];rw [WT];congr 1;by_cases e:Zg.mk (a:Int) (n:Int)=Zg.mk x.ZH x.name
    ·rw [if_pos e];injection e with z1 z2
     have b:((x.name== (n:Int)) && (x.ZH== (a:Int)))=true:=by simp [z1,z2]
     rw [b,cond_true,z1,z2]
    ·rw [if_neg e]
     have b:((x.name== (n:Int)) && (x.ZH== (a:Int)))=false:=by
      rw [Bool.and_eq_false_iff];by_cases z:x.name= (n:Int)
      ·right;simp;intro z2;exact e (by rw [z,z2])
      ·left;simp [z]
     rw [b,cond_false]
   ·have q1:(x.kind==1)=false:=by simp [k1]
    have q2:(x.kind==2)=false:=by simp [k2]
    have q3:(x.kind==3)=true:=by
     rcases hx with z | z | z
     ·exact absurd z k1
     ·exact absurd z k2
     ·simp [z]
    simp only [q1,q2,q3,cond_false,Bool.true_and,Bool.false_and,Bool.or_false,Bool.and_false];rw [WT];congr 1;by_cases e:Zg.mk (a:Int) (n:Int)=Zg.mk x.ZH x.name
    ·rw [if_pos e];injection e with z1 z2
     have b:((x.ZH== (a:Int)) && (x.name== (n:Int)))=true:=by simp [z1,z2]
     rw [b,cond_true,z1,z2]
    ·rw [if_neg e]
     have b:((x.ZH== (a:Int)) && (x.name== (n:Int)))=false:=by
      rw [Bool.and_eq_false_iff];by_cases z:x.name= (n:Int)
      ·left;simp;intro z2;exact e (by rw [z,z2])
      ·right;simp [z]
     rw [b,cond_false]
 constructor
 ·show(view a n (ZcG w)).1=_;rw [e4,UL (fun q:Int×Int=>q.1) (g:=fun(g:Int) (x:Zf)=>bif((x.kind==3) && (x.ZH== (a:Int))) && (x.name== (n:Int)) then ZQ (g + 16) else g) (fun s x _=>rfl),e1,e3,Zv9];unfold XB ZaE;congr 1;omega
 ·show(view a n (ZcG w)).2=_;rw [e4,UL (fun q:Int×Int=>q.2) (g:=fun(g:Int) (x:Zf)=>ZaX a n x g) (fun s x _=>rfl),e1,e2]
  rfl
end Go.Proofs.Ytekpjgmhkkjhgaa
end
section
namespace Go.Proofs.Ytekpjgmhkkjhgaa
open Go.Lf
def YN (w:Za) (n h:Int):Nat ->Int ->Bool
 | 0,a=>a==h
 | k + 1,a=>bif a==h then true else match cellOf w a.toNat n with
   | none=>false
   | some c=>bif decide (c.from_ < 0) then false else YN w n h k c.from_
def JN (w:Za) (n h:Int):Bool:= !((List.range w.cells.length).any fun m=>(cellOf w m n).isSome && !(YN w n h w.cells.length m))
theorem Shp.from_ {w:Za} (sh:Shp w) {m:Nat} {n:Int} {c:Zb} (h:cellOf w m n=some c) (h0:¬ c.from_ < 0):0 <=c.from_∧c.from_ < (w.cells.length:Int):=by
 obtain⟨row,k,h1,h2⟩:=Zac h;have:= (sh.cell m row k c h1 h2).1;unfold J6 at this;rw [Bool.and_eq_true] at this;have:=this.2;have e:(c.from_==-1)=false:=by simp;omega
 rw [e] at this;cases hr:c.root
 ·rw [hr] at this;simp only [Bool.or_self,cond_false,Bool.and_eq_true] at this;have:=this.1.1;unfold KA at this
  simpa using this
 ·rw [hr] at this;simp at this
section
theorem Zrp {F:Nat} (hF:1000 <=F) {w:Za} (sm:Small w) (sh:Shp w) {a:Int} (h0:0 <=a) (h1:a < (w.cells.length:Int)) (h n:Int):Znn F w a h n=some (YN w n h w.cells.length a):=by
 have hc:=sm.cells
 have key:∀ (d i F':Nat) (a:Int),i + d=w.cells.length ->d + 2 < F' ->0 <=a ->a < (w.cells.length:Int) ->loop F' (Zc5 F w h n) (a,(i:Int))=some (YN w n h d a):=by
  intro d
  induction d with
  | zero=>
    intro i F' a hi hF' h0 h1;obtain⟨F',rfl⟩:=Nat.exists_eq_succ_of_ne_zero (n:=F') (by omega);rw [Y9];simp only [Zc5,YN];rw [decide_eq_true (by omega),cond_true];have ea:((a.toNat:Nat):Int)=a:=by omega
    cases a==h
    ·simp only [cond_false];rcases find_eq hF sm (m:=a.toNat) (by omega) n with⟨j,c,q1,q2,q3⟩ | ⟨q1,q3⟩
     ·rw [ea] at q3;have hg:=Yl (w:=w) (m:=a.toNat) (by omega);rw [q3];have e1:decide ((j:Int) < 0)=false:=by simp
      have e2:ZL w.cells a=some (rowOf w a.toNat):=by have q:=ZB w.cells a.toNat;rw [ea] at q;rw [q];exact hg
      simp only [Option.bind_some,e1,Bool.not_false,KL,e2,ZB,q2,Bool.false_or];cases decide (c.from_ < 0)
      ·simp only [cond_false];obtain⟨F',rfl⟩:=Nat.exists_eq_succ_of_ne_zero (n:=F') (by omega);rw [Y9];simp only [Zc5];rw [JC (by omega),decide_eq_false (by omega),cond_false]
      ·rfl
     ·rw [ea] at q3;rw [q3];rfl
    ·rfl
  | succ d ih=>
    intro i F' a hi hF' h0 h1;obtain⟨F',rfl⟩:=Nat.exists_eq_succ_of_ne_zero (n:=F') (by omega);rw [Y9];simp only [Zc5,YN];rw [decide_eq_true (by omega),cond_true];have ea:((a.toNat:Nat):Int)=a:=by omega
    cases a==h
    ·simp only [cond_false];rcases find_eq hF sm (m:=a.toNat) (by omega) n with⟨j,c,q1,q2,q3⟩ | ⟨q1,q3⟩
     ·rw [ea] at q3;have hg:=Yl (w:=w) (m:=a.toNat) (by omega);rw [q3,q1];have e1:decide ((j:Int) < 0)=false:=by simp
      have e2:ZL w.cells a=some (rowOf w a.toNat):=by have q:=ZB w.cells a.toNat;rw [ea] at q;rw [q];exact hg
      simp only [Option.bind_some,e1,Bool.not_false,KL,e2,ZB,q2,Bool.false_or];by_cases hf:c.from_ < 0
      ·rw [decide_eq_true hf];rfl
      ·rw [decide_eq_false hf];simp only [cond_false];have:=sh.from_ q1 hf;rw [JC (by omega)];exact ih (i + 1) F' c.from_ (by omega) (by omega) this.1 this.2
     ·rw [ea] at q3;rw [q3,q1];rfl
    ·rfl
 have:=sh.c6;exact key w.cells.length 0 F a (by omega) (by omega) h0 h1
theorem Zow {F:Nat} (hF:1000 <=F) {w:Za} (sm:Small w) (sh:Shp w) {st:Store} (so:Qm w st) (n h:Int):ZrD F st n h=some (JN w n h):=by
 have hc:=sm.cells;have h6:=sh.c6
 let z:Zb:=Zb.mk 0 false 0 0 0 false
 have key:∀ (d i F' m:Nat) (next:Int ->Option Bool) (a:Int),i + d=w.cells.length ->d < F' ->0 <=a ->a < (w.cells.length:Int) ->
  loop F' (Zik st n h m next) (a,(cellOf w a.toNat n).isSome,(i:Int),((cellOf w a.toNat n).getD z).name,((cellOf w a.toNat n).getD z).root,((cellOf w a.toNat n).getD z).from_,((cellOf w a.toNat n).getD z).has,((cellOf w a.toNat n).getD z).out,((cellOf w a.toNat n).getD z).use)=bif YN w n h d a then next (ZQ ((m:Int) + 1)) else some false:=by
  intro d
  induction d with
  | zero=>
    intro i F' m next a hi hF' h0 h1;obtain⟨F',rfl⟩:=Nat.exists_eq_succ_of_ne_zero (n:=F') (by omega);rw [Y9];simp only [Zik,YN,so.m];rw [decide_eq_false (by omega),cond_false];have:(a !=h)= !(a==h):=rfl;rw [this];cases a==h <;> rfl
  | succ d ih=>
    intro i F' m next a hi hF' h0 h1;obtain⟨F',rfl⟩:=Nat.exists_eq_succ_of_ne_zero (n:=F') (by omega);rw [Y9];simp only [Zik,YN,so.m];rw [decide_eq_true (by omega),cond_true];cases a==h
    ·simp only [cond_false];cases hq:cellOf w a.toNat n with
     | none=>rfl
     | some c=>
       simp only [Option.isSome_some,Bool.not_true,Bool.false_or,Option.getD_some];by_cases hf:c.from_ < 0
       ·rw [decide_eq_true hf];rfl
       ·rw [decide_eq_false hf];simp only [cond_false];have hv:=sh.from_ hq hf;unfold Zan;rw [so.cells,if_pos hv,Option.bind_some,JC (by omega)];exact ih (i + 1) F' m next c.from_ (by omega) (by omega) hv.1 hv.2
    ·rfl
 unfold ZrD;refine(Qe w.cells.length (fun v (_:Unit)=>v) (Zil F st n h) (fun m s next=>bif(cellOf w m n).isSome && !(YN w n h w.cells.length m) then some false else next ()) (fun _=>some true) (by omega) (fun m s next hm=>?_) (fun s next=>?_) (by omega) ()).trans ?_
 ·simp only [Zil,so.m];rw [decide_eq_true (by omega),cond_true];unfold Zan;rw [so.cells,if_pos (by omega),Option.bind_some,Int.toNat_natCast];have:=key w.cells.length 0 F m next (m:Int) (by omega) (by omega) (by omega) (by omega);rw [Int.toNat_natCast] at this;cases hq:cellOf w m n with
  | none=>rfl
  | some c=>
    rw [hq] at this;simp only [Option.isSome_some,Bool.not_true,cond_false,Bool.true_and,Option.getD_some];refine Eq.trans this ?_;cases YN w n h w.cells.length m <;> rfl
 ·simp only [Zil,so.m];rw [decide_eq_false (by omega),cond_false]
 ·rw [XT (r:=some false) (fun _ m=>(cellOf w m n).isSome && !(YN w n h w.cells.length m)) (fun _ _ _ _=>rfl),JR];unfold JN;cases (List.range w.cells.length).any fun m=>(cellOf w m n).isSome && !(YN w n h w.cells.length m) <;> rfl
end
def Ze2 (w:Za) (m:Nat) (n:Int):Nat:=ZaE w m n + (match cellOf w m n with | some c=>bif c.root then 1 else 0 | none=>0)
def Qq (w:Za) (n:Int) (q:Int×Int) (m:Nat):Int×Int:=bif decide ((Ze2 w m n:Int) > 0) then(ZQ (q.1 + (Ze2 w m n:Int)),(m:Int)) else q
theorem UJ {α σ:Type} (P:σ ->Prop) (f:σ ->α ->σ) (l:List α) (h:∀ s x,x ∈ l ->P s ->P (f s x)) (s:σ) (h0:P s):P (l.foldl f s):=by
 induction l generalizing s with
 | nil=>exact h0
 | cons x l ih=>exact ih (fun s y hy=>h s y (by simp [hy])) _ (h s x (by simp) h0)
theorem Zbt {w:Za} (sh:Shp w) (n:Int):∀ x ∈ Y8 w n,0 <=x∧x < (w.cells.length:Int):=by
 unfold Y8;refine UJ (fun s:List Int=>∀ x ∈ s,0 <=x∧x < (w.cells.length:Int)) _ _ (fun s x hx hs=>?_) _ ?_
 ·cases h:(x.kind==3) && (x.name==n)
  ·exact hs
  ·intro y hy;simp only [cond_true,List.mem_append,List.mem_singleton] at hy;rcases hy with hy | hy
   ·exact hs y hy
   ·subst hy;have:=sh.note x hx;unfold JL KA at this;simp only [Bool.and_eq_true,decide_eq_true_eq] at this;exact this.1.1.1
 ·refine UJ (fun s:List Int=>∀ x ∈ s,0 <=x∧x < (w.cells.length:Int)) _ _ (fun s m hm hs=>?_) _ (by simp);rw [List.mem_range] at hm;cases cellOf w m n with
  | none=>exact hs
  | some c=>
    dsimp only;cases c.root
    ·exact hs
    ·intro y hy;simp only [cond_true,List.mem_append,List.mem_singleton] at hy;rcases hy with hy | hy
     ·exact hs y hy
     ·subst hy;omega
theorem ZoN {w:Za} (sh:Shp w) (n:Int):(Y8 w n).length <=100:=by
 have h:(Y8 w n).length <=w.cells.length + w.notes.length:=by
  unfold Y8;refine Nat.le_trans (Zj4 _ (fun s x=>?_) w.notes _) (Nat.add_le_add_right (Nat.le_trans (Zj4 _ (fun s m=>?_) (List.range w.cells.length) []) (by simp)) _)
  ·cases (x.kind==3) && (x.name==n) <;> simp
  ·cases cellOf w m n with
   | none=>simp
   | some c=>dsimp only;cases c.root <;> simp
 have:=sh.c6;have:=sh.notes;omega
theorem ZrP {c:Zf ->Bool} (l:List Zf) (k:Nat):l.foldl (fun(k:Nat) x=>bif c x then k + 1 else k) k=k + l.countP c:=by
 induction l generalizing k with
 | nil=>rfl
 | cons x l ih=>
   rw [List.foldl_cons,ih,List.countP_cons];cases c x <;> simp;omega
theorem KJ {w:Za} {m:Nat} (hm:m < w.cells.length) (n:Int):(Y8 w n).count (m:Int)=Ze2 w m n:=by
 unfold Y8
 rw [UL (fun s:List Int=>s.count (m:Int)) (g:=fun(k:Nat) (x:Zf)=>bif((x.kind==3) && (x.ZH== (m:Int))) && (x.name==n) then k + 1 else k) (fun s x hx=>by
  cases h1:x.kind==3 <;> cases h2:x.name==n <;> cases h3:x.ZH== (m:Int) <;> simp [List.count_append,List.count_singleton,h3])]
 rw [ZrP]
 rw [UL (fun s:List Int=>s.count (m:Int)) (g:=fun(k:Nat) (m':Nat)=>match cellOf w m' n with | some c=>bif c.root && (m'==m) then k + 1 else k | none=>k) (fun s m' hx=>by
  cases cellOf w m' n with
  | none=>rfl
  | some c=>
    dsimp only;cases c.root
    ·rfl
    ·by_cases e:m'=m
     ·subst e;simp
     ·have e1:(m'==m)=false:=by simp [e]
      have e2:¬ (m':Int)= (m:Int):=by omega
      simp [e1,List.count_append,List.count_singleton,e2])]
 have:=ZeG (V:=id) (fun m' (k:Nat)=>match cellOf w m' n with | some c=>bif c.root && (m'==m) then k + 1 else k | none=>k) (fun k=>match cellOf w m n with | some c=>bif c.root then k + 1 else k | none=>k) hm (fun i s hi hne=>by
  simp only [id];cases cellOf w i n with
  | none=>rfl
  | some c=>
    have e1:(i==m)=false:=by simp [hne]
    dsimp only;rw [e1,Bool.and_false];rfl) (fun s=>by
  simp only [id];cases cellOf w m n with
  | none=>rfl
  | some c=>simp) 0
 simp only [id] at this;rw [List.count_nil,this];unfold Ze2 ZaE;cases cellOf w m n with
 | none=>simp
 | some c=>cases c.root <;> simp <;> omega
theorem ZnF (L:List Int) (h:∀ x ∈ L,0 <=x) (M:Nat):L.countP (fun x=>decide (x < ((M + 1:Nat):Int)))=L.countP (fun x=>decide (x < (M:Int))) + L.count (M:Int):=by
 induction L with
 | nil=>rfl
 | cons x L ih=>
   have:=ih (fun y hy=>h y (by simp [hy]));rw [List.countP_cons,List.countP_cons,List.count_cons,this];have h0:=h x (by simp);by_cases e:x= (M:Int)
   ·subst e;have a1:decide ((M:Int) < ((M + 1:Nat):Int))=true:=by simp;omega
    have a2:decide ((M:Int) < (M:Int))=false:=by simp
    rw [a1,a2];simp;omega
   ·have a3:(x== (M:Int))=false:=by simp [e]
    by_cases l:x < (M:Int)
    ·have a1:decide (x < ((M + 1:Nat):Int))=true:=by simp;omega
     have a2:decide (x < (M:Int))=true:=by simp [l]
     rw [a1,a2,a3];simp;omega
    ·have a1:decide (x < ((M + 1:Nat):Int))=false:=by simp;omega
     have a2:decide (x < (M:Int))=false:=by simp;omega
     rw [a1,a2,a3];simp
theorem Zfs {w:Za} (sh:Shp w) (n:Int):((List.range w.cells.length).foldl (Qq w n) (0,0)).1= ((Y8 w n).length:Int)∧∀ h,Y8 w n= [h] ->((List.range w.cells.length).foldl (Qq w n) (0,0)).2=h:=by
 have hl:=ZoN sh n;have hr:=Zbt sh n
 have key:∀ M,M <=w.cells.length ->((List.range M).foldl (Qq w n) (0,0)).1= ((Y8 w n).countP (fun x=>decide (x < (M:Int))):Int)∧(((List.range M).foldl (Qq w n) (0,0)).1 ≠ 0 ->((List.range M).foldl (Qq w n) (0,0)).2 ∈ Y8 w n):=by
  intro M
  induction M with
  | zero=>
    intro _
    have:(Y8 w n).countP (fun x=>decide (x < ((0:Nat):Int)))=0:=by
     rw [List.countP_eq_zero];intro x hx;have:= (hr x hx).1;simp;omega
    rw [this];exact⟨rfl,fun h=>absurd rfl h⟩
  | succ M ih=>
    intro hM;obtain⟨i1,i2⟩:=ih (by omega);rw [List.range_succ,List.foldl_append];simp only [List.foldl_cons,List.foldl_nil];rw [ZnF _ (fun x hx=>(hr x hx).1)];have hc:=KJ (w:=w) (m:=M) (by omega) n;have hle:=List.countP_le_length (p:=fun x=>decide (x < (M:Int))) (l:=Y8 w n);have hle2:=List.count_le_length (a:= (M:Int)) (l:=Y8 w n);generalize (List.range M).foldl (Qq w n) (0,0)=q at i1 i2 ⊢;unfold Qq;rw [← hc];by_cases h0:(Y8 w n).count (M:Int)=0
    ·have:decide ((((Y8 w n).count (M:Int):Nat):Int) > 0)=false:=by simp [h0]
     rw [this,cond_false,h0];exact⟨i1,i2⟩
    ·have:decide ((((Y8 w n).count (M:Int):Nat):Int) > 0)=true:=decide_eq_true (by omega);rw [this,cond_true];refine⟨?_,fun _=>?_⟩
     ·show ZQ (q.1 + _)=_;rw [i1,Q5] <;> omega
     ·have hp:0 < (Y8 w n).count (M:Int):=Nat.pos_of_ne_zero h0;exact List.count_pos_iff.1 hp
 obtain⟨k1,k2⟩:=key w.cells.length (Nat.le_refl _)
 have e:(Y8 w n).countP (fun x=>decide (x < (w.cells.length:Int)))= (Y8 w n).length:=by
  rw [List.countP_eq_length];intro x hx
  simpa using (hr x hx).2
 rw [e] at k1;refine⟨k1,fun h hh=>?_⟩;have:=k2 (by rw [k1,hh];simp);rw [hh] at this
 simpa using this
end Go.Proofs.Ytekpjgmhkkjhgaa
end
section
namespace Go.Proofs.Ytekpjgmhkkjhgaa
open Go.Lf
theorem ZkU {α β σ:Type} {g:Nat ->α ->σ ->(σ ->Option β) ->Option β} {d:σ ->Option β} {r:Option β} (c:Nat ->α ->Bool) (f:Nat ->α ->σ ->σ) {l:List α} {i:Nat} {s:σ}
 (hg:∀ k x s next,l[k]? =some x ->g (i + k) x s next=bif c (i + k) x then r else next (f (i + k) x s)):iter g d i l s=bif anyI c i l then r else d (foldI f i l s):=by
 induction l generalizing i s with
 | nil=>rfl
 | cons x l ih=>
   unfold iter anyI foldI;have:=hg 0 x s (fun s'=>iter g d (i + 1) l s') rfl;rw [Nat.add_zero] at this;rw [this];cases c i x
   ·rw [cond_false,Bool.false_or];exact ih (fun k y s next hy=>by rw [show i + 1 + k=i + (k + 1) by omega];exact hg (k + 1) y s next (by simpa using hy))
   ·rfl
def Zg1 (w:Za) (n:Int) (m:Nat):Bool:= (XB w m n !=Zbv w m n) || decide (XB w m n > 1000000)
def Qp (w:Za) (n:Int):Int×Int:= (List.range w.cells.length).foldl (Qq w n) (0,0)
def Q8 (w:Za) (n:Int):Bool:= !((List.range w.cells.length).any (Zg1 w n)) && ((Qp w n).1==1 && JN w n (Qp w n).2)
def U3 (w:Za):Bool:=J8 w && (!(anyI (QN w) 0 w.freed) && (KX w && Js w))
def Us (w:Za):Bool:=U3 w && !((List.range w.names.toNat).any fun n=>Ym w n && !(Q8 w n))
theorem ZbX {w:Za} (h:U3 w=true):Shp w:=by
 unfold U3 at h;simp only [Bool.and_eq_true] at h;exact ZsA h.1 h.2.2.1 h.2.2.2
section
theorem Zrb {F:Nat} (hF:1000 <=F) {w:Za} (sm:Small w) (sh:Shp w) (n:Int):ZrG F w n=some (Q8 w n):=by
 have hc:=sm.cells;unfold ZrG
 have e1:∀ h:Int,loop F (Zf0 F w n h) 0=some (JN w n h):=by
  intro h;refine(Qe w.cells.length (fun v (_:Unit)=>v) (Zf0 F w n h) (fun m s next=>bif(cellOf w m n).isSome && !(YN w n h w.cells.length m) then some false else next ()) (fun _=>some true) (by omega) (fun m s next hm=>?_) (fun s next=>?_) (by omega) ()).trans ?_
  ·simp only [Zf0];rw [decide_eq_true (by omega),cond_true];rcases find_eq hF sm hm n with⟨j,c,q1,q2,q3⟩ | ⟨q1,q3⟩
   ·rw [q3,q1];have e1:decide ((j:Int) >=0)=true:=by simp
    simp only [Option.bind_some,e1,KL,Bool.true_and,Option.isSome_some,Zrp hF sm sh (show(0:Int) <= (m:Int) by omega) (show(m:Int) < w.cells.length by omega)]
   ·rw [q3,q1];rfl
  ·simp only [Zf0];rw [decide_eq_false (by omega),cond_false]
  ·rw [XT (r:=some false) (fun _ m=>(cellOf w m n).isSome && !(YN w n h w.cells.length m)) (fun _ _ _ _=>rfl),JR];unfold JN;cases (List.range w.cells.length).any fun m=>(cellOf w m n).isSome && !(YN w n h w.cells.length m) <;> rfl
 refine(Qe w.cells.length (fun v (q:Int×Int)=>(q.1,q.2,v)) (Ziv F w n) (fun m q next=>bif Zg1 w n m then some false else next (Qq w n q m)) (fun q=>bif q.1 !=1 then some false else some (JN w n q.2)) (by omega) (fun m q next hm=>?_) (fun q next=>?_) (by omega) (0,0)).trans ?_
 ·simp only [Ziv];rw [decide_eq_true (by omega),cond_true,ZmG hF sm,Option.bind_some]
  have j1:∀ a b:Int,ZfY F w n m (fun s'=>next s') (a,b)=bif Zg1 w n m then some false else next (a,b,ZQ ((m:Int) + 1)):=by
   intro a b;simp only [ZfY];rw [Zm3 hF sm hm,ZxC hF sm];simp only [Option.bind_some,K7];unfold Zg1;cases XB w m n !=Zbv w m n <;> rfl
  have j0:∀ k:Nat,k=Ze2 w m n ->ZfZ F w n q.1 q.2 m (fun s'=>next s') (k:Int)=bif Zg1 w n m then some false else next ((Qq w n q m).1,(Qq w n q m).2,ZQ ((m:Int) + 1)):=by
   intro k hk;subst hk;simp only [ZfZ,Qq];cases decide ((Ze2 w m n:Int) > 0)
   ·exact j1 _ _
   ·exact j1 _ _
  have hh:ZaE w m n < 1000:=Nat.lt_of_le_of_lt List.countP_le_length sm.notes;rcases find_eq hF sm hm n with⟨j,c,q1,q2,q3⟩ | ⟨q1,q3⟩
  ·have e1:decide ((j:Int) >=0)=true:=by simp
   simp only [q3,Option.bind_some,e1,KL,ZB,Yl hm,q2,Bool.true_and];cases hr:c.root
   ·rw [cond_false];exact j0 _ (by unfold Ze2;rw [q1];simp [hr])
   ·rw [cond_true,JC (by omega)];exact j0 _ (by unfold Ze2;rw [q1];simp [hr])
  ·simp only [q3,Option.bind_some];exact j0 _ (by unfold Ze2;rw [q1];simp)
 ·simp only [Ziv];rw [decide_eq_false (by omega),cond_false,e1]
 ·rw [ZkU (r:=some false) (fun _ m=>Zg1 w n m) (fun _ m q=>Qq w n q m) (fun _ _ _ _ _=>rfl),JR,X6];unfold Q8 Qp;generalize (List.range w.cells.length).foldl (Qq w n) (0,0)=q;cases (List.range w.cells.length).any fun m=>Zg1 w n m
  ·have:(q.1 !=1)= !(q.1==1):=rfl;rw [this];cases q.1==1 <;> rfl
  ·rfl
theorem right_eq {F:Nat} (hF:1000 <=F) {w:Za} (sm:Small w):Zpi F w=some (Us w):=by
 unfold Zpi;rw [Zq8 hF sm,Option.bind_some];have hf:=sm.freed;by_cases h0:J8 w=true
 ·have h0':=h0;unfold J8 at h0';simp only [Bool.and_eq_true,decide_eq_true_eq] at h0';have hrow:=ZwO (w:=w) (by omega);rw [hrow];have e:(J8 w && (!(anyI (QN w) 0 w.freed) && (KX w && Js w)))=U3 w:=rfl;rw [e];unfold Us;cases hs:U3 w
  ·rfl
  ·have sh:=ZbX hs;have en:((w.names.toNat:Nat):Int)=w.names:=by omega
   simp only [Bool.not_true,cond_false,Bool.true_and];refine(Qe w.names.toNat (fun v (_:Unit)=>v) (ZiF F w) (fun n s next=>bif Ym w n && !(Q8 w n) then some false else next ()) (fun _=>some true) (by omega) (fun n s next hn=>?_) (fun s next=>?_) (by omega) ()).trans ?_
   ·simp only [ZiF];rw [decide_eq_true (by omega),cond_true,has_eq hF hf,Zrb hF sm sh];simp only [Option.bind_some,K7];unfold Ym;rw [decide_eq_true (show(0:Int) <= (n:Int) by omega),decide_eq_true (show(n:Int) < w.names by omega)];cases (w.freed.any fun y=>y== (n:Int)) <;> rfl
   ·simp only [ZiF];rw [decide_eq_false (by omega),cond_false]
   ·rw [XT (r:=some false) (fun _ (n:Nat)=>Ym w n && !(Q8 w n)) (fun _ _ _ _=>rfl),JR];cases (List.range w.names.toNat).any fun n=>Ym w n && !(Q8 w n) <;> rfl
 ·have h0:J8 w=false:=by simpa using h0
  unfold Us U3;rw [h0];rfl
theorem Ztd {F:Nat} (hF:1000 <=F) {w:Za} (sm:Small w) (sh:Shp w) (n:Int):(((Y8 w n).length:Int)==1)= ((Qp w n).1==1)∧((Y8 w n).length=1 ->Y8 w n= [(Qp w n).2]):=by
 obtain⟨h1,h2⟩:=Zfs sh n;unfold Qp;refine⟨by rw [h1],fun hl=>?_⟩;obtain⟨h,hh⟩:=List.length_eq_one_iff.1 hl;rw [h2 h hh];exact hh
theorem Zyb {F:Nat} (hF:1000 <=F) {w:Za} (sm:Small w):Zvg F w=some (Us w):=by
 unfold Zvg;have hf:=sm.freed;have hc:=sm.cells;have hn:=sm.notes
 have e0:((((((decide ((w.cells.length:Int) < 1)) || (decide ((w.cells.length:Int) > 6))) || (decide (w.names < 0))) || (decide (w.names > 12))) || (decide ((w.notes.length:Int) > 80))) || (decide ((w.freed.length:Int) > w.names)))= !(J8 w):=by
  unfold J8;rw [Bool.eq_iff_iff];simp only [Bool.or_eq_true,decide_eq_true_eq,Bool.not_eq_true',← Bool.not_eq_true,Bool.and_eq_true];omega
 rw [e0];cases h0:J8 w
 ·unfold Us U3;rw [h0];rfl
 ·have h0':=h0;unfold J8 at h0';simp only [Bool.and_eq_true,decide_eq_true_eq] at h0';have en:((w.names.toNat:Nat):Int)=w.names:=by omega
  simp only [Bool.not_true,cond_false];refine(Yd w.freed (fun v (_:Unit)=>v) (ZiD F w) (fun k x s next=>bif QN w k x then some false else next ()) (fun _=>bif KX w && Js w then some (!((List.range w.names.toNat).any fun n=>Ym w n && !(Q8 w n))) else some false) (by omega) (fun k y s next hy hk=>?_) (fun s next=>?_) (by omega) ()).trans ?_
  ·have hk':k < w.freed.length:=by omega
   simp only [ZiD,ZB,hy,hk,decide_true,cond_true,Option.bind_some,Zhf _ hk' (by omega)];unfold QN;have a1:decide (y < 0)= !decide (0 <=y):=by rw [← decide_not];exact decide_eq_decide.2 (by omega)
   have a2:decide (y >=w.names)= !decide (y < w.names):=by rw [← decide_not];exact decide_eq_decide.2 (by omega)
   rw [a1,a2];cases decide (0 <=y) <;> cases decide (y < w.names) <;> cases decide ((k:Int) > 0) <;> rfl
  ·simp only [ZiD];rw [decide_eq_false (by omega),cond_false,ZrA hF sm _ rfl rfl rfl,Option.bind_some];cases hr:KX w && Js w
   ·rfl
   ·simp only [Bool.not_true,cond_false,cond_true];rw [Bool.and_eq_true] at hr;have sh:=ZsA h0 hr.1 hr.2;obtain⟨cs,q1,q2⟩:=Zqa hF sm sh;have so:Qm w ⟨(w.cells.length:Int),w.names,cs,w.notes,w.freed⟩:= ⟨rfl,rfl,rfl,rfl,q2⟩
    rw [q1,Option.bind_some,ZqZ hF sm sh.szd so,Option.bind_some];generalize hst:(⟨(w.cells.length:Int),w.names,cs,w.notes,w.freed⟩:Store)=st at so;refine(Qe w.names.toNat (fun v (_:Unit)=>v) (ZiC F st (ZcG w)) (fun n s next=>bif Ym w n && !(Q8 w n) then some false else next ()) (fun _=>some true) (by omega) (fun n s next hnn=>?_) (fun s next=>?_) (by omega) ()).trans ?_
    ·have ZBe:(n:Int) < w.names:=by omega
     simp only [ZiC,so.n];rw [decide_eq_true ZBe,cond_true,ZfA hF sm st so.n so.freed,Option.bind_some];cases Ym w n
     ·rfl
     ·simp only [Bool.not_true,cond_false,Bool.true_and];rw [ZoL hF sm sh so ZBe,Option.bind_some];obtain⟨n1,n2⟩:=Ztd hF sm sh (n:Int);have e5:(((Y8 w n).length:Int) !=1)= !((Qp w n).1==1):=by rw [← n1];rfl
      rw [e5,Bool.not_not];unfold Q8;cases h1:(Qp w n).1==1
      ·simp only [ZuP,Option.bind_some,Bool.not_false,Bool.true_or,cond_true,Bool.false_and,Bool.and_false]
      ·rw [h1] at n1
       have hl:(Y8 w n).length=1:=by
        have:=eq_of_beq n1;omega
       rw [n2 hl];have eg:ZL [(Qp w n).2] 0=some (Qp w n).2:=rfl;simp only [KL,eg,Option.bind_some,Zow hF sm sh so,Bool.not_true,Bool.false_or,Bool.true_and];cases JN w n (Qp w n).2
       ·simp only [Bool.not_false,cond_true,Bool.and_false]
       ·simp only [Bool.not_true,cond_false,Bool.and_true,Bool.not_not];refine(Qe w.cells.length (fun v (_:Unit)=>v) (ZiB st (ZcG w) n next) (fun m s nx=>bif Zg1 w n m then some false else nx ()) (fun _=>next (ZQ ((n:Int) + 1))) (by omega) (fun m s nx hm=>?_) (fun s nx=>?_) (by omega) ()).trans ?_
        ·simp only [ZiB,so.m];obtain⟨g1,g2⟩:=ZlY sh.szd hm ZBe;rw [decide_eq_true (by omega),cond_true];have p1:ZaB (ZcG w).1 ⟨(m:Int),(n:Int)⟩ 0=some (XB w m n):=by rw [← g1];rfl
         have p2:ZaB (ZcG w).2 ⟨(m:Int),(n:Int)⟩ 0=some (Zbv w m n):=by rw [← g2];rfl
         simp only [p1,p2,Option.bind_some,K7];unfold Zg1;cases XB w m n !=Zbv w m n <;> rfl
        ·simp only [ZiB,so.m,ZiA];rw [decide_eq_false (by omega),cond_false]
        ·rw [XT (r:=some false) (fun _ m=>Zg1 w n m) (fun _ _ _ _=>rfl),JR]
    ·simp only [ZiC,so.n];rw [decide_eq_false (by omega),cond_false]
    ·rw [XT (r:=some false) (fun _ (n:Nat)=>Ym w n && !(Q8 w n)) (fun _ _ _ _=>rfl),JR];cases (List.range w.names.toNat).any fun n=>Ym w n && !(Q8 w n) <;> rfl
  ·rw [XT (r:=some false) (QN w) (fun k _ _ _=>by rw [Nat.zero_add])];unfold Us U3;rw [h0];cases anyI (QN w) 0 w.freed
   ·cases KX w && Js w <;> rfl
   ·rfl
end
end Go.Proofs.Ytekpjgmhkkjhgaa
end
section
namespace Go.Proofs.Ytekpjgmhkkjhgaa
open Go.Lf
abbrev Row:=List Zb
def UB (r:Row):Prop:=r.Pairwise fun a b=>a.name < b.name
def J5 (r:Row) (n:Int):Option Zb:=r.find? fun c=>c.name==n
def put (c:Zb):Row ->Row
 | []=>[c]
 | d::r=>if d.name < c.name then d::put c r else if d.name=c.name then c::r else c::d::r
def rmv (n:Int) (r:Row):Row:=r.filter fun c=>!(c.name==n)
theorem Qt {r:Row} {n:Int} {c:Zb} (h:J5 r n=some c):c.name=n:=by
 unfold J5 at h;have:=List.find?_some h;simpa using this
theorem ZcW {r:Row} {n:Int} {c:Zb} (h:J5 r n=some c):c ∈ r:=List.mem_of_find?_eq_some h
theorem Xk (d:Zb) (r:Row) (n:Int):J5 (d::r) n=if d.name=n then some d else J5 r n:=by
 unfold J5;rw [List.find?_cons];by_cases h:d.name=n
 ·have:(d.name==n)=true:=by simp [h]
  rw [this,if_pos h]
 ·have:(d.name==n)=false:=by simp [h]
  rw [this,if_neg h]
theorem ZxJ (n:Int):J5 [] n=none:=rfl
theorem UB.tail {d:Zb} {r:Row} (s:UB (d::r)):UB r:= (List.pairwise_cons.1 s).2
theorem UB.head {d:Zb} {r:Row} (s:UB (d::r)):∀ c ∈ r,d.name < c.name:= (List.pairwise_cons.1 s).1
theorem Zif {r:Row} {n:Int} (h:∀ c ∈ r,n < c.name):J5 r n=none:=by
 unfold J5;rw [List.find?_eq_none];intro c hc;have:=h c hc;simp;omega
theorem Zo5 {r:Row} (s:UB r) {c:Zb} (h:c ∈ r):J5 r c.name=some c:=by
 induction r with
 | nil=>simp at h
 | cons d r ih=>
   rw [Xk];rcases List.mem_cons.1 h with rfl | h
   ·rw [if_pos rfl]
   ·have:=s.head c h;rw [if_neg (by omega)];exact ih s.tail h
theorem Wh (c:Zb) {r:Row} (s:UB r) (n:Int):J5 (put c r) n=if n=c.name then some c else J5 r n:=by
 induction r with
 | nil=>rw [put,Xk,ZxJ];by_cases h:n=c.name <;> simp [h];exact fun e=>h e.symm
 | cons d r ih=>
   unfold put;by_cases h1:d.name < c.name
   ·rw [if_pos h1,Xk,Xk,ih s.tail];by_cases h2:d.name=n
    ·rw [if_pos h2,if_pos h2,if_neg (by omega)]
    ·rw [if_neg h2,if_neg h2]
   ·rw [if_neg h1];by_cases h2:d.name=c.name
    ·rw [if_pos h2,Xk,Xk];by_cases h3:n=c.name
     ·rw [if_pos h3.symm,if_pos h3]
     ·rw [if_neg (fun e=>h3 e.symm),if_neg h3,if_neg (by omega)]
    ·rw [if_neg h2,Xk];by_cases h3:n=c.name
     ·rw [if_pos h3.symm,if_pos h3]
     ·rw [if_neg (fun e=>h3 e.symm),if_neg h3]
theorem Zw3 {c x:Zb} {r:Row} (h:x ∈ put c r):x=c∨x ∈ r:=by
 induction r with
 | nil=>simp [put] at h;exact .inl h
 | cons d r ih=>
   unfold put at h;split at h
   ·rcases List.mem_cons.1 h with rfl | h
    ·exact .inr (by simp)
    ·exact(ih h).imp id fun z=>by simp [z]
   ·split at h
    ·rcases List.mem_cons.1 h with rfl | h
     ·exact .inl rfl
     ·exact .inr (by simp [h])
    ·rcases List.mem_cons.1 h with rfl | h
     ·exact .inl rfl
     ·exact .inr h
theorem UB.put {c:Zb} {r:Row} (s:UB r):UB (put c r):=by
 induction r with
 | nil=>exact List.pairwise_singleton _ _
 | cons d r ih=>
   unfold Go.Proofs.Ytekpjgmhkkjhgaa.put;by_cases h1:d.name < c.name
   ·rw [if_pos h1];refine List.pairwise_cons.2 ⟨fun x hx=>?_,ih s.tail⟩;rcases Zw3 hx with rfl | hx
    ·exact h1
    ·exact s.head x hx
   ·rw [if_neg h1];by_cases h2:d.name=c.name
    ·rw [if_pos h2];exact List.pairwise_cons.2 ⟨fun x hx=>by have:=s.head x hx;omega,s.tail⟩
    ·rw [if_neg h2];refine List.pairwise_cons.2 ⟨fun x hx=>?_,s⟩;rcases List.mem_cons.1 hx with rfl | hx
     ·omega
     ·have:=s.head x hx;omega
theorem Zqu (n:Int) (r:Row) (k:Int):J5 (rmv n r) k=if k=n then none else J5 r k:=by
 induction r with
 | nil=>simp [rmv,J5]
 | cons d r ih=>
   unfold rmv at ih ⊢;rw [List.filter_cons];by_cases h:d.name=n
   ·have:(!(d.name==n))=false:=by simp [h]
    rw [if_neg (by simp [h]),ih,Xk];by_cases hk:k=n
    ·rw [if_pos hk,if_pos hk]
    ·rw [if_neg hk,if_neg hk,if_neg (by omega)]
   ·rw [if_pos (by simp [h]),Xk,ih,Xk];by_cases hk:k=n
    ·rw [if_pos hk,if_pos hk,if_neg (by omega)]
    ·rw [if_neg hk,if_neg hk]
theorem UB.rmv {r:Row} (s:UB r) (n:Int):UB (rmv n r):=List.Pairwise.filter _ s
theorem UB.ext:∀ {r q:Row},UB r ->UB q ->(∀ n,J5 r n=J5 q n) ->r=q
 | [],[],_,_,_=>rfl
 | [],d::q,_,_,h=>by have:=h d.name;rw [Xk,if_pos rfl] at this;simp [J5] at this
 | d::r,[],_,_,h=>by have:=h d.name;rw [Xk,if_pos rfl] at this;simp [J5] at this
 | d::r,e::q,s,t,h=>by
   have hde:d=e:=by
    have h1:=h d.name;have h2:=h e.name;rw [Xk,if_pos rfl,Xk] at h1;rw [Xk,Xk,if_pos rfl] at h2;by_cases hn:e.name=d.name
    ·rw [if_pos hn] at h1;exact Option.some.inj h1
    ·rw [if_neg hn] at h1;rw [if_neg (fun z=>hn z.symm)] at h2;have m1:=t.head d (ZcW h1.symm);have m2:=s.head e (ZcW h2);omega
   subst hde;congr 1;refine UB.ext s.tail t.tail fun n=>?_
   have:=h n;rw [Xk,Xk] at this;by_cases hn:d.name=n
   ·rw [Zif (fun c hc=>by have:=s.head c hc;omega),Zif (fun c hc=>by have:=t.head c hc;omega)]
   ·rwa [if_neg hn,if_neg hn] at this
theorem Zei {r:Row} (s:UB r) {k:Nat} {c c':Zb} (hk:r[k]? =some c) (hn:c'.name=c.name):r.set k c'=put c' r:=by
 induction r generalizing k with
 | nil=>simp at hk
 | cons d r ih=>
   cases k with
   | zero=>
     simp at hk;subst hk;rw [List.set_cons_zero,put,if_neg (by omega),if_pos hn.symm]
   | succ k=>
     rw [List.getElem?_cons_succ] at hk;have:=s.head c (List.mem_of_getElem? hk);rw [List.set_cons_succ,put,if_pos (by omega),ih s.tail hk]
end Go.Proofs.Ytekpjgmhkkjhgaa
end
section
namespace Go.Proofs.Ytekpjgmhkkjhgaa
open Go.Lf
def blank (n:Int):Zb:= ⟨n,false,-1,0,0,false⟩
def look (r:Row) (n:Int):Zb:= (J5 r n).getD (blank n)
def ZdZ (r:Row) (n:Int):Row:=match J5 r n with
 | some _=>r
 | none=>put (blank n) r
def cw (w:Za) (m:Nat) (r:Row):Za:= ⟨w.cells.set m r,w.notes,w.names,w.freed⟩
def Jz (n:Int) (c:Zb) (s:Int×Row):Int×Row:=bif decide (s.1 < 0) && decide (c.name > n) then(s.2.length,(s.2 ++ [blank n]) ++ [c]) else(s.1,s.2 ++ [c])
def ZlR (n:Int) (s:Int×Row):Row×Int:=bif decide (s.1 < 0) then(s.2 ++ [blank n],s.2.length) else(s.2,s.1)
theorem ZnS (n:Int):∀ (r acc:Row) (i:Int),0 <=i ->r.foldl (fun s c=>Jz n c s) (i,acc)= (i,acc ++ r)
 | [],acc,i,h=>by simp
 | c::r,acc,i,h=>by
   rw [List.foldl_cons]
   have:Jz n c (i,acc)= (i,acc ++ [c]):=by
    unfold Jz;rw [show decide (i < 0)=false from decide_eq_false (by omega)];rfl
   rw [this,ZnS n r _ i h,List.append_assoc];rfl
theorem ZsL {c:Zb}:∀ {r:Row},(∀ x ∈ r,c.name < x.name) ->put c r=c::r
 | [],_=>rfl
 | d::r,h=>by
   have:=h d (by simp);rw [put,if_neg (by omega),if_neg (by omega)]
theorem ZnR (n:Int):∀ (r acc:Row),UB r ->J5 r n=none ->∃ k:Nat,ZlR n (r.foldl (fun s c=>Jz n c s) (-1,acc))= (acc ++ put (blank n) r,((acc.length + k:Nat):Int))∧(put (blank n) r)[k]? =some (blank n)
 | [],acc,_,_=>⟨0,by simp [ZlR,put],rfl⟩
 | c::r,acc,s,h=>by
   rw [Xk] at h;have hne:c.name ≠ n:=fun z=>by rw [if_pos z] at h;cases h
   rw [if_neg hne] at h;rw [List.foldl_cons];by_cases hc:c.name > n
   ·have e:Jz n c (-1,acc)= ((acc.length:Int),(acc ++ [blank n]) ++ [c]):=by
     unfold Jz;rw [show decide (c.name > n)=true from decide_eq_true hc];rfl
    rw [e,ZnS n r _ _ (by omega)];refine⟨0,?_,?_⟩
    ·have hp:put (blank n) (c::r)=blank n::c::r:=ZsL fun x hx=>by
      have hb:(blank n).name=n:=rfl;rcases List.mem_cons.1 hx with rfl | hx
      ·omega
      ·have:=s.head x hx;omega
     unfold ZlR;rw [show decide ((acc.length:Int) < 0)=false from decide_eq_false (by omega),hp];simp
    ·rw [ZsL fun x hx=>by
      have hb:(blank n).name=n:=rfl;rcases List.mem_cons.1 hx with rfl | hx
      ·omega
      ·have:=s.head x hx;omega]
     rfl
   ·have e:Jz n c (-1,acc)= (-1,acc ++ [c]):=by
     unfold Jz;rw [show decide (c.name > n)=false from decide_eq_false hc,Bool.and_false];rfl
    rw [e];obtain⟨k,h1,h2⟩:=ZnR n r (acc ++ [c]) s.tail h
    have hp:put (blank n) (c::r)=c::put (blank n) r:=by
     rw [put,if_pos (by show c.name < n;omega)]
    refine⟨k + 1,?_,?_⟩
    ·rw [h1,hp];simp only [List.append_assoc,List.singleton_append,List.length_append,List.length_cons,List.length_nil];congr 2;omega
    ·rw [hp];exact h2
theorem set_self {α:Type} {l:List α} {m:Nat} {x:α} (h:l[m]? =some x):l.set m x=l:=by
 apply List.ext_getElem?;intro k;rw [List.getElem?_set];by_cases hk:m=k
 ·subst hk;have:= (List.getElem?_eq_some_iff.1 h).1;rw [if_pos rfl,if_pos this,h]
 ·rw [if_neg hk]
theorem ZyD {w:Za} {m:Nat} (hm:m < w.cells.length):cw w m (rowOf w m)=w:=by
 unfold cw;rw [set_self (Yl hm)]
theorem ZvS {F:Nat} (hF:1000 <=F) {w:Za} (sm:Small w) {m:Nat} (hm:m < w.cells.length) (n:Int) (Xo:UB (rowOf w m)):
 ∃ k:Nat,ZiL F w m n=some (cw w m (ZdZ (rowOf w m) n),(k:Int))∧(ZdZ (rowOf w m) n)[k]? =some (look (rowOf w m) n):=by
 have hr:=Yl hm;have hl:=sm.row m;rcases find_eq hF sm hm n with⟨j,c,h1,h2,h3⟩ | ⟨h1,h2⟩
 ·have hf:J5 (rowOf w m) n=some c:=h1;refine⟨j,?_,?_⟩
  ·unfold ZiL;rw [h3,Option.bind_some,show decide ((j:Int) >=0)=true from decide_eq_true (by omega),cond_true];unfold ZdZ;rw [hf,ZyD hm]
  ·unfold ZdZ look;rw [hf];exact h2
 ·have hf:J5 (rowOf w m) n=none:=h1;obtain⟨k,k1,k2⟩:=ZnR n (rowOf w m) [] Xo hf;refine⟨k,?_,?_⟩
  ·unfold ZiL;rw [h2,Option.bind_some,show decide ((-1:Int) >=0)=false from rfl,cond_false];have hb:48 <=1000:=by decide
   refine(Yd (rowOf w m) (fun v (s:Int×Row)=>(s.1,s.2,v)) (ZeM w m n) (fun _ c s next=>bif decide (s.1 < 0) && decide (c.name > n) then(app 48 s.2 [blank n]).bind fun z=>(app 48 z [c]).bind fun z2=>next (s.2.length,z2) else(app 48 s.2 [c]).bind fun z2=>next (s.1,z2))
    (fun s=>bif decide (s.1 < 0) then(app 48 s.2 [blank n]).bind fun z=>some (cw w m z,(s.2.length:Int)) else some (cw w m s.2,s.1)) (by omega) (fun k y s next hy hk=>?_) (fun s next=>?_) (by omega) (-1,[])).trans ?_
   ·simp only [ZeM,ZeL,ZB,hr,hy,hk,decide_true,Option.bind_some,cond_true]
    rfl
   ·simp only [ZeM,ZeK,ZB,hr,Option.bind_some];rw [decide_eq_false (by omega),cond_false]
    rfl
   ·rw [(Y6 (fun _ c s=>Jz n c s) (fun k (s:Int×Row)=>s.2.length <=2 * k) (Nat.le_refl _) (fun k x s next hx hs=>by
     have:= (List.getElem?_eq_some_iff.1 hx).1;unfold Jz;cases (decide (s.1 < 0) && decide (x.name > n))
     ·simp only [cond_false];rw [YL (by simp;omega) hb];exact⟨rfl,by simp;omega⟩
     ·simp only [cond_true];rw [YL (by simp;omega) hb,Option.bind_some,YL (by simp;omega) hb];exact⟨rfl,by simp;omega⟩)).1,X6]
    have hlen:= (Y6 (d:=fun(_:Int×Row)=>(none:Option Unit)) (g:=fun _ c s next=>next (Jz n c s)) (fun _ c s=>Jz n c s) (fun k (s:Int×Row)=>s.2.length <=2 * k) (l:=rowOf w m) (i:=0) (s:= (-1,[])) (Nat.le_refl _) (fun k x s next hx hs=>⟨rfl,by
     unfold Jz;cases (decide (s.1 < 0) && decide (x.name > n)) <;> simp <;> omega⟩)).2
    rw [X6] at hlen;generalize (rowOf w m).foldl (fun s c=>Jz n c s) (-1,[])=s at k1 hlen;unfold ZlR at k1;cases hs:decide (s.1 < 0) with
    | true=>
      rw [hs,cond_true] at k1;rw [cond_true,YL (by simp;omega) hb,Option.bind_some];have e1:=congrArg Prod.fst k1;have e2:=congrArg Prod.snd k1;dsimp only at e1 e2;rw [e1,e2];unfold ZdZ;rw [hf];simp
    | false=>
      rw [hs,cond_false] at k1;rw [cond_false];have e1:=congrArg Prod.fst k1;have e2:=congrArg Prod.snd k1;dsimp only at e1 e2;rw [e1,e2];unfold ZdZ;rw [hf];simp
  ·unfold ZdZ look;rw [hf];exact k2
end Go.Proofs.Ytekpjgmhkkjhgaa
end
section
namespace Go.Proofs.Ytekpjgmhkkjhgaa
open Go.Lf
def Ja (n:Int):List Int ->List Int
 | []=>[n]
 | x::l=>if x > n then n::x::l else x::Ja n l
def Jl (n:Int) (x:Int) (s:List Int×Bool):List Int×Bool:=bif(!s.2) && decide (x > n) then((s.1 ++ [n]) ++ [x],true) else(s.1 ++ [x],s.2)
theorem Zkf (n:Int):∀ (l acc:List Int),l.foldl (fun s c=>Jl n c s) (acc,true)= (acc ++ l,true)
 | [],acc=>by simp
 | c::l,acc=>by
   rw [List.foldl_cons];have:Jl n c (acc,true)= (acc ++ [c],true):=rfl;rw [this,Zkf n l,List.append_assoc];rfl
theorem Zke (n:Int):∀ (l acc:List Int),(bif !(l.foldl (fun s c=>Jl n c s) (acc,false)).2 then(l.foldl (fun s c=>Jl n c s) (acc,false)).1 ++ [n] else(l.foldl (fun s c=>Jl n c s) (acc,false)).1)=acc ++ Ja n l
 | [],acc=>rfl
 | c::l,acc=>by
   rw [List.foldl_cons];by_cases hc:c > n
   ·have e:Jl n c (acc,false)= ((acc ++ [n]) ++ [c],true):=by
     unfold Jl;rw [decide_eq_true hc];rfl
    rw [e,Zkf,Ja,if_pos hc];simp
   ·have e:Jl n c (acc,false)= (acc ++ [c],false):=by
     unfold Jl;rw [decide_eq_false hc];rfl
    rw [e,Zke n l,Ja,if_neg hc,List.append_assoc];rfl
theorem free_eq {F:Nat} (hF:1000 <=F) {l:List Int} (hl:l.length < 1000) (n:Int):Zki F l n=some (Ja n l):=by
 have hb:8 <=1000:=by decide
 unfold Zki
 refine(Yd l (fun v (s:List Int×Bool)=>(s.1,s.2,v)) (ZeJ l n) (fun _ x s next=>bif(!s.2) && decide (x > n) then(app 8 s.1 [n]).bind fun z=>(app 8 z [x]).bind fun z2=>next (z2,true) else(app 8 s.1 [x]).bind fun z2=>next (z2,s.2))
  (fun s=>bif !s.2 then(app 8 s.1 [n]).bind fun z=>some z else some s.1) (by omega) (fun k y s next hy hk=>?_) (fun s next=>?_) (by omega) ([],false)).trans ?_
 ·obtain⟨s1,s2⟩:=s;simp only [ZeJ,ZeI,ZB,hy,hk,decide_true,cond_true];cases s2
  ·simp only [gd,Bool.not_false,cond_true,Option.bind_some]
  ·simp only [gd,Bool.not_true,cond_false,Option.bind_some,Bool.false_and]
 ·simp only [ZeJ,ZeH];rw [decide_eq_false (by omega),cond_false]
 ·obtain⟨h1,h2⟩:=Y6 (d:=fun s:List Int×Bool=>bif !s.2 then(app 8 s.1 [n]).bind fun z=>some z else some s.1) (g:=fun _ x s next=>bif(!s.2) && decide (x > n) then(app 8 s.1 [n]).bind fun z=>(app 8 z [x]).bind fun z2=>next (z2,true) else(app 8 s.1 [x]).bind fun z2=>next (z2,s.2)) (fun _ c s=>Jl n c s) (fun k (s:List Int×Bool)=>s.1.length <=2 * k) (l:=l) (i:=0) (s:= ([],false)) (Nat.le_refl _) (fun k x s next hx hs=>by
   have:= (List.getElem?_eq_some_iff.1 hx).1;unfold Jl;cases ((!s.2) && decide (x > n))
   ·simp only [cond_false];rw [YL (by simp;omega) hb];exact⟨rfl,by simp;omega⟩
   ·simp only [cond_true];rw [YL (by simp;omega) hb,Option.bind_some,YL (by simp;omega) hb];exact⟨rfl,by simp;omega⟩)
  rw [h1];rw [X6] at h2 ⊢;have:=Zke n l [];rw [List.nil_append] at this;rw [← this];cases hs: !(l.foldl (fun s c=>Jl n c s) ([],false)).2
  ·rfl
  ·simp only [cond_true];rw [YL (by simp;omega) hb];rfl
def Qj (w:Za) (m:Nat) (n:Int) (c:Zb):Za:=
 bif c.use || (c.out !=0) then w else
  ⟨w.cells.set m (rmv n (rowOf w m)),bif c.root then w.notes else bif decide (c.from_ >=0) then w.notes ++ [⟨2,c.from_,n,0,c.has⟩] else w.notes,w.names,bif c.root then Ja n w.freed else w.freed⟩
theorem Zp5 {n:Int}:∀ {r:Row} {k:Nat} {c:Zb},UB r ->r[k]? =some c ->c.name=n ->r.take k ++ r.drop (k + 1)=rmv n r
 | [],_,_,_,h,_=>by simp at h
 | d::r,0,c,s,h,hn=>by
   simp at h;subst h;have:rmv n (d::r)=rmv n r:=by unfold rmv;rw [List.filter_cons,if_neg (by simp [hn])]
   rw [this]
   have:rmv n r=r:=by
    unfold rmv;rw [List.filter_eq_self];intro x hx;have:=s.head x hx;simp;omega
   rw [this];rfl
 | d::r,k + 1,c,s,h,hn=>by
   rw [List.getElem?_cons_succ] at h;have:=s.head c (List.mem_of_getElem? h);have e:rmv n (d::r)=d::rmv n r:=by unfold rmv;rw [List.filter_cons,if_pos (by simp;omega)]
   rw [e,← Zp5 s.tail h hn];rfl
def Zbe (k:Nat) (i:Nat) (c:Zb) (s:Row):Row:=bif((i:Int) != (k:Int)) then s ++ [c] else s
theorem ZjN (k:Nat):∀ (r:Row) (i:Nat) (acc:Row),foldI (Zbe k) i r acc=acc ++ (if k < i then r else r.take (k - i) ++ r.drop (k - i + 1))
 | [],i,acc=>by simp [foldI]
 | c::r,i,acc=>by
   rw [foldI,ZjN k r];by_cases h:k < i
   ·have:Zbe k i c acc=acc ++ [c]:=by
     unfold Zbe;have:((i:Int) != (k:Int))=true:=by simp;omega
     rw [this];rfl
    rw [this,if_pos (by omega),if_pos h];simp
   ·by_cases h2:k=i
    ·subst h2;have:Zbe k k c acc=acc:=by unfold Zbe;simp
     rw [this,if_pos (by omega),if_neg h];simp
    ·have:Zbe k i c acc=acc ++ [c]:=by
      unfold Zbe;have:((i:Int) != (k:Int))=true:=by simp;omega
      rw [this];rfl
     rw [this,if_neg (by omega),if_neg h];obtain⟨d,rfl⟩:∃ d,k=i + (d + 1):= ⟨k - i - 1,by omega⟩
     have e1:i + (d + 1) - (i + 1)=d:=by omega
     have e2:i + (d + 1) - i=d + 1:=by omega
     rw [e1,e2];simp
theorem Zq9 {F:Nat} (hF:1000 <=F) {w:Za} (sm:Small w) {m:Nat} (hm:m < w.cells.length) {n:Int} (Xo:UB (rowOf w m)) {c:Zb} (hc:J5 (rowOf w m) n=some c):ZeP F w m n=some (Qj w m n c):=by
 have hr:=Yl hm;have hl:=sm.row m;have hno:=sm.notes;rcases find_eq hF sm hm n with⟨j,c',h1,h2,h3⟩ | ⟨h1,_⟩
 ·have hcc:c'=c:=by
   have:J5 (rowOf w m) n=some c':=h1;rw [hc] at this;exact(Option.some.inj this).symm
  subst hcc;unfold ZeP Qj;rw [h3,Option.bind_some,ZB,hr,Option.bind_some,ZB,h2,Option.bind_some];cases hu:(c'.use || (c'.out !=0))
  ·rw [cond_false,cond_false]
   refine(Yd (rowOf w m) (fun v (s:Row)=>(s,v)) (ZeO F w m n j c') (fun i x s next=>bif((i:Int) != (j:Int)) then(app 48 s [x]).bind fun z=>next z else next s)
    (fun s=>bif c'.root then(Zki F w.freed n).bind fun x=>Wj w m s (w.notes,x) else bif decide (c'.from_ >=0) then(app 40 w.notes [(Zf.mk 2 c'.from_ n 0 c'.has)]).bind fun z=>Wj w m s (z,w.freed) else Wj w m s (w.notes,w.freed)) (by omega) (fun k y s next hy hk=>?_) (fun s next=>?_) (by omega) []).trans ?_
   ·simp only [ZeO,ZeN,ZB,hr,hy,hk,decide_true,Option.bind_some,cond_true]
   ·simp only [ZeO,ZB,hr,Option.bind_some];rw [decide_eq_false (by omega),cond_false]
   ·refine(Y6 (i:=0) (s:= []) (l:=rowOf w m) (Zbe j) (fun k (s:Row)=>s.length <=k) (Nat.le_refl _) (fun k x s next hx hs=>by
     have:= (List.getElem?_eq_some_iff.1 hx).1;unfold Zbe;rw [Nat.zero_add] at hs ⊢;cases ((k:Int) != (j:Int))
     ·exact⟨rfl,by simp;omega⟩
     ·simp only [cond_true];rw [YL (by simp;omega) (by decide)];exact⟨rfl,by simp;omega⟩)).1.trans ?_
    rw [ZjN];rw [if_neg (by omega),List.nil_append,Nat.sub_zero,Zp5 Xo h2 (Qt hc)];cases c'.root
    ·simp only [cond_false];cases decide (c'.from_ >=0)
     ·simp only [cond_false,Wj,YH,Int.toNat_natCast]
     ·simp only [cond_true];rw [YL (by simp;omega) (by decide)];simp only [Option.bind_some,Wj,YH,Int.toNat_natCast]
    ·simp only [cond_true];rw [free_eq hF sm.freed];simp only [Option.bind_some,Wj,YH,Int.toNat_natCast]
  ·rfl
 ·exfalso;have:J5 (rowOf w m) n=none:=h1;rw [this] at hc;cases hc
end Go.Proofs.Ytekpjgmhkkjhgaa
end
section
namespace Go.Proofs.Ytekpjgmhkkjhgaa
open Go.Lf
theorem WJ (r:Row) (n:Int):(look r n).name=n:=by
 unfold look;cases h:J5 r n with
 | none=>rfl
 | some c=>exact Qt h
theorem UB.ask {r:Row} (s:UB r) (n:Int):UB (ZdZ r n):=by
 unfold ZdZ;cases J5 r n
 ·exact s.put
 ·exact s
theorem ZxK {r:Row} (s:UB r) (n k:Int):J5 (ZdZ r n) k=if k=n then some (look r n) else J5 r k:=by
 unfold ZdZ look;cases h:J5 r n with
 | none=>
   dsimp only;rw [Wh _ s];rfl
 | some c=>
   dsimp only;by_cases hk:k=n
   ·rw [if_pos hk,hk,h];rfl
   ·rw [if_neg hk]
theorem ZwU {r:Row} (s:UB r) {n:Int} {c:Zb} (hc:c.name=n):put c (ZdZ r n)=put c r:=by
 refine UB.ext (s.ask n).put s.put fun k=>?_
 rw [Wh _ (s.ask n),Wh _ s,ZxK s];by_cases hk:k=c.name
 ·rw [if_pos hk,if_pos hk]
 ·rw [if_neg hk,if_neg hk,if_neg (by omega)]
theorem ZwT {r:Row} (s:UB r) {c d:Zb} (h:c.name=d.name):put c (put d r)=put c r:=by
 refine UB.ext s.put.put s.put fun k=>?_
 rw [Wh _ s.put,Wh _ s,Wh _ s];by_cases hk:k=c.name
 ·rw [if_pos hk,if_pos hk]
 ·rw [if_neg hk,if_neg hk,if_neg (by omega)]
theorem ZqV {r:Row} (s:UB r) {n:Int} {k:Nat} {c x:Zb} (hk:(ZdZ r n)[k]? =some x) (hx:x.name=n) (hc:c.name=n):(ZdZ r n).set k c=put c r:=by
 rw [Zei (s.ask n) hk (by omega),ZwU s hc]
theorem Jj {w:Za} {m:Nat} (hm:m < w.cells.length) (r:Row):rowOf (cw w m r) m=r:=by
 unfold rowOf cw;simp [hm]
theorem Zlb {w:Za} {m:Nat} (hm:m < w.cells.length) (r:Row):(cw w m r).cells[m]? =some r:=by
 unfold cw;simp [hm]
theorem Zfm (w:Za) (m:Nat) (r q:Row):(cw w m r).cells.set m q=w.cells.set m q:=by
 unfold cw;simp
theorem Zej {c:Zb} (r:Row):(put c r).length <=r.length + 1:=by
 induction r with
 | nil=>simp [put]
 | cons d r ih=>
   unfold put;split
   ·simp;omega
   ·split
    ·simp
    ·simp
def sent (w:Za) (x:Zf):Za:= ⟨w.cells,w.notes ++ [x],w.names,w.freed⟩
def QR (w:Za) (m:Nat) (n ZH x:Int):Za:=
 bif ZH != (m:Int) then sent w ⟨2,ZH,n,0,x⟩ else cw w m (put {look (rowOf w m) n with out:=ZQ ((look (rowOf w m) n).out - x)} (rowOf w m))
theorem back_eq {F:Nat} (hF:1000 <=F) {w:Za} (sm:Small w) {m:Nat} (hm:m < w.cells.length) (n:Int) (Xo:UB (rowOf w m)) (ZH x:Int):ZiK F w m n ZH x=some (QR w m n ZH x):=by
 have hno:=sm.notes;unfold ZiK QR;cases ht:(ZH != (m:Int))
 ·rw [cond_false,cond_false];obtain⟨k,h1,h2⟩:=ZvS hF sm hm n Xo;rw [h1,Option.bind_some];dsimp only;rw [ZB,Zlb hm,Option.bind_some,Option.bind_some,ZB,h2,Option.bind_some,Option.bind_some];simp only [YH,Int.toNat_natCast];rw [Zfm,ZqV Xo h2 (WJ _ _) (by exact WJ _ _)]
  rfl
 ·rw [cond_true,cond_true,YL (by simp;omega) (by decide)]
  rfl
theorem Small.cw {w:Za} (s:Small w) {m:Nat} {r:Row} (h:r.length < 1000):Small (cw w m r):=by
 refine⟨by show(w.cells.set m r).length < 1000;simp;exact s.cells,fun q hq=>?_,s.notes,s.freed⟩;have hq:q ∈ w.cells.set m r:=hq;rcases List.mem_or_eq_of_mem_set hq with z | z
 ·exact s.rows q z
 ·rw [z];exact h
def Uc (w:Za) (x:Zf):Za:=
 let m:=x.ZH.toNat
 let r:=rowOf w m
 let c:=look r x.name
 let a:=cw w m
 bif x.kind==1 then
  bif(!c.root && (c.from_==-1)) && (x.via !=x.ZH) then a (put ⟨c.name,c.root,x.via,x.w,c.out,true⟩ r)
  else bif(!c.root && decide (c.from_ >=0)) && (c.from_==x.via) then a (put ⟨c.name,c.root,c.from_,ZQ (c.has + x.w),c.out,true⟩ r)
  else QR (a (put ⟨c.name,c.root,c.from_,c.has,c.out,true⟩ r)) m x.name x.via x.w
 else bif x.kind==2 then
  let d:Zb:= ⟨c.name,c.root,c.from_,c.has,ZQ (c.out - x.w),c.use⟩
  Qj (a (put d r)) m x.name d
 else
  let d:Zb:= ⟨c.name,true,-1,0,ZQ (c.out + 16),c.use⟩
  let b:=a (put d r)
  let e:=bif decide (c.from_ >=0) then QR b m x.name c.from_ c.has else b
  Qj e m x.name (look (rowOf e m) x.name)
end Go.Proofs.Ytekpjgmhkkjhgaa
end
section
namespace Go.Proofs.Ytekpjgmhkkjhgaa
open Go.Lf
theorem Yu {w:Za} {m:Nat} {r:Row}:(cw w m r).cells.length=w.cells.length:=by unfold cw;simp
theorem ZGA (w:Za) (m:Nat) (r q:Row):cw (cw w m r) m q=cw w m q:=by unfold cw;simp
theorem Zc9 {w:Za} {m:Nat} (hm:m < w.cells.length) (n ZH x:Int):rowOf (QR w m n ZH x) m=rowOf w m∨rowOf (QR w m n ZH x) m=put {look (rowOf w m) n with out:=ZQ ((look (rowOf w m) n).out - x)} (rowOf w m):=by
 unfold QR;cases (ZH != (m:Int))
 ·right;rw [cond_false,Jj hm]
 ·left;rfl
theorem ZrZ {w:Za} {m:Nat} (n ZH x:Int):(QR w m n ZH x).cells.length=w.cells.length:=by
 unfold QR;cases (ZH != (m:Int))
 ·rw [cond_false,Yu]
 ·rfl
theorem ZnP {w:Za} {m:Nat} (s:Small w) (hr:(rowOf w m).length < 990) (hn:w.notes.length < 990) (n ZH x:Int):Small (QR w m n ZH x):=by
 unfold QR;cases (ZH != (m:Int))
 ·rw [cond_false];exact s.cw (by have:=Zej (c:= {look (rowOf w m) n with out:=ZQ ((look (rowOf w m) n).out - x)}) (rowOf w m);omega)
 ·exact⟨s.cells,s.rows,by show(w.notes ++ [_]).length < 1000;simp;omega,s.freed⟩
section
variable {F:Nat} {w:Za} {m:Nat} {n:Int}
theorem ZdV (hm:m < w.cells.length) (Xo:UB (rowOf w m)) {d:Zb} (hd:d.name=n):J5 (rowOf (cw w m (put d (rowOf w m))) m) n=some d:=by
 rw [Jj hm,Wh _ Xo,if_pos hd.symm]
theorem Jv {r:Row} {d:Zb} (h:J5 r n=some d):look r n=d:=by unfold look;rw [h];rfl
theorem Zoj (hF:1000 <=F) (sm:Small w) (hm:m < w.cells.length) (Xo:UB (rowOf w m)) {d:Zb} (hd:J5 (rowOf w m) n=some d):ZeP F w m n=some (Qj w m n (look (rowOf w m) n)):=by
 rw [Jv hd];exact Zq9 hF sm hm Xo hd
structure At1 (w:Za) (m:Nat) (n:Int):Prop where
 sm:Small w
 hm:m < w.cells.length
 Xo:UB (rowOf w m)
 rl:(rowOf w m).length < 950
 nl:w.notes.length < 950
 has:∃ d,J5 (rowOf w m) n=some d
theorem At1.settle (hF:1000 <=F) (a:At1 w m n):ZeP F w m n=some (Qj w m n (look (rowOf w m) n)):=let⟨_,hd⟩:=a.has;Zoj hF a.sm a.hm a.Xo hd
theorem At1.put (sm:Small w) (hm:m < w.cells.length) (Xo:UB (rowOf w m)) (hr:(rowOf w m).length < 940) (hn:w.notes.length < 940) {d:Zb} (hd:d.name=n):At1 (cw w m (put d (rowOf w m))) m n:=by
 have hl:=Zej (c:=d) (rowOf w m);exact⟨sm.cw (by omega),by rw [Yu];exact hm,by rw [Jj hm];exact Xo.put,by rw [Jj hm];omega,by show w.notes.length < 950;omega,d,ZdV hm Xo hd⟩
theorem At1.back (hF:1000 <=F) (a:At1 w m n) (ZH x:Int):ZiK F w m n ZH x=some (QR w m n ZH x):=back_eq hF a.sm a.hm n a.Xo ZH x
theorem ZnO (sm:Small w) (hm:m < w.cells.length) (Xo:UB (rowOf w m)) (hr:(rowOf w m).length < 945) (hn:w.notes.length < 945) (ZH x:Int) (hd:∃ d,J5 (rowOf w m) n=some d):At1 (QR w m n ZH x) m n:=by
 refine⟨ZnP sm (by omega) (by omega) n ZH x,by rw [ZrZ];exact hm,?_,?_,?_,?_⟩
 ·rcases Zc9 hm n ZH x with h | h <;> rw [h]
  ·exact Xo
  ·exact Xo.put
 ·have hl:=Zej (c:= {look (rowOf w m) n with out:=ZQ ((look (rowOf w m) n).out - x)}) (rowOf w m);rcases Zc9 hm n ZH x with h | h <;> rw [h] <;> omega
 ·unfold QR;cases (ZH != (m:Int))
  ·rw [cond_false];show w.notes.length < 950;omega
  ·rw [cond_true];show(w.notes ++ [_]).length < 950;simp;omega
 ·rcases Zc9 hm n ZH x with h | h <;> rw [h]
  ·exact hd
  ·exact⟨_,by rw [Wh _ Xo,if_pos (by exact(WJ _ _).symm)]⟩
end
theorem ZvL {F:Nat} (hF:1000 <=F) {w:Za} (sm:Small w) {m:Nat} (hm:m < w.cells.length) (hrl:(rowOf w m).length < 900) (hnl:w.notes.length < 900) (x:Zf) (hto:x.ZH= (m:Int)) (Xo:UB (rowOf w m)):ZiM F w x=some (Uc w x):=by
 obtain⟨k,h1,h2⟩:=ZvS hF sm hm x.name Xo;have hln:=WJ (rowOf w m) x.name;have hcell:∀ c:Zb,c.name=x.name ->(ZdZ (rowOf w m) x.name).set k c=put c (rowOf w m):=fun c hc=>ZqV Xo h2 hln hc
 have hat:∀ {d:Zb},d.name=x.name ->At1 (cw w m (put d (rowOf w m))) m x.name:=fun hd=>At1.put sm hm Xo (by omega) (by omega) hd
 unfold ZiM Uc;rw [hto,h1];simp only [Option.bind_some,ZB,Zlb hm,h2,Int.toNat_natCast];obtain⟨c,hcc⟩:∃ c,look (rowOf w m) x.name=c:= ⟨_,rfl⟩
 rw [hcc] at h2 hln;simp only [hcc];cases hk1:(x.kind==1)
 ·simp only [cond_false];cases hk2:(x.kind==2)
  ·simp only [cond_false,YH,Int.toNat_natCast,Zfm];rw [hcell _ (by exact hln)];have ha:=hat (d:= ⟨c.name,true,-1,0,ZQ (c.out + 16),c.use⟩) hln;cases hf:decide (c.from_ >=0)
   ·simp only [cond_false];unfold Zc2;rw [hto];exact(congrArg (fun o=>Option.bind o fun ZbT=>some ZbT) (ha.settle hF)).trans rfl
   ·simp only [cond_true];have hb:=ha.back hF c.from_ c.has;have hbh:=ZnO ha.sm ha.hm ha.Xo (by have:=Zej (c:= (⟨c.name,true,-1,0,ZQ (c.out + 16),c.use⟩:Zb)) (rowOf w m);rw [Jj hm];omega) (by show w.notes.length < 945;omega) c.from_ c.has ha.has;refine(congrArg (fun o=>Option.bind o _) hb).trans ?_;rw [Option.bind_some];unfold Zc2;rw [hto];exact(congrArg (fun o=>Option.bind o fun ZbT=>some ZbT) (hbh.settle hF)).trans rfl
  ·simp only [cond_true,YH,Int.toNat_natCast,Zfm];rw [hcell _ (by exact hln)];have ha:=hat (d:= ⟨c.name,c.root,c.from_,c.has,ZQ (c.out - x.w),c.use⟩) hln;refine(congrArg (fun o=>Option.bind o fun ZbT=>some ZbT) (ha.settle hF)).trans ?_;rw [Option.bind_some];have hd:(⟨c.name,c.root,c.from_,c.has,ZQ (c.out - x.w),c.use⟩:Zb).name=x.name:=hln;rw [Jv (ZdV hm Xo hd)]
 ·simp only [cond_true];cases hc1:((!c.root && (c.from_==-1)) && (x.via != (m:Int)))
  ·simp only [cond_false];cases hc2:((!c.root && decide (c.from_ >=0)) && (c.from_==x.via))
   ·simp only [cond_false,YH,Int.toNat_natCast,Zfm];rw [hcell _ (by exact hln)];have ha:=hat (d:= ⟨c.name,c.root,c.from_,c.has,c.out,true⟩) hln;exact(congrArg (fun o=>Option.bind o fun ZbT=>some ZbT) (ha.back hF x.via x.w)).trans rfl
   ·simp only [cond_true];unfold Zc3;rw [hto];simp only [Option.bind_some,ZB,Zlb hm,h2,YH,Int.toNat_natCast,Zfm];rw [hcell _ (by exact hln)]
    rfl
  ·simp only [cond_true];unfold Zc3;rw [hto];simp only [Option.bind_some,ZB,Zlb hm,h2,YH,Int.toNat_natCast,Zfm];rw [hcell _ (by exact hln)]
   rfl
end Go.Proofs.Ytekpjgmhkkjhgaa
end
section
namespace Go.Proofs.Ytekpjgmhkkjhgaa
open Go.Lf
section
variable {w:Za} {st:Store} {m:Nat} {n:Int}
theorem Qg (w:Za) (a:Nat) (b:Int):cellOf w a b=J5 (rowOf w a) b:=rfl
theorem Qm.get (s:Qm w st) (hm:m < w.cells.length):XD st.cells ⟨m,n⟩=J5 (rowOf w m) n:=by
 rw [s.cells,if_pos (by omega),Int.toNat_natCast,Qg]
theorem Ze4 (s:Qm w st) (hm:m < w.cells.length):ZgK st m n=some (look (rowOf w m) n):=by
 unfold ZgK Zan;rw [s.get hm];cases h:J5 (rowOf w m) n with
 | none=>
   rw [show look (rowOf w m) n=blank n by unfold look;rw [h];rfl]
   rfl
 | some c=>
   rw [Jv h]
   rfl
theorem Kg {a:Nat} (h:a ≠ m) (r:Row):rowOf (cw w m r) a=rowOf w a:=by
 unfold rowOf cw;simp only;rw [List.getElem?_set_ne (fun z=>h z.symm)]
theorem MapOf.put {l:List (Zg×Zb)} (s:MapOf w l) (hm:m < w.cells.length) (Xo:UB (rowOf w m)) {c:Zb} (hc:c.name=n):MapOf (cw w m (put c (rowOf w m))) (Xh l ⟨m,n⟩ c):=by
 intro a b;rw [ZfB,Yu,s a b];by_cases ha:0 <=a∧a < (w.cells.length:Int)
 ·rw [if_pos ha,if_pos ha,Qg,Qg];by_cases he:a= (m:Int)
  ·subst he;rw [Int.toNat_natCast,Jj hm,Wh _ Xo];by_cases hb:b=n
   ·subst hb;rw [if_pos rfl,if_pos hc.symm]
   ·rw [if_neg (fun z=>hb (by injection z)),if_neg (fun z=>hb (z.trans hc))]
  ·rw [if_neg (fun z=>he (by injection z)),Kg (by omega)]
 ·rw [if_neg ha,if_neg ha,if_neg (fun z=>ha (by injection z with z1 _;rw [z1];omega))]
theorem Qm.put (s:Qm w st) (hm:m < w.cells.length) (Xo:UB (rowOf w m)) {c:Zb} (hc:c.name=n):Qm (cw w m (Go.Proofs.Ytekpjgmhkkjhgaa.put c (rowOf w m))) ⟨st.machines,st.names,Xh st.cells ⟨m,n⟩ c,st.notes,st.freed⟩:=
 ⟨by rw [Yu];exact s.m,s.n,s.notes,s.freed,s.cells.put hm Xo hc⟩
theorem Qm.sent (s:Qm w st) (hn:w.notes.length < 1000) (x:Zf):∃ st',Zat st x=some st'∧Qm (sent w x) st':=by
 unfold Zat;rw [s.notes,YL (by simp;omega) (by decide)];exact⟨_,rfl,s.m,s.n,rfl,s.freed,s.cells⟩
theorem ZrX (s:Qm w st) (hm:m < w.cells.length) (Xo:UB (rowOf w m)) (hn:w.notes.length < 1000) (ZH x:Int):∃ st',ZgJ st m n ZH x=some st'∧Qm (QR w m n ZH x) st':=by
 unfold ZgJ QR;cases (ZH != (m:Int))
 ·simp only [cond_false];rw [Ze4 s hm,Option.bind_some];exact⟨_,rfl,s.put hm Xo (by exact WJ _ _)⟩
 ·simp only [cond_true];obtain⟨st',h1,h2⟩:=s.sent hn ⟨2,ZH,n,0,x⟩;rw [h1];exact⟨st',rfl,h2⟩
end
end Go.Proofs.Ytekpjgmhkkjhgaa
end
section
namespace Go.Proofs.Ytekpjgmhkkjhgaa
open Go.Lf
section
variable {κ ν:Type} [DecidableEq κ]
def UK (l:List (κ×ν)):Prop:= (l.map (·.1)).Nodup
theorem UK.nil:UK ([]:List (κ×ν)):=List.nodup_nil
theorem UK.Xh {l:List (κ×ν)} (u:UK l) (k:κ) (x:ν):UK (Xh l k x):=by
 unfold Go.Lf.Xh;cases e:Yc l k with
 | some q=>
   unfold UK at u ⊢
   have:(l.modify q.1 fun p=>(p.1,x)).map (·.1)=l.map (·.1):=by
    apply List.ext_getElem?;intro i;rw [List.getElem?_map,List.getElem?_map,List.getElem?_modify];cases l[i]? with
    | none=>rfl
    | some p=>simp only [Option.map_some];split <;> rfl
   dsimp only;rw [this];exact u
 | none=>
   unfold UK at u ⊢;dsimp only;rw [List.map_append,List.nodup_append];refine⟨u,by simp,fun a ha b hb=>?_⟩;simp at hb;subst hb;obtain⟨p,hp,rfl⟩:=List.mem_map.1 ha;exact Zbr.1 e p hp
theorem UK.ZaT {l:List (κ×ν)} (u:UK l) (k:κ):UK (ZaT l k):=by
 unfold Go.Lf.ZaT;cases e:Yc l k with
 | some q=>
   unfold UK at u ⊢;dsimp only;exact u.sublist ((List.eraseIdx_sublist l q.1).map _)
 | none=>exact u
theorem K4 (p:κ×ν) (l:List (κ×ν)) (k:κ):Yc (p::l) k=if p.1=k then some (0,p.2) else(Yc l k).map fun q=>(q.1 + 1,q.2):=rfl
theorem ZjV:∀ {l:List (κ×ν)},UK l ->∀ k k':κ,XD (ZaT l k) k'=if k'=k then none else XD l k'
 | [],_,k,k'=>by simp [ZaT,XD,Yc]
 | p::l,u,k,k'=>by
   have u':p.1 ∉ l.map (·.1)∧UK l:=List.nodup_cons.1 u;have ih:=ZjV u'.2 k k';unfold ZaT XD at ih ⊢;rw [K4 p l k,K4 p l k'];have hmm:∀ o:Option (Nat×ν),Option.map (·.2) (Option.map (fun q=>(q.1 + 1,q.2)) o)=Option.map (·.2) o:=fun o=>by cases o <;> rfl
   by_cases hp:p.1=k
   ·rw [if_pos hp];show Option.map _ (Yc ((p::l).eraseIdx 0) k')=_;rw [List.eraseIdx_cons_zero];by_cases hk:k'=k
    ·rw [if_pos hk,hk];have:Yc l k=none:=Zbr.2 fun q hq e=>u'.1 (List.mem_map.2 ⟨q,hq,e.trans hp.symm⟩)
     rw [this];rfl
    ·rw [if_neg hk,if_neg (fun z=>hk (z.symm.trans hp)),hmm]
   ·rw [if_neg hp];cases e:Yc l k with
    | none=>
      rw [e] at ih;dsimp only [Option.map_none] at ih ⊢;rw [K4];by_cases hk:k'=k
      ·rw [if_pos hk] at ih ⊢;rw [if_neg (fun z=>hp (z.trans hk)),hmm];exact ih
      ·rw [if_neg hk]
    | some q=>
      rw [e] at ih;dsimp only [Option.map_some] at ih ⊢;rw [List.eraseIdx_cons_succ,K4];by_cases h3:p.1=k'
      ·rw [if_pos h3,if_neg (fun z=>hp (h3.trans z)),if_pos h3]
      ·rw [if_neg h3,if_neg h3,hmm,hmm];exact ih
end
theorem MapOf.rmv {w:Za} {m:Nat} {n:Int} {l:List (Zg×Zb)} (s:MapOf w l) (u:UK l) (hm:m < w.cells.length):MapOf (cw w m (rmv n (rowOf w m))) (ZaT l ⟨m,n⟩):=by
 intro a b;rw [ZjV u,Yu,s a b];by_cases ha:0 <=a∧a < (w.cells.length:Int)
 ·rw [if_pos ha,if_pos ha,Qg,Qg];by_cases he:a= (m:Int)
  ·subst he;rw [Int.toNat_natCast,Jj hm,Zqu];by_cases hb:b=n
   ·subst hb;rw [if_pos rfl,if_pos rfl]
   ·rw [if_neg (fun z=>hb (by injection z)),if_neg hb]
  ·rw [if_neg (fun z=>he (by injection z)),Kg (by omega)]
 ·rw [if_neg ha,if_neg ha];split <;> rfl
end Go.Proofs.Ytekpjgmhkkjhgaa
end
section
namespace Go.Proofs.Ytekpjgmhkkjhgaa
open Go.Lf
def Asc (l:List Int):Prop:=l.Pairwise (· <=·)
theorem Zw4 (a b:Int):ZgH a b=some (decide (a < b)):=by
 unfold ZgH Zkh;simp [gd]
theorem Zh1 {x:Int}:∀ {l:List Int},(∀ y ∈ l,y <=x) ->Ja x l=l ++ [x]
 | [],_=>rfl
 | y::l,h=>by
   have:=h y (by simp);rw [Ja,if_neg (by omega),Zh1 (fun z hz=>h z (by simp [hz]))];rfl
theorem ZjZ {x y:Int} (h:x < y):∀ {l:List Int},Ja x (l ++ [y])=Ja x l ++ [y]
 | []=>by
   have h':y > x:=h;show(if y > x then x::y:: [] else y::Ja x [])=_;rw [if_pos h'];rfl
 | z::l=>by
   rw [List.cons_append,Ja,Ja];by_cases hz:z > x
   ·rw [if_pos hz,if_pos hz];rfl
   ·rw [if_neg hz,if_neg hz,ZjZ h];rfl
theorem Zer {x z:Int}:∀ {l:List Int},z ∈ Ja x l ->z=x∨z ∈ l
 | [],h=>by simp [Ja] at h;exact .inl h
 | y::l,h=>by
   rw [Ja] at h;split at h
   ·rcases List.mem_cons.1 h with h | h
    ·exact .inl h
    ·exact .inr h
   ·rcases List.mem_cons.1 h with h | h
    ·exact .inr (by simp [h])
    ·exact(Zer h).imp id fun q=>by simp [q]
theorem Asc.Ja {x:Int}:∀ {l:List Int},Asc l ->Asc (Ja x l)
 | [],_=>List.pairwise_singleton _ _
 | y::l,s=>by
   have s':=List.pairwise_cons.1 s;unfold Go.Proofs.Ytekpjgmhkkjhgaa.Ja;by_cases h:y > x
   ·rw [if_pos h];refine List.pairwise_cons.2 ⟨fun z hz=>?_,s⟩;rcases List.mem_cons.1 hz with rfl | hz
    ·omega
    ·have:=s'.1 z hz;omega
   ·rw [if_neg h];refine List.pairwise_cons.2 ⟨fun z hz=>?_,Asc.Ja s'.2⟩;rcases Zer hz with rfl | hz
    ·omega
    ·exact s'.1 z hz
theorem Zh0 (x:Int):∀ l:List Int,(Ja x l).length=l.length + 1
 | []=>rfl
 | y::l=>by
   rw [Ja];split
   ·rfl
   ·simp [Zh0 x l]
theorem Zqt {α:Type} (p s:List α) (x:α):(p ++ x::s)[p.length]? =some x:=by simp
theorem Zoy (i:Int) (next:Int×List Int ->Option (List Int)):∀ (k:Nat) (pre suf:List Int) (x:Int) (F:Nat),pre.length=k ->k < F ->k < 100000 ->Asc pre ->loop F (Zhi 0 i next) ((k:Int),pre ++ x::suf)=next (ZQ (i + 1),Ja x pre ++ suf):=by
 intro k
 induction k with
 | zero=>
   intro pre suf x F hp hF _ _;obtain⟨F,rfl⟩:=Nat.exists_eq_succ_of_ne_zero (n:=F) (by omega);have:pre= []:=List.eq_nil_of_length_eq_zero hp;subst this;rw [Y9]
   rfl
 | succ k ih=>
   intro pre suf x F hp hF hk hs;obtain⟨F,rfl⟩:=Nat.exists_eq_succ_of_ne_zero (n:=F) (by omega)
   obtain⟨p,y,rfl⟩:∃ p y,pre=p ++ [y]:=by
    refine⟨pre.dropLast,pre.getLast (by intro z;rw [z] at hp;simp at hp),?_⟩;exact(List.dropLast_concat_getLast _).symm
   have hpl:p.length=k:=by simpa using hp
   have hs':=List.pairwise_append.1 hs;rw [Y9];have e0:(p ++ [y]) ++ x::suf=p ++ y::x::suf:=by simp
   rw [e0]
   have g1:ZL (p ++ y::x::suf) ((k + 1:Nat):Int)=some x:=by
    rw [ZB,← hpl];rw [List.getElem?_append_right (by omega)];simp
   have g2:ZL (p ++ y::x::suf) (k:Int)=some y:=by rw [ZB,← hpl];exact Zqt _ _ _
   have ew:ZQ (((k + 1:Nat):Int) - 1)= (k:Int):=by rw [Zma (by omega) (by omega)];rfl
   have hgt:decide (((k + 1:Nat):Int) > 0)=true:=decide_eq_true (by omega);simp only [Zhi,hgt,gd,cond_true,g1,g2,ew,Option.bind_some,Zw4,Bool.true_and];cases hlt:decide (x < y)
   ·rw [cond_false];have hle:y <=x:=by simpa using hlt
    rw [Zh1 (fun z hz=>by
     rcases List.mem_append.1 hz with hz | hz
     ·have:=hs'.2.2 z hz y (by simp);omega
     ·simp at hz;omega)]
    simp
   ·rw [cond_true];have hxy:x < y:=by simpa using hlt
    have s1:YH (p ++ y::x::suf) ((k + 1:Nat):Int) y=p ++ y::y::suf:=by
     unfold YH;rw [Int.toNat_natCast,← hpl,List.set_append_right _ _ (by omega)];simp
    have g3:ZL (p ++ y::y::suf) (k:Int)=some y:=by rw [ZB,← hpl];exact Zqt _ _ _
    have s2:YH (p ++ y::y::suf) (k:Int) x=p ++ x::y::suf:=by
     unfold YH;rw [Int.toNat_natCast,← hpl,List.set_append_right _ _ (by omega)];simp
    rw [s1,g3,Option.bind_some,s2,ih p (y::suf) x F hpl (by omega) (by omega) hs'.1,ZjZ hxy];simp
theorem ZhL {F:Nat} (hF:100 <=F):∀ (d:Nat) (S rest:List Int) (n F':Nat),rest.length=d ->S.length + d=n ->n <=90 ->d < F' ->Asc S ->loop F' (ZcZ F 0 n) ((S.length:Int),S ++ rest)=some (rest.foldl (fun S x=>Ja x S) S):=by
 intro d
 induction d with
 | zero=>
   intro S rest n F' hr hn hn9 hF' hs;obtain⟨F',rfl⟩:=Nat.exists_eq_succ_of_ne_zero (n:=F') (by omega);have:rest= []:=List.eq_nil_of_length_eq_zero hr;subst this;rw [Y9];simp only [ZcZ];rw [decide_eq_false (by omega),cond_false];simp
 | succ d ih=>
   intro S rest n F' hr hn hn9 hF' hs;obtain⟨F',rfl⟩:=Nat.exists_eq_succ_of_ne_zero (n:=F') (by omega)
   match rest,hr with
   | x::r,hr=>
     rw [Y9];simp only [ZcZ];rw [decide_eq_true (by omega),cond_true,Zoy _ _ S.length S r x F rfl (by omega) (by omega) hs,JC (by omega),List.foldl_cons];have:=ih (Ja x S) r n F' (by simpa using hr) (by rw [Zh0];omega) hn9 (by omega) hs.Ja;rw [Zh0] at this;exact this
theorem Zm8:∀ (l S:List Int),Asc (S ++ l) ->l.foldl (fun S x=>Ja x S) S=S ++ l
 | [],S,_=>by simp
 | x::l,S,h=>by
   rw [List.foldl_cons,Zh1 (fun y hy=>(List.pairwise_append.1 h).2.2 y hy x (by simp)),Zm8 l _ (by simpa using h)];simp
theorem ZwG {F:Nat} (hF:100 <=F) {l:List Int} (hl:l.length <=11) (hs:Asc l) (n:Int):Znf F (l ++ [n])=some (Ja n l):=by
 have hlen:(l ++ [n]).length=l.length + 1:=by simp
 unfold Znf Zvr
 have e1:∃ q,Qf (IntKind.wrap .u64 ((l ++ [n]).length:Int))=some q:=by
  rw [hlen];have hw:∀ k:Nat,k <=12 ->IntKind.wrap .u64 (k:Int)= (k:Int):=by decide
  have:=hw (l.length + 1) (by omega);rw [this];unfold Qf;rw [decide_eq_true (by omega),decide_eq_true (by omega)];exact⟨_,rfl⟩
 obtain⟨q,e1⟩:=e1;rw [e1,Option.bind_some];unfold ZqE;obtain⟨F',rfl⟩:=Nat.exists_eq_succ_of_ne_zero (n:=F) (by omega);rw [Y9];simp only [Zlp];have ew:ZQ (((l ++ [n]).length:Int) - 0)= ((l.length + 1:Nat):Int):=by rw [hlen];exact Q5 (by omega) (by omega)
 rw [ew,decide_eq_true (by omega),cond_true];unfold ZqD;have e2:ZQ ((0:Int) + 1)=1:=by rw [show(0:Int) + 1=1 from rfl];exact Q5 (by omega) (by omega)
 rw [e2]
 have key:loop (F' + 1) (ZcZ (F' + 1) 0 ((l ++ [n]).length:Int)) (1,l ++ [n])=some (Ja n l):=by
  match l,hl,hs,hlen with
  | [],_,_,_=>exact ZhL (F:=F' + 1) hF 0 [n] [] 1 (F' + 1) rfl rfl (by omega) (by omega) (List.pairwise_singleton _ _)
  | x::r,hl,hs,hlen=>
    have:=ZhL (F:=F' + 1) hF (r.length + 1) [x] (r ++ [n]) ((x::r ++ [n]).length) (F' + 1) (by simp) (by simp;omega) (by simp at hl ⊢;omega) (by simp at hl;omega) (List.pairwise_singleton _ _);rw [List.foldl_append,Zm8 r [x] hs] at this;exact this
 rw [key];rfl
end Go.Proofs.Ytekpjgmhkkjhgaa
end
section
namespace Go.Proofs.Ytekpjgmhkkjhgaa
open Go.Lf
def CI (c:Zb):Prop:= (c.from_ >=0∧c.root=false)∨(c.from_=-1∧c.has=0)
theorem Zvu {c:Zb} {n:Int} (hn:c.name=n) (hu:c.use=false) (ho:c.out=0) (hr:c.root=false) (hi:CI c):JO c (blank n)= !decide (c.from_ >=0):=by
 unfold JO blank;rcases hi with⟨h,_⟩ | ⟨h1,h2⟩
 ·rw [decide_eq_true h];have:(c.from_==-1)=false:=by simp;omega
  simp [this]
 ·rw [decide_eq_false (by omega)];simp [hn,hu,ho,hr,h1,h2]
theorem Zal {F:Nat} (hF:100 <=F) {w:Za} {st:Store} {m:Nat} {n:Int} (s:Qm w st) (u:UK st.cells) (hm:m < w.cells.length) (hnl:w.notes.length < 1000) {c:Zb} (hc:J5 (rowOf w m) n=some c) (hi:CI c) (ha:Asc w.freed) (hf:w.freed.length <=11):
 ∃ st',ZgI F st m n=some st'∧Qm (Qj w m n c) st'∧UK st'.cells:=by
 have hcn:=Qt hc;unfold ZgI Qj;rw [Ze4 s hm,Jv hc,Option.bind_some];cases hu:(c.use || (c.out !=0))
 ·simp only [cond_false]
  have hu1:c.use=false:=by
   cases h:c.use
   ·rfl
   ·rw [h] at hu;cases hu
  have hu2:c.out=0:=by
   rw [hu1,Bool.false_or] at hu
   simpa using hu
  have hmap:MapOf (cw w m (rmv n (rowOf w m))) (ZaT st.cells ⟨m,n⟩):=s.cells.rmv u hm;cases hr:c.root
  ·simp only [cond_false];unfold Zng;rw [Option.bind_some];have he:=Zvu hcn hu1 hu2 hr hi;unfold blank at he;rw [he];cases hfr:decide (c.from_ >=0)
   ·refine⟨_,rfl,⟨by show st.machines=_;rw [s.m];simp,s.n,s.notes,s.freed,hmap⟩,u.ZaT _⟩
   ·simp only [Bool.not_true,Bool.not_false,cond_true];unfold Zat;dsimp only;rw [s.notes,YL (by simp;omega) (by decide)];refine⟨_,rfl,⟨by show st.machines=_;rw [s.m];simp,s.n,rfl,s.freed,hmap⟩,u.ZaT _⟩
  ·simp only [cond_true];rw [s.freed,YL (by simp;omega) (by decide),Option.bind_some,ZwG hF hf ha,Option.bind_some];refine⟨_,rfl,⟨by show st.machines=_;rw [s.m];simp,s.n,s.notes,rfl,hmap⟩,u.ZaT _⟩
 ·simp only [cond_true];exact⟨st,rfl,s,u⟩
end Go.Proofs.Ytekpjgmhkkjhgaa
end
section
namespace Go.Proofs.Ytekpjgmhkkjhgaa
open Go.Lf
theorem CI.blank (n:Int):CI (blank n):= .inr ⟨rfl,rfl⟩
theorem ZqU {F:Nat} {w:Za} {st:Store} {m:Nat} {n:Int} (s:Qm w st) (u:UK st.cells) (hm:m < w.cells.length) (Xo:UB (rowOf w m)) (hn:w.notes.length < 1000) (ZH x:Int):∃ st',ZgJ st m n ZH x=some st'∧Qm (QR w m n ZH x) st'∧UK st'.cells:=by
 obtain⟨st',h1,h2⟩:=ZrX s hm Xo hn ZH x (n:=n);refine⟨st',h1,h2,?_⟩;unfold ZgJ Zat at h1;cases ht:(ZH != (m:Int))
 ·rw [ht,cond_false,Ze4 s hm,Option.bind_some] at h1;cases h1;exact u.Xh _ _
 ·rw [ht,cond_true,s.notes,YL (by simp;omega) (by decide)] at h1;cases h1;exact u
theorem ZrY {w:Za} {m:Nat} {n:Int} (hm:m < w.cells.length) (Xo:UB (rowOf w m)) (ZH x:Int) (hi:CI (look (rowOf w m) n)):CI (look (rowOf (QR w m n ZH x) m) n):=by
 rcases Zc9 hm n ZH x with h | h <;> rw [h]
 ·exact hi
 ·rw [Jv (by rw [Wh _ Xo,if_pos (by exact(WJ _ _).symm)])];exact hi
theorem Zpw {F:Nat} (hF:100 <=F) {w:Za} {st:Store} (s:Qm w st) (u:UK st.cells) (sm:Small w) {m:Nat} (hm:m < w.cells.length) (hrl:(rowOf w m).length < 900) (hnl:w.notes.length < 900) (x:Zf) (hto:x.ZH= (m:Int)) (Xo:UB (rowOf w m)) (hi:CI (look (rowOf w m) x.name)) (ha:Asc w.freed) (hf:w.freed.length <=11):
 ∃ st',Zvb F st x=some st'∧Qm (Uc w x) st'∧UK st'.cells:=by
 have hln:=WJ (rowOf w m) x.name;have hat:∀ {d:Zb},d.name=x.name ->At1 (cw w m (put d (rowOf w m))) m x.name:=fun hd=>At1.put sm hm Xo (by omega) (by omega) hd
 have hst:∀ {d:Zb},d.name=x.name ->Qm (cw w m (put d (rowOf w m))) ⟨st.machines,st.names,Xh st.cells ⟨m,x.name⟩ d,st.notes,st.freed⟩:=fun hd=>s.put hm Xo hd
 unfold Zvb Uc;rw [hto,Ze4 s hm];simp only [Option.bind_some,Int.toNat_natCast];obtain⟨c,hcc⟩:∃ c,look (rowOf w m) x.name=c:= ⟨_,rfl⟩
 rw [hcc] at hln hi;simp only [hcc]
 have hlt:decide (c.from_ < 0)= (c.from_==-1):=by
  rcases hi with⟨h,_⟩ | ⟨h,_⟩
  ·rw [decide_eq_false (by omega)];symm;simp;omega
  ·rw [decide_eq_true (by omega),h];rfl
 have hge:(decide (c.from_ >=0) && (c.from_==x.via))= ((!c.root && decide (c.from_ >=0)) && (c.from_==x.via)):=by
  rcases hi with⟨h,h2⟩ | ⟨h,_⟩
  ·rw [h2];simp
  ·rw [decide_eq_false (by omega)];simp
 cases hk1:(x.kind==1)
 ·simp only [cond_false];cases hk2:(x.kind==2)
  ·simp only [cond_false];have h1:=hst (d:= ⟨c.name,true,-1,0,ZQ (c.out + 16),c.use⟩) hln;have hA:=hat (d:= ⟨c.name,true,-1,0,ZQ (c.out + 16),c.use⟩) hln;have u1:=u.Xh (⟨m,x.name⟩:Zg) (⟨c.name,true,-1,0,ZQ (c.out + 16),c.use⟩:Zb);have hd:(⟨c.name,true,-1,0,ZQ (c.out + 16),c.use⟩:Zb).name=x.name:=hln;have hlk:=Jv (ZdV hm Xo hd);cases hfr:decide (c.from_ >=0)
   ·simp only [cond_false];unfold ZfX;rw [hto];obtain⟨d,hdd⟩:=hA.has;obtain⟨st',q1,q2,q3⟩:=Zal hF h1 u1 hA.hm (by show w.notes.length < 1000;omega) hdd (by rw [← Jv hdd,hlk];exact .inr ⟨rfl,rfl⟩) ha hf;rw [show st.notes=w.notes from s.notes,show st.freed=w.freed from s.freed] at q1;rw [show st.notes=w.notes from s.notes,show st.freed=w.freed from s.freed];refine⟨st',(congrArg (fun o=>Option.bind o fun x61=>some x61) q1).trans rfl,?_,q3⟩;rw [Jv hdd];exact q2
   ·simp only [cond_true];obtain⟨st1,p1,p2,p3⟩:=ZqU (F:=F) (n:=x.name) h1 u1 hA.hm hA.Xo (by show w.notes.length < 1000;omega) c.from_ c.has;rw [p1,Option.bind_some];have hbh:=ZnO hA.sm hA.hm hA.Xo (by have:=Zej (c:= (⟨c.name,true,-1,0,ZQ (c.out + 16),c.use⟩:Zb)) (rowOf w m);rw [Jj hm];omega) (by show w.notes.length < 945;omega) c.from_ c.has hA.has;have hci:CI (look (rowOf (QR (cw w m (put (⟨c.name,true,-1,0,ZQ (c.out + 16),c.use⟩:Zb) (rowOf w m))) m x.name c.from_ c.has) m) x.name):=ZrY hA.hm hA.Xo _ _ (by rw [hlk];exact .inr ⟨rfl,rfl⟩);obtain⟨d,hdd⟩:=hbh.has
    have hfree:(QR (cw w m (put (⟨c.name,true,-1,0,ZQ (c.out + 16),c.use⟩:Zb) (rowOf w m))) m x.name c.from_ c.has).freed=w.freed:=by
     unfold QR;cases (c.from_ != (m:Int)) <;> rfl
    obtain⟨st',q1,q2,q3⟩:=Zal hF p2 p3 hbh.hm (by have:=hbh.nl;omega) hdd (by rw [← Jv hdd];exact hci) (by rw [hfree];exact ha) (by rw [hfree];exact hf);unfold ZfX;rw [hto];refine⟨st',(congrArg (fun o=>Option.bind o fun x61=>some x61) q1).trans rfl,?_,q3⟩;rw [Jv hdd];exact q2
  ·simp only [cond_true];have h1:=hst (d:= ⟨c.name,c.root,c.from_,c.has,ZQ (c.out - x.w),c.use⟩) hln;have hd:(⟨c.name,c.root,c.from_,c.has,ZQ (c.out - x.w),c.use⟩:Zb).name=x.name:=hln;have u1:=u.Xh (⟨m,x.name⟩:Zg) (⟨c.name,c.root,c.from_,c.has,ZQ (c.out - x.w),c.use⟩:Zb);obtain⟨st',q1,q2,q3⟩:=Zal hF h1 u1 (hat hd).hm (by show w.notes.length < 1000;omega) (ZdV hm Xo hd) hi ha hf;exact⟨st',(congrArg (fun o=>Option.bind o fun x61=>some x61) q1).trans rfl,q2,q3⟩
 ·simp only [cond_true];rw [hlt,hge];cases hc1:((!c.root && (c.from_==-1)) && (x.via != (m:Int)))
  ·simp only [cond_false];cases hc2:((!c.root && decide (c.from_ >=0)) && (c.from_==x.via))
   ·simp only [cond_false];have h1:=hst (d:= ⟨c.name,c.root,c.from_,c.has,c.out,true⟩) hln;have hA:=hat (d:= ⟨c.name,c.root,c.from_,c.has,c.out,true⟩) hln;obtain⟨st1,p1,p2,p3⟩:=ZqU (F:=F) (n:=x.name) h1 (u.Xh _ _) hA.hm hA.Xo (by show w.notes.length < 1000;omega) x.via x.w;exact⟨st1,(congrArg (fun o=>Option.bind o fun x18=>some x18) p1).trans rfl,p2,p3⟩
   ·simp only [cond_true];exact⟨_,rfl,hst (d:= ⟨c.name,c.root,c.from_,ZQ (c.has + x.w),c.out,true⟩) hln,u.Xh _ _⟩
  ·simp only [cond_true];exact⟨_,rfl,hst (d:= ⟨c.name,c.root,x.via,x.w,c.out,true⟩) hln,u.Xh _ _⟩
end Go.Proofs.Ytekpjgmhkkjhgaa
end
section
namespace Go.Proofs.Ytekpjgmhkkjhgaa
open Go.Lf
def Zeg (w:Za) (d:Zv) (m:Nat) (c:Zb):Za:=
 bif decide (c.from_ >=0) && decide (c.has >=2) then sent (cw w m (put ⟨c.name,c.root,c.from_,ZQ (c.has - ZQ (c.has.tdiv 2)),c.out,c.use⟩ (rowOf w m))) ⟨1,d.ZH,d.name,c.from_,ZQ (c.has.tdiv 2)⟩
 else sent (cw w m (put ⟨c.name,c.root,c.from_,c.has,ZQ (c.out + 16),c.use⟩ (rowOf w m))) ⟨1,d.ZH,d.name,d.at_,16⟩
theorem ZDQ (a:Int):Zon a 2=some (ZQ (a.tdiv 2)):=rfl
theorem CI.cond {c:Zb} (hi:CI c):(!c.root && decide (c.from_ >=0))=decide (c.from_ >=0):=by
 rcases hi with⟨h,h2⟩ | ⟨h,_⟩
 ·rw [h2];simp
 ·rw [decide_eq_false (by omega)];simp
theorem ZwK {F:Nat} (hF:1000 <=F) {w:Za} (sm:Small w) {m:Nat} (hm:m < w.cells.length) (Xo:UB (rowOf w m)) (d:Zv) (hat:d.at_= (m:Int)) {c:Zb} (hc:J5 (rowOf w m) d.name=some c) (hi:CI c):Znm F w d=some (Zeg w d m c):=by
 have hr:=Yl hm;have hno:=sm.notes;have hn:=Qt hc;rcases find_eq hF sm hm d.name with⟨j,c',h1,h2,h3⟩ | ⟨h1,_⟩
 ·have hcc:c'=c:=by
   have:J5 (rowOf w m) d.name=some c':=h1;rw [hc] at this;exact(Option.some.inj this).symm
  subst hcc;unfold Znm Zeg;rw [hat,h3];simp only [Option.bind_some,ZB,hr,h2,hi.cond,ZDQ];cases (decide (c'.from_ >=0) && decide (c'.has >=2))
  ·simp only [cond_false];unfold Zc4;rw [hat];simp only [ZB,hr,Option.bind_some,h2];rw [YL (by simp;omega) (by decide),Option.bind_some];simp only [YH,Int.toNat_natCast];rw [Zei Xo h2 (by rfl)]
   rfl
  ·simp only [cond_true];unfold Zc4;rw [hat];simp only [ZB,hr,Option.bind_some,h2];rw [YL (by simp;omega) (by decide),Option.bind_some];simp only [YH,Int.toNat_natCast];rw [Zei Xo h2 (by rfl)]
   rfl
 ·exfalso;have:J5 (rowOf w m) d.name=none:=h1;rw [this] at hc;cases hc
theorem ZsD {w:Za} {st:Store} (s:Qm w st) (u:UK st.cells) {m:Nat} (hm:m < w.cells.length) (Xo:UB (rowOf w m)) (hnl:w.notes.length < 1000) (d:Zv) (hat:d.at_= (m:Int)) {c:Zb} (hc:J5 (rowOf w m) d.name=some c):
 ∃ st',Zni st d=some st'∧Qm (Zeg w d m c) st'∧UK st'.cells:=by
 have hn:=Qt hc;unfold Zni Zeg;rw [hat,Ze4 s hm,Jv hc,Option.bind_some];simp only [ZDQ,Option.bind_some];cases (decide (c.from_ >=0) && decide (c.has >=2))
 ·simp only [cond_false];unfold Zc0;rw [hat];have h1:=s.put hm Xo (c:= ⟨c.name,c.root,c.from_,c.has,ZQ (c.out + 16),c.use⟩) hn;obtain⟨st',q1,q2⟩:=h1.sent (by show w.notes.length < 1000;exact hnl) ⟨1,d.ZH,d.name,(m:Int),16⟩;refine⟨st',(congrArg (fun o=>Option.bind o fun x21=>some x21) q1).trans rfl,q2,?_⟩;unfold Zat at q1;dsimp only at q1;rw [s.notes,YL (by simp;omega) (by decide)] at q1;cases q1;exact u.Xh _ _
 ·simp only [cond_true];unfold Zc0;rw [hat];have h1:=s.put hm Xo (c:= ⟨c.name,c.root,c.from_,ZQ (c.has - ZQ (c.has.tdiv 2)),c.out,c.use⟩) hn;obtain⟨st',q1,q2⟩:=h1.sent (by show w.notes.length < 1000;exact hnl) ⟨1,d.ZH,d.name,c.from_,ZQ (c.has.tdiv 2)⟩;refine⟨st',(congrArg (fun o=>Option.bind o fun x21=>some x21) q1).trans rfl,q2,?_⟩;unfold Zat at q1;dsimp only at q1;rw [s.notes,YL (by simp;omega) (by decide)] at q1;cases q1;exact u.Xh _ _
end Go.Proofs.Ytekpjgmhkkjhgaa
end
section
namespace Go.Proofs.Ytekpjgmhkkjhgaa
open Go.Lf
theorem Zoh {α:Type} {xs:List α} {a b:Nat} (h1:a <=b) (h2:b <=xs.length):slL xs (a:Int) (b:Int)=some ((xs.take b).drop a):=by
 unfold slL;rw [decide_eq_true (by omega),decide_eq_true (by omega),decide_eq_true (by omega)];simp
theorem ZsS {l:List Zf} {k:Nat} (hk:k < l.length) (hl:l.length < 1000):Znh l (k:Int) (ZQ ((k:Int) + 1))=some (l.take k ++ l.drop (k + 1)):=by
 unfold Znh;have e0:slL l 0 (k:Int)=some ((l.take k).drop 0):=Zoh (a:=0) (Nat.zero_le k) (by omega);rw [JC (by omega),Zoh (by omega) (by omega),Option.bind_some,e0,Zoh (by omega) (Nat.le_refl _)];have:((k:Int)== ((k + 1:Nat):Int))=false:=by simp;omega
 rw [this,cond_false];simp only [Option.bind_some,List.drop_zero,List.take_length];rw [YL (by simp;omega) (by decide)]
 rfl
def Zed (k:Nat) (i:Nat) (c:Zf) (s:List Zf):List Zf:=bif((i:Int) != (k:Int)) then s ++ [c] else s
theorem Zhx (k:Nat):∀ (r:List Zf) (i:Nat) (acc:List Zf),foldI (Zed k) i r acc=acc ++ (if k < i then r else r.take (k - i) ++ r.drop (k - i + 1))
 | [],i,acc=>by simp [foldI]
 | c::r,i,acc=>by
   rw [foldI,Zhx k r];by_cases h:k < i
   ·have:Zed k i c acc=acc ++ [c]:=by
     unfold Zed;have:((i:Int) != (k:Int))=true:=by simp;omega
     rw [this];rfl
    rw [this,if_pos (by omega),if_pos h];simp
   ·by_cases h2:k=i
    ·subst h2;have:Zed k k c acc=acc:=by unfold Zed;simp
     rw [this,if_pos (by omega),if_neg h];simp
    ·have:Zed k i c acc=acc ++ [c]:=by
      unfold Zed;have:((i:Int) != (k:Int))=true:=by simp;omega
      rw [this];rfl
     rw [this,if_neg (by omega),if_neg h];obtain⟨d,rfl⟩:∃ d,k=i + (d + 1):= ⟨k - i - 1,by omega⟩
     have e1:i + (d + 1) - (i + 1)=d:=by omega
     have e2:i + (d + 1) - i=d + 1:=by omega
     rw [e1,e2];simp
theorem ZwW {F:Nat} (hF:1000 <=F) {w:Za} (sm:Small w) (d:Zv) {k:Nat} (hat:d.at_= (k:Int)) (x:Zf):loop F (ZfW F w d x) ([],0)= (ZiM F ⟨w.cells,w.notes.take k ++ w.notes.drop (k + 1),w.names,w.freed⟩ x).bind fun y=>some y:=by
 have hno:=sm.notes;refine(Yd w.notes (fun v (s:List Zf)=>(s,v)) (ZfW F w d x) (fun i y s next=>bif((i:Int) != (k:Int)) then(app 40 s [y]).bind fun z=>next z else next s) (fun s=>(ZiM F ⟨w.cells,s,w.names,w.freed⟩ x).bind fun y=>some y) (by omega) (fun i y s next hy hk=>?_) (fun s next=>?_) (by omega) []).trans ?_
 ·simp only [ZfW,Zit,hat,ZB,hy,hk,decide_true,Option.bind_some,cond_true]
 ·simp only [ZfW];rw [decide_eq_false (by omega),cond_false]
 ·refine(Y6 (i:=0) (s:= []) (l:=w.notes) (Zed k) (fun k (s:List Zf)=>s.length <=k) (Nat.le_refl _) (fun i y s next hx hs=>by
   have:= (List.getElem?_eq_some_iff.1 hx).1;unfold Zed;rw [Nat.zero_add] at hs ⊢;cases ((i:Int) != (k:Int))
   ·exact⟨rfl,by simp;omega⟩
   ·simp only [cond_true];rw [YL (by simp;omega) (by decide)];exact⟨rfl,by simp;omega⟩)).1.trans ?_
  rw [Zhx,if_neg (by omega),List.nil_append,Nat.sub_zero]
end Go.Proofs.Ytekpjgmhkkjhgaa
end
section
namespace Go.Proofs.Ytekpjgmhkkjhgaa
open Go.Lf
theorem Zp6 {c:Zb}:∀ {r:Row},(∀ x ∈ r,x.name < c.name) ->put c r=r ++ [c]
 | [],_=>rfl
 | d::r,h=>by
   have:=h d (by simp);rw [put,if_pos this,Zp6 fun x hx=>h x (by simp [hx])];rfl
def ZkP (w:Za):Zb:= ⟨w.names,true,-1,0,0,true⟩
def Zeo (w:Za) (m:Nat):Za:= ⟨w.cells.set m (put (ZkP w) (rowOf w m)),w.notes,ZQ (w.names + 1),w.freed⟩
theorem Zw0 {F:Nat} {w:Za} (sm:Small w) {m:Nat} (hm:m < w.cells.length) (d:Zv) (hd:d.Xf=1) (hat:d.at_= (m:Int)) (hlt:∀ x ∈ rowOf w m,x.name < w.names):ZgZ F w d=some (Zeo w m):=by
 have hr:=Yl hm;have hl:=sm.row m;unfold ZgZ Zeo;rw [hd,hat];have:((1:Int)==1)=true:=rfl;rw [this,cond_true,ZB,hr,Option.bind_some,YL (by simp;omega) (by decide),Option.bind_some,Option.bind_some,Zp6 (by exact hlt)];simp only [YH,Int.toNat_natCast]
 rfl
theorem Ztb {w:Za} {st:Store} (s:Qm w st) (u:UK st.cells) {m:Nat} (hm:m < w.cells.length) (Xo:UB (rowOf w m)):Qm (Zeo w m) ⟨st.machines,ZQ (st.names + 1),Xh st.cells ⟨m,w.names⟩ (ZkP w),st.notes,st.freed⟩∧UK (Xh st.cells (⟨m,w.names⟩:Zg) (ZkP w)):=by
 have h:=s.put hm Xo (c:=ZkP w) (n:=w.names) rfl;refine⟨⟨?_,by show ZQ (st.names + 1)=ZQ (w.names + 1);rw [s.n],s.notes,s.freed,?_⟩,u.Xh _ _⟩
 ·show st.machines=_;rw [s.m];unfold Zeo;simp
 ·exact h.cells
end Go.Proofs.Ytekpjgmhkkjhgaa
end
