/- Parts Part 12 of the proof. -/
import Derived.Test.YtekpjgmhkkjhgaaRa11
set_option linter.all false
section
noncomputable section
namespace Go.Proofs.Ytekpjgmhkkjhgaa
open Go.Yq Go.Lf
theorem ZAq {h:H} {r:Bool} (hL:ZAr=some r):Pure XX 14 #[] h (.bool r):=by
 cases hL;intro wm;have e:ev (cfg XW fun _=>false) 1 (.call 14 #[] wm h)=some (.fin (.ret (.bool true)) h):=rfl;exact ZeK (X:=XW) mixed 1 _ _ e
end Go.Proofs.Ytekpjgmhkkjhgaa
end
end
section
namespace Go.Proofs.Ytekpjgmhkkjhgaa
open Go.Lf
def Zf1 (F:Nat) (p0:Store) (p1:Int) (p2:Int):Option Store:=
 (Zf3 p0 p1 p2).bind fun x1=>(bif(x1.use || (x1.out !=0)) then some p0 else(bif x1.root then(app 8 p0.freed [p2]).bind fun z8=>(Zmj F z8).bind fun x13=>some (Store.mk p0.machines p0.names (Zas p0.cells (Ze.mk p1 p2)) p0.notes x13) else(Zmk p2).bind fun x16=>(bif(!(JC x1 x16)) then(KZ (Store.mk p0.machines p0.names (Zas p0.cells (Ze.mk p1 p2)) p0.notes p0.freed) (Zd.mk 2 x1.from_ p2 0 x1.has)).bind fun x17=>some x17 else some (Store.mk p0.machines p0.names (Zas p0.cells (Ze.mk p1 p2)) p0.notes p0.freed))))
end Go.Proofs.Ytekpjgmhkkjhgaa
end
section
set_option maxRecDepth 20000
noncomputable section
namespace Go.Proofs.Ytekpjgmhkkjhgaa
open Go.Yq Go.Lf
theorem ZkK {F wm:Nat} {h:H} {p0:Store} {p1 p2:Int} {ZI:Nat} {Zt:Option Addr} {Zr Xi:Nat} {Zz:Option Addr} {Zy XD Xh:Nat} {r:Store} (ZF:wm <=h.size) (hO:ZQ (wm:=wm) [bx wm Xh [.int .i64 p0.machines,.int .i64 p0.names,.map (some ZI),.slice Zt Xi Zr,.slice Zz XD Zy],mp wm Zi Zn (some ZI) p0.cells,ow wm Zh Zt Xi Zr p0.notes,ow wm (ZL .i64) Zz XD Zy p0.freed] h) (hL:Zf1 F p0 p1 p2=some r):
 WR XX 106 #[.pointer (some ⟨Xh,0,none⟩),.int .i64 p1,.int .i64 p2] wm h (CP (fun(v:Value) (Gb:List (Ast wm))=>∃ (Jr:Nat) (Jw:Option Addr) (Jp:Nat) (Jt:Nat) (Jv:Option Addr) (Jo:Nat) (Js:Nat),v= .tuple [].toArray∧Gb= [bx wm Xh [.int .i64 r.machines,.int .i64 r.names,.map (some Jr),.slice Jw Jp Jt,.slice Jv Jo Js],mp wm Zi Zn (some Jr) r.cells,ow wm Zh Jw Jp Jt r.notes,ow wm (ZL .i64) Jv Jo Js r.freed]) [bx wm Xh [.int .i64 p0.machines,.int .i64 p0.names,.map (some ZI),.slice Zt Xi Zr,.slice Zz XD Zy],mp wm Zi Zn (some ZI) p0.cells,ow wm Zh Zt Xi Zr p0.notes,ow wm (ZL .i64) Zz XD Zy p0.freed] h):=by
 refine bg Try.ntmps106 ZF hO ?_;intro T hT hS;unfold Zf1 at hL;obtain rfl:=hS.on k2;obtain rfl:=hS.on k3;refine r4 ?_;refine r1 ?_;obtain⟨x1,hx1,hL⟩:=bind_some hL;refine WO.cp gN rfl (YE.fn Zkb (Zc lk (Zc lk (Zc lk Zk)))) (WR.Qa rfl (ZgD (Nat.le_refl _) (hS.XP k0) (.inl (hS.lt k0)) (hS.mrd k1) (hS.ord k2) (hS.ord k3) hx1)) ?_;refine r1 ?_;rintro _ h3 ⟨b2,eb2,rfl,hS⟩;refine r1 ?_;rintro h4 hS;refine Q6 ?_;refine r2 ?_;refine cn hL ?_ ?_
 ·intro hc hL;refine r2 ?_;have hr:=Option.some.inj hL;subst hr;exact ZN.gen (vs:= []) rfl Zl rfl ⟨_,⟨ZI,Zt,p0.notes.length,Zr,Zz,p0.freed.length,Zy,rfl,rfl⟩,hT ▸ hS.only (.c k1 (.c k1 (.c k1 (.c k1 .n))))⟩
 ·intro hc hL;refine r8 ?_;refine r2 ?_;refine WO.w gN rfl (YV XJ (Zj lk (Zj lk ZE)) rfl (cs':= [.int .i64 p1,.int .i64 p2]) rfl) ?_;refine WO.hw gN (Zyy (kv:=Zi) (vv:=Zn) (k:= (Ze.mk p1 p2)) hS k2 YG rfl JZ (Zv (ZP rfl (Zf rfl fh)) rfl) (Zv fh rfl)) ?_;rintro h5 hS;refine r8 ?_;refine r2 ?_;refine cn hL ?_ ?_
  ·intro hc hL;refine r8 ?_;refine WO.hn gN rfl (Zdd (e:= (ZL .i64)) hS XU YT UY rfl rfl rfl (Zj lk ZE) rfl [((),p2)] rfl (xs:= [p2]) rfl (by intro q hq;simp only [List.mem_cons,List.not_mem_nil,or_false] at hq;subst hq;exact trivial) rfl) ?_;rintro _ h7 ⟨b6,eb6,rfl,hS⟩;obtain⟨z8,hz8,hL⟩:=bind_some hL;refine WO.hv gN rfl (Zbv (e:= (ZL .i64)) hS k5 Zer lk lk (hS.QZ k0) (hS.on k0) hz8) ?_;rintro _ h11 ⟨a9,c10,rfl,hS⟩;refine r3 ?_;rintro h12 hS;refine r6 ?_;refine r1 ?_;obtain⟨x13,Zsn,hL⟩:=bind_some hL;refine WO.cl gN rfl (YE.fn Zzj (Zc lk Zk)) hS (.c k1 .n) (fun g' hz hf hO=>Zwl (by rw [hz];exact hS.hw) hO Zsn) ?_;rintro _ h14 _ ⟨rfl,rfl⟩ hS;refine r2 ?_;refine ZN.Yp ?_;have hr:=Option.some.inj hL;subst hr;exact ZN.gen (vs:= []) rfl Zl rfl ⟨_,⟨ZI,Zt,p0.notes.length,Zr,a9,z8.length,c10,rfl,rfl⟩,hT ▸ hS.only (.c k1 (.c k2 (.c k3 (.c k0 .n))))⟩
  ·intro hc hL;refine r1 ?_;refine WC.Yj mixed (by kernel_rfl) ?_;refine r2 ?_;obtain⟨x16,hx16,hL⟩:=bind_some hL;refine WX.cp gN rfl (YE.fn ZsF (Zc lk Zk)) (WR.Qa rfl (ZpA (Nat.le_refl _) hx16)) ?_ rfl rfl;refine WX.w gN rfl (Z8 (Zv (ZP rfl fh) rfl) (Zv fh rfl) (ZeA (xs:= [.int .i64 x1.name,.bool x1.root,.int .i64 x1.from_,.int .i64 x1.has,.int .i64 x1.out,.bool x1.use]) (ys:= [.int .i64 x16.name,.bool x16.root,.int .i64 x16.from_,.int .i64 x16.has,.int .i64 x16.out,.bool x16.use]) (ZxY x1 x16) rfl rfl)) ?_ rfl;refine r3 ?_;refine cn hL ?_ ?_
   ·intro hc hL;refine r6 ?_;refine r1 ?_;refine WO.w gN rfl (Y8 ZpK (Zj lk (Zj lk (Zj lk (Zj lk ZE)))) rfl (cs':= [.int .i64 2,.int .i64 x1.from_,.int .i64 p2,.int .i64 0,.int .i64 x1.has]) rfl) ?_;obtain⟨x17,ZyW,hL⟩:=bind_some hL;refine WO.cl gN rfl (YE.fn Zka (Zc lk (Zc lk Zk))) hS (.c k2 (.c k0 (.c k1 (.c k1 .n)))) (fun g' hz hf hO=>ZgC (by rw [hz];exact hS.hw) hO ZyW) ?_;rintro _ h25 _ ⟨m18,a19,n20,c21,a22,n23,c24,rfl,rfl⟩ hS;obtain rfl:=hS.on k2;obtain rfl:=hS.on k3;refine r2 ?_;refine ZN.Yp ?_;have hr:=Option.some.inj hL;subst hr;exact ZN.gen (vs:= []) rfl Zl rfl ⟨_,⟨m18,a19,x17.notes.length,c21,a22,x17.freed.length,c24,rfl,rfl⟩,hT ▸ hS.only (.c k0 (.c k0 (.c k0 (.c k0 .n))))⟩
   ·intro hc hL;refine r2 ?_;refine ZN.Yp ?_;have hr:=Option.some.inj hL;subst hr;exact ZN.gen (vs:= []) rfl Zl rfl ⟨_,⟨ZI,Zt,p0.notes.length,Zr,Zz,p0.freed.length,Zy,rfl,rfl⟩,hT ▸ hS.only (.c k2 (.c k0 (.c k1 (.c k1 .n))))⟩
end Go.Proofs.Ytekpjgmhkkjhgaa
end
end
section
namespace Go.Proofs.Ytekpjgmhkkjhgaa
open Go.Lf
def Zfe (F:Nat) (p1:Zd):Int×Int×(List (Ze×Zb))×(List Zd)×(List Int) ->Option Store:=fun(v49,v50,v51,v53,v57)=>
 (Zf1 F (Store.mk v49 v50 v51 v53 v57) p1.ZG p1.name).bind fun x61=>some x61
def Zto (F:Nat) (p0:Store) (p1:Zd):Option Store:=
 (Zf3 p0 p1.ZG p1.name).bind fun x5=>(bif(p1.kind==1) then(bif(((!x5.root) && (decide (x5.from_ < 0))) && (p1.via !=p1.ZG)) then some (Store.mk p0.machines p0.names (YR p0.cells (Ze.mk p1.ZG p1.name) (Zb.mk x5.name x5.root p1.via p1.w x5.out true)) p0.notes p0.freed) else(bif((decide (x5.from_ >=0)) && (x5.from_==p1.via)) then some (Store.mk p0.machines p0.names (YR p0.cells (Ze.mk p1.ZG p1.name) (Zb.mk x5.name x5.root x5.from_ (ZV (x5.has + p1.w)) x5.out true)) p0.notes p0.freed) else(Zf2 (Store.mk p0.machines p0.names (YR p0.cells (Ze.mk p1.ZG p1.name) (Zb.mk x5.name x5.root x5.from_ x5.has x5.out true)) p0.notes p0.freed) p1.ZG p1.name p1.via p1.w).bind fun x18=>some x18)) else(bif(p1.kind==2) then(Zf1 F (Store.mk p0.machines p0.names (YR p0.cells (Ze.mk p1.ZG p1.name) (Zb.mk x5.name x5.root x5.from_ x5.has (ZV (x5.out - p1.w)) x5.use)) p0.notes p0.freed) p1.ZG p1.name).bind fun x30=>some x30 else(bif decide (x5.from_ >=0) then(Zf2 (Store.mk p0.machines p0.names (YR p0.cells (Ze.mk p1.ZG p1.name) (Zb.mk x5.name true (-1) 0 (ZV (x5.out + 16)) x5.use)) p0.notes p0.freed) p1.ZG p1.name x5.from_ x5.has).bind fun x71=>(Zfe F p1) (x71.machines,x71.names,x71.cells,x71.notes,x71.freed) else(Zfe F p1) (p0.machines,p0.names,YR p0.cells (Ze.mk p1.ZG p1.name) (Zb.mk x5.name true (-1) 0 (ZV (x5.out + 16)) x5.use),p0.notes,p0.freed))))
def Ze8:Ze ->Int ->Option Bool:=fun ZF3 ZBv=>
 (bif decide (ZBv > 1000000) then some true else some false)
def Zad (F:Nat):Int×Int×(List (Ze×Zb))×(List Zd)×(List Int) ->Option (PR Store):=fun(v14,v15,v16,v18,v22)=>
 (bif decide ((v18.length:Int) > 80) then some (.Jc 3) else(ZqE F (Store.mk v14 v15 v16 v18 v22)).bind fun x26=>(Zi0 (Ze8) x26.1).bind fun q37=>(bif q37 then some (.Jc 3) else some (.ok (Store.mk v14 v15 v16 v18 v22))))
def Zte (F:Nat) (p0:Store) (p1:Zm):Option (PR Store):=
 (Zmn p0 p1).bind fun x3=>prC x3 (fun e5=>some (.Jc e5)) (fun y4=>(bif(p1.Xa==1) then(Zad F) (p0.machines,ZV (p0.names + 1),YR p0.cells (Ze.mk p1.at_ p0.names) (Zb.mk p0.names true (-1) 0 0 true),p0.notes,p0.freed) else(bif(p1.Xa==2) then(Zmm p0 p1).bind fun x103=>(Zad F) (x103.machines,x103.names,x103.cells,x103.notes,x103.freed) else(bif(p1.Xa==3) then(Zac p0.cells (Ze.mk p1.at_ p1.name) (Zb.mk 0 false 0 0 0 false)).bind fun x113=>(Zf1 F (Store.mk p0.machines p0.names (YR p0.cells (Ze.mk p1.at_ p1.name) (Zb.mk x113.name x113.root x113.from_ x113.has x113.out false)) p0.notes p0.freed) p1.at_ p1.name).bind fun Zls=>(Zad F) (Zls.machines,Zls.names,Zls.cells,Zls.notes,Zls.freed) else(bif(p1.Xa==4) then(Zac p0.cells (Ze.mk p1.at_ p1.name) (Zb.mk 0 false 0 0 0 false)).bind fun Ja=>(KZ (Store.mk p0.machines p0.names (YR p0.cells (Ze.mk p1.at_ p1.name) (Zb.mk Ja.name false p1.ZG 16 Ja.out Ja.use)) p0.notes p0.freed) (Zd.mk 3 p1.ZG p1.name 0 16)).bind fun Zlr=>(Zad F) (Zlr.machines,Zlr.names,Zlr.cells,Zlr.notes,Zlr.freed) else(Yb p0.notes p1.at_).bind fun WU=>(Zml p0.notes p1.at_ (ZV (p1.at_ + 1))).bind fun ZuJ=>(Zto F (Store.mk p0.machines p0.names p0.cells ZuJ p0.freed) WU).bind fun Zlq=>(Zad F) (Zlq.machines,Zlq.names,Zlq.cells,Zlq.notes,Zlq.freed))))))
end Go.Proofs.Ytekpjgmhkkjhgaa
end
section
set_option maxRecDepth 20000
noncomputable section
namespace Go.Proofs.Ytekpjgmhkkjhgaa
open Go.Yq Go.Lf
theorem ZAb {F wm:Nat} {h:H} {p0:Store} {p1:Zd} {ZI:Nat} {Zt:Option Addr} {Zr Xi:Nat} {Zz:Option Addr} {Zy XD Xh:Nat} {r:Store} (ZF:wm <=h.size) (hO:ZQ (wm:=wm) [bx wm Xh [.int .i64 p0.machines,.int .i64 p0.names,.map (some ZI),.slice Zt Xi Zr,.slice Zz XD Zy],mp wm Zi Zn (some ZI) p0.cells,ow wm Zh Zt Xi Zr p0.notes,ow wm (ZL .i64) Zz XD Zy p0.freed] h) (hL:Zto F p0 p1=some r):
 WR XX 66 #[.pointer (some ⟨Xh,0,none⟩),.agg [.int .i64 p1.kind,.int .i64 p1.ZG,.int .i64 p1.name,.int .i64 p1.via,.int .i64 p1.w].toArray] wm h (CP (fun(v:Value) (Gb:List (Ast wm))=>∃ (Jr:Nat) (Jw:Option Addr) (Jp:Nat) (Jt:Nat) (Jv:Option Addr) (Jo:Nat) (Js:Nat),v= .tuple [].toArray∧Gb= [bx wm Xh [.int .i64 r.machines,.int .i64 r.names,.map (some Jr),.slice Jw Jp Jt,.slice Jv Jo Js],mp wm Zi Zn (some Jr) r.cells,ow wm Zh Jw Jp Jt r.notes,ow wm (ZL .i64) Jv Jo Js r.freed]) [bx wm Xh [.int .i64 p0.machines,.int .i64 p0.names,.map (some ZI),.slice Zt Xi Zr,.slice Zz XD Zy],mp wm Zi Zn (some ZI) p0.cells,ow wm Zh Zt Xi Zr p0.notes,ow wm (ZL .i64) Zz XD Zy p0.freed] h):=by
 refine bg Try.ntmps66 ZF hO ?_;intro T hT hS;unfold Zto at hL;obtain rfl:=hS.on k2;obtain rfl:=hS.on k3;refine r3 ?_;rintro _ h2 ⟨b1,eb1,rfl,hS⟩;refine r1 ?_;rintro _ h4 ⟨b3,eb3,rfl,hS⟩;refine r8 ?_;refine r1 ?_;obtain⟨x5,hx5,hL⟩:=bind_some hL;refine WO.cp gN rfl (YE.fn Zkb (Zc lk (Zc lk (Zc lk Zk)))) (WR.Qa rfl (ZgD (Nat.le_refl _) (hS.XP k2) (.inl (hS.lt k2)) (hS.mrd k3) (hS.ord k4) (hS.ord k5) hx5)) ?_;refine r1 ?_;rintro _ h7 ⟨b6,eb6,rfl,hS⟩;refine r1 ?_;rintro h8 hS;refine r4 ?_;refine WO.w gN rfl (Zb8 (Zc lk (Zc lk (Zc lk Zk)))) ?_;refine r16 ?_;refine cn hL ?_ ?_
 ·intro hc hL;refine r4 ?_;rintro h9 hS;refine r16 ?_;refine r6 ?_;refine r1 ?_;refine cn hL ?_ ?_
  ·intro hc hL;refine r1 ?_;refine WC.Yj mixed (by kernel_rfl) ?_;refine r3 ?_;refine WX.wr (fun x=>x=b3) hS gN rfl (fun _ _ hR=>ZW Xf (Zv fh rfl) (At.eqv (hR b3 rfl) (hS.XP k1)) (j:=4) rfl (v:= .int .i64 p1.w) rfl) ?_ rfl rfl;rintro h10 e11 hS;refine r1 ?_;refine WX.hu gN (Uf hS k0 YT lk lk (vs:= [.int .i64 p1.via]) rfl rfl rfl rfl (cs':= [.int .i64 x5.name,.bool x5.root,.int .i64 p1.via,.int .i64 x5.has,.int .i64 x5.out,.bool true]) rfl) ?_ rfl rfl [3] (by kernel_rfl) (.c .z (hS.dj (.c k0 (.c k0 .n))) Z7.e);rintro h12 hS;refine WX.w gN rfl (Xm Zkj lk) ?_ (by kernel_rfl);refine WX.hu gN (Uf hS k0 YT lk lk (vs:= [.int .i64 p1.w]) rfl rfl rfl rfl (cs':= [.int .i64 x5.name,.bool x5.root,.int .i64 p1.via,.int .i64 p1.w,.int .i64 x5.out,.bool true]) rfl) ?_ rfl (by kernel_rfl) [] (by kernel_rfl) Z7.e;rintro h13 hS;refine r4 ?_;refine WO.inl gN rfl (YE.clo (first:= []) (cap:= [.pointer (some ⟨b6,0,none⟩),.pointer (some ⟨b1,0,none⟩),.pointer (some ⟨b3,0,none⟩)]) lk Zhv Zk rfl) (WF.begin (args:= [_,_,_]) (fn:=Try.f104) (by kernel_rfl) (by exact rfl) Try.ntmps104 (by simp) ?_);simp only [ZC,ZH,Nat.reduceAdd];refine WC.Yj mixed (by kernel_rfl) ?_;refine r8 ?_;refine WX.w gN rfl (YV XJ (Zj lk (Zj lk ZE)) rfl (cs':= [.int .i64 p1.ZG,.int .i64 p1.name]) rfl) ?_ rfl;refine r1 ?_;refine WX.hu gN (Zbu (kv:=Zi) (vv:=Zn) (k:= (Ze.mk p1.ZG p1.name)) (v:= (Zb.mk x5.name x5.root p1.via p1.w x5.out true)) hS k4 YG JZ (Zv (Yc rfl (ZP rfl fh)) rfl) (Zv (Zf rfl fh) rfl) (Zv fh rfl)) ?_ rfl rfl [] (by kernel_rfl) Z7.e;rintro h14 hS;refine r1 ?_;refine ZN.Yp ?_;refine ZN.gen (vs:= []) rfl Zl rfl ?_;refine r3 ?_;refine ZN.Yp ?_;have hr:=Option.some.inj hL;subst hr;exact ZN.gen (vs:= []) rfl Zl rfl ⟨_,⟨ZI,Zt,p0.notes.length,Zr,Zz,p0.freed.length,Zy,rfl,rfl⟩,hT ▸ hS.only (.c k4 (.c k0 (.c k3 (.c k3 .n))))⟩
  ·intro hc hL;refine Q6 ?_;refine r3 ?_;refine cn hL ?_ ?_
   ·intro hc hL;refine r8 ?_;refine r1 ?_;rintro h15 hS;refine r4 ?_;refine WO.inl gN rfl (YE.clo (first:= []) (cap:= [.pointer (some ⟨b6,0,none⟩),.pointer (some ⟨b1,0,none⟩),.pointer (some ⟨b3,0,none⟩)]) lk Zhv Zk rfl) (WF.begin (args:= [_,_,_]) (fn:=Try.f104) (by kernel_rfl) (by exact rfl) Try.ntmps104 (by simp) ?_);simp only [ZC,ZH,Nat.reduceAdd];refine WC.Yj mixed (by kernel_rfl) ?_;refine r8 ?_;refine WX.w gN rfl (YV XJ (Zj lk (Zj lk ZE)) rfl (cs':= [.int .i64 p1.ZG,.int .i64 p1.name]) rfl) ?_ rfl;refine r1 ?_;refine WX.hu gN (Zbu (kv:=Zi) (vv:=Zn) (k:= (Ze.mk p1.ZG p1.name)) (v:= (Zb.mk x5.name x5.root x5.from_ (ZV (x5.has + p1.w)) x5.out true)) hS k4 YG JZ (Zv (Yc rfl (ZP rfl fh)) rfl) (Zv (Zf rfl fh) rfl) (Zv fh rfl)) ?_ rfl rfl [] (by kernel_rfl) Z7.e;rintro h16 hS;refine r1 ?_;refine ZN.Yp ?_;refine ZN.gen (vs:= []) rfl Zl rfl ?_;refine r3 ?_;refine ZN.Yp ?_;have hr:=Option.some.inj hL;subst hr;exact ZN.gen (vs:= []) rfl Zl rfl ⟨_,⟨ZI,Zt,p0.notes.length,Zr,Zz,p0.freed.length,Zy,rfl,rfl⟩,hT ▸ hS.only (.c k4 (.c k0 (.c k3 (.c k3 .n))))⟩
   ·intro hc hL;refine r3 ?_;refine WO.inl gN rfl (YE.clo (first:= []) (cap:= [.pointer (some ⟨b6,0,none⟩),.pointer (some ⟨b1,0,none⟩),.pointer (some ⟨b3,0,none⟩)]) lk Zhv Zk rfl) (WF.begin (args:= [_,_,_]) (fn:=Try.f104) (by kernel_rfl) (by exact rfl) Try.ntmps104 (by simp) ?_);simp only [ZC,ZH,Nat.reduceAdd];refine WC.Yj mixed (by kernel_rfl) ?_;refine r8 ?_;refine WX.w gN rfl (YV XJ (Zj lk (Zj lk ZE)) rfl (cs':= [.int .i64 p1.ZG,.int .i64 p1.name]) rfl) ?_ rfl;refine r1 ?_;refine WX.hu gN (Zbu (kv:=Zi) (vv:=Zn) (k:= (Ze.mk p1.ZG p1.name)) (v:= (Zb.mk x5.name x5.root x5.from_ x5.has x5.out true)) hS k4 YG JZ (Zv (Yc rfl (ZP rfl fh)) rfl) (Zv (Zf rfl fh) rfl) (Zv fh rfl)) ?_ rfl rfl [] (by kernel_rfl) Z7.e;rintro h17 hS;refine r1 ?_;refine ZN.Yp ?_;refine ZN.gen (vs:= []) rfl Zl rfl ?_;refine Q6 ?_;obtain⟨x18,Zqm,hL⟩:=bind_some hL;refine WO.cl gN rfl (YE.fn ZsH (Zc lk (Zc lk (Zc lk (Zc lk (Zc lk Zk)))))) hS (.c k4 (.c k0 (.c k3 (.c k3 .n)))) (fun g' hz hf hO=>ZpD (by rw [hz];exact hS.hw) hO Zqm) ?_;rintro _ h26 _ ⟨m19,a20,n21,c22,a23,n24,c25,rfl,rfl⟩ hS;obtain rfl:=hS.on k2;obtain rfl:=hS.on k3;refine r3 ?_;refine ZN.Yp ?_;have hr:=Option.some.inj hL;subst hr;exact ZN.gen (vs:= []) rfl Zl rfl ⟨_,⟨m19,a20,x18.notes.length,c22,a23,x18.freed.length,c25,rfl,rfl⟩,hT ▸ hS.only (.c k0 (.c k0 (.c k0 (.c k0 .n))))⟩
 ·intro hc hL;refine r6 ?_;refine cn hL ?_ ?_
  ·intro hc hL;refine r8 ?_;refine r1 ?_;rintro h28 hS;refine r4 ?_;refine r1 ?_;refine WO.inl gN rfl (YE.clo (first:= []) (cap:= [.pointer (some ⟨b6,0,none⟩),.pointer (some ⟨b1,0,none⟩),.pointer (some ⟨b3,0,none⟩)]) lk Zhv Zk rfl) (WF.begin (args:= [_,_,_]) (fn:=Try.f104) (by kernel_rfl) (by exact rfl) Try.ntmps104 (by simp) ?_);simp only [ZC,ZH,Nat.reduceAdd];refine WC.Yj mixed (by kernel_rfl) ?_;refine r8 ?_;refine WX.w gN rfl (YV XJ (Zj lk (Zj lk ZE)) rfl (cs':= [.int .i64 p1.ZG,.int .i64 p1.name]) rfl) ?_ rfl;refine r1 ?_;refine WX.hu gN (Zbu (kv:=Zi) (vv:=Zn) (k:= (Ze.mk p1.ZG p1.name)) (v:= (Zb.mk x5.name x5.root x5.from_ x5.has (ZV (x5.out - p1.w)) x5.use)) hS k4 YG JZ (Zv (Yc rfl (ZP rfl fh)) rfl) (Zv (Zf rfl fh) rfl) (Zv fh rfl)) ?_ rfl rfl [] (by kernel_rfl) Z7.e;rintro h29 hS;refine r1 ?_;refine ZN.Yp ?_;refine ZN.gen (vs:= []) rfl Zl rfl ?_;refine r8 ?_;obtain⟨x30,Zl0,hL⟩:=bind_some hL;refine WO.cl gN rfl (YE.fn ZnU (Zc lk (Zc lk (Zc lk Zk)))) hS (.c k4 (.c k0 (.c k3 (.c k3 .n)))) (fun g' hz hf hO=>ZkK (by rw [hz];exact hS.hw) hO Zl0) ?_;rintro _ h38 _ ⟨m31,a32,n33,c34,a35,n36,c37,rfl,rfl⟩ hS;obtain rfl:=hS.on k2;obtain rfl:=hS.on k3;refine r2 ?_;refine ZN.Yp ?_;have hr:=Option.some.inj hL;subst hr;exact ZN.gen (vs:= []) rfl Zl rfl ⟨_,⟨m31,a32,x30.notes.length,c34,a35,x30.freed.length,c37,rfl,rfl⟩,hT ▸ hS.only (.c k0 (.c k0 (.c k0 (.c k0 .n))))⟩
  ·intro hc hL;refine r1 ?_;refine WC.Yj mixed (by kernel_rfl) ?_;refine Q6 ?_;rintro h40 hS;refine r2 ?_;rintro h41 hS;refine r2 ?_;rintro h42 hS;refine r8 ?_;refine r1 ?_;rintro h43 hS;refine r4 ?_;refine r1 ?_;refine WO.inl gN rfl (YE.clo (first:= []) (cap:= [.pointer (some ⟨b6,0,none⟩),.pointer (some ⟨b1,0,none⟩),.pointer (some ⟨b3,0,none⟩)]) lk Zhv Zk rfl) (WF.begin (args:= [_,_,_]) (fn:=Try.f104) (by kernel_rfl) (by exact rfl) Try.ntmps104 (by simp) ?_);simp only [ZC,ZH,Nat.reduceAdd];refine WC.Yj mixed (by kernel_rfl) ?_;refine r8 ?_;refine WX.w gN rfl (YV XJ (Zj lk (Zj lk ZE)) rfl (cs':= [.int .i64 p1.ZG,.int .i64 p1.name]) rfl) ?_ rfl;refine r1 ?_;refine WX.hu gN (Zbu (kv:=Zi) (vv:=Zn) (k:= (Ze.mk p1.ZG p1.name)) (v:= (Zb.mk x5.name true (-1) 0 (ZV (x5.out + 16)) x5.use)) hS k4 YG JZ (Zv (Yc rfl (ZP rfl fh)) rfl) (Zv (Zf rfl fh) rfl) (Zv fh rfl)) ?_ rfl rfl [] (by kernel_rfl) Z7.e;rintro h44 hS;refine r1 ?_;refine ZN.Yp ?_;refine ZN.gen (vs:= []) rfl Zl rfl ?_;refine r2 ?_;refine WC.Zaj (r:=r) (fun(p:Int×Int×(List (Ze×Zb))×(List Zd)×(List Int)) (s:Fs)=>match p with | (v49,v50,v51,v53,v57)=>∃ (Za4:Fr) (h45:H) (m52:Nat) (a54:Option Addr) (c55:Nat) (n56:Nat) (a58:Option Addr) (c59:Nat) (n60:Nat),s= ⟨Za4,[],h45,none⟩∧Sp wm T h [bx wm b1 [.pointer (some ⟨Xh,0,none⟩)],mp wm Zi Zn (some m52) v51,ow wm Zh a54 n56 c55 v53,ow wm (ZL .i64) a58 n60 c59 v57,bx wm Xh [.int .i64 v49,.int .i64 v50,.map (some m52),.slice a54 n56 c55,.slice a58 n60 c59],bx wm b3 [.int .i64 p1.kind,.int .i64 p1.ZG,.int .i64 p1.name,.int .i64 p1.via,.int .i64 p1.w]] h45∧Za4.at 2= .pointer (some ⟨b1,0,none⟩)∧Za4.at 3= .pointer (some ⟨b3,0,none⟩)) (Zfe F p1) ?_ ?_
   ·clear hL hS;rintro⟨v49,v50,v51,v53,v57⟩ s hL ⟨Za4,h45,m52,a54,c55,n56,a58,c59,n60,rfl,hS,e47,e48⟩;obtain rfl:=hS.on k2;obtain rfl:=hS.on k3;dsimp only [Zfe] at hL;refine r6 ?_;obtain⟨x61,ZGO,hL⟩:=bind_some hL;refine WO.cl gN rfl (YE.fn ZnU (Zc lk (Zc lk (Zc lk Zk)))) hS (.c k4 (.c k1 (.c k1 (.c k1 .n)))) (fun g' hz hf hO=>ZkK (by rw [hz];exact hS.hw) hO ZGO) ?_;rintro _ h69 _ ⟨m62,a63,n64,c65,a66,n67,c68,rfl,rfl⟩ hS;obtain rfl:=hS.on k2;obtain rfl:=hS.on k3;refine r2 ?_;refine ZN.Yp ?_;have hr:=Option.some.inj hL;subst hr;exact ZN.gen (vs:= []) rfl Zl rfl ⟨_,⟨m62,a63,x61.notes.length,c65,a66,x61.freed.length,c68,rfl,rfl⟩,hT ▸ hS.only (.c k0 (.c k0 (.c k0 (.c k0 .n))))⟩
   ·skip;refine r6 ?_;refine cn hL ?_ ?_
    ·intro hc hL;refine r8 ?_;obtain⟨x71,ZGM,hL⟩:=bind_some hL;refine WO.cl gN rfl (YE.fn ZsH (Zc lk (Zc lk (Zc lk (Zc lk (Zc lk Zk)))))) hS (.c k4 (.c k0 (.c k3 (.c k3 .n)))) (fun g' hz hf hO=>ZpD (by rw [hz];exact hS.hw) hO ZGM) ?_;rintro _ h79 _ ⟨m72,a73,n74,c75,a76,n77,c78,rfl,rfl⟩ hS;obtain rfl:=hS.on k2;obtain rfl:=hS.on k3;refine r1 ?_;exact YI.Yp _ hL ⟨_,_,m72,a73,c75,x71.notes.length,a76,c78,x71.freed.length,rfl,hS.only (.c k6 (.c k1 (.c k1 (.c k1 (.c k0 (.c k1 .n)))))),YH⟩
    ·intro hc hL;refine r1 ?_;exact YI.Yp _ hL ⟨_,_,ZI,Zt,Zr,p0.notes.length,Zz,Zy,p0.freed.length,rfl,hS.only (.c k3 (.c k0 (.c k3 (.c k3 (.c k2 (.c k1 .n)))))),YH⟩
theorem Ztd {F wm:Nat} {h:H} {p0:Store} {p1:Zm} {ZI:Nat} {Zt:Option Addr} {Zr Xi:Nat} {Zz:Option Addr} {Zy XD Xh:Nat} {r:(PR Store)} (ZF:wm <=h.size) (hO:ZQ (wm:=wm) [bx wm Xh [.int .i64 p0.machines,.int .i64 p0.names,.map (some ZI),.slice Zt Xi Zr,.slice Zz XD Zy],mp wm Zi Zn (some ZI) p0.cells,ow wm Zh Zt Xi Zr p0.notes,ow wm (ZL .i64) Zz XD Zy p0.freed] h) (hL:Zte F p0 p1=some r):
 WF XX 95 #[.pointer (some ⟨Xh,0,none⟩),.agg [.int .i64 p1.Xa,.int .i64 p1.at_,.int .i64 p1.name,.int .i64 p1.ZG].toArray] wm h (PQ 32 (fun(r:Store) (v:Value) (Gb:List (Ast wm))=>∃ (Jr:Nat) (Jw:Option Addr) (Jp:Nat) (Jt:Nat) (Jv:Option Addr) (Jo:Nat) (Js:Nat),v= .tuple [].toArray∧Gb= [bx wm Xh [.int .i64 r.machines,.int .i64 r.names,.map (some Jr),.slice Jw Jp Jt,.slice Jv Jo Js],mp wm Zi Zn (some Jr) r.cells,ow wm Zh Jw Jp Jt r.notes,ow wm (ZL .i64) Jv Jo Js r.freed]) [bx wm Xh [.int .i64 p0.machines,.int .i64 p0.names,.map (some ZI),.slice Zt Xi Zr,.slice Zz XD Zy],mp wm Zi Zn (some ZI) p0.cells,ow wm Zh Zt Xi Zr p0.notes,ow wm (ZL .i64) Zz XD Zy p0.freed] h r):=by
 refine WF.ZfA (args:= [_,_]) (fn:=Try.f95) (by kernel_rfl) (by exact rfl) Try.ntmps95 (by simp) ?_;simp only [ZC,ZH,Nat.reduceAdd];obtain⟨T,hT,hS⟩:∃ T,T=Xv (wm:=wm) [bx wm Xh [.int .i64 p0.machines,.int .i64 p0.names,.map (some ZI),.slice Zt Xi Zr,.slice Zz XD Zy],mp wm Zi Zn (some ZI) p0.cells,ow wm Zh Zt Xi Zr p0.notes,ow wm (ZL .i64) Zz XD Zy p0.freed]∧Sp wm T h [bx wm Xh [.int .i64 p0.machines,.int .i64 p0.names,.map (some ZI),.slice Zt Xi Zr,.slice Zz XD Zy],mp wm Zi Zn (some ZI) p0.cells,ow wm Zh Zt Xi Zr p0.notes,ow wm (ZL .i64) Zz XD Zy p0.freed] h:= ⟨_,rfl,Sp.start ZF hO⟩
 unfold Zte at hL;obtain rfl:=hS.on k2;obtain rfl:=hS.on k3;refine r3 ?_;rintro _ h2 ⟨b1,eb1,rfl,hS⟩;refine r6 ?_;obtain⟨x3,hx3,hL⟩:=bind_some hL;rcases x3 with y4 | e5
 ·skip;replace hL:=ZrS hL;refine WO.clR gN rfl (YE.fn ZsG (Zc lk (Zc lk Zk))) hS.hw (PQ.ok (ZpB (Nat.le_refl _) (hS.XP k1) (.inl (hS.lt k1)) (hS.mrd k2) (hS.ord k3) (hS.ord k4) hx3)) ?_;rintro _ h6 _ ⟨rfl,rfl⟩ hR7;have hS:=hS.clR hR7 .n;refine r8 ?_;refine WO.w gN rfl (YV XJ (Zj lk (Zj lk ZE)) rfl (cs':= [.int .i64 p1.at_,.int .i64 p1.name]) rfl) ?_;refine r1 ?_;rintro _ h9 ⟨b8,eb8,rfl,hS⟩;refine r1 ?_;rintro h10 hS;refine r2 ?_;refine WC.Zaj (r:=r) (fun(p:Int×Int×(List (Ze×Zb))×(List Zd)×(List Int)) (s:Fs)=>match p with | (v14,v15,v16,v18,v22)=>∃ (ZzU:Fr) (h11:H) (m17:Nat) (a19:Option Addr) (c20:Nat) (n21:Nat) (a23:Option Addr) (c24:Nat) (n25:Nat),s= ⟨ZzU,[],h11,none⟩∧Sp wm T h [mp wm Zi Zn (some m17) v16,ow wm Zh a19 n21 c20 v18,ow wm (ZL .i64) a23 n25 c24 v22,bx wm Xh [.int .i64 v14,.int .i64 v15,.map (some m17),.slice a19 n21 c20,.slice a23 n25 c24]] h11∧ZzU.at 0= .pointer (some ⟨Xh,0,none⟩)) (Zad F) ?_ ?_
  ·clear hL hS;rintro⟨v14,v15,v16,v18,v22⟩ s hL ⟨ZzU,h11,m17,a19,c20,n21,a23,c24,n25,rfl,hS,e13⟩;obtain rfl:=hS.on k1;obtain rfl:=hS.on k2;dsimp only [Zad] at hL;refine r8 ?_;refine r3 ?_;refine cn hL ?_ ?_
   ·intro hc hL;refine r1 ?_;refine WO.w gN rfl (ZfB lk (by kernel_rfl)) ?_;refine WO.pnc gN lk ?_;refine Qq.panic ?_;refine XM.ofX ?_;refine ZaI.Jc ?_;have hr:=Option.some.inj hL;subst hr;exact⟨rfl,hT ▸ hS.only .n⟩
   ·intro hc hL;refine r4 ?_;refine r1 ?_;obtain⟨x26,ZyV,hL⟩:=bind_some hL;refine WO.clR gN rfl (YE.fn ZxD (Zc lk Zk)) hS.hw (Ztn (Nat.le_refl _) (hS.XP k3) (.inl (hS.lt k3)) (hS.mrd k0) (hS.ord k1) (hS.ord k2) ZyV) ?_;rintro _ h29 _ ⟨m27,m28,rfl,rfl⟩ ZHB;have hS:=hS.clR ZHB (.c (cvM hS.hw) (.c (cvM hS.hw) .n));refine r8 ?_;refine r2 ?_;refine WO.rng gN rfl hS UB lk (hS.get k0).at_ ?_;rintro h36 b31 ZNm ZKg hS ZHb ZHq;refine r3 ?_;obtain⟨q37,ZG6,hL⟩:=bind_some hL;refine WC.loop (WL.ZGr [11,137,138,139,140,141,142,143] (pv 32 3) ZG6 hS k0 fh ZHb ZHq rfl rfl rfl rfl rfl rfl rfl rfl ?_ ?_ ?_)
    ·clear hL hS;rintro⟨ZF3,ZBv⟩ p40 hL h41 ZnY ZcQ hS ZHN;dsimp only [Ze8] at hL;have e45:=ZcQ.at (t:=0) rfl (ZM rfl (Yc rfl (ZP rfl (Zf rfl e13))));have e46:=ZcQ.at (t:=123) rfl (ZM rfl (Yc rfl (ZP rfl fh)));have e47:=ZcQ.at (t:=124) rfl (ZM rfl (Yc rfl (Zf rfl fh)));have e48:=ZcQ.at (t:=125) rfl (ZM rfl (Yc rfl fh));have e49:=ZcQ.at (t:=126) rfl (ZM rfl (ZP rfl (Zf rfl fh)));have e50:=ZcQ.at (t:=127) rfl (ZM rfl (ZP rfl fh));have e51:=ZcQ.at (t:=128) rfl (ZM rfl (Zf rfl fh));have e52:=ZcQ.at (t:=131) rfl (ZM rfl fh);have e53:=ZcQ.at (t:=132) rfl (Yc rfl (ZP rfl (Zf rfl fh)));have e54:=ZcQ.at (t:=130) rfl (Yc rfl (ZP rfl fh));have e55:=ZcQ.at (t:=133) rfl (Yc rfl (Zf rfl fh));have e56:=ZcQ.at (t:=134) rfl (Yc rfl fh);have e57:=ZcQ.at (t:=8) rfl (ZP rfl (Zf rfl fh));have e58:=ZcQ.at (t:=9) rfl (ZP rfl fh);have e59:=ZcQ.at (t:=135) rfl (Zf rfl fh);have e60:=ZcQ.at (t:=136) rfl fh;refine r4 ?_;refine WC.Zft lk rfl ?_;refine r4 ?_;refine r1 ?_;refine WO.w gN rfl (Zt2 lk ZHN) ?_;refine r8 ?_;refine r2 ?_;refine cn hL ?_ ?_
     ·intro hc hL;refine r1 ?_;refine WO.w gN rfl (ZfB lk (by kernel_rfl)) ?_;refine WO.pnc gN lk ?_;refine UX.panic ?_;have hp:=Option.some.inj hL;subst hp;exact ZoJ.panic (.s rfl (.s rfl (.s rfl (.s rfl (.s rfl (.s rfl (.s rfl (.s rfl .z))))))))
     ·intro hc hL;refine r2 ?_;have hp:=Option.some.inj hL;subst hp;exact ZoJ.Yp (.s rfl (.s rfl (.s rfl (.s rfl (.s rfl (.s rfl (.s rfl .z)))))))
    ·intro ZG5 h62 ZMb ZcP hS;replace hL:=UM ZG5 hL;have e65:=ZcP.at (t:=0) rfl (ZM rfl (Yc rfl (ZP rfl (Zf rfl e13))));have e66:=ZcP.at (t:=123) rfl (ZM rfl (Yc rfl (ZP rfl fh)));have e67:=ZcP.at (t:=124) rfl (ZM rfl (Yc rfl (Zf rfl fh)));have e68:=ZcP.at (t:=125) rfl (ZM rfl (Yc rfl fh));have e69:=ZcP.at (t:=126) rfl (ZM rfl (ZP rfl (Zf rfl fh)));have e70:=ZcP.at (t:=127) rfl (ZM rfl (ZP rfl fh));have e71:=ZcP.at (t:=128) rfl (ZM rfl (Zf rfl fh));have e72:=ZcP.at (t:=131) rfl (ZM rfl fh);have e73:=ZcP.at (t:=132) rfl (Yc rfl (ZP rfl (Zf rfl fh)));have e74:=ZcP.at (t:=130) rfl (Yc rfl (ZP rfl fh));have e75:=ZcP.at (t:=133) rfl (Yc rfl (Zf rfl fh));have e76:=ZcP.at (t:=134) rfl (Yc rfl fh);have e77:=ZcP.at (t:=8) rfl (ZP rfl (Zf rfl fh));have e78:=ZcP.at (t:=9) rfl (ZP rfl fh);have e79:=ZcP.at (t:=135) rfl (Zf rfl fh);have e80:=ZcP.at (t:=136) rfl fh;refine r4 ?_;refine WC.Zb4 lk rfl ?_;refine r2 ?_;refine ZwY.exit ?_;refine r1 ?_;refine XM.Yp ?_;have hr:=Option.some.inj hL;subst hr;exact XM.Zs6 rfl Zl rfl ⟨_,⟨m17,a19,v18.length,c20,a23,v22.length,c24,rfl,rfl⟩,hT ▸ hS.only (.c k5 (.c k2 (.c k2 (.c k2 .n))))⟩
    ·intro ZG4 h82 ZMa ZcO hS;replace hL:=UL ZG4 hL;have e85:=ZcO.at (t:=0) rfl (ZM rfl (Yc rfl (ZP rfl (Zf rfl e13))));have e86:=ZcO.at (t:=123) rfl (ZM rfl (Yc rfl (ZP rfl fh)));have e87:=ZcO.at (t:=124) rfl (ZM rfl (Yc rfl (Zf rfl fh)));have e88:=ZcO.at (t:=125) rfl (ZM rfl (Yc rfl fh));have e89:=ZcO.at (t:=126) rfl (ZM rfl (ZP rfl (Zf rfl fh)));have e90:=ZcO.at (t:=127) rfl (ZM rfl (ZP rfl fh));have e91:=ZcO.at (t:=128) rfl (ZM rfl (Zf rfl fh));have e92:=ZcO.at (t:=131) rfl (ZM rfl fh);have e93:=ZcO.at (t:=132) rfl (Yc rfl (ZP rfl (Zf rfl fh)));have e94:=ZcO.at (t:=130) rfl (Yc rfl (ZP rfl fh));have e95:=ZcO.at (t:=133) rfl (Yc rfl (Zf rfl fh));have e96:=ZcO.at (t:=134) rfl (Yc rfl fh);have e97:=ZcO.at (t:=8) rfl (ZP rfl (Zf rfl fh));have e98:=ZcO.at (t:=9) rfl (ZP rfl fh);have e99:=ZcO.at (t:=135) rfl (Zf rfl fh);have e100:=ZcO.at (t:=136) rfl fh;refine UX.panic ?_;refine XM.ofX ?_;refine ZaI.Jc ?_;have hr:=Option.some.inj hL;subst hr;exact⟨rfl,hT ▸ hS.only .n⟩
  ·skip;refine Q6 ?_;refine r1 ?_;refine cn hL ?_ ?_
   ·intro hc hL;refine r1 ?_;refine WC.Yj mixed (by kernel_rfl) ?_;refine r8 ?_;refine r2 ?_;refine WX.w gN rfl (YV XJ (Zj lk (Zj lk ZE)) rfl (cs':= [.int .i64 p1.at_,.int .i64 p0.names]) rfl) ?_ rfl;refine r4 ?_;refine WX.w gN rfl (Y8 Zx1 (Zj lk (Zj lk (Zj lk (Zj lk ZE)))) rfl (cs':= [.int .i64 p0.names,.bool true,.int .i64 (-1),.int .i64 0,.int .i64 0,.bool true]) rfl) ?_ rfl;refine WX.hu gN (Zbu (kv:=Zi) (vv:=Zn) (k:= (Ze.mk p1.at_ p0.names)) (v:= (Zb.mk p0.names true (-1) 0 0 true)) hS k3 YG JZ (Zv (ZM rfl (Yc rfl fh)) rfl) (Zv (Yc rfl (Zf rfl fh)) rfl) (Zv fh rfl)) ?_ rfl rfl [] (by kernel_rfl) Z7.e;rintro ZzP hS;refine r8 ?_;refine r3 ?_;rintro ZzO hS;refine r2 ?_;exact YI.Yp _ hL ⟨_,_,ZI,Zt,Zr,p0.notes.length,Zz,Zy,p0.freed.length,rfl,hS.only (.c k1 (.c k3 (.c k3 (.c k0 .n)))),YH⟩
   ·intro hc hL;refine r6 ?_;refine cn hL ?_ ?_
    ·intro hc hL;refine r3 ?_;obtain⟨x103,Zi8,hL⟩:=bind_some hL;refine WO.cl gN rfl (YE.fn Zzl (Zc lk (Zc lk Zk))) hS (.c k2 (.c k2 (.c k2 (.c k2 .n)))) (fun g' hz hf hO=>Zwn (by rw [hz];exact hS.hw) hO Zi8) ?_;rintro _ ZL2 _ ⟨ZGx,a105,n106,c107,ZIU,n109,ZIF,rfl,rfl⟩ hS;obtain rfl:=hS.on k2;obtain rfl:=hS.on k3;refine r2 ?_;exact YI.Yp _ hL ⟨_,_,ZGx,a105,c107,x103.notes.length,ZIU,ZIF,x103.freed.length,rfl,hS.only (.c k1 (.c k1 (.c k1 (.c k0 .n)))),YH⟩
    ·intro hc hL;refine r6 ?_;refine cn hL ?_ ?_
     ·intro hc hL;refine r1 ?_;refine WC.Yj mixed (by kernel_rfl) ?_;refine r4 ?_;refine r1 ?_;obtain⟨x113,hx113,hL⟩:=bind_some hL;refine WX.w gN rfl (ZcG (kv:=Zi) (vv:=Zn) (k:= (Ze.mk p1.at_ p1.name)) (z:= (Zb.mk 0 false 0 0 0 false)) YG JZ Ue (Zv (Zf rfl fh) rfl) (Zv fh rfl) (hS.get k3).at_ hx113 (w:= .agg [.int .i64 x113.name,.bool x113.root,.int .i64 x113.from_,.int .i64 x113.has,.int .i64 x113.out,.bool x113.use].toArray) rfl) ?_ rfl;refine WX.hn gN rfl (ZdQ hS Ue (vs:= [.int .i64 0,.bool false,.int .i64 0,.int .i64 0,.int .i64 0,.bool false]) rfl) ?_ rfl;rintro _ ZL0 ⟨ZNV,ZJ6,rfl,hS⟩;refine WX.hu gN (Uf hS k0 QR lk lk (vs:= [.int .i64 x113.name,.bool x113.root,.int .i64 x113.from_,.int .i64 x113.has,.int .i64 x113.out,.bool x113.use]) rfl rfl rfl rfl (cs':= [.int .i64 x113.name,.bool x113.root,.int .i64 x113.from_,.int .i64 x113.has,.int .i64 x113.out,.bool x113.use]) rfl) ?_ rfl rfl [] (by kernel_rfl) Z7.e;rintro h116 hS;refine r6 ?_;rintro ZLZ hS;refine r3 ?_;refine WC.Yj mixed (by kernel_rfl) ?_;refine r6 ?_;refine WX.hu gN (Zbu (kv:=Zi) (vv:=Zn) (k:= (Ze.mk p1.at_ p1.name)) (v:= (Zb.mk x113.name x113.root x113.from_ x113.has x113.out false)) hS k4 YG JZ (Zv (ZP rfl fh) rfl) (Zv (Zf rfl fh) rfl) (Zv fh rfl)) ?_ rfl rfl [] (by kernel_rfl) Z7.e;rintro ZEx hS;refine r8 ?_;obtain⟨Zls,ZCD,hL⟩:=bind_some hL;refine WO.cl gN rfl (YE.fn ZnU (Zc lk (Zc lk (Zc lk Zk)))) hS (.c k4 (.c k0 (.c k3 (.c k3 .n)))) (fun g' hz hf hO=>ZkK (by rw [hz];exact hS.hw) hO ZCD) ?_;rintro _ h127 _ ⟨ZGw,ZIT,n122,ZIE,a124,n125,ZID,rfl,rfl⟩ hS;obtain rfl:=hS.on k2;obtain rfl:=hS.on k3;refine r2 ?_;exact YI.Yp _ hL ⟨_,_,ZGw,ZIT,ZIE,Zls.notes.length,a124,ZID,Zls.freed.length,rfl,hS.only (.c k1 (.c k1 (.c k1 (.c k0 .n)))),YH⟩
     ·intro hc hL;refine r6 ?_;refine cn hL ?_ ?_
      ·intro hc hL;refine r1 ?_;refine WC.Yj mixed (by kernel_rfl) ?_;refine r4 ?_;refine r1 ?_;obtain⟨Ja,ZCz,hL⟩:=bind_some hL;refine WX.w gN rfl (ZcG (kv:=Zi) (vv:=Zn) (k:= (Ze.mk p1.at_ p1.name)) (z:= (Zb.mk 0 false 0 0 0 false)) YG JZ Ue (Zv (Zf rfl fh) rfl) (Zv fh rfl) (hS.get k3).at_ ZCz (w:= .agg [.int .i64 Ja.name,.bool Ja.root,.int .i64 Ja.from_,.int .i64 Ja.has,.int .i64 Ja.out,.bool Ja.use].toArray) rfl) ?_ rfl;refine WX.hn gN rfl (ZdQ hS Ue (vs:= [.int .i64 0,.bool false,.int .i64 0,.int .i64 0,.int .i64 0,.bool false]) rfl) ?_ rfl;rintro _ ZH4 ⟨ZNS,ZJ4,rfl,hS⟩;refine WX.hu gN (Uf hS k0 QR lk lk (vs:= [.int .i64 Ja.name,.bool Ja.root,.int .i64 Ja.from_,.int .i64 Ja.has,.int .i64 Ja.out,.bool Ja.use]) rfl rfl rfl rfl (cs':= [.int .i64 Ja.name,.bool Ja.root,.int .i64 Ja.from_,.int .i64 Ja.has,.int .i64 Ja.out,.bool Ja.use]) rfl) ?_ rfl rfl [] (by kernel_rfl) Z7.e;rintro ZH3 hS;refine r3 ?_;refine WC.Yj mixed (by kernel_rfl) ?_;refine r1 ?_;refine WX.wr (fun x=>x=b1) hS gN rfl (fun _ _ hR=>ZW Xf (Zv fh rfl) (At.eqv (hR b1 rfl) (hS.XP k2)) (j:=3) rfl (v:= .int .i64 p1.ZG) rfl) ?_ rfl rfl;rintro ZH2 ZMV hS;refine r1 ?_;refine WX.hu gN (Uf hS k0 Zw7 lk lk (vs:= [.bool false]) rfl rfl rfl rfl (cs':= [.int .i64 Ja.name,.bool false,.int .i64 Ja.from_,.int .i64 Ja.has,.int .i64 Ja.out,.bool Ja.use]) rfl) ?_ rfl rfl [1] (by kernel_rfl) (.c .z (hS.dj (.c k0 (.c k1 .n))) Z7.e);rintro ZH1 hS;refine WX.w gN rfl (Xm Zpp lk) ?_ (by kernel_rfl);refine WX.hu gN (Uf hS k0 YT lk lk (vs:= [.int .i64 p1.ZG]) rfl rfl rfl rfl (cs':= [.int .i64 Ja.name,.bool false,.int .i64 p1.ZG,.int .i64 Ja.has,.int .i64 Ja.out,.bool Ja.use]) rfl) ?_ rfl (by kernel_rfl) [] (by kernel_rfl) Z7.e;rintro ZH0 hS;refine WX.w gN rfl (Xm Zkj lk) ?_ (by kernel_rfl);refine WX.hu gN (Uf hS k0 YT lk lk (vs:= [.int .i64 16]) rfl rfl rfl rfl (cs':= [.int .i64 Ja.name,.bool false,.int .i64 p1.ZG,.int .i64 16,.int .i64 Ja.out,.bool Ja.use]) rfl) ?_ rfl (by kernel_rfl) [] (by kernel_rfl) Z7.e;rintro ZHZ hS;refine r3 ?_;refine WC.Yj mixed (by kernel_rfl) ?_;refine r6 ?_;refine WX.hu gN (Zbu (kv:=Zi) (vv:=Zn) (k:= (Ze.mk p1.at_ p1.name)) (v:= (Zb.mk Ja.name false p1.ZG 16 Ja.out Ja.use)) hS k4 YG JZ (Zv (ZP rfl fh) rfl) (Zv (Zf rfl fh) rfl) (Zv fh rfl)) ?_ rfl rfl [] (by kernel_rfl) Z7.e;rintro ZHY hS;refine r8 ?_;refine WO.w gN rfl (Y8 ZpK (Zj lk (Zj lk (Zj lk (Zj lk ZE)))) rfl (cs':= [.int .i64 3,.int .i64 p1.ZG,.int .i64 p1.name,.int .i64 0,.int .i64 16]) rfl) ?_;obtain⟨Zlr,ZCx,hL⟩:=bind_some hL;refine WO.cl gN rfl (YE.fn Zka (Zc lk (Zc lk Zk))) hS (.c k4 (.c k0 (.c k3 (.c k3 .n)))) (fun g' hz hf hO=>ZgC (by rw [hz];exact hS.hw) hO ZCx) ?_;rintro _ ZEw _ ⟨ZGv,a141,n142,c143,Zum,n145,c146,rfl,rfl⟩ hS;obtain rfl:=hS.on k2;obtain rfl:=hS.on k3;refine r2 ?_;exact YI.Yp _ hL ⟨_,_,ZGv,a141,c143,Zlr.notes.length,Zum,c146,Zlr.freed.length,rfl,hS.only (.c k1 (.c k1 (.c k1 (.c k0 .n)))),YH⟩
      ·intro hc hL;refine r1 ?_;refine WC.Yj mixed (by kernel_rfl) ?_;refine r6 ?_;obtain⟨WU,Zi7,hL⟩:=bind_some hL;obtain⟨ZNL,ZKL,_,Zzu,ZzG,ZHH⟩:=Src.at_ (hS.QZ k4) Zi7;refine WX.w gN rfl (ZU J2 Y2 lk lk rfl Zzu Zi7) ?_ rfl;refine WX.w gN rfl (YD Zcc Y2 (Zv fh rfl) ZzG (j:=0) rfl rfl (ws:= [.int .i64 WU.kind,.int .i64 WU.ZG,.int .i64 WU.name,.int .i64 WU.via,.int .i64 WU.w]) rfl) ?_ rfl;refine WX.hn gN rfl (ZdQ hS ZeG (vs:= [.int .i64 0,.int .i64 0,.int .i64 0,.int .i64 0,.int .i64 0]) rfl) ?_ rfl;rintro _ ZEv ⟨ZNK,ZJZ,rfl,hS⟩;refine WX.hu gN (Uf hS k0 Y2 lk lk (vs:= [.int .i64 WU.kind,.int .i64 WU.ZG,.int .i64 WU.name,.int .i64 WU.via,.int .i64 WU.w]) rfl rfl rfl rfl (cs':= [.int .i64 WU.kind,.int .i64 WU.ZG,.int .i64 WU.name,.int .i64 WU.via,.int .i64 WU.w]) rfl) ?_ rfl rfl [] (by kernel_rfl) Z7.e;rintro ZEu hS;refine r3 ?_;refine WC.Yj mixed (by kernel_rfl) ?_;refine r8 ?_;refine r2 ?_;obtain⟨ZuJ,ZCt,hL⟩:=bind_some hL;refine WX.cl gN rfl (YE.fn Zzk (Zc lk (Zc lk (Zc lk Zk)))) hS (.c k5 .n) (fun g' hz hf hO=>Zwm (by rw [hz];exact hS.hw) hO ZCt) ?_ rfl rfl [] (by kernel_rfl) Z7.e;rintro _ ZHW _ ⟨a156,n157,ZEV,rfl,rfl⟩ hS;obtain rfl:=hS.on k0;refine WX.w gN rfl (Zou lk) ?_ (by kernel_rfl);refine WX.w gN rfl (Xm Zki lk) ?_ (by kernel_rfl);refine WX.hu gN (Uf hS k4 Znk lk lk (vs:= [.slice a156 ZuJ.length ZEV]) rfl rfl rfl rfl (cs':= [.int .i64 p0.machines,.int .i64 p0.names,.map (some ZI),.slice a156 ZuJ.length ZEV,.slice Zz p0.freed.length Zy]) rfl) ?_ rfl (by kernel_rfl) [] (by kernel_rfl) Z7.e;rintro ZLJ hS;refine r4 ?_;refine r1 ?_;obtain⟨Zlq,ZCs,hL⟩:=bind_some hL;refine WO.cl gN rfl (YE.fn ZDb (Zc lk (Zc lk Zk))) hS (.c k0 (.c k4 (.c k0 (.c k3 .n)))) (fun g' hz hf hO=>ZAb (by rw [hz];exact hS.hw) hO ZCs) ?_;rintro _ ZLF _ ⟨ZGu,a164,n165,ZIC,a167,n168,ZIB,rfl,rfl⟩ hS;obtain rfl:=hS.on k2;obtain rfl:=hS.on k3;refine r2 ?_;exact YI.Yp _ hL ⟨_,_,ZGu,a164,ZIC,Zlq.notes.length,a167,ZIB,Zlq.freed.length,rfl,hS.only (.c k1 (.c k1 (.c k1 (.c k0 .n)))),YH⟩
 ·skip;replace hL:=ZoS hL;refine WO.ZIw gN (YE.fn ZsG (Zc lk (Zc lk Zk))) hS.hw hS (ZpB (Nat.le_refl _) (hS.XP k1) (.inl (hS.lt k1)) (hS.mrd k2) (hS.ord k3) (hS.ord k4) hx3) ?_;rintro ZLE hS;refine Qq.panic ?_;refine XM.ofX ?_;refine ZaI.Jc ?_;have hr:=Option.some.inj hL;subst hr;exact⟨rfl,hT ▸ hS.only .n⟩
end Go.Proofs.Ytekpjgmhkkjhgaa
end
end
section
namespace Go.Proofs.Ytekpjgmhkkjhgaa
open Go.Lf
def Zn9 (F:Nat) (p0:Store) (p1:Zm):Option ((Option Store)×Int):=
 (Ztf F p0).bind fun x7=>(Zte F x7 p1).bind fun x19=>prC x19 (fun e21=>some (none,e21)) (fun y20=>some ((some y20),0))
end Go.Proofs.Ytekpjgmhkkjhgaa
end
section
set_option maxRecDepth 20000
noncomputable section
namespace Go.Proofs.Ytekpjgmhkkjhgaa
open Go.Yq Go.Lf
theorem Zkv {F wm:Nat} {h:H} {p0:Store} {p1:Zm} {ZI:Option Nat} {Zt:Option Addr} {Zr:Nat} {Zz:Option Addr} {Zy Xh UA:Nat} {r:((Option Store)×Int)} (ZF:wm <=h.size) (YP:At h Xh UA [.int .i64 p0.machines,.int .i64 p0.names,.map ZI,.slice Zt p0.notes.length Zr,.slice Zz p0.freed.length Zy]) (YO:K7 wm h Xh) (Zx:Ul Zi Zn wm h ZI p0.cells) (Yf:Sl Zh wm h Zt Zr p0.notes) (Yh:Sl (ZL .i64) wm h Zz Zy p0.freed) (hL:Zn9 F p0 p1=some r):
 WR XX 57 #[.pointer (some ⟨Xh,UA,none⟩),.agg [.int .i64 p1.Xa,.int .i64 p1.at_,.int .i64 p1.name,.int .i64 p1.ZG].toArray] wm h (CP (fun(v:Value) (Gb:List (Ast wm))=>match r.1 with | some y=>∃ (rb0:Nat) (Zbw:Nat) (QH:Option Addr) (QF:Nat) (QG:Nat) (Jy:Option Addr) (Jq:Nat) (Ju:Nat),v= .tuple [.pointer (some ⟨rb0,0,none⟩),.int .i64 r.2].toArray∧Gb= [bx wm rb0 [.int .i64 y.machines,.int .i64 y.names,.map (some Zbw),.slice QH QF QG,.slice Jy Jq Ju],mp wm Zi Zn (some Zbw) y.cells,ow wm Zh QH QF QG y.notes,ow wm (ZL .i64) Jy Jq Ju y.freed] | none=>v= .tuple [.pointer none,.int .i64 r.2].toArray∧Gb= []) [] h):=by
 refine WF.ZfA (args:= [_,_]) (fn:=Try.f57) (by kernel_rfl) (by exact rfl) Try.ntmps57 (by simp) ?_;simp only [ZC,ZH,Nat.reduceAdd];obtain⟨T,hT,hS⟩:∃ T,T=Xv (wm:=wm) []∧Sp wm T h [] h:= ⟨_,rfl,Sp.start ZF ZQ.nil⟩
 unfold Zn9 at hL;refine r3 ?_;rintro _ h2 ⟨b1,eb1,rfl,hS⟩;refine r1 ?_;rintro _ h4 ⟨b3,eb3,rfl,hS⟩;refine r1 ?_;rintro _ h6 ⟨b5,eb5,rfl,hS⟩;refine r4 ?_;refine WO.w gN rfl (Zb8 (Zc lk (Zc lk Zk))) ?_;refine WO.dfr gN lk ?_;refine r4 ?_;refine r1 ?_;obtain⟨x7,hx7,hL⟩:=bind_some hL;refine WO.cl gN rfl (YE.fn ZCZ (Zc lk Zk)) hS .n (fun g' hz hf hO=>ZzV (by rw [hz];exact hS.hw) (At.fz hf (K7.fz hS.fz YP YO) (At.fz hS.fz YO YP)) (K7.fz hf (At.fz hS.fz YO YP) (K7.fz hS.fz YP YO)) ((hS.ms Zx).fz hf) ((hS.sl Yf).mono hf) ((hS.sl Yh).mono hf) hx7) ?_;rintro _ h16 _ ⟨b8,m9,a10,n11,c12,a13,n14,c15,rfl,rfl⟩ hS;obtain rfl:=hS.on k2;obtain rfl:=hS.on k3;refine r1 ?_;rintro h18 hS;refine r6 ?_;obtain⟨x19,ZnF,hL⟩:=bind_some hL;rcases x19 with y20 | e21
 ·skip;replace hL:=ZrS hL;refine WO.cl gN rfl (YE.fn Zxz (Zc lk (Zc lk Zk))) hS (.c k1 (.c k1 (.c k1 (.c k1 .n)))) (fun g' hz hf hO=>(PQ.ok (Ztd (by rw [hz];exact hS.hw) hO ZnF))) ?_;rintro _ h29 _ ⟨m22,a23,n24,c25,a26,n27,c28,rfl,rfl⟩ hS;obtain rfl:=hS.on k2;obtain rfl:=hS.on k3;refine r6 ?_;rintro h31 hS;refine r1 ?_;rintro h32 hS;refine r3 ?_;refine XM.ofP ?_;refine ZaI.dfn (cap:= [.pointer (some ⟨b3,0,none⟩),.pointer (some ⟨b5,0,none⟩)]) (fn2:=Try.f93) (by kernel_rfl) (by exact rfl) Try.ntmps93 (by simp) rfl ?_;simp only [ZC,ZH,Nat.reduceAdd];refine DC.seq ?_;refine DC.rec .ret (Tr.set (Tr.set (Tr.set (Tr.set (Tr.set (Tr.set (Tr.set (Tr.set (Tr.set .nil 0 (.pointer (some ⟨b3,0,none⟩))) 1 (.pointer (some ⟨b5,0,none⟩))) 5 (.nilIface)) 6 (.tuple [.int .i64 0,.bool false].toArray)) 4 (.tuple [.int .i64 0,.bool false].toArray)) 7 (.int .i64 0)) 8 (.bool false)) 2 (.int .i64 0)) 3 (.bool false)) (by exact rfl) rfl ?_;refine⟨rfl,?_⟩;refine DC.seq ?_;refine DC.rgn rfl ?_;refine r3 ?_;refine⟨rfl,?_⟩;refine DC.ZtN lk rfl ?_;refine DC.skip ?_;refine⟨rfl,rfl,?_⟩;refine ZaI.ofL ?_ rfl;have hr:=Option.some.inj hL;subst hr;exact XM.gen rfl (ZK (ZM rfl fh) (Ke Zuc (hS.XP k1) (j:=0) rfl (v:= .pointer (some ⟨b8,0,none⟩)) rfl) (ZK (Yc rfl (ZP rfl (Zf rfl fh))) (Ke Zue (hS.XP k0) (j:=0) rfl (v:= .int .i64 0) rfl) Zl)) rfl ⟨_,⟨b8,m22,a23,y20.notes.length,c25,a26,y20.freed.length,c28,rfl,rfl⟩,hT ▸ hS.only (.c k2 (.c k2 (.c k2 (.c k2 .n))))⟩
 ·skip;replace hL:=ZoS hL;refine WO.clX gN (YE.fn Zxz (Zc lk (Zc lk Zk))) hS (.c k1 (.c k1 (.c k1 (.c k1 .n)))) (fun g' hz hf hO=>Ztd (by rw [hz];exact hS.hw) hO ZnF) ?_;rintro h33 hS;refine Qq.panic ?_;refine XM.ofX ?_;refine ZaI.dfn (cap:= [.pointer (some ⟨b3,0,none⟩),.pointer (some ⟨b5,0,none⟩)]) (fn2:=Try.f93) (by kernel_rfl) (by exact rfl) Try.ntmps93 (by simp) rfl ?_;simp only [ZC,ZH,Nat.reduceAdd];refine DC.seq ?_;refine DC.rec (.rcv (pv 32 e21)) (Tr.set (Tr.set (Tr.set (Tr.set (Tr.set (Tr.set (Tr.set (Tr.set (Tr.set .nil 0 (.pointer (some ⟨b3,0,none⟩))) 1 (.pointer (some ⟨b5,0,none⟩))) 5 (.iface 32 (.int .i64 e21))) 6 (.tuple [.int .i64 e21,.bool true].toArray)) 4 (.tuple [.int .i64 e21,.bool true].toArray)) 7 (.int .i64 e21)) 8 (.bool true)) 2 (.int .i64 e21)) 3 (.bool true)) (by exact rfl) rfl ?_;refine⟨rfl,?_⟩;refine DC.seq ?_;refine DC.rgn rfl ?_;refine r3 ?_;refine⟨rfl,?_⟩;refine DC.ZtM lk rfl ?_;refine DC.rgn rfl ?_;refine r3 ?_;rintro h34 hS;refine r1 ?_;rintro h35 hS;refine r1 ?_;refine⟨rfl,rfl,?_⟩;refine ZaI.ofL ?_ rfl;have hr:=Option.some.inj hL;subst hr;exact XM.gen rfl (ZK (Yc rfl (ZP rfl fh)) (Ke Zuc (hS.XP k1) (j:=0) rfl (v:= .pointer none) rfl) (ZK (Yc rfl (Zf rfl fh)) (Ke Zue (hS.XP k0) (j:=0) rfl (v:= .int .i64 e21) rfl) Zl)) rfl ⟨_,⟨rfl,rfl⟩,hT ▸ hS.only .n⟩
end Go.Proofs.Ytekpjgmhkkjhgaa
end
end
section
namespace Go.Proofs.Ytekpjgmhkkjhgaa
open Go.Lf
def ZqK (F:Nat) (p0:Za) (p1:Zm):Option (Za×Int):=
 (ZqF F p0).bind fun x7=>(gd (!(!x7)) (Zoa p1 (p0.cells.length:Int)) default).bind fun x8=>(bif((!x7) || (!x8)) then some ((Za.mk [] [] 0 []),2) else(ZhJ F p0).bind fun x10=>(Zn9 F x10 p1).bind fun x21=>opt x21.1 ((bif(x21.2 !=0) then some ((Za.mk [] [] 0 []),x21.2) else none)) (fun y22=>(bif(x21.2 !=0) then some ((Za.mk [] [] 0 []),x21.2) else(ZhP F y22).bind fun x44=>some (x44,0))))
def ZhR (F:Nat) (p1:(List Zm)):Store×Int ->(Store×Int ->Option (Za×Int×Int)) ->Option (Za×Int×Int):=fun(v28,v39) Zr5=>
 (bif decide (v39 < (p1.length:Int)) then(Yb p1 v39).bind fun x42=>(Zn9 F v28 x42).bind fun x48=>opt x48.1 ((bif(x48.2 !=0) then(ZhP F v28).bind fun x56=>some (x56,v39,x48.2) else none)) (fun y49=>(bif(x48.2 !=0) then(ZhP F v28).bind fun x82=>some (x82,v39,x48.2) else Zr5 (y49,ZV (v39 + 1)))) else(ZhP F v28).bind fun x95=>some (x95,(p1.length:Int),0))
def Kz (F:Nat) (p0:Za) (p1:(List Zm)):Int ->Option (Za×Int×Int):=fun v10=>
 (bif decide (v10 >=0) then some ((Za.mk [] [] 0 []),0,2) else(ZhJ F p0).bind fun Uy=>loop F (ZhR F p1) (Uy,0))
def Zfl (F:Nat) (p0:Za) (p1:(List Zm)):Int ->(Int ->Option (Za×Int×Int)) ->Option (Za×Int×Int):=fun Znc Zo0=>
 (bif decide (Znc < (p1.length:Int)) then(Yb p1 Znc).bind fun ZjG=>(Zoa ZjG (p0.cells.length:Int)).bind fun ZBC=>(bif(!ZBC) then(Kz F p0 p1) Znc else Zo0 (ZV (Znc + 1))) else(Kz F p0 p1) (-1))
def Zof (F:Nat) (p0:Za) (p1:(List Zm)):Option (Za×Int×Int):=
 (bif decide ((p1.length:Int) > 200) then some ((Za.mk [] [] 0 []),0,3) else(ZqF F p0).bind fun x6=>(bif(!(!x6)) then loop F (Zfl F p0 p1) 0 else some ((Za.mk [] [] 0 []),0,2)))
def Zfk (v40:Int) (ZbH:(Int×(List Qm)×(List Qm)×(List (List Zb))×(List Zd)×Int×(List Int) ->Option (Za×Model×Bool))):(List Qm)×(List Qm)×(List (List Zb))×(List Zd)×Int×(List Int) ->Option (Za×Model×Bool):=fun(v74,v78,v82,v87,v91,v92)=>
 ZbH (ZV (v40 + 1),v74,v78,v82,v87,v91,v92)
def Zod (F:Nat) (z28:(List Zah)):Int×(List Qm)×(List Qm)×(List (List Zb))×(List Zd)×Int×(List Int) ->(Int×(List Qm)×(List Qm)×(List (List Zb))×(List Zd)×Int×(List Int) ->Option (Za×Model×Bool)) ->Option (Za×Model×Bool):=fun(v40,v42,v46,v50,v55,v59,v60) ZbH=>
 (bif decide (v40 < (z28.length:Int)) then(Yb z28 v40).bind fun x96=>(ZqG x96 (v50.length:Int) v59 (v55.length:Int)).bind fun x102=>(bif(!x102.2) then(Zfk v40 ZbH) (v42,v46,v50,v55,v59,v60) else(ZqK F (Za.mk v50 v55 v59 v60) x102.1).bind fun JR=>(bif(JR.2==7) then(gd ((x102.1.Xa !=4) && (!((x102.1.Xa !=2) && (x102.1.Xa !=3)))) (ZqH F v42 (Qm.mk x102.1.at_ x102.1.name)) default).bind fun ZBB=>(bif((x102.1.Xa !=4) && (((x102.1.Xa !=2) && (x102.1.Xa !=3)) || ZBB)) then some ((Za.mk v50 v55 v59 v60),(Model.mk v42 v46),false) else(Zfk v40 ZbH) (v42,v46,v50,v55,v59,v60)) else(bif(((JR.2==3) && (x102.1.Xa !=5)) && ((v55.length:Int)==80)) then(Zfk v40 ZbH) (v42,v46,v50,v55,v59,v60) else(bif((JR.2 !=0) || ((JR.1.cells.length:Int) != (v50.length:Int))) then some ((Za.mk v50 v55 v59 v60),(Model.mk v42 v46),false) else(ZAl F (Model.mk v42 v46) (Za.mk v50 v55 v59 v60) x102.1).bind fun ZaL=>(ZAg F ZaL JR.1).bind fun WU=>(bif(!WU) then some (JR.1,ZaL,false) else(Zfk v40 ZbH) (ZaL.uses,ZaL.ways,JR.1.cells,JR.1.notes,JR.1.names,JR.1.freed)))))) else some ((Za.mk v50 v55 v59 v60),(Model.mk v42 v46),true))
def ZqI (F:Nat) (p0:Int) (p1:(List Zah)):Option (Za×Model×Bool):=
 (ZdS (ZV p0) 6).bind fun x7=>(ZtC F (ZV (1 + x7))).bind fun x8=>(gd (!(x8.2 !=0)) (ZdS (ZV p0) 6) default).bind fun x23=>(bif((x8.2 !=0) || ((x8.1.cells.length:Int) != (ZV (1 + x23)))) then some (x8.1,(Model.mk [] []),false) else(slL p1 0 (if 120 < (p1.length:Int) then 120 else(p1.length:Int))).bind fun z28=>loop F (Zod F z28) (0,[],[],x8.1.cells,x8.1.notes,x8.1.names,x8.1.freed))
end Go.Proofs.Ytekpjgmhkkjhgaa
end
section
set_option maxRecDepth 20000
noncomputable section
namespace Go.Proofs.Ytekpjgmhkkjhgaa
open Go.Yq Go.Lf
theorem ZtB {F wm:Nat} {h:H} {p0:Za} {p1:Zm} {Zp:Option Addr} {Zo:Nat} {Zt:Option Addr} {Zr:Nat} {Zz:Option Addr} {Zy:Nat} {r:(Za×Int)} (ZF:wm <=h.size) (Zx:Sl (rSl Zq) wm h Zp Zo p0.cells) (Yf:Sl Zh wm h Zt Zr p0.notes) (Yh:Sl (ZL .i64) wm h Zz Zy p0.freed) (hL:ZqK F p0 p1=some r):
 WR XX 17 #[.agg [.slice Zp p0.cells.length Zo,.slice Zt p0.notes.length Zr,.int .i64 p0.names,.slice Zz p0.freed.length Zy].toArray,.agg [.int .i64 p1.Xa,.int .i64 p1.at_,.int .i64 p1.name,.int .i64 p1.ZG].toArray] wm h (CP (fun(v:Value) (Gb:List (Ast wm))=>∃ (Xe:Option Addr) (Xc:Nat) (Xd:Nat) (WV:Nat ->Option Addr×Nat×Nat) (QH:Option Addr) (QF:Nat) (QG:Nat) (Jy:Option Addr) (Jq:Nat) (Ju:Nat),v= .tuple [.agg [.slice Xe Xc Xd,.slice QH QF QG,.int .i64 r.1.names,.slice Jy Jq Ju].toArray,.int .i64 r.2].toArray∧Gb= [nst wm (YM Zq) Xe Xc Xd WV r.1.cells,ow wm Zh QH QF QG r.1.notes,ow wm (ZL .i64) Jy Jq Ju r.1.freed]) [] h):=by
 refine bg Try.ntmps17 ZF ZQ.nil ?_;intro T hT hS;unfold ZqK at hL;refine r3 ?_;rintro _ h2 ⟨b1,eb1,rfl,hS⟩;refine r1 ?_;rintro _ h4 ⟨b3,eb3,rfl,hS⟩;refine r1 ?_;rintro _ h6 ⟨b5,eb5,rfl,hS⟩;refine r6 ?_;refine r1 ?_;obtain⟨x7,hx7,hL⟩:=bind_some hL;refine WO.cp gN rfl (YE.fn ZxF (Zc lk Zk)) (WR.Qa rfl (Ztq (Nat.le_refl _) (hS.slu Zx) (hS.slu Yf) (hS.slu Yh) hx7)) ?_;refine r6 ?_;obtain⟨x8,hx8,hL⟩:=Y4 hL;refine WO.gcp (Zg.no rfl rfl rfl (Yc rfl fh)) rfl (fun hg=>(YE.fn ZxE (Zc (Xq (ZP rfl (Zf rfl fh)) rfl hg) (Zc (Xq fh rfl hg) Zk)))) (fun hg=>Ztp (hx8 hg)) ?_;refine r4 ?_;refine cn hL ?_ ?_
 ·intro hc hL;refine r2 ?_;refine WO.w gN rfl (Y8 Zf6 ZE rfl (cs':= [.slice none 0 0,.slice none 0 0,.int .i64 0,.slice none 0 0]) rfl) ?_;refine r1 ?_;rintro h9 hS;refine r4 ?_;refine r1 ?_;have hS:=hS.Znt (e:= (YM Zq)) (ps:=fun _=>(YM Zq).dflt);have hS:=hS.nil (e:=Zh);have hS:=hS.nil (e:= (ZL .i64));have hr:=Option.some.inj hL;subst hr;exact ZN.gen (vs:= [.agg [.slice none 0 0,.slice none 0 0,.int .i64 0,.slice none 0 0].toArray,.int .i64 2]) rfl (ZK (ZM rfl (Yc rfl (ZP rfl fh))) (ZT Ua YZ (hS.XP k3) (j:=0) rfl rfl (ws:= [.slice none 0 0,.slice none 0 0,.int .i64 0,.slice none 0 0]) rfl) (Zu lk Zl)) rfl ⟨_,⟨none,0,0,(fun _=>(YM Zq).dflt),none,0,0,none,0,0,rfl,rfl⟩,hT ▸ hS.only (.c k2 (.c k1 (.c k0 .n)))⟩
 ·intro hc hL;refine r3 ?_;refine WC.Yj mixed (by kernel_rfl) ?_;refine r1 ?_;obtain⟨x10,ZGX,hL⟩:=bind_some hL;refine WX.cl0 gN rfl (YE.fn Zpe (Zc lk Zk)) hS .n (fun g' hz hf hO=>Zkw (by rw [hz];exact hS.hw) ((hS.sl Zx).mono hf) ((hS.sl Yf).mono hf) ((hS.sl Yh).mono hf) ZGX) ?_ rfl rfl;rintro _ h19 _ ⟨b11,m12,a13,n14,c15,a16,n17,c18,rfl,rfl⟩ hS;obtain rfl:=hS.on k2;obtain rfl:=hS.on k3;refine r1 ?_;obtain⟨x21,ZnE,hL⟩:=bind_some hL;rcases ZvB:x21.1 with _ | y22
  ·skip;rw [ZvB] at hL;replace hL:=ZlR hL;refine WX.clR gN rfl (YE.fn Zpd (Zc lk (Zc lk Zk))) hS.hw (Zkv (Nat.le_refl _) (hS.XP k0) (.inl (hS.lt k0)) (hS.mrd k1) (hS.ord k2) (hS.ord k3) ZnE) ?_ rfl rfl;rintro v26 h24 ZOa ZDM ZHC;rw [ZvB] at ZDM;obtain⟨rfl,rfl⟩:=ZDM;have hS:=hS.clR ZHC .n;refine Q6 ?_;refine r2 ?_;refine cn hL ?_ ?_
   ·intro hc hL;refine r2 ?_;refine WO.w gN rfl (Y8 Zf6 ZE rfl (cs':= [.slice none 0 0,.slice none 0 0,.int .i64 0,.slice none 0 0]) rfl) ?_;refine r2 ?_;rintro h29 hS;refine r4 ?_;refine r1 ?_;have hS:=hS.Znt (e:= (YM Zq)) (ps:=fun _=>(YM Zq).dflt);have hS:=hS.nil (e:=Zh);have hS:=hS.nil (e:= (ZL .i64));have hr:=Option.some.inj hL;subst hr;exact ZN.gen (vs:= [.agg [.slice none 0 0,.slice none 0 0,.int .i64 0,.slice none 0 0].toArray,.int .i64 x21.2]) rfl (ZK (ZM rfl (ZM rfl (ZM rfl (ZP rfl fh)))) (ZT Ua YZ (hS.XP k3) (j:=0) rfl rfl (ws:= [.slice none 0 0,.slice none 0 0,.int .i64 0,.slice none 0 0]) rfl) (Zu lk Zl)) rfl ⟨_,⟨none,0,0,(fun _=>(YM Zq).dflt),none,0,0,none,0,0,rfl,rfl⟩,hT ▸ hS.only (.c k2 (.c k1 (.c k0 .n)))⟩
   ·intro hc hL;cases hL
  ·skip;rw [ZvB] at hL;replace hL:=ZlQ hL;refine WX.clR gN rfl (YE.fn Zpd (Zc lk (Zc lk Zk))) hS.hw (Zkv (Nat.le_refl _) (hS.XP k0) (.inl (hS.lt k0)) (hS.mrd k1) (hS.ord k2) (hS.ord k3) ZnE) ?_ rfl rfl;rintro v40 h38 ZN9 ZDL ZHz;rw [ZvB] at ZDL;obtain⟨b30,m31,a32,n33,c34,a35,n36,c37,rfl,rfl⟩:=ZDL;have hS:=hS.clR ZHz (.c (cvB hS.hw) (.c (cvM hS.hw) (.c (cvO (fun _ _ _ _=>trivial) hS.hw) (.c (cvO (fun _ _ _ _=>trivial) hS.hw) .n))));obtain rfl:=hS.on k2;obtain rfl:=hS.on k3;refine Q6 ?_;refine r2 ?_;refine cn hL ?_ ?_
   ·intro hc hL;refine r2 ?_;refine WO.w gN rfl (Y8 Zf6 ZE rfl (cs':= [.slice none 0 0,.slice none 0 0,.int .i64 0,.slice none 0 0]) rfl) ?_;refine r2 ?_;rintro h43 hS;refine r4 ?_;refine r1 ?_;have hS:=hS.Znt (e:= (YM Zq)) (ps:=fun _=>(YM Zq).dflt);have hS:=hS.nil (e:=Zh);have hS:=hS.nil (e:= (ZL .i64));have hr:=Option.some.inj hL;subst hr;exact ZN.gen (vs:= [.agg [.slice none 0 0,.slice none 0 0,.int .i64 0,.slice none 0 0].toArray,.int .i64 x21.2]) rfl (ZK (ZM rfl (ZM rfl (ZM rfl (ZP rfl fh)))) (ZT Ua YZ (hS.XP k3) (j:=0) rfl rfl (ws:= [.slice none 0 0,.slice none 0 0,.int .i64 0,.slice none 0 0]) rfl) (Zu lk Zl)) rfl ⟨_,⟨none,0,0,(fun _=>(YM Zq).dflt),none,0,0,none,0,0,rfl,rfl⟩,hT ▸ hS.only (.c k2 (.c k1 (.c k0 .n)))⟩
   ·intro hc hL;refine r4 ?_;refine r1 ?_;obtain⟨x44,Zvd,hL⟩:=bind_some hL;refine WO.clR gN rfl (YE.fn Zjc (Zc lk Zk)) hS.hw (Zff (Nat.le_refl _) (hS.XP k0) (.inl (hS.lt k0)) (hS.mrd k1) (hS.ord k2) (hS.ord k3) Zvd) ?_;rintro _ h54 _ ⟨a45,n46,c47,ZBX,a48,n49,c50,a51,n52,c53,rfl,rfl⟩ ZHx;have hS:=hS.clR ZHx (.c (cvN (fun _ _ _ _=>trivial) hS.hw) (.c (cvO (fun _ _ _ _=>trivial) hS.hw) (.c (cvO (fun _ _ _ _=>trivial) hS.hw) .n)));obtain rfl:=hS.ZcN k0;obtain rfl:=hS.on k1;obtain rfl:=hS.on k2;refine r1 ?_;rintro h56 hS;refine r4 ?_;have hr:=Option.some.inj hL;subst hr;exact ZN.gen (vs:= [.agg [.slice a45 x44.cells.length c47,.slice a48 x44.notes.length c50,.int .i64 x44.names,.slice a51 x44.freed.length c53].toArray,.int .i64 0]) rfl (ZK (ZM rfl (ZM rfl (ZM rfl (ZP rfl fh)))) (ZT Ua YZ (hS.XP k0) (j:=0) rfl rfl (ws:= [.slice a45 x44.cells.length c47,.slice a48 x44.notes.length c50,.int .i64 x44.names,.slice a51 x44.freed.length c53]) rfl) (Zu lk Zl)) rfl ⟨_,⟨a45,x44.cells.length,c47,ZBX,a48,x44.notes.length,c50,a51,x44.freed.length,c53,rfl,rfl⟩,hT ▸ hS.only (.c k1 (.c k1 (.c k1 .n)))⟩
theorem Zoe {F wm:Nat} {h:H} {p0:Za} {p1:(List Zm)} {Zp:Option Addr} {Zo:Nat} {Zt:Option Addr} {Zr:Nat} {Zz:Option Addr} {Zy:Nat} {Z0:Option Addr} {ZY:Nat} {r:(Za×Int×Int)} (ZF:wm <=h.size) (Zx:Sl (rSl Zq) wm h Zp Zo p0.cells) (Yf:Sl Zh wm h Zt Zr p0.notes) (Yh:Sl (ZL .i64) wm h Zz Zy p0.freed) (YJ:Sl Xk wm h Z0 ZY p1) (hL:Zof F p0 p1=some r):
 WR XX 21 #[.agg [.slice Zp p0.cells.length Zo,.slice Zt p0.notes.length Zr,.int .i64 p0.names,.slice Zz p0.freed.length Zy].toArray,.slice Z0 p1.length ZY] wm h (CP (fun(v:Value) (Gb:List (Ast wm))=>∃ (Xe:Option Addr) (Xc:Nat) (Xd:Nat) (WV:Nat ->Option Addr×Nat×Nat) (QH:Option Addr) (QF:Nat) (QG:Nat) (Jy:Option Addr) (Jq:Nat) (Ju:Nat),v= .tuple [.agg [.slice Xe Xc Xd,.slice QH QF QG,.int .i64 r.1.names,.slice Jy Jq Ju].toArray,.int .i64 r.2.1,.int .i64 r.2.2].toArray∧Gb= [nst wm (YM Zq) Xe Xc Xd WV r.1.cells,ow wm Zh QH QF QG r.1.notes,ow wm (ZL .i64) Jy Jq Ju r.1.freed]) [] h):=by
 refine bg Try.ntmps21 ZF ZQ.nil ?_;intro T hT hS;unfold Zof at hL;refine r3 ?_;rintro _ h2 ⟨b1,eb1,rfl,hS⟩;refine r1 ?_;rintro _ h4 ⟨b3,eb3,rfl,hS⟩;refine Q6 ?_;refine cn hL ?_ ?_
 ·intro hc hL;refine r2 ?_;refine WO.w gN rfl (Y8 Zf6 ZE rfl (cs':= [.slice none 0 0,.slice none 0 0,.int .i64 0,.slice none 0 0]) rfl) ?_;refine r1 ?_;rintro h5 hS;refine r6 ?_;have hS:=hS.Znt (e:= (YM Zq)) (ps:=fun _=>(YM Zq).dflt);have hS:=hS.nil (e:=Zh);have hS:=hS.nil (e:= (ZL .i64));have hr:=Option.some.inj hL;subst hr;exact ZN.gen (vs:= [.agg [.slice none 0 0,.slice none 0 0,.int .i64 0,.slice none 0 0].toArray,.int .i64 0,.int .i64 3]) rfl (ZK (ZM rfl fh) (ZT Ua YZ (hS.XP k3) (j:=0) rfl rfl (ws:= [.slice none 0 0,.slice none 0 0,.int .i64 0,.slice none 0 0]) rfl) (Zu lk (Zu lk Zl))) rfl ⟨_,⟨none,0,0,(fun _=>(YM Zq).dflt),none,0,0,none,0,0,rfl,rfl⟩,hT ▸ hS.only (.c k2 (.c k1 (.c k0 .n)))⟩
 ·intro hc hL;refine r6 ?_;obtain⟨x6,hx6,hL⟩:=bind_some hL;refine WO.cp gN rfl (YE.fn ZxF (Zc lk Zk)) (WR.Qa rfl (Ztq (Nat.le_refl _) (hS.slu Zx) (hS.slu Yf) (hS.slu Yh) hx6)) ?_;refine r3 ?_;refine WO.Zhw (Zg.no rfl rfl rfl (Zf rfl fh)) (fun hk7=>?_) (fun hk7=>?_)
  ·replace hL:=UL hk7 hL;refine WO.w (Zg.on (Zg.no rfl rfl rfl (Zf rfl fh)) hk7) rfl (Zb8 (Zc lk Zk)) ?_;refine WO.inl (Zg.on (Zg.no rfl rfl rfl (ZP rfl fh)) hk7) rfl (YE.fn ZDd (Zc (Xq (Zf rfl fh) rfl hk7) (Zc lk Zk))) (WF.begin (args:= [_,_]) (fn:=Try.f63) (by kernel_rfl) (by exact rfl) Try.ntmps63 (by simp) ?_);simp only [ZC,ZH,Nat.reduceAdd];refine r8 ?_;refine r1 ?_;refine WO.ZlY (r:=r) (fun(v10:Int) (v:Value) (h8:H)=>v= .int .i64 v10∧Sp wm T h [bx wm b1 [.slice Zp p0.cells.length Zo,.slice Zt p0.notes.length Zr,.int .i64 p0.names,.slice Zz p0.freed.length Zy],bx wm b3 [.slice none 0 0,.slice none 0 0,.int .i64 0,.slice none 0 0]] h8) (Kz F p0 p1) gN rfl (YE.fn Zzq (Zc lk (Zc lk Zk))) ?_ (WF.begin (args:= [_,_]) (fn:=Try.f102) (by kernel_rfl) (by exact rfl) Try.ntmps102 (by simp) ?_)
   ·clear hL hS;rintro v10 v h8 hL ⟨rfl,hS⟩;dsimp only [Kz] at hL;refine r4 ?_;refine r1 ?_;refine ZN.X7 rfl (Zu lk Zl) ?_;refine WO.w gN rfl (Zh6 lk (ZyE hk7) lk) ?_;refine r2 ?_;refine cn hL ?_ ?_
    ·intro hc hL;refine r2 ?_;refine WO.w gN rfl (Y8 Zf6 ZE rfl (cs':= [.slice none 0 0,.slice none 0 0,.int .i64 0,.slice none 0 0]) rfl) ?_;refine r1 ?_;rintro h11 hS;refine r6 ?_;have hS:=hS.Znt (e:= (YM Zq)) (ps:=fun _=>(YM Zq).dflt);have hS:=hS.nil (e:=Zh);have hS:=hS.nil (e:= (ZL .i64));have hr:=Option.some.inj hL;subst hr;exact ZN.gen (vs:= [.agg [.slice none 0 0,.slice none 0 0,.int .i64 0,.slice none 0 0].toArray,.int .i64 0,.int .i64 2]) rfl (ZK (ZM rfl (ZM rfl fh)) (ZT Ua YZ (hS.XP k3) (j:=0) rfl rfl (ws:= [.slice none 0 0,.slice none 0 0,.int .i64 0,.slice none 0 0]) rfl) (Zu lk (Zu lk Zl))) rfl ⟨_,⟨none,0,0,(fun _=>(YM Zq).dflt),none,0,0,none,0,0,rfl,rfl⟩,hT ▸ hS.only (.c k2 (.c k1 (.c k0 .n)))⟩
    ·intro hc hL;refine r4 ?_;refine r1 ?_;obtain⟨Uy,Zbj,hL⟩:=bind_some hL;refine WO.cl gN rfl (YE.fn Zpe (Zc lk Zk)) hS .n (fun g' hz hf hO=>Zkw (by rw [hz];exact hS.hw) ((hS.sl Zx).mono hf) ((hS.sl Yf).mono hf) ((hS.sl Yh).mono hf) Zbj) ?_;rintro _ h21 _ ⟨b13,m14,a15,n16,c17,a18,n19,c20,rfl,rfl⟩ hS;obtain rfl:=hS.on k2;obtain rfl:=hS.on k3;refine Q6 ?_;refine WC.loop (WL.lift hL (fun(p:Store×Int) (s:Fs)=>match p with | (v28,v39)=>∃ (ZcR:Fr) (h23:H) (b27:Nat) (m29:Nat) (a30:Option Addr) (c31:Nat) (n32:Nat) (a33:Option Addr) (c34:Nat) (n35:Nat),s= ⟨ZcR,[],h23,none⟩∧Sp wm T h [mp wm Zi Zn (some m29) v28.cells,ow wm Zh a30 n32 c31 v28.notes,ow wm (ZL .i64) a33 n35 c34 v28.freed,bx wm b27 [.int .i64 v28.machines,.int .i64 v28.names,.map (some m29),.slice a30 n32 c31,.slice a33 n35 c34],bx wm b3 [.slice none 0 0,.slice none 0 0,.int .i64 0,.slice none 0 0]] h23∧ZcR.at 1= .slice Z0 p1.length ZY∧ZcR.at 4= .pointer (some ⟨b3,0,none⟩)∧ZcR.at 7= .pointer (some ⟨b27,0,none⟩)∧ZcR.at 27= .slice Z0 p1.length ZY∧ZcR.at 28= .int .i64 (p1.length:Int)∧ZcR.at 29= .int .i64 v39) ⟨_,_,b13,m14,a15,c17,Uy.notes.length,a18,c20,Uy.freed.length,rfl,hS.only (.c k1 (.c k1 (.c k1 (.c k0 (.c k1 .n))))),YH⟩ ?_);clear hL hS;rintro Zr5 ⟨v28,v39⟩ s Zvt hL ⟨ZcR,h23,b27,m29,a30,c31,n32,a33,c34,n35,rfl,hS,e25,e26,e36,e37,e38,e40⟩;obtain rfl:=hS.on k1;obtain rfl:=hS.on k2;dsimp only [ZhR] at hL;refine r6 ?_;refine cn hL ?_ ?_
     ·intro hc hL;refine r6 ?_;refine r1 ?_;obtain⟨x42,ZCm,hL⟩:=bind_some hL;obtain⟨b43,o44,_,ZDu,ZEf,ZDZ,ZJx⟩:=Sl.at_ YJ ZCm;refine WO.w gN rfl (ZU ZcW JS lk lk rfl ZDu ZCm) ?_;refine WO.w gN rfl (YD Zex JS (Zv fh rfl) (At.fz hS.fz ZDZ ZEf) (j:=0) rfl rfl (ws:= [.int .i64 x42.Xa,.int .i64 x42.at_,.int .i64 x42.name,.int .i64 x42.ZG]) rfl) ?_;refine r1 ?_;rintro _ h46 ⟨b45,ZMr,rfl,hS⟩;refine r2 ?_;rintro h47 hS;refine r6 ?_;obtain⟨x48,ZCk,hL⟩:=bind_some hL;rcases ZvA:x48.1 with _ | y49
      ·skip;rw [ZvA] at hL;replace hL:=ZlR hL;refine WO.clR gN rfl (YE.fn Zpd (Zc lk (Zc lk Zk))) hS.hw (Zkv (Nat.le_refl _) (hS.XP k4) (.inl (hS.lt k4)) (hS.mrd k1) (hS.ord k2) (hS.ord k3) ZCk) ?_;rintro v53 h51 ZN8 ZDK ZHy;rw [ZvA] at ZDK;obtain⟨rfl,rfl⟩:=ZDK;have hS:=hS.clR ZHy .n;refine Q6 ?_;refine r2 ?_;refine cn hL ?_ ?_
       ·intro hc hL;refine r3 ?_;obtain⟨x56,ZGQ,hL⟩:=bind_some hL;refine WO.clR gN rfl (YE.fn Zjc (Zc lk Zk)) hS.hw (Zff (Nat.le_refl _) (hS.XP k4) (.inl (hS.lt k4)) (hS.mrd k1) (hS.ord k2) (hS.ord k3) ZGQ) ?_;rintro _ h66 _ ⟨a57,n58,c59,ZBW,a60,n61,c62,a63,n64,c65,rfl,rfl⟩ ZHv;have hS:=hS.clR ZHv (.c (cvN (fun _ _ _ _=>trivial) hS.hw) (.c (cvO (fun _ _ _ _=>trivial) hS.hw) (.c (cvO (fun _ _ _ _=>trivial) hS.hw) .n)));obtain rfl:=hS.ZcN k0;obtain rfl:=hS.on k1;obtain rfl:=hS.on k2;refine r3 ?_;rintro h68 hS;refine r8 ?_;refine r3 ?_;have hr:=Option.some.inj hL;subst hr;exact ZN.gen (vs:= [.agg [.slice a57 x56.cells.length c59,.slice a60 x56.notes.length c62,.int .i64 x56.names,.slice a63 x56.freed.length c65].toArray,.int .i64 v39,.int .i64 x48.2]) rfl (ZK (ZM rfl (ZM rfl (Yc rfl (ZP rfl e26)))) (ZT Ua YZ (hS.XP k0) (j:=0) rfl rfl (ws:= [.slice a57 x56.cells.length c59,.slice a60 x56.notes.length c62,.int .i64 x56.names,.slice a63 x56.freed.length c65]) rfl) (Zu lk (Zu lk Zl))) rfl ⟨_,⟨a57,x56.cells.length,c59,ZBW,a60,x56.notes.length,c62,a63,x56.freed.length,c65,rfl,rfl⟩,hT ▸ hS.only (.c k1 (.c k1 (.c k1 .n)))⟩
       ·intro hc hL;cases hL
      ·skip;rw [ZvA] at hL;replace hL:=ZlQ hL;refine WO.clR gN rfl (YE.fn Zpd (Zc lk (Zc lk Zk))) hS.hw (Zkv (Nat.le_refl _) (hS.XP k4) (.inl (hS.lt k4)) (hS.mrd k1) (hS.ord k2) (hS.ord k3) ZCk) ?_;rintro v79 h77 ZN7 ZDJ ZHu;rw [ZvA] at ZDJ;obtain⟨b69,m70,a71,n72,c73,a74,n75,c76,rfl,rfl⟩:=ZDJ;have hS:=hS.clR ZHu (.c (cvB hS.hw) (.c (cvM hS.hw) (.c (cvO (fun _ _ _ _=>trivial) hS.hw) (.c (cvO (fun _ _ _ _=>trivial) hS.hw) .n))));obtain rfl:=hS.on k2;obtain rfl:=hS.on k3;refine Q6 ?_;refine r2 ?_;refine cn hL ?_ ?_
       ·intro hc hL;refine r3 ?_;obtain⟨x82,ZGK,hL⟩:=bind_some hL;refine WO.clR gN rfl (YE.fn Zjc (Zc lk Zk)) hS.hw (Zff (Nat.le_refl _) (hS.XP k8) (.inl (hS.lt k8)) (hS.mrd k5) (hS.ord k6) (hS.ord k7) ZGK) ?_;rintro _ h92 _ ⟨a83,n84,c85,ZBV,a86,n87,c88,a89,n90,c91,rfl,rfl⟩ ZHt;have hS:=hS.clR ZHt (.c (cvN (fun _ _ _ _=>trivial) hS.hw) (.c (cvO (fun _ _ _ _=>trivial) hS.hw) (.c (cvO (fun _ _ _ _=>trivial) hS.hw) .n)));obtain rfl:=hS.ZcN k0;obtain rfl:=hS.on k1;obtain rfl:=hS.on k2;refine r3 ?_;rintro h94 hS;refine r8 ?_;refine r3 ?_;have hr:=Option.some.inj hL;subst hr;exact ZN.gen (vs:= [.agg [.slice a83 x82.cells.length c85,.slice a86 x82.notes.length c88,.int .i64 x82.names,.slice a89 x82.freed.length c91].toArray,.int .i64 v39,.int .i64 x48.2]) rfl (ZK (ZM rfl (ZM rfl (Yc rfl (ZP rfl e26)))) (ZT Ua YZ (hS.XP k0) (j:=0) rfl rfl (ws:= [.slice a83 x82.cells.length c85,.slice a86 x82.notes.length c88,.int .i64 x82.names,.slice a89 x82.freed.length c91]) rfl) (Zu lk (Zu lk Zl))) rfl ⟨_,⟨a83,x82.cells.length,c85,ZBV,a86,x82.notes.length,c88,a89,x82.freed.length,c91,rfl,rfl⟩,hT ▸ hS.only (.c k1 (.c k1 (.c k1 .n)))⟩
       ·intro hc hL;refine Q6 ?_;exact Yo.Yp (Zvt _ _ hL ⟨_,_,b69,m70,a71,c73,y49.notes.length,a74,c76,y49.freed.length,rfl,hS.only (.c k1 (.c k1 (.c k1 (.c k0 (.c k5 .n))))),YH⟩)
     ·intro hc hL;refine r8 ?_;obtain⟨x95,hx95,hL⟩:=bind_some hL;refine WO.clR gN rfl (YE.fn Zjc (Zc lk Zk)) hS.hw (Zff (Nat.le_refl _) (hS.XP k3) (.inl (hS.lt k3)) (hS.mrd k0) (hS.ord k1) (hS.ord k2) hx95) ?_;rintro _ ZL4 _ ⟨a96,n97,c98,ZBT,a99,n100,ZAJ,ZAV,n103,ZAI,rfl,rfl⟩ ZDI;have hS:=hS.clR ZDI (.c (cvN (fun _ _ _ _=>trivial) hS.hw) (.c (cvO (fun _ _ _ _=>trivial) hS.hw) (.c (cvO (fun _ _ _ _=>trivial) hS.hw) .n)));obtain rfl:=hS.ZcN k0;obtain rfl:=hS.on k1;obtain rfl:=hS.on k2;refine r3 ?_;rintro ZEy hS;refine r4 ?_;refine r1 ?_;have hr:=Option.some.inj hL;subst hr;exact ZN.gen (vs:= [.agg [.slice a96 x95.cells.length c98,.slice a99 x95.notes.length ZAJ,.int .i64 x95.names,.slice ZAV x95.freed.length ZAI].toArray,.int .i64 (p1.length:Int),.int .i64 0]) rfl (ZK (Yc rfl (ZP rfl (Zf rfl e26))) (ZT Ua YZ (hS.XP k0) (j:=0) rfl rfl (ws:= [.slice a96 x95.cells.length c98,.slice a99 x95.notes.length ZAJ,.int .i64 x95.names,.slice ZAV x95.freed.length ZAI]) rfl) (Zu lk (Zu lk Zl))) rfl ⟨_,⟨a96,x95.cells.length,c98,ZBT,a99,x95.notes.length,ZAJ,ZAV,x95.freed.length,ZAI,rfl,rfl⟩,hT ▸ hS.only (.c k1 (.c k1 (.c k1 .n)))⟩
   ·skip;simp only [ZC,ZH,Nat.reduceAdd];refine Q6 ?_;refine r2 ?_;refine WC.loop (WL.lift hL (fun(Znc:Int) (s:Fs)=>∃ (Zjh:Fr) (ZvJ:H),s= ⟨Zjh,[],ZvJ,none⟩∧Sp wm T h [bx wm b1 [.slice Zp p0.cells.length Zo,.slice Zt p0.notes.length Zr,.int .i64 p0.names,.slice Zz p0.freed.length Zy],bx wm b3 [.slice none 0 0,.slice none 0 0,.int .i64 0,.slice none 0 0]] ZvJ∧Zjh.at 0= .slice Z0 p1.length ZY∧Zjh.at 1= .func (.func 64) #[] [.pointer (some ⟨b1,0,none⟩)].toArray∧Zjh.at 7= .int .i64 (p1.length:Int)∧Zjh.at 8= .int .i64 Znc) ⟨_,_,rfl,hS.only (.c k1 (.c k0 .n)),YH⟩ ?_);clear hL hS;rintro Zo0 Znc s Zst hL ⟨Zjh,ZvJ,rfl,hS,ZM2,ZM1,ZM0,ZMZ⟩;dsimp only [Zfl] at hL;refine r6 ?_;refine cn hL ?_ ?_
    ·intro hc hL;refine Q6 ?_;refine r3 ?_;obtain⟨ZjG,Zo7,hL⟩:=bind_some hL;obtain⟨ZNU,ZKP,_,Zzx,ZzJ,ZzB,ZHK⟩:=Sl.at_ YJ Zo7;refine WO.w gN rfl (ZU ZcW JS lk lk rfl Zzx Zo7) ?_;refine WO.w gN rfl (YD Zex JS (Zv fh rfl) (At.fz hS.fz ZzB ZzJ) (j:=0) rfl rfl (ws:= [.int .i64 ZjG.Xa,.int .i64 ZjG.at_,.int .i64 ZjG.name,.int .i64 ZjG.ZG]) rfl) ?_;refine WO.inl gN rfl (YE.clo (first:= []) (cap:= [.pointer (some ⟨b1,0,none⟩)]) lk ZDc lks rfl) (WF.begin (args:= [_,_]) (fn:=Try.f64) (by kernel_rfl) (by exact rfl) Try.ntmps64 (by simp) ?_);simp only [ZC,ZH,Nat.reduceAdd];refine r3 ?_;rintro _ ZH7 ⟨ZNT,ZJ5,rfl,hS⟩;refine r8 ?_;refine r1 ?_;obtain⟨ZBC,ZCC,hL⟩:=bind_some hL;refine WO.cp gN rfl (YE.fn ZxE (Zc lk (Zc lk Zk))) (Ztp ZCC) ?_;refine r4 ?_;refine r1 ?_;refine ZN.X7 rfl (Zu lk Zl) ?_;refine r2 ?_;refine cn hL ?_ ?_
     ·intro hc hL;refine Q6 ?_;exact ZN.X7 rfl (Zu lk Zl) ⟨_,hL,⟨rfl,hS.only (.c k1 (.c k1 .n))⟩⟩
     ·intro hc hL;refine r6 ?_;refine r1 ?_;exact Yo.Yp (Zst _ _ hL ⟨_,_,rfl,hS.only (.c k1 (.c k1 .n)),YH⟩)
    ·intro hc hL;refine r8 ?_;refine r3 ?_;exact ZN.X7 rfl (Zu lk Zl) ⟨_,hL,⟨rfl,hS.only (.c k0 (.c k0 .n))⟩⟩
  ·replace hL:=UM hk7 hL;refine WO.Zir (Zg.no rfl rfl rfl (Zf rfl fh)) hk7 rfl ?_;refine WO.Zir (Zg.no rfl rfl rfl (ZP rfl fh)) hk7 rfl ?_;refine WO.w gN rfl (Zh5 lk (ZyF hk7) lk) ?_;refine r2 ?_;refine WC.Zft lk rfl ?_;refine r2 ?_;refine WO.w gN rfl (Y8 Zf6 ZE rfl (cs':= [.slice none 0 0,.slice none 0 0,.int .i64 0,.slice none 0 0]) rfl) ?_;refine r1 ?_;rintro h122 hS;refine r6 ?_;have hS:=hS.Znt (e:= (YM Zq)) (ps:=fun _=>(YM Zq).dflt);have hS:=hS.nil (e:=Zh);have hS:=hS.nil (e:= (ZL .i64));have hr:=Option.some.inj hL;subst hr;exact ZN.gen (vs:= [.agg [.slice none 0 0,.slice none 0 0,.int .i64 0,.slice none 0 0].toArray,.int .i64 0,.int .i64 2]) rfl (ZK (ZM rfl (ZM rfl fh)) (ZT Ua YZ (hS.XP k3) (j:=0) rfl rfl (ws:= [.slice none 0 0,.slice none 0 0,.int .i64 0,.slice none 0 0]) rfl) (Zu lk (Zu lk Zl))) rfl ⟨_,⟨none,0,0,(fun _=>(YM Zq).dflt),none,0,0,none,0,0,rfl,rfl⟩,hT ▸ hS.only (.c k2 (.c k1 (.c k0 .n)))⟩
theorem ZAm {F wm:Nat} {h:H} {p0:Int} {p1:(List Zah)} {Z0:Option Addr} {ZY:Nat} {r:(Za×Model×Bool)} (ZF:wm <=h.size) (YJ:Sl ZrP wm h Z0 ZY p1) (hL:ZqI F p0 p1=some r):
 WR XX 38 #[.int .u8 p0,.slice Z0 p1.length ZY] wm h (CP (fun(v:Value) (Gb:List (Ast wm))=>∃ (Xe:Option Addr) (Xc:Nat) (Xd:Nat) (WV:Nat ->Option Addr×Nat×Nat) (QH:Option Addr) (QF:Nat) (QG:Nat) (Jy:Option Addr) (Jq:Nat) (Ju:Nat) (Zxh:Option Addr) (Zxb:Nat) (Zxe:Nat) (Zxg:Option Addr) (Zxa:Nat) (Zxd:Nat),v= .tuple [.agg [.slice Xe Xc Xd,.slice QH QF QG,.int .i64 r.1.names,.slice Jy Jq Ju].toArray,.agg [.slice Zxh Zxb Zxe,.slice Zxg Zxa Zxd].toArray,.bool r.2.2].toArray∧Gb= [nst wm (YM Zq) Xe Xc Xd WV r.1.cells,ow wm Zh QH QF QG r.1.notes,ow wm (ZL .i64) Jy Jq Ju r.1.freed,ow wm YB Zxh Zxb Zxe r.2.1.uses,ow wm YB Zxg Zxa Zxd r.2.1.ways]) [] h):=by
 refine bg Try.ntmps38 ZF ZQ.nil ?_;intro T hT hS;unfold ZqI at hL;refine r3 ?_;rintro _ h2 ⟨b1,eb1,rfl,hS⟩;refine r1 ?_;rintro _ h4 ⟨b3,eb3,rfl,hS⟩;refine r6 ?_;rintro _ h6 ⟨b5,eb5,rfl,hS⟩;refine r4 ?_;refine r1 ?_;refine WO.w gN rfl (Zb9 Znd Zlz lk) ?_;obtain⟨x7,hx7,hL⟩:=bind_some hL;refine WO.w gN rfl (Z8 (Zv fh rfl) (Jh rfl) (JO hx7)) ?_;refine r1 ?_;obtain⟨x8,hx8,hL⟩:=bind_some hL;refine WO.cl gN rfl (YE.fn ZDk (Zc lk Zk)) hS .n (fun g' hz hf hO=>ZAp (by rw [hz];exact hS.hw) hx8) ?_;rintro _ h18 _ ⟨a9,n10,c11,ZBU,a12,n13,c14,a15,n16,c17,rfl,rfl⟩ hS;obtain rfl:=hS.ZcN k0;obtain rfl:=hS.on k1;obtain rfl:=hS.on k2;refine r4 ?_;rintro _ h21 ⟨b20,ZMz,rfl,hS⟩;refine r1 ?_;rintro h22 hS;refine Q6 ?_;refine r1 ?_;refine WO.gv (Zg.no rfl rfl rfl (Yc rfl fh)) rfl (fun hg=>(Zb9 Znd Zlz (Xq fh rfl hg))) ?_;obtain⟨x23,Zve,hL⟩:=Y4 hL;refine WO.gv (Zg.no rfl rfl rfl (Yc rfl (Zf rfl fh))) rfl (fun hg=>(Z8 (Xq fh rfl hg) (Jh rfl) (JO (Zve hg)))) ?_;refine r4 ?_;refine r1 ?_;refine cn hL ?_ ?_
 ·intro hc hL;refine r1 ?_;refine WC.Yj mixed (by kernel_rfl) ?_;refine r1 ?_;refine WX.wr (fun x=>x=b5) hS gN rfl (fun _ _ hR=>YD ZaG Jb (Zv (ZM rfl (ZM rfl (Yc rfl (ZP rfl (Zf rfl fh))))) rfl) (At.eqv (hR b5 rfl) (hS.XP k4)) (j:=0) rfl rfl (ws:= [.slice none 0 0,.slice none 0 0]) rfl) ?_ rfl rfl;rintro h24 e25 hS;refine WX.hu gN (Uf hS k6 YZ lk lk (vs:= [.slice a9 x8.1.cells.length c11,.slice a12 x8.1.notes.length c14,.int .i64 x8.1.names,.slice a15 x8.1.freed.length c17]) rfl rfl rfl rfl (cs':= [.slice a9 x8.1.cells.length c11,.slice a12 x8.1.notes.length c14,.int .i64 x8.1.names,.slice a15 x8.1.freed.length c17]) rfl) ?_ rfl rfl [1] (by kernel_rfl) (.c .z (hS.dj (.c k6 (.c k4 .n))) Z7.e);rintro h26 hS;refine WX.hu gN (Uf hS k6 Jb lk lk (vs:= [.slice none 0 0,.slice none 0 0]) rfl rfl rfl rfl (cs':= [.slice none 0 0,.slice none 0 0]) rfl) ?_ rfl (by kernel_rfl) [] (by kernel_rfl) Z7.e;rintro h27 hS;refine WX.w gN rfl (ZR lk) ?_ (by kernel_rfl);refine r4 ?_;have hS:=hS.nil (e:=YB);have hS:=hS.nil (e:=YB);have hr:=Option.some.inj hL;subst hr;exact ZN.gen (vs:= [.agg [.slice a9 x8.1.cells.length c11,.slice a12 x8.1.notes.length c14,.int .i64 x8.1.names,.slice a15 x8.1.freed.length c17].toArray,.agg [.slice none 0 0,.slice none 0 0].toArray,.bool false]) rfl (ZK (ZM rfl (ZM rfl (ZM rfl (Yc rfl fh)))) (ZT Ua YZ (hS.XP k3) (j:=0) rfl rfl (ws:= [.slice a9 x8.1.cells.length c11,.slice a12 x8.1.notes.length c14,.int .i64 x8.1.names,.slice a15 x8.1.freed.length c17]) rfl) (ZK (ZM rfl (ZM rfl (ZM rfl (ZP rfl (Zf rfl fh))))) (ZT ZaG Jb (hS.XP k2) (j:=0) rfl rfl (ws:= [.slice none 0 0,.slice none 0 0]) rfl) (Zu lk Zl))) rfl ⟨_,⟨a9,x8.1.cells.length,c11,ZBU,a12,x8.1.notes.length,c14,a15,x8.1.freed.length,c17,none,0,0,none,0,0,rfl,rfl⟩,hT ▸ hS.only (.c k5 (.c k5 (.c k5 (.c k1 (.c k0 .n)))))⟩
 ·intro hc hL;refine r8 ?_;refine WO.w gN rfl (ZtZ lk lk) ?_;obtain⟨z28,ZGF,hL⟩:=bind_some hL;refine WO.he gN rfl (Znl (hS.sl YJ) rfl Zly Zdc (Zv (ZP rfl (Zf rfl fh)) rfl) (Zv fh rfl) ZGF) ?_;rintro _ ⟨a29,c30,rfl,hv31⟩;have ZCL:=hv31.sl YJ;refine r4 ?_;refine r1 ?_;have hS:=hS.nil (e:=YB);have hS:=hS.nil (e:=YB);refine WC.loop (WL.lift hL (fun(p:Int×(List Qm)×(List Qm)×(List (List Zb))×(List Zd)×Int×(List Int)) (s:Fs)=>match p with | (v40,v42,v46,v50,v55,v59,v60)=>∃ (ZbT:Fr) (h32:H) (a43:Option Addr) (c44:Nat) (n45:Nat) (a47:Option Addr) (c48:Nat) (n49:Nat) (a51:Option Addr) (c52:Nat) (n53:Nat) (ZlN:Nat ->Option Addr×Nat×Nat) (a56:Option Addr) (c57:Nat) (n58:Nat) (a61:Option Addr) (c62:Nat) (n63:Nat),s= ⟨ZbT,[],h32,none⟩∧Sp wm T h [bx wm b1 [.slice none 0 0,.slice none 0 0,.int .i64 0,.slice none 0 0],bx wm b3 [.slice none 0 0,.slice none 0 0],ow wm YB a43 n45 c44 v42,ow wm YB a47 n49 c48 v46,bx wm b5 [.slice a43 n45 c44,.slice a47 n49 c48],nst wm (YM Zq) a51 n53 c52 ZlN v50,ow wm Zh a56 n58 c57 v55,ow wm (ZL .i64) a61 n63 c62 v60,bx wm b20 [.slice a51 n53 c52,.slice a56 n58 c57,.int .i64 v59,.slice a61 n63 c62]] h32∧ZbT.at 4= .pointer (some ⟨b1,0,none⟩)∧ZbT.at 5= .pointer (some ⟨b3,0,none⟩)∧ZbT.at 7= .pointer (some ⟨b5,0,none⟩)∧ZbT.at 8= .pointer (some ⟨b20,0,none⟩)∧ZbT.at 42= .slice a29 z28.length c30∧ZbT.at 43= .int .i64 (z28.length:Int)∧ZbT.at 44= .int .i64 v40) ⟨_,_,none,0,0,none,0,0,a9,c11,x8.1.cells.length,ZBU,a12,c14,x8.1.notes.length,a15,c17,x8.1.freed.length,rfl,hS.only (.c k8 (.c k7 (.c k0 (.c k0 (.c k4 (.c k1 (.c k1 (.c k1 (.c k0 .n))))))))),YH⟩ ?_);clear hL hS;rintro ZbH ⟨v40,v42,v46,v50,v55,v59,v60⟩ s Zvo hL ⟨ZbT,h32,a43,c44,n45,a47,c48,n49,a51,c52,n53,ZlN,a56,c57,n58,a61,c62,n63,rfl,hS,e34,e35,e36,e37,e38,e39,e41⟩;obtain rfl:=hS.on k2;obtain rfl:=hS.on k3;obtain rfl:=hS.ZcN k5;obtain rfl:=hS.on k6;obtain rfl:=hS.on k7;dsimp only [Zod] at hL;refine r6 ?_;refine cn hL ?_ ?_
  ·intro hc hL;refine r2 ?_;refine WC.Zaj (r:=r) (fun(p:(List Qm)×(List Qm)×(List (List Zb))×(List Zd)×Int×(List Int)) (s:Fs)=>match p with | (v74,v78,v82,v87,v91,v92)=>∃ (Zke:Fr) (h65:H) (a75:Option Addr) (c76:Nat) (n77:Nat) (a79:Option Addr) (c80:Nat) (n81:Nat) (a83:Option Addr) (c84:Nat) (n85:Nat) (ZyA:Nat ->Option Addr×Nat×Nat) (a88:Option Addr) (c89:Nat) (n90:Nat) (a93:Option Addr) (c94:Nat) (n95:Nat),s= ⟨Zke,[],h65,none⟩∧Sp wm T h [bx wm b1 [.slice none 0 0,.slice none 0 0,.int .i64 0,.slice none 0 0],bx wm b3 [.slice none 0 0,.slice none 0 0],ow wm YB a75 n77 c76 v74,ow wm YB a79 n81 c80 v78,bx wm b5 [.slice a75 n77 c76,.slice a79 n81 c80],nst wm (YM Zq) a83 n85 c84 ZyA v82,ow wm Zh a88 n90 c89 v87,ow wm (ZL .i64) a93 n95 c94 v92,bx wm b20 [.slice a83 n85 c84,.slice a88 n90 c89,.int .i64 v91,.slice a93 n95 c94]] h65∧Zke.at 4= .pointer (some ⟨b1,0,none⟩)∧Zke.at 5= .pointer (some ⟨b3,0,none⟩)∧Zke.at 7= .pointer (some ⟨b5,0,none⟩)∧Zke.at 8= .pointer (some ⟨b20,0,none⟩)∧Zke.at 42= .slice a29 z28.length c30∧Zke.at 43= .int .i64 (z28.length:Int)∧Zke.at 44= .int .i64 v40) (Zfk v40 ZbH) ?_ ?_
   ·clear hL hS;rintro⟨v74,v78,v82,v87,v91,v92⟩ s hL ⟨Zke,h65,a75,c76,n77,a79,c80,n81,a83,c84,n85,ZyA,a88,c89,n90,a93,c94,n95,rfl,hS,e67,e68,e69,e70,e71,e72,e73⟩;obtain rfl:=hS.on k2;obtain rfl:=hS.on k3;obtain rfl:=hS.ZcN k5;obtain rfl:=hS.on k6;obtain rfl:=hS.on k7;dsimp only [Zfk] at hL;refine r4 ?_;exact Yo.Yp (Zvo _ _ hL ⟨_,_,a75,c76,v74.length,a79,c80,v78.length,a83,c84,v82.length,ZyA,a88,c89,v87.length,a93,c94,v92.length,rfl,hS.only (.c k0 (.c k0 (.c k0 (.c k0 (.c k0 (.c k0 (.c k0 (.c k0 (.c k0 .n))))))))),YH⟩)
   ·skip;refine r3 ?_;obtain⟨x96,hx96,hL⟩:=bind_some hL;obtain⟨b97,o98,_,ZDn,ZD6,ZDV,ZJq⟩:=Sl.at_ ZCL hx96;refine WO.w gN rfl (ZU Zly Zdc lk lk rfl ZDn hx96) ?_;refine WO.w gN rfl (YD Zud Zdc (Zv fh rfl) (At.fz hS.fz ZDV ZD6) (j:=0) rfl rfl (ws:= [.int .u8 x96.Xa,.int .u8 x96.at_,.int .u8 x96.name,.int .u8 x96.ZG]) rfl) ?_;refine r1 ?_;rintro _ ZEz ⟨b99,ZIh,rfl,hS⟩;refine r1 ?_;rintro ZzP hS;refine Q6 ?_;refine r1 ?_;obtain⟨x102,hx102,hL⟩:=bind_some hL;refine WO.cl gN rfl (YE.fn ZxH (Zc lk (Zc lk (Zc lk (Zc lk Zk))))) hS .n (fun g' hz hf hO=>Zts (by rw [hz];exact hS.hw) hx102) ?_;rintro _ ZL6 _ ⟨rfl,rfl⟩ hS;refine r4 ?_;rintro _ ZH8 ⟨ZE4,ZJ9,rfl,hS⟩;refine r1 ?_;rintro ZEy hS;refine r8 ?_;refine r2 ?_;refine cn hL ?_ ?_
    ·intro hc hL;refine r3 ?_;exact YI.Yp _ hL ⟨_,_,a43,c44,v42.length,a47,c48,v46.length,a51,c52,v50.length,ZlN,a56,c57,v55.length,a61,c62,v60.length,rfl,hS.only (.c k2 (.c k2 (.c k2 (.c k2 (.c k2 (.c k2 (.c k2 (.c k2 (.c k2 .n))))))))),YH⟩
    ·intro hc hL;refine r6 ?_;obtain⟨JR,ZCE,hL⟩:=bind_some hL;refine WO.clR gN rfl (YE.fn ZxI (Zc lk (Zc lk Zk))) hS.hw (ZtB (Nat.le_refl _) (hS.nrd k7 ZeW) (hS.ord k8) (hS.ord k9) ZCE) ?_;rintro _ ZEx _ ⟨a109,n110,ZmO,ZrR,Zrh,n113,ZqV,Zrg,n116,c117,rfl,rfl⟩ ZDH;have hS:=hS.clR ZDH (.c (cvN (fun _ _ _ _=>trivial) hS.hw) (.c (cvO (fun _ _ _ _=>trivial) hS.hw) (.c (cvO (fun _ _ _ _=>trivial) hS.hw) .n)));obtain rfl:=hS.ZcN k0;obtain rfl:=hS.on k1;obtain rfl:=hS.on k2;refine r4 ?_;rintro _ ZH6 ⟨ZIN,ZEK,rfl,hS⟩;refine r1 ?_;rintro h122 hS;refine r8 ?_;refine r2 ?_;refine cn hL ?_ ?_
     ·intro hc hL;refine Q6 ?_;refine r2 ?_;refine WO.gv (Zg.yes rfl rfl rfl (Yc rfl (ZP rfl (Zf rfl fh)))) rfl (fun hg=>(QC (Xq (ZP rfl (Zf rfl fh)) rfl hg) (Zms fh hg) lk)) ?_;refine r6 ?_;refine r1 ?_;refine WO.gv (Zg.no2 rfl rfl rfl (Yc rfl (ZP rfl fh))) rfl (fun hg=>(Y8 Zjv (Zj (Xq (ZP rfl fh) rfl hg) (Zj (Xq fh rfl hg) ZE)) rfl (cs':= [.int .i64 x102.1.at_,.int .i64 x102.1.name]) rfl)) ?_;obtain⟨ZBB,ZCB,hL⟩:=Y4 hL;refine WO.gcp (Zg.no2 rfl rfl rfl (Yc rfl (ZP rfl (Zf rfl fh)))) rfl (fun hg=>(YE.fn ZsB (Zc (Xq (Yc rfl (Zf rfl fh)) rfl hg) (Zc (Xq fh rfl hg) Zk)))) (fun hg=>Zoc (hS.ord k8) (ZCB hg)) ?_;refine WO.gv (Zg.yes rfl rfl rfl (ZM rfl (ZM rfl (Zf rfl fh)))) rfl (fun hg=>(Zx3 (Xq (ZM rfl fh) rfl hg) lk (Zms fh hg))) ?_;refine r3 ?_;refine cn hL ?_ ?_
      ·intro hc hL;refine r1 ?_;refine WC.Yj mixed (by kernel_rfl) ?_;refine r1 ?_;refine WX.wr (fun x=>x=b5) hS gN rfl (fun _ _ hR=>YD ZaG Jb (Zv (ZM rfl (ZM rfl (ZM rfl (ZM rfl (ZM rfl (ZM rfl (Yc rfl (ZP rfl (Zf rfl e36))))))))) rfl) (At.eqv (hR b5 rfl) (hS.XP k10)) (j:=0) rfl rfl (ws:= [.slice a43 v42.length c44,.slice a47 v46.length c48]) rfl) ?_ rfl rfl;rintro ZLX e125 hS;refine WX.hu gN (Uf hS k6 YZ lk lk (vs:= [.slice a51 v50.length c52,.slice a56 v55.length c57,.int .i64 v59,.slice a61 v60.length c62]) rfl rfl rfl rfl (cs':= [.slice a51 v50.length c52,.slice a56 v55.length c57,.int .i64 v59,.slice a61 v60.length c62]) rfl) ?_ rfl rfl [1] (by kernel_rfl) (.c .z (hS.dj (.c k6 (.c k9 .n))) Z7.e);rintro ZvH hS;refine WX.hu gN (Uf hS k7 Jb lk lk (vs:= [.slice a43 v42.length c44,.slice a47 v46.length c48]) rfl rfl rfl rfl (cs':= [.slice a43 v42.length c44,.slice a47 v46.length c48]) rfl) ?_ rfl (by kernel_rfl) [] (by kernel_rfl) Z7.e;rintro h127 hS;refine WX.w gN rfl (ZR lk) ?_ (by kernel_rfl);refine r6 ?_;refine YI.ret ?_;refine r3 ?_;have hr:=Option.some.inj hL;subst hr;exact ZN.gen (vs:= [.agg [.slice a51 v50.length c52,.slice a56 v55.length c57,.int .i64 v59,.slice a61 v60.length c62].toArray,.agg [.slice a43 v42.length c44,.slice a47 v46.length c48].toArray,.bool false]) rfl (ZK (ZM rfl (ZM rfl (ZM rfl (ZM rfl (ZM rfl (ZM rfl (ZM rfl (Zf rfl e34)))))))) (ZT Ua YZ (hS.XP k1) (j:=0) rfl rfl (ws:= [.slice a51 v50.length c52,.slice a56 v55.length c57,.int .i64 v59,.slice a61 v60.length c62]) rfl) (ZK (ZM rfl (ZM rfl (ZM rfl (ZM rfl (ZM rfl (ZM rfl (ZM rfl (Zf rfl e35)))))))) (ZT ZaG Jb (hS.XP k0) (j:=0) rfl rfl (ws:= [.slice a43 v42.length c44,.slice a47 v46.length c48]) rfl) (Zu lk Zl))) rfl ⟨_,⟨a51,v50.length,c52,ZlN,a56,v55.length,c57,a61,v60.length,c62,a43,v42.length,c44,a47,v46.length,c48,rfl,rfl⟩,hT ▸ hS.only (.c k11 (.c k11 (.c k11 (.c k8 (.c k8 .n)))))⟩
      ·intro hc hL;refine r4 ?_;refine r1 ?_;exact YI.Yp _ hL ⟨_,_,a43,c44,v42.length,a47,c48,v46.length,a51,c52,v50.length,ZlN,a56,c57,v55.length,a61,c62,v60.length,rfl,hS.only (.c k6 (.c k6 (.c k6 (.c k6 (.c k6 (.c k6 (.c k6 (.c k6 (.c k6 .n))))))))),YH⟩
     ·intro hc hL;refine r16 ?_;refine r4 ?_;refine cn hL ?_ ?_
      ·intro hc hL;refine r3 ?_;exact YI.Yp _ hL ⟨_,_,a43,c44,v42.length,a47,c48,v46.length,a51,c52,v50.length,ZlN,a56,c57,v55.length,a61,c62,v60.length,rfl,hS.only (.c k6 (.c k6 (.c k6 (.c k6 (.c k6 (.c k6 (.c k6 (.c k6 (.c k6 .n))))))))),YH⟩
      ·intro hc hL;refine r16 ?_;refine r2 ?_;refine cn hL ?_ ?_
       ·intro hc hL;refine r1 ?_;refine WC.Yj mixed (by kernel_rfl) ?_;refine r1 ?_;refine WX.wr (fun x=>x=b5) hS gN rfl (fun _ _ hR=>YD ZaG Jb (Zv (ZM rfl (ZM rfl (ZM rfl (ZM rfl (ZM rfl (ZM rfl (ZM rfl e36))))))) rfl) (At.eqv (hR b5 rfl) (hS.XP k10)) (j:=0) rfl rfl (ws:= [.slice a43 v42.length c44,.slice a47 v46.length c48]) rfl) ?_ rfl rfl;rintro h128 e129 hS;refine WX.hu gN (Uf hS k6 YZ (Zv (ZM rfl (ZM rfl (ZM rfl (ZM rfl (ZM rfl (ZM rfl (ZM rfl (Zf rfl e34)))))))) rfl) lk (vs:= [.slice a51 v50.length c52,.slice a56 v55.length c57,.int .i64 v59,.slice a61 v60.length c62]) rfl rfl rfl rfl (cs':= [.slice a51 v50.length c52,.slice a56 v55.length c57,.int .i64 v59,.slice a61 v60.length c62]) rfl) ?_ rfl rfl [1] (by kernel_rfl) (.c .z (hS.dj (.c k6 (.c k9 .n))) Z7.e);rintro ZLV hS;refine WX.hu gN (Uf hS k7 Jb (Zv (ZM rfl (ZM rfl (ZM rfl (ZM rfl (ZM rfl (ZM rfl (ZM rfl (Zf rfl e35)))))))) rfl) lk (vs:= [.slice a43 v42.length c44,.slice a47 v46.length c48]) rfl rfl rfl rfl (cs':= [.slice a43 v42.length c44,.slice a47 v46.length c48]) rfl) ?_ rfl (by kernel_rfl) [] (by kernel_rfl) Z7.e;rintro ZH4 hS;refine WX.w gN rfl (ZR lk) ?_ (by kernel_rfl);refine r4 ?_;refine r1 ?_;refine YI.ret ?_;refine r3 ?_;have hr:=Option.some.inj hL;subst hr;exact ZN.gen (vs:= [.agg [.slice a51 v50.length c52,.slice a56 v55.length c57,.int .i64 v59,.slice a61 v60.length c62].toArray,.agg [.slice a43 v42.length c44,.slice a47 v46.length c48].toArray,.bool false]) rfl (ZK (ZM rfl (ZM rfl (ZM rfl (ZM rfl (ZM rfl (ZM rfl (ZM rfl (ZP rfl e34)))))))) (ZT Ua YZ (hS.XP k1) (j:=0) rfl rfl (ws:= [.slice a51 v50.length c52,.slice a56 v55.length c57,.int .i64 v59,.slice a61 v60.length c62]) rfl) (ZK (ZM rfl (ZM rfl (ZM rfl (ZM rfl (ZM rfl (ZM rfl (ZM rfl (ZP rfl e35)))))))) (ZT ZaG Jb (hS.XP k0) (j:=0) rfl rfl (ws:= [.slice a43 v42.length c44,.slice a47 v46.length c48]) rfl) (Zu lk Zl))) rfl ⟨_,⟨a51,v50.length,c52,ZlN,a56,v55.length,c57,a61,v60.length,c62,a43,v42.length,c44,a47,v46.length,c48,rfl,rfl⟩,hT ▸ hS.only (.c k11 (.c k11 (.c k11 (.c k8 (.c k8 .n)))))⟩
       ·intro hc hL;refine r6 ?_;refine r1 ?_;obtain⟨ZaL,ZCy,hL⟩:=bind_some hL;refine WO.ZzQ hS k11 ?_;rintro ZH2 ⟨ZJj,hS⟩;refine WO.fzn hS k12 ?_;rintro ZH1 ⟨ZJi,hS⟩;refine WO.fzn hS k13 ?_;rintro ZHZ ⟨ZJh,hS⟩;refine WO.cl gN rfl (YE.fn ZDh (Zc lk (Zc lk (Zc lk Zk)))) hS (.c k11 (.c k11 .n)) (fun g' hz hf hO=>ZAk (by rw [hz];exact hS.hw) ((hS.fsl k2).mono hf) ((hS.fsl k1).mono hf) ((hS.fsl k0).mono hf) hO ZCy) ?_;rintro _ ZLR _ ⟨a139,n140,c141,ZoH,n143,Zot,rfl,rfl⟩ hS;simp only [List.cons_append,List.nil_append] at hS;obtain rfl:=hS.on k0;obtain rfl:=hS.on k1;refine r1 ?_;rintro ZEw hS;refine r6 ?_;rintro ZLQ hS;refine r6 ?_;obtain⟨WU,Zi7,hL⟩:=bind_some hL;refine WO.cp gN rfl (YE.fn ZDf (Zc lk (Zc lk Zk))) (WR.Qa rfl (ZAf (Nat.le_refl _) (hS.ord k2) (hS.ord k3) (hS.nrd k8 ZeW) (hS.ord k9) (hS.ord k10) Zi7)) ?_;refine r3 ?_;refine cn hL ?_ ?_
        ·intro hc hL;refine r1 ?_;refine WC.Yj mixed (by kernel_rfl) ?_;refine r1 ?_;refine WX.wr (fun x=>x=b5) hS gN rfl (fun _ _ hR=>YD ZaG Jb (Zv (ZM rfl (ZM rfl (ZM rfl (ZM rfl (ZM rfl (ZM rfl (ZM rfl (ZM rfl (Zf rfl e36))))))))) rfl) (At.eqv (hR b5 rfl) (hS.XP k1)) (j:=0) rfl rfl (ws:= [.slice a139 ZaL.uses.length c141,.slice ZoH ZaL.ways.length Zot]) rfl) ?_ rfl rfl;rintro ZHX ZMR hS;refine WX.hu gN (Uf hS k13 YZ (Zv (ZM rfl (ZM rfl (ZM rfl (ZM rfl (ZM rfl (ZM rfl (ZM rfl (ZM rfl (ZP rfl e34))))))))) rfl) lk (vs:= [.slice a109 JR.1.cells.length ZmO,.slice Zrh JR.1.notes.length ZqV,.int .i64 JR.1.names,.slice Zrg JR.1.freed.length c117]) rfl rfl rfl rfl (cs':= [.slice a109 JR.1.cells.length ZmO,.slice Zrh JR.1.notes.length ZqV,.int .i64 JR.1.names,.slice Zrg JR.1.freed.length c117]) rfl) ?_ rfl rfl [1] (by kernel_rfl) (.c .z (hS.dj (.c k13 (.c k1 .n))) Z7.e);rintro ZLO hS;refine WX.hu gN (Uf hS k14 Jb (Zv (ZM rfl (ZM rfl (ZM rfl (ZM rfl (ZM rfl (ZM rfl (ZM rfl (ZM rfl (ZP rfl e35))))))))) rfl) lk (vs:= [.slice a139 ZaL.uses.length c141,.slice ZoH ZaL.ways.length Zot]) rfl rfl rfl rfl (cs':= [.slice a139 ZaL.uses.length c141,.slice ZoH ZaL.ways.length Zot]) rfl) ?_ rfl (by kernel_rfl) [] (by kernel_rfl) Z7.e;rintro ZEv hS;refine WX.w gN rfl (ZR lk) ?_ (by kernel_rfl);refine r4 ?_;refine YI.ret ?_;refine r3 ?_;have hr:=Option.some.inj hL;subst hr;exact ZN.gen (vs:= [.agg [.slice a109 JR.1.cells.length ZmO,.slice Zrh JR.1.notes.length ZqV,.int .i64 JR.1.names,.slice Zrg JR.1.freed.length c117].toArray,.agg [.slice a139 ZaL.uses.length c141,.slice ZoH ZaL.ways.length Zot].toArray,.bool false]) rfl (ZK (ZM rfl (ZM rfl (ZM rfl (ZM rfl (ZM rfl (ZM rfl (ZM rfl (ZM rfl (ZP rfl (Zf rfl e34)))))))))) (ZT Ua YZ (hS.XP k1) (j:=0) rfl rfl (ws:= [.slice a109 JR.1.cells.length ZmO,.slice Zrh JR.1.notes.length ZqV,.int .i64 JR.1.names,.slice Zrg JR.1.freed.length c117]) rfl) (ZK (ZM rfl (ZM rfl (ZM rfl (ZM rfl (ZM rfl (ZM rfl (ZM rfl (ZM rfl (ZP rfl (Zf rfl e35)))))))))) (ZT ZaG Jb (hS.XP k0) (j:=0) rfl rfl (ws:= [.slice a139 ZaL.uses.length c141,.slice ZoH ZaL.ways.length Zot]) rfl) (Zu lk Zl))) rfl ⟨_,⟨a109,JR.1.cells.length,ZmO,ZrR,Zrh,JR.1.notes.length,ZqV,Zrg,JR.1.freed.length,c117,a139,ZaL.uses.length,c141,ZoH,ZaL.ways.length,Zot,rfl,rfl⟩,hT ▸ hS.only (.c k10 (.c k10 (.c k10 (.c k4 (.c k4 .n)))))⟩
        ·intro hc hL;refine r2 ?_;exact YI.Yp _ hL ⟨_,_,a139,c141,ZaL.uses.length,ZoH,Zot,ZaL.ways.length,a109,ZmO,JR.1.cells.length,ZrR,Zrh,ZqV,JR.1.notes.length,Zrg,c117,JR.1.freed.length,rfl,hS.only (.c k13 (.c k13 (.c k2 (.c k2 (.c k1 (.c k5 (.c k5 (.c k5 (.c k0 .n))))))))),YH⟩
  ·intro hc hL;refine r6 ?_;refine WC.Yj mixed (by kernel_rfl) ?_;refine r1 ?_;refine WX.wr (fun x=>x=b5) hS gN rfl (fun _ _ hR=>YD ZaG Jb (Zv (ZP rfl e36) rfl) (At.eqv (hR b5 rfl) (hS.XP k4)) (j:=0) rfl rfl (ws:= [.slice a43 v42.length c44,.slice a47 v46.length c48]) rfl) ?_ rfl rfl;rintro ZEu ZMQ hS;refine WX.hu gN (Uf hS k0 YZ lk lk (vs:= [.slice a51 v50.length c52,.slice a56 v55.length c57,.int .i64 v59,.slice a61 v60.length c62]) rfl rfl rfl rfl (cs':= [.slice a51 v50.length c52,.slice a56 v55.length c57,.int .i64 v59,.slice a61 v60.length c62]) rfl) ?_ rfl rfl [1] (by kernel_rfl) (.c .z (hS.dj (.c k0 (.c k3 .n))) Z7.e);rintro ZLM hS;refine WX.hu gN (Uf hS k1 Jb lk lk (vs:= [.slice a43 v42.length c44,.slice a47 v46.length c48]) rfl rfl rfl rfl (cs':= [.slice a43 v42.length c44,.slice a47 v46.length c48]) rfl) ?_ rfl (by kernel_rfl) [] (by kernel_rfl) Z7.e;rintro ZLL hS;refine WX.w gN rfl (ZR lk) ?_ (by kernel_rfl);refine r3 ?_;have hr:=Option.some.inj hL;subst hr;exact ZN.gen (vs:= [.agg [.slice a51 v50.length c52,.slice a56 v55.length c57,.int .i64 v59,.slice a61 v60.length c62].toArray,.agg [.slice a43 v42.length c44,.slice a47 v46.length c48].toArray,.bool true]) rfl (ZK (Yc rfl e34) (ZT Ua YZ (hS.XP k1) (j:=0) rfl rfl (ws:= [.slice a51 v50.length c52,.slice a56 v55.length c57,.int .i64 v59,.slice a61 v60.length c62]) rfl) (ZK (Yc rfl e35) (ZT ZaG Jb (hS.XP k0) (j:=0) rfl rfl (ws:= [.slice a43 v42.length c44,.slice a47 v46.length c48]) rfl) (Zu lk Zl))) rfl ⟨_,⟨a51,v50.length,c52,ZlN,a56,v55.length,c57,a61,v60.length,c62,a43,v42.length,c44,a47,v46.length,c48,rfl,rfl⟩,hT ▸ hS.only (.c k5 (.c k5 (.c k5 (.c k2 (.c k2 .n)))))⟩
end Go.Proofs.Ytekpjgmhkkjhgaa
end
end
section
namespace Go.Proofs.Ytekpjgmhkkjhgaa
open Go.Lf
def ZbX (v54:Int) (Zdn:((List Zm)×Int×(List (List Zb))×(List Zd)×Int×(List Int) ->Option Bool)):(List Zm)×(List (List Zb))×(List Zd)×Int×(List Int) ->Option Bool:=fun(v72,v80,v83,v86,v87)=>
 Zdn (v72,ZV (v54 + 1),v80,v83,v86,v87)
def ZhS (F:Nat) (p2:Int) (x1:(Za×Model×Bool)) (z38:(List Zah)):(List Zm)×Int×(List (List Zb))×(List Zd)×Int×(List Int) ->((List Zm)×Int×(List (List Zb))×(List Zd)×Int×(List Int) ->Option Bool) ->Option Bool:=fun(v47,v54,v56,v59,v62,v63) Zdn=>
 (bif decide (v54 < (z38.length:Int)) then(Yb z38 v54).bind fun x90=>(ZqG x90 (v56.length:Int) v62 (v59.length:Int)).bind fun x96=>(bif(!x96.2) then(ZbX v54 Zdn) (v47,v56,v59,v62,v63) else(ZqK F (Za.mk v56 v59 v62 v63) x96.1).bind fun x102=>(bif(x102.2 !=0) then(Zwe v47).bind fun ZBA=>(app 32 ZBA [x96.1,x96.1]).bind fun ZBt=>(Zof F x1.1 ZBt).bind fun WJ=>(gd (!((WJ.2.2 !=x102.2) || (WJ.2.1 != (v47.length:Int)))) (Zob F WJ.1 (Za.mk v56 v59 v62 v63)) default).bind fun x152=>(bif(((WJ.2.2 !=x102.2) || (WJ.2.1 != (v47.length:Int))) || (!x152)) then some false else(ZbX v54 Zdn) (v47,v56,v59,v62,v63)) else(app 32 v47 [x96.1]).bind fun Zyg=>(ZbX v54 Zdn) (Zyg,x102.1.cells,x102.1.notes,x102.1.names,x102.1.freed))) else(ZdS (ZV p2) (ZV ((v47.length:Int) + 1))).bind fun x160=>(slL v47 0 x160).bind fun ZBs=>(Zof F x1.1 ZBs).bind fun ZcM=>(slL v47 x160 (v47.length:Int)).bind fun ZBr=>(Zof F ZcM.1 ZBr).bind fun ZcL=>(gd ((((ZcM.2.2==0) && (ZcL.2.2==0)) && (ZcM.2.1==x160)) && (ZcL.2.1== (ZV ((v47.length:Int) - x160)))) (Zob F ZcL.1 (Za.mk v56 v59 v62 v63)) default).bind fun Zyk=>(gd (((((ZcM.2.2==0) && (ZcL.2.2==0)) && (ZcM.2.1==x160)) && (ZcL.2.1== (ZV ((v47.length:Int) - x160)))) && Zyk) (ZAr) default).bind fun x200=>some ((((((ZcM.2.2==0) && (ZcL.2.2==0)) && (ZcM.2.1==x160)) && (ZcL.2.1== (ZV ((v47.length:Int) - x160)))) && Zyk) && x200))
def ZqL (F:Nat) (p0:Int) (p1:(List Zah)) (p2:Int):Option Bool:=
 (ZqI F p0 []).bind fun x1=>(bif(!x1.2.2) then some false else(slL p1 0 (if 120 < (p1.length:Int) then 120 else(p1.length:Int))).bind fun z38=>loop F (ZhS F p2 x1 z38) ([],0,x1.1.cells,x1.1.notes,x1.1.names,x1.1.freed))
end Go.Proofs.Ytekpjgmhkkjhgaa
end
section
set_option maxRecDepth 20000
noncomputable section
namespace Go.Proofs.Ytekpjgmhkkjhgaa
open Go.Yq Go.Lf
theorem ZAs {F wm:Nat} {h:H} {p0:Int} {p1:(List Zah)} {p2:Int} {Z0:Option Addr} {ZY:Nat} {r:Bool} (ZF:wm <=h.size) (YJ:Sl ZrP wm h Z0 ZY p1) (hL:ZqL F p0 p1 p2=some r):
 WR XX 12 #[.int .u8 p0,.slice Z0 p1.length ZY,.int .u8 p2] wm h (CP (fun(v:Value) (Gb:List (Ast wm))=>v= .bool r∧Gb= []) [] h):=by
 refine bg Try.ntmps12 ZF ZQ.nil ?_;intro T hT hS;unfold ZqL at hL;refine r8 ?_;obtain⟨x1,hx1,hL⟩:=bind_some hL;refine WO.cl gN rfl (YE.fn ZDi (Zc lk (Zc lk Zk))) hS .n (fun g' hz hf hO=>ZAm (by rw [hz];exact hS.hw) Sl.nil hx1) ?_;rintro _ h17 _ ⟨a2,n3,c4,ZGk,a5,n6,c7,a8,n9,c10,a11,n12,c13,a14,n15,c16,rfl,rfl⟩ hS;obtain rfl:=hS.ZcN k0;obtain rfl:=hS.on k1;obtain rfl:=hS.on k2;obtain rfl:=hS.on k3;obtain rfl:=hS.on k4;refine WO.ZzQ hS k0 ?_;rintro h19 ⟨ZLd,hS⟩;refine WO.fzn hS k1 ?_;rintro h21 ⟨ZLc,hS⟩;refine WO.fzn hS k2 ?_;rintro h23 ⟨ZLb,hS⟩;refine WO.fzn hS k3 ?_;rintro h25 ⟨ZLa,hS⟩;refine WO.fzn hS k4 ?_;rintro h27 ⟨ZK9,hS⟩;refine r4 ?_;refine r1 ?_;rintro _ h30 ⟨b29,ZMw,rfl,hS⟩;refine r1 ?_;rintro _ h32 ⟨b31,ZMv,rfl,hS⟩;refine r1 ?_;rintro h33 hS;refine r1 ?_;rintro h34 hS;refine r8 ?_;refine r2 ?_;refine cn hL ?_ ?_
 ·intro hc hL;refine r6 ?_;refine r1 ?_;exact rt hL hT hS
 ·intro hc hL;refine r6 ?_;rintro _ h36 ⟨b35,ZMt,rfl,hS⟩;refine r1 ?_;rintro h37 hS;refine Q6 ?_;refine r1 ?_;refine WO.w gN rfl (ZtZ lk lk) ?_;obtain⟨z38,ZGD,hL⟩:=bind_some hL;refine WO.he gN rfl (Znl (hS.sl YJ) rfl Zly Zdc (Zv (ZP rfl (Zf rfl fh)) rfl) (Zv fh rfl) ZGD) ?_;rintro _ ⟨a39,c40,rfl,ZG1⟩;have ZCJ:=ZG1.sl YJ;refine r4 ?_;refine r1 ?_;have hS:=hS.nil (e:=Xk);have hS:=hS.add (A:=fzA wm (rSl (rSl Zq)) (a2,c4) x1.1.cells) (hS.get k8) (fun _ z=>z);have hS:=hS.add (A:=fzA wm (rSl Zh) (a5,c7) x1.1.notes) (hS.get k8) (fun _ z=>z);have hS:=hS.add (A:=fzA wm (rSl (ZL .i64)) (a8,c10) x1.1.freed) (hS.get k8) (fun _ z=>z);refine WC.loop (WL.lift hL (fun(p:(List Zm)×Int×(List (List Zb))×(List Zd)×Int×(List Int)) (s:Fs)=>match p with | (v47,v54,v56,v59,v62,v63)=>∃ (Zkg:Fr) (h42:H) (a48:Option Addr) (c49:Nat) (n50:Nat) (a57:Option Addr) (c58:Nat) (a60:Option Addr) (c61:Nat) (a64:Option Addr) (c65:Nat),s= ⟨Zkg,[],h42,none⟩∧Sp wm T h [ow wm Xk a48 n50 c49 v47,bx wm b29 [.slice a2 x1.1.cells.length c4,.slice a5 x1.1.notes.length c7,.int .i64 x1.1.names,.slice a8 x1.1.freed.length c10],fzA wm (rSl (rSl Zq)) (a57,c58) v56,fzA wm (rSl Zh) (a60,c61) v59,fzA wm (rSl (ZL .i64)) (a64,c65) v63,bx wm b35 [.slice a57 v56.length c58,.slice a60 v59.length c61,.int .i64 v62,.slice a64 v63.length c65],fzA wm (rSl (rSl Zq)) (a2,c4) x1.1.cells,fzA wm (rSl Zh) (a5,c7) x1.1.notes,fzA wm (rSl (ZL .i64)) (a8,c10) x1.1.freed] h42∧Zkg.at 2= .int .u8 p2∧Zkg.at 7= .pointer (some ⟨b29,0,none⟩)∧Zkg.at 10= .pointer (some ⟨b35,0,none⟩)∧Zkg.at 11= .slice a48 n50 c49∧Zkg.at 41= .slice a39 z38.length c40∧Zkg.at 42= .int .i64 (z38.length:Int)∧Zkg.at 43= .int .i64 v54) ⟨_,_,none,0,0,a2,c4,a5,c7,a8,c10,rfl,hS.only (.c k3 (.c k5 (.c k9 (.c k8 (.c k7 (.c k3 (.c k2 (.c k1 (.c k0 .n))))))))),YH⟩ ?_);clear hL hS;rintro Zdn ⟨v47,v54,v56,v59,v62,v63⟩ s Zvn hL ⟨Zkg,h42,a48,c49,n50,a57,c58,a60,c61,a64,c65,rfl,hS,e44,e45,e46,e51,e52,e53,e55⟩;obtain rfl:=hS.on k0;dsimp only [ZhS] at hL;refine r6 ?_;refine cn hL ?_ ?_
  ·intro hc hL;refine r2 ?_;refine WC.Zaj (r:=r) (fun(p:(List Zm)×(List (List Zb))×(List Zd)×Int×(List Int)) (s:Fs)=>match p with | (v72,v80,v83,v86,v87)=>∃ (Zkd:Fr) (h67:H) (a73:Option Addr) (c74:Nat) (n75:Nat) (a81:Option Addr) (c82:Nat) (a84:Option Addr) (c85:Nat) (a88:Option Addr) (c89:Nat),s= ⟨Zkd,[],h67,none⟩∧Sp wm T h [ow wm Xk a73 n75 c74 v72,bx wm b29 [.slice a2 x1.1.cells.length c4,.slice a5 x1.1.notes.length c7,.int .i64 x1.1.names,.slice a8 x1.1.freed.length c10],fzA wm (rSl (rSl Zq)) (a81,c82) v80,fzA wm (rSl Zh) (a84,c85) v83,fzA wm (rSl (ZL .i64)) (a88,c89) v87,bx wm b35 [.slice a81 v80.length c82,.slice a84 v83.length c85,.int .i64 v86,.slice a88 v87.length c89],fzA wm (rSl (rSl Zq)) (a2,c4) x1.1.cells,fzA wm (rSl Zh) (a5,c7) x1.1.notes,fzA wm (rSl (ZL .i64)) (a8,c10) x1.1.freed] h67∧Zkd.at 2= .int .u8 p2∧Zkd.at 7= .pointer (some ⟨b29,0,none⟩)∧Zkd.at 10= .pointer (some ⟨b35,0,none⟩)∧Zkd.at 11= .slice a73 n75 c74∧Zkd.at 41= .slice a39 z38.length c40∧Zkd.at 42= .int .i64 (z38.length:Int)∧Zkd.at 43= .int .i64 v54) (ZbX v54 Zdn) ?_ ?_
   ·clear hL hS;rintro⟨v72,v80,v83,v86,v87⟩ s hL ⟨Zkd,h67,a73,c74,n75,a81,c82,a84,c85,a88,c89,rfl,hS,e69,e70,e71,e76,e77,e78,e79⟩;obtain rfl:=hS.on k0;dsimp only [ZbX] at hL;refine r4 ?_;exact Yo.Yp (Zvn _ _ hL ⟨_,_,a73,c74,v72.length,a81,c82,a84,c85,a88,c89,rfl,hS.only (.c k0 (.c k0 (.c k0 (.c k0 (.c k0 (.c k0 (.c k0 (.c k0 (.c k0 .n))))))))),YH⟩)
   ·skip;refine r3 ?_;obtain⟨x90,hx90,hL⟩:=bind_some hL;obtain⟨b91,o92,_,ZsI,ZsT,ZsP,ZDN⟩:=Sl.at_ ZCJ hx90;refine WO.w gN rfl (ZU Zly Zdc lk lk rfl ZsI hx90) ?_;refine WO.w gN rfl (YD Zud Zdc (Zv fh rfl) (At.fz hS.fz ZsP ZsT) (j:=0) rfl rfl (ws:= [.int .u8 x90.Xa,.int .u8 x90.at_,.int .u8 x90.name,.int .u8 x90.ZG]) rfl) ?_;refine r1 ?_;rintro _ h94 ⟨b93,ZIi,rfl,hS⟩;refine r1 ?_;rintro h95 hS;refine Q6 ?_;refine r1 ?_;obtain⟨x96,hx96,hL⟩:=bind_some hL;refine WO.cl gN rfl (YE.fn ZxH (Zc lk (Zc lk (Zc lk (Zc lk Zk))))) hS .n (fun g' hz hf hO=>Zts (by rw [hz];exact hS.hw) hx96) ?_;rintro _ h97 _ ⟨rfl,rfl⟩ hS;refine r4 ?_;rintro _ ZEz ⟨b99,ZIh,rfl,hS⟩;refine r1 ?_;rintro ZzP hS;refine r8 ?_;refine r2 ?_;refine cn hL ?_ ?_
    ·intro hc hL;refine r3 ?_;exact YI.Yp _ hL ⟨_,_,a48,c49,v47.length,a57,c58,a60,c61,a64,c65,rfl,hS.only (.c k2 (.c k2 (.c k2 (.c k2 (.c k2 (.c k2 (.c k2 (.c k2 (.c k2 .n))))))))),YH⟩
    ·intro hc hL;refine r6 ?_;obtain⟨x102,hx102,hL⟩:=bind_some hL;refine WO.cl gN rfl (YE.fn ZxI (Zc lk (Zc lk Zk))) hS .n (fun g' hz hf hO=>ZtB (by rw [hz];exact hS.hw) ((hS.fsl k4).mono hf) ((hS.fsl k5).mono hf) ((hS.fsl k6).mono hf) hx102) ?_;rintro _ h112 _ ⟨ZIW,n104,c105,ZGo,ZIV,n107,ZIH,a109,n110,ZmO,rfl,rfl⟩ hS;obtain rfl:=hS.ZcN k0;obtain rfl:=hS.on k1;obtain rfl:=hS.on k2;refine WO.ZzQ hS k0 ?_;rintro Zs1 ⟨ZJm,hS⟩;refine WO.fzn hS k1 ?_;rintro h116 ⟨ZJl,hS⟩;refine WO.fzn hS k2 ?_;rintro ZEx ⟨ZJk,hS⟩;refine r4 ?_;rintro _ ZH6 ⟨ZIN,ZEK,rfl,hS⟩;refine r1 ?_;rintro h122 hS;refine r8 ?_;refine r2 ?_;refine cn hL ?_ ?_
     ·intro hc hL;refine r1 ?_;refine WC.Yj mixed (by kernel_rfl) ?_;refine WX.wr (fun x=>x=b29) hS gN rfl (fun _ _ hR=>YD Ua YZ (Zv (ZM rfl (ZM rfl (ZM rfl (Yc rfl (ZP rfl (Zf rfl e45)))))) rfl) (At.eqv (hR b29 rfl) (hS.XP k7)) (j:=0) rfl rfl (ws:= [.slice a2 x1.1.cells.length c4,.slice a5 x1.1.notes.length c7,.int .i64 x1.1.names,.slice a8 x1.1.freed.length c10]) rfl) ?_ rfl rfl;rintro ZLY ZMW hS;refine r1 ?_;obtain⟨ZBA,ZCA,hL⟩:=bind_some hL;refine WX.clR gN rfl (YE.fn ZDe (Zc lk Zk)) hS.hw (ZAe (Nat.le_refl _) (hS.ord k6) ZCA) ?_ rfl rfl;rintro _ ZLW _ ⟨ZN6,n127,ZNl,rfl,rfl⟩ ZDG;have hS:=hS.clR ZDG (.c (cvO (fun _ _ _ _=>trivial) hS.hw) .n);simp only [List.cons_append,List.nil_append] at hS;obtain rfl:=hS.on k0;refine r2 ?_;refine WX.hn gN rfl (Zdd (e:=Xk) hS ZcW JS ZgO rfl rfl rfl (Zj lk (Zj lk ZE)) rfl [((),x96.1),((),x96.1)] rfl (xs:= [x96.1,x96.1]) rfl (by intro q hq;simp only [List.mem_cons,List.not_mem_nil,or_false] at hq;rcases hq with rfl | rfl <;> first | exact trivial) rfl) ?_ rfl;rintro _ ZH3 ⟨ZNR,ZJ3,rfl,hS⟩;obtain⟨ZBt,ZCe,hL⟩:=bind_some hL;refine WX.hv gN rfl (Zbv (e:=Xk) hS k1 Zia lk lk (hS.QZ k0) (hS.on k0) ZCe) ?_ rfl rfl [0] (by kernel_rfl) (.c (.s .z) (hS.dj (.c k1 (.c k8 .n))) Z7.e);rintro _ ZH0 ⟨ZN5,ZNk,rfl,hS⟩;obtain⟨WJ,Zo6,hL⟩:=bind_some hL;refine WX.clR gN rfl (YE.fn ZsC (Zc lk (Zc lk Zk))) hS.hw (Zoe (Nat.le_refl _) (hS.Zgi k14) (hS.Zgi k15) (hS.Zgi (.s k15)) (hS.ord k0) Zo6) ?_ rfl (by kernel_rfl);rintro _ ZEw _ ⟨a138,n139,ZAH,ZGn,a141,n142,c143,Zum,n145,c146,rfl,rfl⟩ ZDF;have hS:=hS.clR ZDF (.c (cvN (fun _ _ _ _=>trivial) hS.hw) (.c (cvO (fun _ _ _ _=>trivial) hS.hw) (.c (cvO (fun _ _ _ _=>trivial) hS.hw) .n)));simp only [List.cons_append,List.nil_append] at hS;obtain rfl:=hS.ZcN k0;obtain rfl:=hS.on k1;obtain rfl:=hS.on k2;refine WX.w gN rfl (Yw lk) ?_ (by kernel_rfl);refine WX.w gN rfl (QT lk (v:= .agg [.slice a138 WJ.1.cells.length ZAH,.slice a141 WJ.1.notes.length c143,.int .i64 WJ.1.names,.slice Zum WJ.1.freed.length c146].toArray) rfl) ?_ (by kernel_rfl);refine WX.w gN rfl (QT lk (v:= .int .i64 WJ.2.1) rfl) ?_ (by kernel_rfl);refine WX.w gN rfl (QT lk (v:= .int .i64 WJ.2.2) rfl) ?_ (by kernel_rfl);refine WX.hn gN rfl (ZdQ hS ZeH (vs:= [.slice none 0 0,.slice none 0 0,.int .i64 0,.slice none 0 0]) rfl) ?_ rfl;rintro _ ZHX ⟨ZNM,ZJ0,rfl,hS⟩;refine WX.hu gN (Uf hS k0 YZ lk lk (vs:= [.slice a138 WJ.1.cells.length ZAH,.slice a141 WJ.1.notes.length c143,.int .i64 WJ.1.names,.slice Zum WJ.1.freed.length c146]) rfl rfl rfl rfl (cs':= [.slice a138 WJ.1.cells.length ZAH,.slice a141 WJ.1.notes.length c143,.int .i64 WJ.1.names,.slice Zum WJ.1.freed.length c146]) rfl) ?_ rfl (by kernel_rfl) [] (by kernel_rfl) Z7.e;rintro ZLP hS;refine WX.w gN rfl (ZR lk) ?_ (by kernel_rfl);refine WX.w gN rfl (ZR lk) ?_ (by kernel_rfl);refine r16 ?_;refine WO.gv (Zg.no rfl rfl rfl (Zf rfl fh)) rfl (fun hg=>(YD Ua YZ (Zv (ZM rfl (ZM rfl (ZM rfl (ZM rfl (ZM rfl (ZM rfl (ZM rfl (Zf rfl e46)))))))) rfl) (hS.XP (.s (.s k15))) (j:=0) rfl rfl (ws:= [.slice a57 v56.length c58,.slice a60 v59.length c61,.int .i64 v62,.slice a64 v63.length c65]) rfl)) ?_;obtain⟨x152,hx152,hL⟩:=Y4 hL;refine WO.gcp (Zg.no rfl rfl rfl (ZP rfl fh)) rfl (fun hg=>(YE.fn ZxG (Zc (Xq (Zf rfl fh) rfl hg) (Zc (Xq fh rfl hg) Zk)))) (fun hg=>Ztr (hS.nrd k1 ZeW) (hS.ord k2) (hS.ord k3) (hS.Zgi k14) (hS.Zgi k15) (hS.Zgi (.s k15)) (hx152 hg)) ?_;refine r4 ?_;refine cn hL ?_ ?_
      ·intro hc hL;refine r8 ?_;refine r1 ?_;refine YI.ret ?_;refine r3 ?_;exact rt hL hT hS
      ·intro hc hL;refine r4 ?_;refine r1 ?_;exact YI.Yp _ hL ⟨_,_,a48,c49,v47.length,a57,c58,a60,c61,a64,c65,rfl,hS.only (.c k12 (.c k12 (.c k12 (.c k12 (.c k12 (.c k12 (.c k12 (.c k12 (.c k12 .n))))))))),YH⟩
     ·intro hc hL;refine r6 ?_;refine WO.hn gN rfl (Zdd (e:=Xk) hS ZcW JS ZgO rfl rfl rfl (Zj lk ZE) rfl [((),x96.1)] rfl (xs:= [x96.1]) rfl (by intro q hq;simp only [List.mem_cons,List.not_mem_nil,or_false] at hq;subst hq;exact trivial) rfl) ?_;rintro _ ZEu ⟨ZNJ,ZJY,rfl,hS⟩;obtain⟨Zyg,ZCd,hL⟩:=bind_some hL;refine WO.hv gN rfl (Zbv (e:=Xk) hS k7 Zia lk lk (hS.QZ k0) (hS.on k0) ZCd) ?_;rintro _ ZLK ⟨a156,c157,rfl,hS⟩;refine r6 ?_;rintro ZHW hS;refine r2 ?_;exact YI.Yp _ hL ⟨_,_,a156,c157,Zyg.length,ZIW,c105,ZIV,ZIH,a109,ZmO,rfl,hS.only (.c k1 (.c k8 (.c k5 (.c k4 (.c k3 (.c k0 (.c k7 (.c k7 (.c k7 .n))))))))),YH⟩
  ·intro hc hL;refine r8 ?_;refine WO.w gN rfl (Zb9 Znd Zlz lk) ?_;refine r3 ?_;obtain⟨x160,hx160,hL⟩:=bind_some hL;refine WO.w gN rfl (Z8 (Zv (ZP rfl (Zf rfl fh)) rfl) (Zv fh rfl) (JO hx160)) ?_;refine r4 ?_;refine WC.Yj mixed (by kernel_rfl) ?_;refine r3 ?_;obtain⟨ZBs,ZCc,hL⟩:=bind_some hL;refine WX.he gN rfl (ZlH (hS.get k0).2 rfl ZcW JS (Zv (Zf rfl fh) rfl) (.inl ⟨rfl,rfl⟩) (.inr ⟨_,Yu (Zv fh rfl)⟩) ZCc) ?_ rfl;rintro _ ⟨a162,ZNj,rfl,ZCH⟩;obtain⟨ZcM,ZCr,hL⟩:=bind_some hL;refine WX.clR gN rfl (YE.fn ZsC (Zc lk (Zc lk Zk))) hS.hw (Zoe (Nat.le_refl _) (hS.Zgi k6) (hS.Zgi k7) (hS.Zgi k8) (ZCH.sl (hS.ord k0)) ZCr) ?_ rfl rfl;rintro _ ZLD _ ⟨Zrf,n167,c168,ZGm,ZFk,n170,c171,ZFj,n173,ZEU,rfl,rfl⟩ ZDE;have hS:=hS.clR ZDE (.c (cvN (fun _ _ _ _=>trivial) hS.hw) (.c (cvO (fun _ _ _ _=>trivial) hS.hw) (.c (cvO (fun _ _ _ _=>trivial) hS.hw) .n)));obtain rfl:=hS.ZcN k0;obtain rfl:=hS.on k1;obtain rfl:=hS.on k2;refine r4 ?_;refine WX.hn gN rfl (ZdQ hS ZeH (vs:= [.slice none 0 0,.slice none 0 0,.int .i64 0,.slice none 0 0]) rfl) ?_ rfl;rintro _ ZLC ⟨ZNF,ZJW,rfl,hS⟩;refine WX.hu gN (Uf hS k0 YZ lk lk (vs:= [.slice Zrf ZcM.1.cells.length c168,.slice ZFk ZcM.1.notes.length c171,.int .i64 ZcM.1.names,.slice ZFj ZcM.1.freed.length ZEU]) rfl rfl rfl rfl (cs':= [.slice Zrf ZcM.1.cells.length c168,.slice ZFk ZcM.1.notes.length c171,.int .i64 ZcM.1.names,.slice ZFj ZcM.1.freed.length ZEU]) rfl) ?_ rfl rfl [] (by kernel_rfl) Z7.e;rintro ZLB hS;refine WX.w gN rfl (ZR lk) ?_ (by kernel_rfl);refine WX.w gN rfl (ZR lk) ?_ (by kernel_rfl);refine r3 ?_;refine WC.Yj mixed (by kernel_rfl) ?_;refine r3 ?_;obtain⟨ZBr,ZCa,hL⟩:=bind_some hL;refine WX.he gN rfl (ZlH (hS.get k4).2 rfl ZcW JS (Zv (Zf rfl fh) rfl) (.inr ⟨_,Yu (Zv fh rfl)⟩) (.inl ⟨rfl,rfl⟩) ZCa) ?_ rfl;rintro _ ⟨ZN3,c182,rfl,ZCG⟩;obtain⟨ZcL,ZCq,hL⟩:=bind_some hL;refine WX.clR gN rfl (YE.fn ZsC (Zc lk (Zc lk Zk))) hS.hw (Zoe (Nat.le_refl _) (hS.nrd k1 ZeW) (hS.ord k2) (hS.ord k3) (ZCG.sl (hS.ord k4)) ZCq) ?_ rfl rfl;rintro _ ZLA _ ⟨ZFi,n186,ZET,ZGl,ZFh,n189,ZES,ZFg,n192,c193,rfl,rfl⟩ ZDD;have hS:=hS.clR ZDD (.c (cvN (fun _ _ _ _=>trivial) hS.hw) (.c (cvO (fun _ _ _ _=>trivial) hS.hw) (.c (cvO (fun _ _ _ _=>trivial) hS.hw) .n)));simp only [List.cons_append,List.nil_append] at hS;obtain rfl:=hS.ZcN k0;obtain rfl:=hS.on k1;obtain rfl:=hS.on k2;refine r4 ?_;refine WX.hn gN rfl (ZdQ hS ZeH (vs:= [.slice none 0 0,.slice none 0 0,.int .i64 0,.slice none 0 0]) rfl) ?_ rfl;rintro _ ZLz ⟨ZNE,ZJV,rfl,hS⟩;refine WX.hu gN (Uf hS k0 YZ lk lk (vs:= [.slice ZFi ZcL.1.cells.length ZET,.slice ZFh ZcL.1.notes.length ZES,.int .i64 ZcL.1.names,.slice ZFg ZcL.1.freed.length c193]) rfl rfl rfl rfl (cs':= [.slice ZFi ZcL.1.cells.length ZET,.slice ZFh ZcL.1.notes.length ZES,.int .i64 ZcL.1.names,.slice ZFg ZcL.1.freed.length c193]) rfl) ?_ rfl rfl [] (by kernel_rfl) Z7.e;rintro ZLy hS;refine WX.w gN rfl (ZR lk) ?_ (by kernel_rfl);refine WX.w gN rfl (ZR lk) ?_ (by kernel_rfl);refine r16 ?_;refine r8 ?_;refine r2 ?_;obtain⟨Zyk,ZCp,hL⟩:=Y4 hL;refine WO.gcp (Zg.yes rfl rfl rfl (ZP rfl fh)) rfl (fun hg=>(YE.fn ZxG (Zc (Xq (Zf rfl fh) rfl hg) (Zc (Xq fh rfl hg) Zk)))) (fun hg=>Ztr (hS.nrd k1 ZeW) (hS.ord k2) (hS.ord k3) (hS.Zgi k10) (hS.Zgi k11) (hS.Zgi k12) (ZCp hg)) ?_;refine r2 ?_;obtain⟨x200,ZCo,hL⟩:=Y4 hL;refine WO.gcp (Zg.yes rfl rfl rfl fh) rfl (fun hg=>(YE.fn ZDl Zk)) (fun hg=>ZAq (ZCo hg)) ?_;refine r4 ?_;refine r1 ?_;exact rt hL hT hS
theorem ZAt {F:Nat} {h:H} {p0:Int} {p1:(List Zah)} {p2:Int} {Z0:Option Addr} {ZY:Nat} {r:Bool} (YJ:Sl ZrP h.size h Z0 ZY p1) (hL:ZqL F p0 p1 p2=some r):Pure XX 12 #[.int .u8 p0,.slice Z0 p1.length ZY,.int .u8 p2] h (.bool r):=
 WR.Qa rfl (ZAs (Nat.le_refl _) YJ hL)
end Go.Proofs.Ytekpjgmhkkjhgaa
end
end
section
end
section
namespace Go.Proofs.Ytekpjgmhkkjhgaa
abbrev CV:=Int ->Option Zb
def Yr (cv:CV) (m:Int) (o:Option Zb):CV:=fun a=>if a=m then o else cv a
def Qh:Option Zb ->Int | some c=>c.out | none=>0
def J4:Option Zb ->Nat | some c=>if c.root=true then 1 else 0 | none=>0
def WA (a:Int):Option Zb ->Int | some c=>if c.from_=a then c.has else 0 | none=>0
def UG (a:Int) (x:Zd):Int:=if(x.kind=1∧x.via=a)∨(x.kind=2∧x.ZG=a) then x.w else 0
def XY (a:Int) (x:Zd):Int:=if x.kind=3∧x.ZG=a then 16 else 0
def YN (f:Zd ->Int):List Zd ->Int | []=>0 | x::l=>f x + YN f l
def KJ (f:Nat ->Int):Nat ->Int | 0=>0 | k + 1=>KJ f k + f k
def JV:List Zd ->Nat | []=>0 | x::l=>(if x.kind=3 then 1 else 0) + JV l
def Jg (M:Nat) (cv:CV) (ns:List Zd) (a:Int):Int:=KJ (fun m=>WA a (cv m)) M + YN (UG a) ns
def Kt (cv:CV) (ns:List Zd) (a:Int):Int:=Qh (cv a) + YN (XY a) ns
theorem XV (f:Zd ->Int) (l r:List Zd):YN f (l ++ r)=YN f l + YN f r:=by
 induction l with
 | nil=>simp [YN]
 | cons x l ih=>simp only [List.cons_append,YN,ih];omega
theorem ZaA (l r:List Zd):JV (l ++ r)=JV l + JV r:=by
 induction l with
 | nil=>simp [JV]
 | cons x l ih=>simp only [List.cons_append,JV,ih];omega
theorem Qv (f:Zd ->Int) (x:Zd):YN f [x]=f x:=by simp [YN]
theorem Zen (x:Zd):JV [x]=if x.kind=3 then 1 else 0:=by simp [JV]
theorem Zbr {f:Zd ->Int} {l:List Zd} (h:∀ x ∈ l,0 <=f x):0 <=YN f l:=by
 induction l with
 | nil=>simp [YN]
 | cons x l ih=>
   have:=h x (by simp);have:=ih fun y hy=>h y (by simp [hy])
   simp only [YN];omega
theorem ZuN {f:Zd ->Int} {l:List Zd} (h:∀ x ∈ l,0 <=f x) {x:Zd} (hx:x ∈ l):f x <=YN f l:=by
 induction l with
 | nil=>simp at hx
 | cons y l ih=>
   have h1:=h y (by simp);have h2:=Zbr fun z hz=>h z (List.mem_cons_of_mem _ hz)
   simp only [YN];rcases List.mem_cons.1 hx with rfl | hx
   ·omega
   ·have:=ih (fun z hz=>h z (List.mem_cons_of_mem _ hz)) hx;omega
theorem ZeI {f:Zd ->Int} {l r:List Zd} (h:l.Perm r):YN f l=YN f r:=by
 induction h with
 | nil=>rfl
 | cons x _ ih=>simp only [YN,ih]
 | swap x y l=>simp only [YN];omega
 | trans _ _ i1 i2=>exact i1.trans i2
theorem ZqR {l r:List Zd} (h:l.Perm r):JV l=JV r:=by
 induction h with
 | nil=>rfl
 | cons x _ ih=>simp only [JV,ih]
 | swap x y l=>simp only [JV];omega
 | trans _ _ i1 i2=>exact i1.trans i2
theorem Zbq {f:Nat ->Int} {M:Nat} (h:∀ m,m < M ->0 <=f m):0 <=KJ f M:=by
 induction M with
 | zero=>simp [KJ]
 | succ M ih=>
   have:=h M (by omega);have:=ih fun m hm=>h m (by omega)
   simp only [KJ];omega
theorem ZuM {f:Nat ->Int} {M:Nat} (h:∀ m,m < M ->0 <=f m) {m:Nat} (hm:m < M):f m <=KJ f M:=by
 induction M with
 | zero=>omega
 | succ M ih=>
   have h1:=h M (by omega);have h2:=Zbq fun m (hm:m < M)=>h m (by omega)
   simp only [KJ];by_cases e:m=M
   ·subst e;omega
   ·have:=ih (fun m hm=>h m (by omega)) (by omega);omega
theorem Zne {f g:Nat ->Int} {M:Nat} (h:∀ m,m < M ->f m=g m):KJ f M=KJ g M:=by
 induction M with
 | zero=>rfl
 | succ M ih=>simp only [KJ];rw [ih fun m hm=>h m (by omega),h M (by omega)]
theorem Zrv {f g:Nat ->Int} {M k:Nat} (hk:k < M) (h:∀ m,m < M ->m ≠ k ->f m=g m):KJ f M=KJ g M - g k + f k:=by
 induction M with
 | zero=>omega
 | succ M ih=>
   simp only [KJ];by_cases e:k=M
   ·subst e;rw [Zne fun m hm=>h m (by omega) (by omega)];omega
   ·rw [ih (by omega) (fun m hm hn=>h m (by omega) hn),h M (by omega) (fun z=>e z.symm)];omega
theorem Zd1 {M:Nat} {cv:CV} {ns:List Zd} {m:Int} (h0:0 <=m) (h1:m < M) (o:Option Zb) (a:Int):
 Jg M (Yr cv m o) ns a=Jg M cv ns a - WA a (cv m) + WA a o:=by
 unfold Jg;have hm:((m.toNat:Nat):Int)=m:=by omega
 rw [Zrv (k:=m.toNat) (g:=fun k=>WA a (cv k)) (by omega) (fun k hk hne=>by
  unfold Yr;rw [if_neg (by omega)])]
 have:Yr cv m o ((m.toNat:Nat):Int)=o:=by unfold Yr;rw [if_pos hm]
 rw [this,hm];omega
theorem Zco (cv:CV) (m:Int) (o:Option Zb):Yr cv m o m=o:=by simp [Yr]
theorem ZdO {cv:CV} {m a:Int} {o:Option Zb} (h:a ≠ m):Yr cv m o a=cv a:=by simp [Yr,h]
structure Nm (M:Nat) (n:Int) (cv:CV) (ns:List Zd) (h:Int):Prop where
 rng:∀ m c,cv m=some c ->0 <=m∧m < M
 nam:∀ m c,cv m=some c ->c.name=n
 cel:∀ m c,cv m=some c ->(c.root=false∧0 <=c.from_∧c.from_ < M∧c.from_ ≠ m∧1 <=c.has)∨(c.from_=-1∧c.has=0)
 nts:∀ x ∈ ns,(0 <=x.ZG∧x.ZG < M)∧x.name=n∧1 <=x.w∧((x.kind=1∧0 <=x.via∧x.via < M)∨(x.kind=2∧x.via=0)∨(x.kind=3∧x.via=0∧x.w=16∧x.ZG=h))
 hM:0 <=h∧h < M
 rt:∀ m c,cv m=some c ->c.root=true ->m=h
 one:J4 (cv h) + JV ns=1
 acc:∀ a:Int,0 <=a ->a < M ->Kt cv ns a=Jg M cv ns a
 lead:∃ dep:Int ->Nat,∀ m c,cv m=some c ->m ≠ h ->0 <=c.from_∧(cv c.from_ ≠ none∨c.from_=h)∧dep c.from_ < dep m
theorem Nm.perm {M:Nat} {n:Int} {cv:CV} {ns ns':List Zd} {h:Int} (H:Nm M n cv ns h) (p:ns.Perm ns'):Nm M n cv ns' h:=
 {H with
  nts:=fun x hx=>H.nts x (p.mem_iff.2 hx)
  one:=by rw [← ZqR p];exact H.one
  acc:=fun a h0 h1=>by
   have:=H.acc a h0 h1;unfold Kt Jg at this ⊢;rw [← ZeI p,← ZeI p];exact this}
section
variable {M:Nat} {n:Int} {cv:CV} {ns:List Zd} {h:Int}
theorem Nm.ZbS (H:Nm M n cv ns h) {a:Int} (h0:0 <=a) (m:Int):0 <=WA a (cv m):=by
 unfold WA;cases e:cv m with
 | none=>simp
 | some c=>
   dsimp only;split
   ·rcases H.cel m c e with⟨_,_,_,_,h5⟩ | ⟨h1,h2⟩ <;> omega
   ·omega
theorem Nm.ZaU (H:Nm M n cv ns h) (a:Int):∀ x ∈ ns,0 <=UG a x:=by
 intro x hx;have:= (H.nts x hx).2.2.1;unfold UG;split <;> omega
theorem Nm.Zcw (H:Nm M n cv ns h) {m:Int} {c:Zb} (e:cv m=some c) (hf:0 <=c.from_):1 <=c.has∧c.has <=Jg M cv ns c.from_:=by
 have hr:=H.rng m c e;have hh:1 <=c.has:=by rcases H.cel m c e with⟨_,_,_,_,h5⟩ | ⟨h1,h2⟩ <;> omega
 refine⟨hh,?_⟩;have h1:=ZuM (f:=fun k=>WA c.from_ (cv k)) (M:=M) (fun k _=>H.ZbS hf k) (m:=m.toNat) (by omega);have h2:=Zbr (H.ZaU c.from_);have hm:((m.toNat:Nat):Int)=m:=by omega
 have h3:WA c.from_ (cv ((m.toNat:Nat):Int))=c.has:=by rw [hm,e];simp [WA]
 rw [h3] at h1;unfold Jg;omega
theorem Nm.Us (H:Nm M n cv ns h) {a:Int} (h0:0 <=a) {x:Zd} (hx:x ∈ ns):UG a x <=Jg M cv ns a:=by
 have h1:=Zbq (f:=fun k=>WA a (cv k)) (M:=M) (fun k _=>H.ZbS h0 k);have h2:=ZuN (H.ZaU a) hx;unfold Jg;omega
theorem ZgS (H:∀ x ∈ ns,x.kind=3 ->x.ZG=h) (a:Int):YN (XY a) ns=if a=h then 16 * (JV ns:Int) else 0:=by
 induction ns with
 | nil=>simp [YN,JV]
 | cons x l ih=>
   have i:=ih fun y hy=>H y (by simp [hy])
   have hx:=H x (by simp);simp only [YN,JV];rw [i];unfold XY;by_cases h3:x.kind=3
   ·have:=hx h3;by_cases ha:a=h
    ·rw [if_pos ⟨h3,by omega⟩,if_pos ha,if_pos ha,if_pos h3];omega
    ·rw [if_neg (by omega),if_neg ha,if_neg ha];omega
   ·rw [if_neg (fun z=>h3 z.1),if_neg h3];split <;> omega
theorem Nm.giv (H:Nm M n cv ns h) (a:Int):Kt cv ns a=Qh (cv a) + if a=h then 16 * (JV ns:Int) else 0:=by
 unfold Kt;rw [ZgS (h:=h) (fun x hx h3=>by rcases(H.nts x hx).2.2.2 with z | z | z <;> omega)]
theorem Nm.Zl5 (H:Nm M n cv ns h) {a:Int} (h0:0 <=a):0 <=Jg M cv ns a:=by
 have h1:=Zbq (f:=fun k=>WA a (cv k)) (M:=M) (fun k _=>H.ZbS h0 k);have h2:=Zbr (H.ZaU a);unfold Jg;omega
theorem Nm.there (H:Nm M n cv ns h) {a:Int} (h0:0 <=a) (h1:a < M) (hp:1 <=Jg M cv ns a):cv a ≠ none∨a=h:=by
 have:=H.acc a h0 h1;rw [H.giv] at this;by_cases e:a=h
 ·exact .inr e
 ·rw [if_neg e] at this;refine .inl fun z=>?_
  rw [z] at this;simp [Qh] at this;omega
theorem Nm.Znp (H:Nm M n cv ns h) {m:Int} {c:Zb} (e:cv m=some c):-16 <=c.out∧(m ≠ h ->0 <=c.out)∧(JV ns=0 ->0 <=c.out):=by
 have hr:=H.rng m c e;have h1:=H.acc m hr.1 hr.2;have h2:=H.Zl5 hr.1;have h3:=H.one;rw [H.giv,e] at h1;simp only [Qh] at h1;refine⟨?_,fun hm=>?_,fun hc=>?_⟩
 ·split at h1 <;> omega
 ·rw [if_neg hm] at h1;omega
 ·rw [hc] at h1;split at h1 <;> omega
theorem Nm.ZAB (H:Nm M n cv ns h):JV ns <=1:=by have:=H.one;omega
theorem Nm.U6 (H:Nm M n cv ns h) {m:Int} {c:Zb} (h0:m=h∨∃ d,cv m=some d∧d.from_=c.from_):
 ∃ dep:Int ->Nat,∀ a d,Yr cv m (some c) a=some d ->a ≠ h ->0 <=d.from_∧(Yr cv m (some c) d.from_ ≠ none∨d.from_=h)∧dep d.from_ < dep a:=by
 obtain⟨dep,L⟩:=H.lead;refine⟨dep,fun a d hd ha=>?_⟩
 have key:∀ f:Int,(cv f ≠ none∨f=h) ->(Yr cv m (some c) f ≠ none∨f=h):=by
  intro f hf;unfold Yr;split
  ·exact .inl (by simp)
  ·exact hf
 unfold Yr at hd;split at hd
 ·rename_i e;cases hd;rcases h0 with z | ⟨d,z1,z2⟩
  ·exact absurd (e.trans z) ha
  ·obtain⟨l1,l2,l3⟩:=L m d z1 (by rw [← e];exact ha);rw [z2] at l1 l2 l3;exact⟨l1,key _ l2,by rw [e];exact l3⟩
 ·obtain⟨l1,l2,l3⟩:=L a d hd ha;exact⟨l1,key _ l2,l3⟩
end
end Go.Proofs.Ytekpjgmhkkjhgaa
end
section
namespace Go.Proofs.Ytekpjgmhkkjhgaa
def ZtW (n:Int):Zb:= ⟨n,false,-1,0,0,false⟩
section
variable {M:Nat} {n:Int} {cv:CV} {ns ns':List Zd} {h m:Int}
def ZbN (n:Int) (cv:CV) (m:Int):Zb:= (cv m).getD (ZtW n)
structure Lk (M:Nat) (n:Int) (cv:CV) (h m:Int) (c:Zb):Prop where
 nam:c.name=n
 cel:(c.root=false∧0 <=c.from_∧c.from_ < M∧c.from_ ≠ m∧1 <=c.has)∨(c.from_=-1∧c.has=0)
 out:Qh (cv m)=c.out
 has:∀ a,0 <=a ->WA a (cv m)=WA a (some c)
 root:J4 (cv m)=J4 (some c)
 rt:c.root=true ->m=h
 or:cv m=some c∨(cv m=none∧c.root=false∧c.from_=-1∧c.out=0∧c.use=false)
theorem Nm.look (H:Nm M n cv ns h) (m:Int):Lk M n cv h m (ZbN n cv m):=by
 unfold ZbN;cases e:cv m with
 | none=>
   refine⟨rfl,.inr ⟨rfl,rfl⟩,by rw [e];rfl,fun a ha=>?_,by rw [e];rfl,(fun z=>Bool.noConfusion z),.inr ⟨e,rfl,rfl,rfl,rfl⟩⟩;rw [e];show 0=if(-1:Int)=a then(0:Int) else 0
   split <;> rfl
 | some c=>
   refine⟨H.nam m c e,H.cel m c e,by rw [e];rfl,fun a ha=>by rw [e];rfl,by rw [e];rfl,H.rt m c e,.inl e⟩
theorem Nm.put (H:Nm M n cv ns h) (h0:0 <=m) (h1:m < M) {c:Zb} (hn:c.name=n)
 (hc:(c.root=false∧0 <=c.from_∧c.from_ < M∧c.from_ ≠ m∧1 <=c.has)∨(c.from_=-1∧c.has=0))
 (hns:∀ x ∈ ns',(0 <=x.ZG∧x.ZG < M)∧x.name=n∧1 <=x.w∧((x.kind=1∧0 <=x.via∧x.via < M)∨(x.kind=2∧x.via=0)∨(x.kind=3∧x.via=0∧x.w=16∧x.ZG=h)))
 (hrt:c.root=true ->m=h) (hone:(if h=m then J4 (some c) else J4 (cv h)) + JV ns'=1)
 (hacc:∀ a:Int,0 <=a ->a < M ->(if a=m then c.out else Qh (cv a)) + YN (XY a) ns' + WA a (cv m) + YN (UG a) ns=Qh (cv a) + YN (XY a) ns + WA a (some c) + YN (UG a) ns')
 (hl:∃ dep:Int ->Nat,∀ a d,Yr cv m (some c) a=some d ->a ≠ h ->0 <=d.from_∧(Yr cv m (some c) d.from_ ≠ none∨d.from_=h)∧dep d.from_ < dep a):
 Nm M n (Yr cv m (some c)) ns' h where
 rng a d hd:=by
  unfold Yr at hd;split at hd
  ·subst_vars;omega
  ·exact H.rng a d hd
 nam a d hd:=by
  unfold Yr at hd;split at hd
  ·cases hd;exact hn
  ·exact H.nam a d hd
 cel a d hd:=by
  unfold Yr at hd;split at hd
  ·subst_vars;cases hd;exact hc
  ·exact H.cel a d hd
 nts:=hns
 hM:=H.hM
 rt a d hd hr:=by
  unfold Yr at hd;split at hd
  ·subst_vars;cases hd;exact hrt hr
  ·exact H.rt a d hd hr
 one:=by
  rw [← hone];unfold Yr;split <;> rfl
 acc a a0 a1:=by
  have q:=H.acc a a0 a1;have p:=hacc a a0 a1;rw [Zd1 h0 h1];unfold Kt at q ⊢;unfold Jg at q ⊢;have:Qh (Yr cv m (some c) a)=if a=m then c.out else Qh (cv a):=by unfold Yr;split <;> rfl
  rw [this];omega
 lead:=hl
theorem Nm.tail (H:∀ x ∈ ns,(0 <=x.ZG∧x.ZG < M)∧x.name=n∧1 <=x.w∧((x.kind=1∧0 <=x.via∧x.via < M)∨(x.kind=2∧x.via=0)∨(x.kind=3∧x.via=0∧x.w=16∧x.ZG=h))) (hs:∀ x ∈ ns',x ∈ ns):∀ x ∈ ns',(0 <=x.ZG∧x.ZG < M)∧x.name=n∧1 <=x.w∧((x.kind=1∧0 <=x.via∧x.via < M)∨(x.kind=2∧x.via=0)∨(x.kind=3∧x.via=0∧x.w=16∧x.ZG=h)):=fun x hx=>H x (hs x hx)
theorem Wn {x:Zd} (k:x.kind=1) (a:Int):XY a x=0:=by unfold XY;rw [if_neg (by omega)]
theorem Zcr {x:Zd} (k:x.kind=2) (a:Int):XY a x=0:=by unfold XY;rw [if_neg (by omega)]
theorem ZjR {x:Zd} (k:x.kind=3) (a:Int):XY a x=if x.ZG=a then 16 else 0:=by
 unfold XY;by_cases e:x.ZG=a
 ·rw [if_pos ⟨k,e⟩,if_pos e]
 ·rw [if_neg (fun z=>e z.2),if_neg e]
theorem Wm {x:Zd} (k:x.kind=1) (a:Int):UG a x=if x.via=a then x.w else 0:=by
 unfold UG;by_cases e:x.via=a
 ·rw [if_pos (.inl ⟨k,e⟩),if_pos e]
 ·rw [if_neg (by rintro(z | z) <;> omega),if_neg e]
theorem ZaV {x:Zd} (k:x.kind=2) (a:Int):UG a x=if x.ZG=a then x.w else 0:=by
 unfold UG;by_cases e:x.ZG=a
 ·rw [if_pos (.inr ⟨k,e⟩),if_pos e]
 ·rw [if_neg (by rintro(z | z) <;> omega),if_neg e]
theorem ZoX {x:Zd} (k:x.kind=3) (a:Int):UG a x=0:=by
 unfold UG;rw [if_neg (by rintro(z | z) <;> omega)]
theorem cnt1 {x:Zd} {l:List Zd} (k:¬ x.kind=3):JV (x::l)=JV l:=by simp only [JV,if_neg k];omega
theorem Qe (a:Int) (c:Zb):WA a (some c)=if c.from_=a then c.has else 0:=rfl
theorem Nm.use (H:Nm M n cv ns h) {c:Zb} (e:cv m=some c) (u:Bool):Nm M n (Yr cv m (some ⟨c.name,c.root,c.from_,c.has,c.out,u⟩)) ns h:=by
 have hr:=H.rng m c e;refine H.put hr.1 hr.2 (by exact H.nam m c e) (by exact H.cel m c e) H.nts (by exact H.rt m c e) ?_ (fun a a0 a1=>?_) (H.U6 (.inr ⟨c,e,rfl⟩))
 ·rw [← H.one];by_cases z:h=m
  ·rw [if_pos z,z,e];rfl
  ·rw [if_neg z]
 ·rw [e];by_cases z:a=m
  ·rw [if_pos z,z,e];simp only [Qh,Qe]
  ·rw [if_neg z];simp only [Qe]
theorem Nm.Zs3 {x:Zd} (H:Nm M n cv (x::ns) h) (k:x.kind=1) {c:Zb} (L:Lk M n cv h x.ZG c) (hr:c.root=false) (hf:c.from_=-1) (hv:x.via ≠ x.ZG) (u:Bool):
 Nm M n (Yr cv x.ZG (some ⟨c.name,c.root,x.via,x.w,c.out,u⟩)) ns h:=by
 have hx:=H.nts x (by simp);have hvr:0 <=x.via∧x.via < M:=by rcases hx.2.2.2 with z | z | z <;> omega
 have hh:=H.Us hvr.1 (x:=x) (by simp);rw [Wm k,if_pos rfl] at hh;have ht:=H.there hvr.1 hvr.2 (by omega);refine H.put hx.1.1 hx.1.2 L.nam (.inl ⟨hr,hvr.1,hvr.2,hv,hx.2.2.1⟩) (Nm.tail H.nts (by simp_all)) (by rw [hr];simp) ?_ (fun a a0 a1=>?_) ?_
 ·have o:=H.one;rw [cnt1 (by omega)] at o;have:J4 (some (Zb.mk c.name c.root x.via x.w c.out u))=J4 (some c):=rfl;rw [this];by_cases z:h=x.ZG
  ·rw [if_pos z,← L.root,← z];omega
  ·rw [if_neg z];omega
 ·rw [L.has a a0];simp only [YN,Wn k,Wm k,Qe,hf];rw [if_neg (by omega:¬ (-1:Int)=a)];by_cases z:a=x.ZG
  ·rw [if_pos z,z,L.out];omega
  ·rw [if_neg z];omega
 ·by_cases z:x.ZG=h
  ·exact H.U6 (.inl z)
  ·obtain⟨dep,l⟩:=H.lead;rcases L.or with e | ⟨e,_⟩
   ·obtain⟨l1,_⟩:=l _ c e z;omega
   refine⟨fun a=>if a=x.ZG then dep x.via + 1 else dep a,fun a d hd ha=>?_⟩;dsimp only;unfold Yr at hd;split at hd
   ·rename_i ea;cases hd;refine⟨hvr.1,?_,?_⟩
    ·show Yr cv x.ZG _ x.via ≠ none∨x.via=h;rw [ZdO hv];exact ht
    ·show(if x.via=x.ZG then _ else dep x.via) < _;rw [if_pos ea,if_neg hv];omega
   ·rename_i ea;obtain⟨l1,l2,l3⟩:=l a d hd ha
    have hne:d.from_ ≠ x.ZG:=by
     intro w;rw [w] at l2;rcases l2 with q | q
     ·exact q e
     ·exact z q
    rw [if_neg hne,if_neg ea,ZdO hne];exact⟨l1,l2,l3⟩
theorem Nm.Zqs {x:Zd} (H:Nm M n cv (x::ns) h) (k:x.kind=1) {c:Zb} (L:Lk M n cv h x.ZG c) (hf:0 <=c.from_) (hv:c.from_=x.via) (u:Bool):
 Nm M n (Yr cv x.ZG (some ⟨c.name,c.root,c.from_,c.has + x.w,c.out,u⟩)) ns h:=by
 have hx:=H.nts x (by simp);have hce:cv x.ZG=some c:=by rcases L.or with e | ⟨_,_,e,_⟩;exact e;omega
 have Zqp:c.root=false∧0 <=c.from_∧c.from_ < M∧c.from_ ≠ x.ZG∧1 <=c.has:=by rcases L.cel with z | z;exact z;omega
 refine H.put hx.1.1 hx.1.2 L.nam (.inl ⟨Zqp.1,Zqp.2.1,Zqp.2.2.1,Zqp.2.2.2.1,?_⟩) (Nm.tail H.nts (by simp_all)) L.rt ?_ (fun a a0 a1=>?_) (H.U6 (.inr ⟨c,hce,rfl⟩))
 ·show 1 <=c.has + x.w;omega
 ·have o:=H.one;rw [cnt1 (by omega)] at o;have:J4 (some (Zb.mk c.name c.root c.from_ (c.has + x.w) c.out u))=J4 (some c):=rfl;rw [this];by_cases z:h=x.ZG
  ·rw [if_pos z,← L.root,← z];omega
  ·rw [if_neg z];omega
 ·rw [L.has a a0];simp only [YN,Wn k,Wm k,Qe,hv];by_cases z:a=x.ZG
  ·rw [if_pos z,z,L.out];split <;> omega
  ·rw [if_neg z];split <;> omega
theorem Nm.Zqt {x y:Zd} (H:Nm M n cv (x::ns) h) (k:x.kind=1) (hy:y= ⟨2,x.via,n,0,x.w⟩):Nm M n cv (ns ++ [y]) h:=by
 have hx:=H.nts x (by simp);have hvr:0 <=x.via∧x.via < M:=by rcases hx.2.2.2 with z | z | z <;> omega
 refine{H with nts:=fun z hz=>?_,one:= ?_,acc:=fun a a0 a1=>?_}
 ·rcases List.mem_append.1 hz with q | q
  ·exact H.nts z (by simp [q])
  ·rw [List.mem_singleton.1 q,hy];exact⟨hvr,rfl,hx.2.2.1,.inr (.inl ⟨rfl,rfl⟩)⟩
 ·have o:=H.one;rw [cnt1 (by omega)] at o;rw [ZaA,Zen,hy];simp;omega
 ·have q:=H.acc a a0 a1;unfold Kt Jg at q ⊢;simp only [YN,Wn k,Wm k] at q;have h2:y.kind=2:=by rw [hy]
  rw [XV,XV,Qv,Qv,Zcr h2,ZaV h2,hy];dsimp only;omega
theorem Nm.Zjb {x:Zd} (H:Nm M n cv (x::ns) h) (k:(x.kind=1∧x.via=x.ZG)∨x.kind=2) {c:Zb} (L:Lk M n cv h x.ZG c) (u:Bool):
 Nm M n (Yr cv x.ZG (some ⟨c.name,c.root,c.from_,c.has,c.out - x.w,u⟩)) ns h:=by
 have hx:=H.nts x (by simp);have hh:=H.Us hx.1.1 (x:=x) (by simp)
 have hH:∀ a,UG a x=if x.ZG=a then x.w else 0:=by
  intro a;rcases k with⟨k,v⟩ | k
  ·rw [Wm k,v]
  ·exact ZaV k a
 have hG:∀ a,XY a x=0:=by
  intro a;rcases k with⟨k,v⟩ | k
  ·exact Wn k a
  ·exact Zcr k a
 have hk3:¬ x.kind=3:=by omega
 rw [hH,if_pos rfl] at hh;have ht:=H.there hx.1.1 hx.1.2 (by omega);refine H.put hx.1.1 hx.1.2 L.nam (by exact L.cel) (Nm.tail H.nts (by simp_all)) (by exact L.rt) ?_ (fun a a0 a1=>?_) ?_
 ·have o:=H.one;rw [cnt1 hk3] at o;have:J4 (some (Zb.mk c.name c.root c.from_ c.has (c.out - x.w) u))=J4 (some c):=rfl;rw [this];by_cases z:h=x.ZG
  ·rw [if_pos z,← L.root,← z];omega
  ·rw [if_neg z];omega
 ·rw [L.has a a0];simp only [YN,hG,hH,Qe];by_cases z:a=x.ZG
  ·rw [if_pos z,z,L.out,if_pos rfl];omega
  ·rw [if_neg z,if_neg (by omega:¬ x.ZG=a)];omega
 ·refine H.U6 ?_;rcases L.or with e | ⟨e,_⟩
  ·exact .inr ⟨c,e,rfl⟩
  ·rcases ht with z | z
   ·exact absurd e z
   ·exact .inl z
theorem Nm.home {x:Zd} (H:Nm M n cv (x::ns) h) (k:x.kind=3) {c:Zb} (L:Lk M n cv h x.ZG c) (u:Bool) {ys:List Zd}
 (hy:ys=if 0 <=c.from_ then [⟨2,c.from_,n,0,c.has⟩] else []):
 Nm M n (Yr cv x.ZG (some ⟨c.name,true,-1,0,c.out + 16,u⟩)) (ns ++ ys) h:=by
 have hx:=H.nts x (by simp);have hh:x.ZG=h:=by rcases hx.2.2.2 with z | z | z <;> omega
 have o:=H.one;simp only [JV,k,if_true] at o;refine H.put hx.1.1 hx.1.2 L.nam (.inr ⟨rfl,rfl⟩) ?_ (fun _=>hh) ?_ (fun a a0 a1=>?_) (H.U6 (.inl hh))
 ·intro z hz;rcases List.mem_append.1 hz with q | q
  ·exact H.nts z (by simp [q])
  ·rw [hy] at q;split at q
   ·rename_i hf;rw [List.mem_singleton.1 q];rcases L.cel with w | w
    ·exact⟨⟨w.2.1,w.2.2.1⟩,rfl,w.2.2.2.2,.inr (.inl ⟨rfl,rfl⟩)⟩
    ·omega
   ·simp at q
 ·rw [if_pos hh.symm,ZaA,show J4 (some (Zb.mk c.name true (-1) 0 (c.out + 16) u))=1 from rfl];have:JV ys=0:=by rw [hy];split <;> simp [JV]
  omega
 ·rw [L.has a a0];have hG:YN (XY a) ys=0:=by rw [hy];split <;> simp [YN,XY]
  have hH:YN (UG a) ys=if c.from_=a then c.has else 0:=by
   rw [hy];by_cases hf:0 <=c.from_
   ·rw [if_pos hf,Qv,ZaV rfl]
   ·rw [if_neg hf,if_neg (by omega)];rfl
  rw [XV,XV,hG,hH];simp only [YN,ZjR k,ZoX k,Qe];rw [if_neg (by omega:¬ (-1:Int)=a)];by_cases z:a=x.ZG
  ·rw [if_pos z,z,L.out,if_pos rfl];omega
  ·rw [if_neg z,if_neg (by omega:¬ x.ZG=a)];omega
theorem Nm.gone (H:Nm M n cv ns h) {c:Zb} (e:cv m=some c) (ho:c.out=0) (hr:c.root=false) {ys:List Zd}
 (hy:ys=if 0 <=c.from_ then [⟨2,c.from_,n,0,c.has⟩] else []):Nm M n (Yr cv m none) (ns ++ ys) h:=by
 have hm:=H.rng m c e;have Zqp:=H.cel m c e;have hG:∀ a,YN (XY a) ys=0:=by intro a;rw [hy];split <;> simp [YN,XY]
 have hH:∀ a,0 <=a ->YN (UG a) ys=WA a (some c):=by
  intro a a0;rw [hy,Qe];by_cases hf:0 <=c.from_
  ·rw [if_pos hf,Qv,ZaV rfl]
  ·rw [if_neg hf,if_neg (by omega)];rfl
 refine⟨?_,?_,?_,?_,H.hM,?_,?_,?_,?_⟩
 ·intro a d hd;unfold Yr at hd;split at hd
  ·cases hd
  ·exact H.rng a d hd
 ·intro a d hd;unfold Yr at hd;split at hd
  ·cases hd
  ·exact H.nam a d hd
 ·intro a d hd;unfold Yr at hd;split at hd
  ·cases hd
  ·exact H.cel a d hd
 ·intro z hz;rcases List.mem_append.1 hz with q | q
  ·exact H.nts z q
  ·rw [hy] at q;split at q
   ·rename_i hf;rw [List.mem_singleton.1 q];rcases Zqp with w | w
    ·exact⟨⟨w.2.1,w.2.2.1⟩,rfl,w.2.2.2.2,.inr (.inl ⟨rfl,rfl⟩)⟩
    ·omega
   ·simp at q
 ·intro a d hd;unfold Yr at hd;split at hd
  ·cases hd
  ·exact H.rt a d hd
 ·have o:=H.one;have:JV ys=0:=by rw [hy];split <;> simp [JV]
  rw [ZaA,this]
  have:J4 (Yr cv m none h)=J4 (cv h):=by
   unfold Yr;split
   ·rename_i z;rw [z,e];simp [J4,hr]
   ·rfl
  rw [this];omega
 ·intro a a0 a1;have q:=H.acc a a0 a1;rw [Zd1 hm.1 hm.2,e];unfold Kt Jg at *;rw [XV,XV,hG,hH a a0]
  have:Qh (Yr cv m none a)=Qh (cv a):=by
   unfold Yr;split
   ·rename_i z;rw [z,e];simp [Qh,ho]
   ·rfl
  rw [this];simp only [Qe] at *;have:WA a none=0:=rfl;omega
 ·obtain⟨dep,l⟩:=H.lead;refine⟨dep,fun a d hd ha=>?_⟩;unfold Yr at hd;split at hd
  ·cases hd
  ·obtain⟨l1,l2,l3⟩:=l a d hd ha;refine⟨l1,?_,l3⟩;by_cases z:d.from_=m
   ·by_cases zh:m=h
    ·exact .inr (z.trans zh)
    ·exfalso;have q:=H.Zcw hd l1;rw [z] at q;have p:=H.acc m hm.1 hm.2;rw [H.giv,if_neg zh,e] at p;simp only [Qh] at p;omega
   ·rw [ZdO z];exact l2
theorem Nm.last (H:Nm M n cv ns h) {c:Zb} (e:cv m=some c) (ho:c.out=0) (hr:c.root=true):(∀ a,a ≠ m ->cv a=none)∧ns= []:=by
 have hmh:=H.rt m c e hr;subst hmh;have o:=H.one;rw [e] at o;have h0:JV ns=0:=by simp only [J4,hr,if_true] at o;omega
 have hz:Jg M cv ns m=0:=by
  rw [← H.acc m H.hM.1 H.hM.2,H.giv,if_pos rfl,e,h0];simp [Qh,ho]
 obtain⟨dep,l⟩:=H.lead
 have key:∀ k a,dep a <=k ->a ≠ m ->cv a=none:=by
  intro k
  induction k with
  | zero=>
    intro a hk ha;cases ec:cv a with
    | none=>rfl
    | some d=>have:=l a d ec ha;omega
  | succ k ih=>
    intro a hk ha;cases ec:cv a with
    | none=>rfl
    | some d=>
      exfalso;obtain⟨l1,l2,l3⟩:=l a d ec ha;by_cases z:d.from_=m
      ·have:=H.Zcw ec l1;rw [z] at this;omega
      ·rcases l2 with l2 | l2
       ·exact l2 (ih _ (by omega) z)
       ·exact z l2
 have k1:∀ a,a ≠ m ->cv a=none:=fun a ha=>key (dep a) a (Nat.le_refl _) ha
 refine⟨k1,?_⟩;cases ns with
 | nil=>rfl
 | cons x l'=>
   exfalso;have hx:=H.nts x (by simp)
   have hk3:¬ x.kind=3:=by
    intro z;simp only [JV,z,if_true] at h0;omega
   have hbad:∀ a:Int,0 <=a ->a < M ->1 <=Jg M cv (x::l') a ->False:=by
    intro a a0 a1 hp;by_cases z:a=m
    ·rw [z] at hp;omega
    ·have:=H.acc a a0 a1;rw [H.giv,if_neg z,k1 a z] at this;simp only [Qh] at this;omega
   rcases hx.2.2.2 with z | z | z
   ·have:=H.Us z.2.1 (x:=x) (by simp);rw [Wm z.1,if_pos rfl] at this;exact hbad _ z.2.1 z.2.2 (by omega)
   ·have:=H.Us hx.1.1 (x:=x) (by simp);rw [ZaV z.1,if_pos rfl] at this;exact hbad _ hx.1.1 hx.1.2 (by omega)
   ·exact hk3 z.1
theorem Nm.ZuT (H:Nm M n cv ns h) {c:Zb} (e:cv m=some c) (hf:0 <=c.from_) {t w:Int} (ht:0 <=t∧t < M) (h1:1 <=w) (h2:w < c.has) {y:Zd} (hy:y= ⟨1,t,n,c.from_,w⟩):
 Nm M n (Yr cv m (some ⟨c.name,c.root,c.from_,c.has - w,c.out,c.use⟩)) (ns ++ [y]) h:=by
 have hm:=H.rng m c e;have hc:c.root=false∧0 <=c.from_∧c.from_ < M∧c.from_ ≠ m∧1 <=c.has:=by rcases H.cel m c e with z | z;exact z;omega
 have ky:y.kind=1:=by rw [hy]
 refine H.put hm.1 hm.2 (by exact H.nam m c e) (.inl ⟨hc.1,hc.2.1,hc.2.2.1,hc.2.2.2.1,by show 1 <=c.has - w;omega⟩) ?_ (by exact H.rt m c e) ?_ (fun a a0 a1=>?_) (H.U6 (.inr ⟨c,e,rfl⟩))
 ·intro z hz;rcases List.mem_append.1 hz with q | q
  ·exact H.nts z q
  ·rw [List.mem_singleton.1 q,hy];exact⟨ht,rfl,h1,.inl ⟨rfl,hc.2.1,hc.2.2.1⟩⟩
 ·have o:=H.one;rw [ZaA,Zen,ky,← o];by_cases z:h=m
  ·rw [if_pos z,z,e];rfl
  ·rw [if_neg z];simp
 ·rw [e,XV,XV,Qv,Qv,Wn ky,Wm ky,hy];simp only [Qe];by_cases z:a=m
  ·rw [if_pos z,z,e];simp only [Qh];split <;> omega
  ·rw [if_neg z];split <;> omega
theorem Nm.ZuV (H:Nm M n cv ns h) {c:Zb} (e:cv m=some c) {t w:Int} (ht:0 <=t∧t < M) (h1:1 <=w) {y:Zd} (hy:y= ⟨1,t,n,m,w⟩):
 Nm M n (Yr cv m (some ⟨c.name,c.root,c.from_,c.has,c.out + w,c.use⟩)) (ns ++ [y]) h:=by
 have hm:=H.rng m c e;have ky:y.kind=1:=by rw [hy]
 refine H.put hm.1 hm.2 (by exact H.nam m c e) (by exact H.cel m c e) ?_ (by exact H.rt m c e) ?_ (fun a a0 a1=>?_) (H.U6 (.inr ⟨c,e,rfl⟩))
 ·intro z hz;rcases List.mem_append.1 hz with q | q
  ·exact H.nts z q
  ·rw [List.mem_singleton.1 q,hy];exact⟨ht,rfl,h1,.inl ⟨rfl,hm⟩⟩
 ·have o:=H.one;rw [ZaA,Zen,ky,← o];by_cases z:h=m
  ·rw [if_pos z,z,e];rfl
  ·rw [if_neg z];simp
 ·rw [e,XV,XV,Qv,Qv,Wn ky,Wm ky,hy];simp only [Qe];by_cases z:a=m
  ·rw [if_pos z,z,e,if_pos rfl];simp only [Qh];omega
  ·rw [if_neg z,if_neg (by omega:¬ m=a)];omega
theorem Nm.go (H:Nm M n cv ns h) {c:Zb} (e:cv m=some c) (hr:c.root=true) {t:Int} (ht:0 <=t∧t < M) (hne:t ≠ m) {y:Zd} (hy:y= ⟨3,t,n,0,16⟩):
 Nm M n (Yr cv m (some ⟨c.name,false,t,16,c.out,c.use⟩)) (ns ++ [y]) t:=by
 have hm:=H.rng m c e;have hmh:=H.rt m c e hr;subst hmh;have hc:c.from_=-1∧c.has=0:=by rcases H.cel m c e with z | z;exact absurd hr (by simp [z.1]);exact z
 have ky:y.kind=3:=by rw [hy]
 have o:=H.one;rw [e] at o;have h0:JV ns=0:=by simp only [J4,hr,if_true] at o;omega
 have no3:∀ x ∈ ns,¬ x.kind=3:=by
  intro x hx z
  have:∀ l:List Zd,x ∈ l ->1 <=JV l:=by
   intro l
   induction l with
   | nil=>simp
   | cons w l ih=>
     intro q;simp only [JV];rcases List.mem_cons.1 q with rfl | q
     ·rw [if_pos z];omega
     ·have:=ih q;omega
  have:=this ns hx;omega
 refine⟨?_,?_,?_,?_,ht,?_,?_,?_,?_⟩
 ·intro a d hd;unfold Yr at hd;split at hd
  ·subst_vars;exact hm
  ·exact H.rng a d hd
 ·intro a d hd;unfold Yr at hd;split at hd
  ·cases hd;exact H.nam m c e
  ·exact H.nam a d hd
 ·intro a d hd;unfold Yr at hd;split at hd
  ·subst_vars;cases hd;exact .inl ⟨rfl,ht.1,ht.2,hne,by show(1:Int) <=16;omega⟩
  ·exact H.cel a d hd
 ·intro z hz;rcases List.mem_append.1 hz with q | q
  ·have:=H.nts z q;refine⟨this.1,this.2.1,this.2.2.1,?_⟩;rcases this.2.2.2 with w | w | w
   ·exact .inl w
   ·exact .inr (.inl w)
   ·exact absurd w.1 (no3 z q)
  ·rw [List.mem_singleton.1 q,hy];exact⟨ht,rfl,by show(1:Int) <=16;omega,.inr (.inr ⟨rfl,rfl,rfl,rfl⟩)⟩
 ·intro a d hd hrd;unfold Yr at hd;split at hd
  ·cases hd;cases hrd
  ·rename_i z;exact absurd (H.rt a d hd hrd) z
 ·rw [ZaA,Zen,if_pos ky,ZdO hne,h0]
  have:J4 (cv t)=0:=by
   cases ec:cv t with
   | none=>rfl
   | some d=>
     show(if d.root=true then 1 else 0)=0;by_cases z:d.root=true
     ·exact absurd (H.rt t d ec z) hne
     ·rw [if_neg z]
  omega
 ·intro a a0 a1;have q:=H.acc a a0 a1;rw [Zd1 hm.1 hm.2,e];unfold Kt Jg at *;rw [XV,XV,Qv,Qv,ZjR ky,ZoX ky,hy];simp only [Qe,hc.1,hc.2] at *
  have:Qh (Yr cv m (some ⟨c.name,false,t,16,c.out,c.use⟩) a)=Qh (cv a):=by
   unfold Yr;split
   ·rename_i z;rw [z,e];rfl
   ·rfl
  rw [this];rw [if_neg (by omega:¬ (-1:Int)=a)];omega
 ·obtain⟨dep,l⟩:=H.lead;refine⟨fun a=>if a=t then 0 else dep a + 1,fun a d hd ha=>?_⟩;dsimp only;rw [if_neg ha];unfold Yr at hd;split at hd
  ·cases hd;dsimp only;rw [if_pos rfl];exact⟨ht.1,.inr rfl,by omega⟩
  ·rename_i z;obtain⟨l1,l2,l3⟩:=l a d hd z;refine⟨l1,?_,?_⟩
   ·by_cases q:d.from_=m
    ·rw [q,Zco];exact .inl (by simp)
    ·rw [ZdO q];rcases l2 with l2 | l2
     ·exact .inl l2
     ·exact absurd l2 q
   ·split <;> omega
theorem Nm.fresh (hm:0 <=m∧m < M):Nm M n (Yr (fun _=>none) m (some ⟨n,true,-1,0,0,true⟩)) [] m where
 rng a d hd:=by
  unfold Yr at hd;split at hd
  ·subst_vars;exact hm
  ·cases hd
 nam a d hd:=by
  unfold Yr at hd;split at hd
  ·cases hd;rfl
  ·cases hd
 cel a d hd:=by
  unfold Yr at hd;split at hd
  ·cases hd;exact .inr ⟨rfl,rfl⟩
  ·cases hd
 nts x hx:=by simp at hx
 hM:=hm
 rt a d hd _:=by
  unfold Yr at hd;split at hd
  ·assumption
  ·cases hd
 one:=by rw [Zco];rfl
 acc a a0 a1:=by
  rw [Zd1 hm.1 hm.2];unfold Kt Jg
  have:KJ (fun m=>WA a none) M=0:=by
   have:∀ k,KJ (fun m=>WA a none) k=0:=by
    intro k;induction k with
    | zero=>rfl
    | succ k ih=>simp only [KJ,ih];rfl
   exact this M
  rw [this]
  have:Qh (Yr (fun _=>none) m (some ⟨n,true,-1,0,0,true⟩) a)=0:=by
   unfold Yr;split <;> rfl
  rw [this,Qe];simp [YN,WA]
 lead:= ⟨fun _=>0,fun a d hd ha=>by
  unfold Yr at hd;split at hd
  ·rename_i z;exact absurd z ha
  ·cases hd⟩
end
end Go.Proofs.Ytekpjgmhkkjhgaa
end
section
namespace Go.Lf
theorem ZgP (n:Int):ZV n=Int.bmod n 18446744073709551616:=by
 unfold ZV Go.IntKind.wrap;have e1:(2 ^ IntKind.i64.bits:Int)=18446744073709551616:=by decide
 have e2:(2 ^ (IntKind.i64.bits - 1):Int)=9223372036854775808:=by decide
 have e3:IntKind.i64.signed=true:=rfl;rw [e1,e2,e3];dsimp only;unfold Int.bmod;have:=Int.emod_nonneg n (b:=18446744073709551616) (by decide);have:=Int.emod_lt_of_pos n (b:=18446744073709551616) (by decide);simp;split <;> split <;> omega
theorem ZjH (a b:Int):ZV (ZV a + b)=ZV (a + b):=by
 rw [ZgP,ZgP,ZgP];simp
theorem QX {k:Nat} (h:k < 4611686018427387904):ZV ((k:Int) + 1)= ((k + 1:Nat):Int):=by
 rw [YW (by omega) (by omega)];rfl
theorem Zlv {k:Nat} (h:k < 4611686018427387904) (h0:0 < k):ZV ((k:Int) - 1)= ((k - 1:Nat):Int):=by
 rw [YW (by omega) (by omega)];omega
theorem QD {α:Type} {JQ:Nat} {xs ys:List α} (h:xs.length + ys.length <=1000000) (hb:JQ <=1000):app JQ xs ys=some (xs ++ ys):=
 Zt5 (Nat.le_trans (Nat.mul_le_mul (show 2 * (xs.length + ys.length) + 1000 <=2001000 by omega) hb) (by decide))
def iter {α β σ:Type} (g:Nat ->α ->σ ->(σ ->Option β) ->Option β) (d:σ ->Option β):Nat ->List α ->σ ->Option β
 | _,[],s=>d s
 | i,x::l,s=>g i x s (fun s'=>iter g d (i + 1) l s')
theorem XR {α β σ γ:Type} (l:List α) (mk:Int ->σ ->γ) (body:γ ->(γ ->Option β) ->Option β) (g:Nat ->α ->σ ->(σ ->Option β) ->Option β) (d:σ ->Option β)
 (hl:l.length < 4611686018427387904)
 (hb:∀ (k:Nat) x s next,l[k]? =some x ->((k:Int) < (l.length:Int)) ->body (mk k s) next=g k x s (fun s'=>next (mk (ZV (k + 1)) s')))
 (he:∀ s next,body (mk l.length s) next=d s) {F:Nat} (hF:l.length < F) (s:σ):loop F body (mk 0 s)=iter g d 0 l s:=by
 have key:∀ (m k F:Nat) s,k + m=l.length ->m < F ->loop F body (mk k s)=iter g d k (l.drop k) s:=by
  intro m
  induction m with
  | zero=>
    intro k F s hk hF;obtain⟨F,rfl⟩:=Nat.exists_eq_succ_of_ne_zero (n:=F) (by omega);have:k=l.length:=by omega
    subst this;rw [YF,he,List.drop_length];rfl
  | succ m ih=>
    intro k F s hk hF;obtain⟨F,rfl⟩:=Nat.exists_eq_succ_of_ne_zero (n:=F) (by omega);have hlt:k < l.length:=by omega
    rw [YF,hb k l[k] s _ (by simp [hlt]) (by omega),List.drop_eq_getElem_cons hlt,iter];congr 1;funext s';rw [QX (by omega)];exact ih (k + 1) F s' (by omega) (by omega)
 have:=key l.length 0 F s (by omega) (by omega)
 simpa using this
theorem Za0 {β σ γ:Type} (n:Nat) (mk:Int ->σ ->γ) (body:γ ->(γ ->Option β) ->Option β) (g:Nat ->σ ->(σ ->Option β) ->Option β) (d:σ ->Option β)
 (hl:n < 4611686018427387904)
 (hb:∀ (k:Nat) s next,k < n ->body (mk k s) next=g k s (fun s'=>next (mk (ZV (k + 1)) s')))
 (he:∀ s next,body (mk n s) next=d s) {F:Nat} (hF:n < F) (s:σ):loop F body (mk 0 s)=iter (fun _ k s next=>g k s next) d 0 (List.range n) s:=by
 refine XR (List.range n) mk body (fun _ k s next=>g k s next) d (by simpa using hl) (fun k x s next hx hk=>?_) (by simpa using he) (by simpa using hF) s;rw [List.length_range] at hk
 have:x=k:=by
  rw [List.getElem?_range (by omega)] at hx
  simpa using hx.symm
 subst this;exact hb _ s next (by omega)
def anyI {α:Type} (c:Nat ->α ->Bool):Nat ->List α ->Bool
 | _,[]=>false
 | i,x::l=>c i x || anyI c (i + 1) l
theorem Zcb {α:Type} {c:Nat ->α ->Bool}:∀ {l:List α} {i:Nat},anyI c i l=true↔∃ j x,l[j]? =some x∧c (i + j) x=true
 | [],i=>by simp [anyI]
 | y::l,i=>by
   unfold anyI;rw [Bool.or_eq_true,Zcb (l:=l)]
   constructor
   ·rintro(h | ⟨j,x,h1,h2⟩)
    ·exact⟨0,y,rfl,h⟩
    ·exact⟨j + 1,x,h1,by rw [← h2];congr 1;omega⟩
   ·rintro⟨j,x,h1,h2⟩;cases j with
    | zero=>simp at h1;subst h1;exact .inl h2
    | succ j=>exact .inr ⟨j,x,by simpa using h1,by rw [← h2];congr 1;omega⟩
theorem Zeu {α:Type} (c:α ->Bool) (l:List α) (i:Nat):anyI (fun _ x=>c x) i l=l.any c:=by
 induction l generalizing i with
 | nil=>rfl
 | cons x l ih=>unfold anyI;rw [ih];rfl
theorem Kr {α β σ:Type} {g:Nat ->α ->σ ->(σ ->Option β) ->Option β} {d:σ ->Option β} {r:Option β} (c:Nat ->α ->Bool) {l:List α} {i:Nat} {s:σ}
 (hg:∀ k x next,l[k]? =some x ->g (i + k) x s next=bif c (i + k) x then r else next s):iter g d i l s=bif anyI c i l then r else d s:=by
 induction l generalizing i with
 | nil=>rfl
 | cons x l ih=>
   unfold iter anyI;have:=hg 0 x (fun s'=>iter g d (i + 1) l s') rfl;rw [Nat.add_zero] at this;rw [this];cases c i x
   ·rw [cond_false,Bool.false_or];exact ih (fun k y next hy=>by rw [show i + 1 + k=i + (k + 1) by omega];exact hg (k + 1) y next (by simpa using hy))
   ·rfl
def foldI {α σ:Type} (f:Nat ->α ->σ ->σ):Nat ->List α ->σ ->σ
 | _,[],s=>s
 | i,x::l,s=>foldI f (i + 1) l (f i x s)
theorem U7 {α β σ:Type} {g:Nat ->α ->σ ->(σ ->Option β) ->Option β} {d:σ ->Option β} (f:Nat ->α ->σ ->σ) (I:Nat ->σ ->Prop) {l:List α} {i:Nat} {s:σ} (h0:I i s)
 (hg:∀ k x s next,l[k]? =some x ->I (i + k) s ->g (i + k) x s next=next (f (i + k) x s)∧I (i + k + 1) (f (i + k) x s)):iter g d i l s=d (foldI f i l s)∧I (i + l.length) (foldI f i l s):=by
 induction l generalizing i s with
 | nil=>exact⟨rfl,h0⟩
 | cons x l ih=>
   unfold iter foldI;have:=hg 0 x s (fun s'=>iter g d (i + 1) l s') rfl h0;rw [Nat.add_zero] at this;rw [this.1]
   have:=ih this.2 (fun k y s next hy hI=>by
    rw [show i + 1 + k=i + (k + 1) by omega] at hI ⊢;exact hg (k + 1) y s next (by simpa using hy) hI)
   rwa [show i + 1 + l.length=i + (x::l).length by simp;omega] at this
theorem ZbV {α σ:Type} (f:α ->σ ->σ) (l:List α) (i:Nat) (s:σ):foldI (fun _=>f) i l s=l.foldl (fun s x=>f x s) s:=by
 induction l generalizing i s with
 | nil=>rfl
 | cons x l ih=>exact ih _ _
theorem Zeb {σ τ:Type} (V:σ ->τ) (f:Nat ->σ ->σ) (h:τ ->τ) {n N:Nat} (hn:n < N) (h1:∀ i s,i < N ->i ≠ n ->V (f i s)=V s) (h2:∀ s,V (f n s)=h (V s)) (s:σ):
 V ((List.range N).foldl (fun s i=>f i s) s)=h (V s):=by
 have key:∀ M,M <=N ->V ((List.range M).foldl (fun s i=>f i s) s)=if n < M then h (V s) else V s:=by
  intro M
  induction M with
  | zero=>intro _;simp
  | succ M ih=>
    intro hM;rw [List.range_succ,List.foldl_append];simp only [List.foldl_cons,List.foldl_nil];by_cases e:M=n
    ·subst e;rw [h2,ih (by omega),if_neg (by omega),if_pos (by omega)]
    ·rw [h1 _ _ (by omega) e,ih (by omega)];by_cases hm:n < M
     ·rw [if_pos hm,if_pos (by omega)]
     ·rw [if_neg hm,if_neg (by omega)]
 rw [key N (Nat.le_refl _),if_pos hn]
end Go.Lf
end
section
end
section
namespace Go.Proofs.Ytekpjgmhkkjhgaa
open Go.Lf
structure Small (w:Za):Prop where
 cells:w.cells.length < 1000
 rows:∀ r ∈ w.cells,r.length < 1000
 notes:w.notes.length < 1000
 freed:w.freed.length < 1000
def rowOf (w:Za) (m:Nat):List Zb:=w.cells[m]?.getD []
def cellOf (w:Za) (m:Nat) (n:Int):Option Zb:= (rowOf w m).find? (fun c=>c.name==n)
theorem Jl {w:Za} {m:Nat} (h:m < w.cells.length):w.cells[m]? =some (rowOf w m):=by
 unfold rowOf;simp [h]
theorem Zi5 {α β σ:Type} {g:Nat ->α ->σ ->(σ ->Option β) ->Option β} {d:σ ->Option β} (r:Nat ->Option β) (c:α ->Bool) {l:List α} {i:Nat} {s:σ}
 (hg:∀ k x next,l[k]? =some x ->g (i + k) x s next=bif c x then r (i + k) else next s):
 (∃ j x,l.find? c=some x∧l[j]? =some x∧iter g d i l s=r (i + j))∨(l.find? c=none∧iter g d i l s=d s):=by
 induction l generalizing i with
 | nil=>exact .inr ⟨rfl,rfl⟩
 | cons x l ih=>
   unfold iter;have:=hg 0 x (fun s'=>iter g d (i + 1) l s') rfl;rw [Nat.add_zero] at this;rw [this];cases hc:c x
   ·rw [cond_false,List.find?_cons,hc];rcases ih (i:=i + 1) (fun k y next hy=>by rw [show i + 1 + k=i + (k + 1) by omega];exact hg (k + 1) y next (by simpa using hy)) with⟨j,y,h1,h2,h3⟩ | ⟨h1,h2⟩
    ·exact .inl ⟨j + 1,y,h1,by simpa using h2,by rw [h3];congr 1;omega⟩
    ·exact .inr ⟨h1,h2⟩
   ·exact .inl ⟨0,x,by rw [List.find?_cons,hc],rfl,rfl⟩
def ZbQ (w:Za) (m n:Int):Nat:=w.notes.countP fun x=>(x.kind==3 && x.ZG==m) && x.name==n
def ZoU (w:Za) (m:Nat) (n:Int):Int:=match cellOf w m n with | some c=>c.out | none=>0
def JK (w:Za) (m:Nat) (n:Int):Int:=ZV (16 * (ZbQ w m n:Int) + ZoU w m n)
def Zl6 (w:Za) (m n:Int) (k:Nat) (s:Int):Int:=match cellOf w k n with | some c=>bif c.from_==m then ZV (s + c.has) else s | none=>s
def ZfW (m n:Int) (x:Zd) (s:Int):Int:=bif(x.name==n) && (((x.kind==1) && (x.via==m)) || ((x.kind==2) && (x.ZG==m))) then ZV (s + x.w) else s
def Zdw (w:Za) (m n:Int):Int:=w.notes.foldl (fun s x=>ZfW m n x s) ((List.range w.cells.length).foldl (fun s k=>Zl6 w m n k s) 0)
theorem Zma {α:Type} (g:Bool) (a d:α):gd g (some a) d=some (bif g then a else d):=by cases g <;> rfl
theorem contains_eq {F:Nat} (hF:1000 <=F) {l:List Int} (hl:l.length < 1000) (x:Int):Zkt F l x=some (l.any fun y=>y==x):=by
 unfold Zkt ZpC
 have e:=XR l (fun v (_:Unit)=>v) (ZcB l x) (fun k y s next=>bif x==y then some (k:Int) else next ()) (fun _=>some (-1)) (by omega) (fun k y s next hy hk=>by
  simp only [ZcB,Yt,hy,hk,decide_true,Option.bind_some,cond_true]) (fun s next=>by simp [ZcB]) (by omega:l.length < F) ()
 rw [show loop F (ZcB l x) 0=_ from e];rcases Zi5 (l:=l) (i:=0) (s:= ()) (d:=fun _=>some (-1)) (g:=fun k (y:Int) (_:Unit) next=>bif x==y then some (k:Int) else next ()) (fun k=>some (k:Int)) (fun c=>x==c) (fun _ _ _ _=>rfl) with⟨j,y,h1,h2,h3⟩ | ⟨h1,h2⟩
 ·rw [h3]
  have:(l.any fun y=>y==x)=true:=by
   rw [List.any_eq_true];have:=List.find?_some h1;exact⟨y,List.mem_of_find?_eq_some h1,by simpa using (by simpa using this:x=y).symm⟩
  rw [this];simp
 ·rw [h2]
  have:(l.any fun y=>y==x)=false:=by
   rw [List.any_eq_false];rw [List.find?_eq_none] at h1;intro y hy;have:=h1 y hy;simp at this ⊢;exact fun e=>this e.symm
  rw [this];rfl
def Yx (w:Za) (n:Int):Bool:= (decide (0 <=n) && decide (n < w.names)) && !(w.freed.any fun y=>y==n)
def KW (w:Za) (m:Int):Bool:=decide (0 <=m) && decide (m < (w.cells.length:Int))
def WG (w:Za) (m:Int) (c:Zb):Bool:=
 (Yx w c.name && (decide (-16 <=c.out) && decide (c.out <=1000000)) && (c.use || !(c.out==0))) &&
 (bif c.root || c.from_==-1 then c.from_==-1 && c.has==0 else KW w c.from_ && !(c.from_==m) && (decide (1 <=c.has) && decide (c.has <=1000000)))
def Ww (w:Za) (x:Zd):Bool:=
 (KW w x.ZG && Yx w x.name && (decide (1 <=x.w) && decide (x.w <=1000000))) &&
 (bif x.kind==1 then KW w x.via else bif x.kind==2 then x.via==0 else x.kind==3 && x.via==0 && x.w==16)
section
theorem ZeX {F:Nat} (hF:1000 <=F) {w:Za} (sm:Small w) (st:Store) (e1:st.names=w.names) (e2:st.freed=w.freed) (n:Int):Zmi F st n=some (Yx w n):=by
 unfold Zmi Yx;rw [e1,e2,contains_eq hF sm.freed];simp only [Zma,Option.bind_some];simp only [ge_iff_le];cases decide (0 <=n) <;> cases decide (n < w.names) <;> cases (w.freed.any fun y=>y==n) <;> rfl
theorem Ze0 {w:Za} (sm:Small w) (st:Store) (e1:st.machines= (w.cells.length:Int)) (n:Int):ZhT st n=some (KW w n):=by
 unfold ZhT KW;rw [e1]
theorem ZqU {F:Nat} (hF:1000 <=F) {w:Za} (sm:Small w) (st:Store) (e0:st.machines= (w.cells.length:Int)) (e1:st.names=w.names) (e2:st.freed=w.freed) (m:Int) (c:Zb):Zmp F st m c=some (WG w m c):=by
 unfold Zmp;rw [ZeX hF sm st e1 e2,Ze0 sm st e0];simp only [Option.bind_some];unfold WG;have a1:decide (c.out < -16)= !decide (-16 <=c.out):=by rw [← decide_not];exact decide_eq_decide.2 (by omega)
 have a2:decide (c.out > 1000000)= !decide (c.out <=1000000):=by rw [← decide_not];exact decide_eq_decide.2 (by omega)
 have a3:(c.from_ !=m)= !(c.from_==m):=rfl;rw [a1,a2,a3];simp only [ge_iff_le];generalize Yx w c.name=nm;generalize decide (-16 <=c.out)=oa;generalize decide (c.out <=1000000)=ob;generalize KW w c.from_=fm;generalize decide (1 <=c.has)=ha;generalize decide (c.has <=1000000)=hb;generalize (c.out==0)=o0;generalize (c.from_==m)=f1;generalize (c.from_==-1)=f2;generalize (c.has==0)=hz;generalize c.use=us;generalize c.root=ro;cases nm <;> cases oa <;> cases ob <;> cases us <;> cases o0 <;> cases ro <;> cases f2 <;> cases fm <;> cases f1 <;> cases ha <;> cases hb <;> rfl
theorem Zp9 {F:Nat} (hF:1000 <=F) {w:Za} (sm:Small w) (st:Store) (e0:st.machines= (w.cells.length:Int)) (e1:st.names=w.names) (e2:st.freed=w.freed) (x:Zd):Zmo F st x=some (Ww w x):=by
 unfold Zmo;rw [ZeX hF sm st e1 e2,Ze0 sm st e0,Ze0 sm st e0];simp only [Zma,Option.bind_some];unfold Ww;have a1:decide (x.w < 1)= !decide (1 <=x.w):=by rw [← decide_not];exact decide_eq_decide.2 (by omega)
 have a2:decide (x.w > 1000000)= !decide (x.w <=1000000):=by rw [← decide_not];exact decide_eq_decide.2 (by omega)
 rw [a1,a2];generalize Yx w x.name=nm;generalize KW w x.ZG=tm;generalize KW w x.via=vm;generalize decide (1 <=x.w)=ha;generalize decide (x.w <=1000000)=hb;generalize (x.kind==1)=k1;generalize (x.kind==2)=k2;generalize (x.kind==3)=k3;generalize (x.via==0)=v0;generalize (x.w==16)=w16;cases nm <;> cases tm <;> cases vm <;> cases ha <;> cases hb <;> cases k1 <;> cases k2 <;> cases k3 <;> cases v0 <;> cases w16 <;> rfl
end
end Go.Proofs.Ytekpjgmhkkjhgaa
end
section
namespace Go.Proofs.Ytekpjgmhkkjhgaa
open Go.Lf
def Qw {α:Type} [Inhabited α] (l:List α) (k:Nat):α:=l[k-1]?.getD default
theorem Zpm {α:Type} [Inhabited α] (g:Bool) {l:List α} {k:Nat} (hk:k < l.length) (hl:l.length < 4611686018427387904):
 gd (g && decide ((k:Int) > 0)) (Yb l (ZV ((k:Int) - 1))) default=some (bif g && decide ((k:Int) > 0) then Qw l k else default):=by
 cases g
 ·rfl
 ·by_cases h:0 < k
  ·have:decide ((k:Int) > 0)=true:=by simp;omega
   rw [this,Bool.true_and,Zd9,Zlv (by omega) h,Yt,cond_true];unfold Qw;have:k - 1 < l.length:=by omega
   simp [this]
  ·have:decide ((k:Int) > 0)=false:=by simp;omega
   rw [this];rfl
def Ku (w:Za) (k:Nat) (x:Int):Bool:= !(decide (0 <=x) && decide (x < w.names)) || (decide ((k:Int) > 0) && decide (x <=Qw w.freed k))
def Kk (w:Za) (m:Nat) (row:List Zb) (k:Nat) (c:Zb):Bool:= !(WG w m c) || (decide ((k:Int) > 0) && decide (c.name <= (Qw row k).name))
def Zbs (w:Za):Bool:= (decide (1 <= (w.cells.length:Int)) && decide ((w.cells.length:Int) <=6)) && (decide (0 <=w.names) && decide (w.names <=12)) && (decide ((w.notes.length:Int) <=80) && decide ((w.freed.length:Int) <=w.names))
def ZcX (w:Za):Bool:= !(anyI (fun m row=>anyI (Kk w m row) 0 row) 0 w.cells)
def Km (w:Za):Bool:= !(w.notes.any fun x=>!(Ww w x))
section
theorem ZqA {F:Nat} (hF:1000 <=F) {w:Za} (sm:Small w) (st:Store) (e0:st.machines= (w.cells.length:Int)) (e1:st.names=w.names) (e2:st.freed=w.freed):Zth F st w=some (ZcX w && Km w):=by
 have hc:=sm.cells;have hn:=sm.notes
 have l2:loop F (Zfa F st w) 0=some (Km w):=by
  refine(XR w.notes (fun v (_:Unit)=>v) (Zfa F st w) (fun _ x s next=>bif !(Ww w x) then some false else next ()) (fun _=>some true) (by omega) (fun k y s next hy hk=>?_) (fun s next=>?_) (by omega) ()).trans ?_
  ·simp only [Zfa,Yt,hy,hk,decide_true,cond_true,Option.bind_some,Zp9 hF sm st e0 e1 e2]
  ·simp [Zfa]
  ·rw [Kr (r:=some false) (fun _ x=>!(Ww w x)) (fun _ _ _ _=>rfl),Zeu];unfold Km;cases w.notes.any fun x=>!(Ww w x) <;> rfl
 have l1:∀ (m:Nat) (row:List Zb) (next:Int ->Option Bool),row.length < 1000 ->loop F (Zfb F st m next row) 0=bif anyI (Kk w m row) 0 row then some false else next (ZV ((m:Int) + 1)):=by
  intro m row next hr;refine(XR row (fun v (_:Unit)=>v) (Zfb F st m next row) (fun k c s nx=>bif Kk w m row k c then some false else nx ()) (fun _=>next (ZV ((m:Int) + 1))) (by omega) (fun k y s nx hy hk=>?_) (fun s nx=>?_) (by omega) ()).trans ?_
  ·have hk':k < row.length:=by omega
   simp only [Zfb,Yt,hy,hk,decide_true,cond_true,Option.bind_some,ZqU hF sm st e0 e1 e2,Zpm _ hk' (by omega),Zma];unfold Kk;cases WG w m y <;> cases decide ((k:Int) > 0) <;> rfl
  ·simp [Zfb]
  ·rw [Kr (r:=some false) (Kk w m row) (fun k _ _ _=>by rw [Nat.zero_add])]
 unfold Zth;refine(XR w.cells (fun v (_:Unit)=>v) (ZhH F st w) (fun m row s next=>bif anyI (Kk w m row) 0 row then some false else next ()) (fun _=>some (Km w)) (by omega) (fun k y s next hy hk=>?_) (fun s next=>?_) (by omega) ()).trans ?_
 ·have hr:=sm.rows y (List.mem_of_getElem? hy);simp only [ZhH,Yt,hy,hk,decide_true,cond_true,Option.bind_some];exact l1 k y next hr
 ·simp only [ZhH];rw [decide_eq_false (by omega),cond_false,l2]
 ·rw [Kr (r:=some false) (fun m row=>anyI (Kk w m row) 0 row) (fun k _ _ _=>by rw [Nat.zero_add])];unfold ZcX;cases anyI (fun m (row:List Zb)=>anyI (Kk w m row) 0 row) 0 w.cells <;> rfl
end
end Go.Proofs.Ytekpjgmhkkjhgaa
end
section
namespace Go.Proofs.Ytekpjgmhkkjhgaa
open Go.Lf
structure Shp (w:Za):Prop where
 c1:1 <=w.cells.length
 c6:w.cells.length <=6
 n0:0 <=w.names
 n12:w.names <=12
 notes:w.notes.length <=80
 cell:∀ (m:Nat) (row:List Zb) (k:Nat) (c:Zb),w.cells[m]? =some row ->row[k]? =some c ->WG w m c=true∧(0 < k ->(Qw row k).name < c.name)
 note:∀ x ∈ w.notes,Ww w x=true
theorem rows_ok {w:Za} (h:ZcX w=true) (m:Nat) (row:List Zb) (k:Nat) (c:Zb) (hm:w.cells[m]? =some row) (hk:row[k]? =some c):WG w m c=true∧(0 < k ->(Qw row k).name < c.name):=by
 unfold ZcX at h;rw [Bool.not_eq_true',← Bool.not_eq_true] at h;have h1:¬ Kk w m row k c=true:=fun hb=>h (Zcb.2 ⟨m,row,hm,by rw [Nat.zero_add];exact Zcb.2 ⟨k,c,hk,by rw [Nat.zero_add];exact hb⟩⟩)
 unfold Kk at h1;rw [Bool.or_eq_true,Bool.and_eq_true,decide_eq_true_eq,decide_eq_true_eq,Bool.not_eq_true'] at h1;refine⟨?_,fun h0=>?_⟩
 ·cases hc:WG w m c
  ·exact absurd (.inl hc) h1
  ·rfl
 ·by_cases hl:(Qw row k).name < c.name
  ·exact hl
  ·exact absurd (.inr ⟨by omega,by omega⟩) h1
theorem asc {row:List Zb} (h:∀ k c,row[k]? =some c ->0 < k ->(Qw row k).name < c.name):∀ (k j:Nat) (c d:Zb),j < k ->row[k]? =some c ->row[j]? =some d ->d.name < c.name:=by
 intro k
 induction k with
 | zero=>intro j c d h0;omega
 | succ k ih=>
   intro j c d hj hc hd;have hlt:k + 1 < row.length:= (List.getElem?_eq_some_iff.1 hc).1;have hp:=h (k + 1) c hc (by omega)
   have e:row[k]? =some (Qw row (k + 1)):=by
    unfold Qw;have:k < row.length:=by omega
    simp [this]
   by_cases hjk:j=k
   ·subst hjk;rw [e] at hd;cases hd;exact hp
   ·have:=ih j _ d (by omega) e hd;omega
theorem ZrA {w:Za} (h1:Zbs w=true) (h2:ZcX w=true) (h3:Km w=true):Shp w:=by
 unfold Zbs at h1;simp only [Bool.and_eq_true,decide_eq_true_eq] at h1;obtain⟨⟨⟨b1,b2⟩,b3,b4⟩,b5,b6⟩:=h1;refine⟨by omega,by omega,b3,b4,by omega,rows_ok h2,fun x hx=>?_⟩;unfold Km at h3;rw [Bool.not_eq_true',List.any_eq_false] at h3;have:=h3 x hx
 simpa using this
theorem Zp0 {row:List Zb} (h:∀ k c,row[k]? =some c ->0 < k ->(Qw row k).name < c.name) {k:Nat} {c:Zb} (hc:row[k]? =some c) (n:Int):
 (row.take (k + 1)).find? (fun x=>x.name==n)=if n=c.name then some c else(row.take k).find? (fun x=>x.name==n):=by
 have hlt:k < row.length:= (List.getElem?_eq_some_iff.1 hc).1
 have e:row.take (k + 1)=row.take k ++ [c]:=by
  rw [List.take_add_one,hc];rfl
 rw [e,List.find?_append];by_cases hn:n=c.name
 ·subst hn;rw [if_pos rfl]
  have:(row.take k).find? (fun x=>x.name==c.name)=none:=by
   rw [List.find?_eq_none];intro x hx;obtain⟨j,hj⟩:=List.mem_iff_getElem?.1 hx;have hjk:j < k:=by have:= (List.getElem?_eq_some_iff.1 hj).1;rw [List.length_take] at this;omega
   rw [List.getElem?_take_of_lt hjk] at hj;have:=asc h k j c x hjk hc hj;simp;omega
  rw [this];simp
 ·rw [if_neg hn];have: [c].find? (fun x=>x.name==n)=none:=by simp;exact fun e=>hn e.symm
  rw [this];cases (row.take k).find? (fun x=>x.name==n) <;> rfl
def MapOf (w:Za) (l:List (Ze×Zb)):Prop:=∀ a b:Int,Xl l ⟨a,b⟩=if 0 <=a∧a < (w.cells.length:Int) then cellOf w a.toNat b else none
theorem ZoV {F:Nat} (hF:1000 <=F) {w:Za} (sm:Small w) (sh:Shp w):∃ cs,ZhJ F w=some ⟨(w.cells.length:Int),w.names,cs,w.notes,w.freed⟩∧MapOf w cs:=by
 have hc:=sm.cells;have hn:=sm.notes;have hf:=sm.freed;unfold ZhJ Zn6 Zn5;rw [QD (by simp only [List.length_nil];omega) (by decide),QD (by simp only [List.length_nil];omega) (by decide)];simp only [Option.bind_some,List.nil_append]
 let I:Nat ->List (Ze×Zb) ->Prop:=fun m l=>∀ a b:Int,Xl l ⟨a,b⟩=if 0 <=a∧a < (m:Int) then cellOf w a.toNat b else none
 have inner:∀ (m:Nat) (row:List Zb) (next:Int×(List (Ze×Zb)) ->Option Store) (l:List (Ze×Zb)),w.cells[m]? =some row ->I m l ->∃ l',I (m + 1) l'∧loop F (Zae m next row) (0,l)=next (ZV ((m:Int) + 1),l'):=by
  intro m row next l hm hI;have hr:=sm.rows row (List.mem_of_getElem? hm);have hro:rowOf w m=row:=by unfold rowOf;rw [hm];rfl
  have hasc:∀ k c,row[k]? =some c ->0 < k ->(Qw row k).name < c.name:=fun k c hk=>(sh.cell m row k c hm hk).2
  let J:Nat ->List (Ze×Zb) ->Prop:=fun k l'=>∀ a b:Int,Xl l' ⟨a,b⟩=if a= (m:Int) then(row.take k).find? (fun x=>x.name==b) else Xl l ⟨a,b⟩
  have e:=XR row (fun v s=>(v,s)) (Zae m next row) (fun _ c s nx=>nx (YR s (Ze.mk m c.name) c)) (fun s=>next (ZV ((m:Int) + 1),s)) (by omega) (fun k y s nx hy hk=>by
   simp only [Zae,Yt,hy,hk,decide_true,cond_true,Option.bind_some]) (fun s nx=>by simp only [Zae];rw [decide_eq_false (by omega),cond_false]) (by omega:row.length < F) l
  obtain⟨e2,hJ⟩:=U7 (d:=fun s=>next (ZV ((m:Int) + 1),s)) (g:=fun(_:Nat) (c:Zb) s nx=>nx (YR s (Ze.mk m c.name) c)) (fun _ c s=>YR s (Ze.mk m c.name) c) J (l:=row) (i:=0) (s:=l) (fun a b=>by
   by_cases ha:a= (m:Int)
   ·rw [if_pos ha,hI a b,if_neg (by omega)];simp
   ·rw [if_neg ha]) (fun k c s nx hk hJ=>⟨rfl,fun a b=>by
    rw [Nat.zero_add] at hJ ⊢;rw [ZeY];by_cases ha:a= (m:Int)
    ·subst ha;rw [if_pos rfl,Zp0 hasc hk];by_cases hb:b=c.name
     ·rw [if_pos hb,hb,if_pos rfl]
     ·rw [if_neg hb,if_neg (fun q=>hb (by injection q)),hJ,if_pos rfl]
    ·rw [if_neg ha,if_neg (fun q=>ha (by injection q)),hJ,if_neg ha]⟩)
  refine⟨_,fun a b=>?_,e.trans e2⟩;rw [Nat.zero_add] at hJ;rw [hJ a b];by_cases ha:a= (m:Int)
  ·subst ha;rw [if_pos rfl,if_pos (by omega),List.take_length];unfold cellOf;rw [Int.toNat_natCast,hro]
  ·rw [if_neg ha,hI a b];by_cases hz:0 <=a∧a < (m:Int)
   ·rw [if_pos hz,if_pos (by omega)]
   ·rw [if_neg hz,if_neg (by omega)]
 have key:∀ (d m:Nat) (F':Nat) (l:List (Ze×Zb)),m + d=w.cells.length ->d < F' ->I m l ->∃ cs,loop F' (Zaf F w w.notes w.freed) ((m:Int),l)=some ⟨(w.cells.length:Int),w.names,cs,w.notes,w.freed⟩∧MapOf w cs:=by
  intro d
  induction d with
  | zero=>
    intro m F' l hm hF' hI;obtain⟨F',rfl⟩:=Nat.exists_eq_succ_of_ne_zero (n:=F') (by omega);have:m=w.cells.length:=by omega
    subst this;refine⟨l,?_,hI⟩;rw [YF];simp only [Zaf];rw [decide_eq_false (by omega),cond_false]
  | succ d ih=>
    intro m F' l hm hF' hI;obtain⟨F',rfl⟩:=Nat.exists_eq_succ_of_ne_zero (n:=F') (by omega);have hlt:m < w.cells.length:=by omega
    obtain⟨l',h1,h2⟩:=inner m w.cells[m] (loop F' (Zaf F w w.notes w.freed)) l (by simp [hlt]) hI;obtain⟨cs,h3,h4⟩:=ih (m + 1) F' l' (by omega) (by omega) h1;refine⟨cs,?_,h4⟩;rw [YF];have hg:w.cells[m]? =some w.cells[m]:=by simp [hlt]
    simp only [Zaf,Yt,hg,Option.bind_some];rw [decide_eq_true (by omega),cond_true,h2,QX (by omega),h3]
 exact key w.cells.length 0 F [] (by omega) (by omega) (fun a b=>by rw [if_neg (by omega)];rfl)
def Je {σ:Type} (w:Za) (y:Int ->Zb ->σ ->σ) (m:Nat) (n:Nat) (s:σ):σ:=match cellOf w m n with | some c=>y m c s | none=>s
theorem QJ {w:Za} {m:Nat} {n:Int} {c:Zb} (h:cellOf w m n=some c):c.name=n:=by
 unfold cellOf at h;have:=List.find?_some h
 simpa using this
theorem KE {w:Za} {m:Nat} {n:Int} {c:Zb} (h:cellOf w m n=some c):∃ (row:List Zb) (k:Nat),w.cells[m]? =some row∧row[k]? =some c:=by
 unfold cellOf rowOf at h;have:=List.mem_of_find?_eq_some h;cases e:w.cells[m]? with
 | none=>rw [e] at this;simp at this
 | some row=>
   rw [e] at this;obtain⟨k,hk⟩:=List.mem_iff_getElem?.1 this;exact⟨row,k,rfl,hk⟩
structure X8 (w:Za) (st:Store):Prop where
 m:st.machines= (w.cells.length:Int)
 n:st.names=w.names
 notes:st.notes=w.notes
 freed:st.freed=w.freed
 cells:MapOf w st.cells
structure Szd (w:Za):Prop where
 c6:w.cells.length <=6
 n0:0 <=w.names
 n12:w.names <=12
 kind:∀ x ∈ w.notes,x.kind=1∨x.kind=2∨x.kind=3
theorem Shp.szd {w:Za} (sh:Shp w):Szd w:= ⟨sh.c6,sh.n0,sh.n12,fun x hx=>by
 have hx:=sh.note x hx;by_cases k1:x.kind=1
 ·exact .inl k1
 ·by_cases k2:x.kind=2
  ·exact .inr (.inl k2)
  ·have q1:(x.kind==1)=false:=by simp [k1]
   have q2:(x.kind==2)=false:=by simp [k2]
   unfold Ww at hx;rw [q1,q2] at hx;simp at hx;exact .inr (.inr hx.2.1.1)⟩
section
theorem Zlb {F:Nat} (hF:1000 <=F) {w:Za} (sm:Small w) (sh:Szd w) {st:Store} (so:X8 w st) {σ β:Type} (I:Nat ->σ ->Prop) (hI:∀ i s,I i s ->I (i + 1) s) {z:Zb} {E:σ ->Option β} {B1:Int×σ ->(Int×σ ->Option β) ->Option β} {B2:Int ->(Int×σ ->Option β) ->Int×σ ->(Int×σ ->Option β) ->Option β} {Y:Int ->Zb ->σ ->(σ ->Option β) ->Option β} (y':Int ->Zb ->σ ->σ)
 (hB1:∀ v s next,B1 (v,s) next=bif decide (v < st.machines) then loop F (B2 v next) (0,s) else E s)
 (hB2:∀ v0 next v s nx,B2 v0 next (v,s) nx=bif decide (v < st.names) then(KS st.cells (Ze.mk v0 v) z).bind fun x=>bif x.2 then Y v0 x.1 s (fun s'=>nx (ZV (v + 1),s')) else nx (ZV (v + 1),s) else next (ZV (v0 + 1),s))
 (hy:∀ i (a:Nat) c s k,a < w.cells.length ->i < 100 ->I i s ->Y a c s k=k (y' a c s)∧I (i + 1) (y' a c s)) (s0:σ) (h0:I 0 s0):
 loop F B1 (0,s0)=E ((List.range w.cells.length).foldl (fun s m=>(List.range w.names.toNat).foldl (fun s n=>Je w y' m n s) s) s0)∧
 I (w.cells.length * w.names.toNat) ((List.range w.cells.length).foldl (fun s m=>(List.range w.names.toNat).foldl (fun s n=>Je w y' m n s) s) s0):=by
 have hc:=sh.c6;have hn:=sh.n0;have hn2:=sh.n12;have en:((w.names.toNat:Nat):Int)=w.names:=by omega
 have inner:∀ (m:Nat) (next:Int×σ ->Option β) (s:σ),m < w.cells.length ->I (m * w.names.toNat) s ->
  loop F (B2 m next) (0,s)=next (ZV ((m:Int) + 1),(List.range w.names.toNat).foldl (fun s n=>Je w y' m n s) s)∧I ((m + 1) * w.names.toNat) ((List.range w.names.toNat).foldl (fun s n=>Je w y' m n s) s):=by
  intro m next s hm hs
  have e:=Za0 w.names.toNat (fun v s=>(v,s)) (B2 m next) (fun k s nx=>match cellOf w m k with | some c=>Y m c s nx | none=>nx s) (fun s=>next (ZV ((m:Int) + 1),s)) (by omega) (fun k s nx hk=>by
   rw [hB2,so.n];rw [decide_eq_true (by omega),cond_true];unfold KS;rw [so.cells,if_pos (by omega),Int.toNat_natCast];cases cellOf w m k with
   | some c=>rfl
   | none=>rfl) (fun s nx=>by rw [hB2,so.n];rw [decide_eq_false (by omega),cond_false]) (by omega:w.names.toNat < F) s
  obtain⟨e2,h2⟩:=U7 (d:=fun s=>next (ZV ((m:Int) + 1),s)) (g:=fun(_:Nat) (k:Nat) s nx=>match cellOf w m k with | some c=>Y m c s nx | none=>nx s) (fun _ k s=>Je w y' m k s) (fun k s=>I (m * w.names.toNat + k) s) (l:=List.range w.names.toNat) (i:=0) (s:=s) hs (fun k x s nx hx hs=>by
   have hk:k < w.names.toNat:=by
    have:= (List.getElem?_eq_some_iff.1 hx).1
    simpa using this
   have:x=k:=by
    rw [List.getElem?_range hk] at hx
    simpa using hx.symm
   subst this;rw [Nat.zero_add] at hs ⊢
   have hb:m * w.names.toNat + x < 100:=by
    have:=Nat.mul_le_mul (show m <=5 by omega) (show w.names.toNat <=12 by omega);omega
   unfold Je;cases cellOf w m x with
   | some c=>
     obtain⟨q1,q2⟩:=hy _ m c s nx hm hb hs;dsimp only;rw [q1];exact⟨rfl,q2⟩
   | none=>exact⟨rfl,hI _ _ hs⟩)
  rw [ZbV] at e2 h2;refine⟨e.trans e2,?_⟩;rw [List.length_range,Nat.zero_add] at h2;rw [Nat.add_mul,Nat.one_mul];exact h2
 have key:∀ (d m F':Nat) (s:σ),m + d=w.cells.length ->d < F' ->I (m * w.names.toNat) s ->
  loop F' B1 ((m:Int),s)=E ((List.range' m d).foldl (fun s m=>(List.range w.names.toNat).foldl (fun s n=>Je w y' m n s) s) s)∧I (w.cells.length * w.names.toNat) ((List.range' m d).foldl (fun s m=>(List.range w.names.toNat).foldl (fun s n=>Je w y' m n s) s) s):=by
  intro d
  induction d with
  | zero=>
    intro m F' s hm hF' hs;obtain⟨F',rfl⟩:=Nat.exists_eq_succ_of_ne_zero (n:=F') (by omega);have:m=w.cells.length:=by omega
    subst this;rw [YF,hB1,so.m];rw [decide_eq_false (by omega),cond_false];exact⟨rfl,hs⟩
  | succ d ih=>
    intro m F' s hm hF' hs;obtain⟨F',rfl⟩:=Nat.exists_eq_succ_of_ne_zero (n:=F') (by omega);obtain⟨h1,h2⟩:=inner m (loop F' B1) s (by omega) hs;obtain⟨h3,h4⟩:=ih (m + 1) F' _ (by omega) (by omega) h2;rw [YF,List.range'_succ,List.foldl_cons];refine⟨?_,h4⟩;rw [hB1,so.m];rw [decide_eq_true (by omega),cond_true,h1,QX (by omega)];exact h3
 have:=key w.cells.length 0 F s0 (by omega) (by omega) (by rw [Nat.zero_mul];exact h0);rw [← List.range_eq_range'] at this;exact this
end
theorem fold_congr {σ:Type} {f g:σ ->Nat ->σ} {N:Nat} (h:∀ s m,m < N ->f s m=g s m) (s:σ):(List.range N).foldl f s= (List.range N).foldl g s:=by
 have:∀ M,M <=N ->(List.range M).foldl f s= (List.range M).foldl g s:=by
  intro M
  induction M with
  | zero=>intro _;rfl
  | succ M ih=>
    intro hM;rw [List.range_succ,List.foldl_append,List.foldl_append,ih (by omega)];simp only [List.foldl_cons,List.foldl_nil];exact h _ _ (by omega)
 exact this N (Nat.le_refl _)
theorem Uu {σ τ α:Type} (V:σ ->τ) {f:σ ->α ->σ} {g:τ ->α ->τ} {l:List α} (h:∀ s x,x ∈ l ->V (f s x)=g (V s) x) (s:σ):V (l.foldl f s)=l.foldl g (V s):=by
 induction l generalizing s with
 | nil=>rfl
 | cons x l ih=>
   rw [List.foldl_cons,List.foldl_cons,ih (fun s y hy=>h s y (by simp [hy])),h s x (by simp)]
def YK (w:Za) (n:Int):List Int:=
 w.notes.foldl (fun(s:List Int) (x:Zd)=>bif(x.kind==3) && (x.name==n) then s ++ [x.ZG] else s)
   ((List.range w.cells.length).foldl (fun(s:List Int) (m:Nat)=>match cellOf w m n with | some c=>bif c.root then s ++ [(m:Int)] else s | none=>s) [])
theorem Zja {α:Type} (f:List Int ->α ->List Int) (hf:∀ s x,(f s x).length <=s.length + 1) (l:List α) (s:List Int):(l.foldl f s).length <=s.length + l.length:=by
 induction l generalizing s with
 | nil=>simp
 | cons x l ih=>
   rw [List.foldl_cons];have:=ih (f s x);have:=hf s x;simp only [List.length_cons];omega
section
theorem ZnJ {F:Nat} (hF:1000 <=F) {w:Za} (sm:Small w) (sh:Shp w) {st:Store} (so:X8 w st) {n:Nat} (hn:(n:Int) < w.names):Ztg F st n=some (YK w n):=by
 unfold Ztg
 let y':Int ->Zb ->List Int ->List Int:=fun a c s=>bif(c.name== (n:Int)) && c.root then s ++ [a] else s
 obtain⟨h1,h2⟩:=Zlb hF sm sh.szd so (z:=Zb.mk 0 false 0 0 0 false) (fun i (s:List Int)=>s.length <=i) (fun i s h=>Nat.le_succ_of_le h) (E:=Ze9 F st n) (B1:=Zn3 F st n) (B2:=Zn2 F st n) (Y:=fun a c s k=>bif(c.name== (n:Int)) && c.root then(app 8 s [a]).bind k else k s) y' (fun v s next=>rfl) (fun v0 next v s nx=>rfl) (fun i a c s k _ hi hs=>by
  simp only [y'];cases ((c.name== (n:Int)) && c.root)
  ·exact⟨rfl,Nat.le_succ_of_le hs⟩
  ·simp only [cond_true];rw [QD (by simp;omega) (by decide)];exact⟨rfl,by simp;omega⟩) [] (Nat.le_refl _)
 rw [h1]
 have e:(List.range w.cells.length).foldl (fun s (m:Nat)=>(List.range w.names.toNat).foldl (fun s n=>Je w y' m n s) s) []= (List.range w.cells.length).foldl (fun s (m:Nat)=>match cellOf w m n with | some c=>bif c.root then s ++ [(m:Int)] else s | none=>s) []:=by
  refine fold_congr (fun s m hm=>?_) _;refine Zeb (V:=id) (fun i s=>Je w y' m i s) (fun s=>match cellOf w m n with | some c=>bif c.root then s ++ [(m:Int)] else s | none=>s) (n:=n) (N:=w.names.toNat) (by omega) (fun i s hi hne=>?_) (fun s=>?_) s
  ·simp only [id,Je];cases hc:cellOf w m i with
   | none=>rfl
   | some c=>
     have:=QJ hc;have hb:(c.name== (n:Int))=false:=by rw [this];simp;omega
     simp only [y',hb];rfl
  ·simp only [id,Je];cases hc:cellOf w m n with
   | none=>rfl
   | some c=>
     have:=QJ hc;have hb:(c.name== (n:Int))=true:=by rw [this];simp
     simp only [y',hb];rfl
 rw [e];rw [e] at h2;unfold Ze9;have hlen:=Nat.mul_le_mul sh.c6 (show w.names.toNat <=12 by have:=sh.n12;have:=sh.n0;omega);have hno:=sm.notes;refine(XR w.notes (fun v (s:List Int)=>(v,s)) (ZhG st n) (fun _ x s next=>bif(x.kind==3) && (x.name== (n:Int)) then(app 8 s [x.ZG]).bind next else next s) (fun s=>some s) (by omega) (fun k y s next hy hk=>?_) (fun s next=>?_) (by omega) _).trans ?_
 ·simp only [ZhG,so.notes,Yt,hy,hk,decide_true,cond_true,Option.bind_some,ZhF]
 ·simp only [ZhG,so.notes];rw [decide_eq_false (by omega),cond_false]
 ·rw [(U7 (fun _ (x:Zd) s=>bif(x.kind==3) && (x.name== (n:Int)) then s ++ [x.ZG] else s) (fun k (s:List Int)=>s.length <=72 + k) (by simp at h2 ⊢;omega) (fun k x s next hx hs=>by
   have:= (List.getElem?_eq_some_iff.1 hx).1;cases ((x.kind==3) && (x.name== (n:Int)))
   ·exact⟨rfl,by simp;omega⟩
   ·simp only [cond_true];rw [QD (by simp;omega) (by decide)];exact⟨rfl,by simp;omega⟩)).1,ZbV]
  rfl
end
end Go.Proofs.Ytekpjgmhkkjhgaa
end
section
namespace Go.Proofs.Ytekpjgmhkkjhgaa
open Go.Lf
abbrev Acc:=List (Ze×Int)
def val (v:Acc) (k:Ze):Int:= (Xl v k).getD 0
def upd (v:Acc) (k:Ze) (x:Int):Acc:=YR (Wx v k 0) k (ZV (val v k + x))
theorem Wj (v:Acc) (k k':Ze) (x:Int):val (upd v k x) k'=if k'=k then ZV (val v k + x) else val v k':=by
 unfold val upd;rw [ZeY,Zi2];by_cases h:k'=k
 ·rw [if_pos h,if_pos h];rfl
 ·rw [if_neg h,if_neg h,if_neg h]
theorem Zrt:ZV 0=0:=YW (by decide) (by decide)
def ZoD (a:Int) (c:Zb) (q:Acc×Acc):Acc×Acc:= (upd q.1 ⟨a,c.name⟩ c.out,bif decide (c.from_ >=0) then upd q.2 ⟨c.from_,c.name⟩ c.has else q.2)
def ZoC (x:Zd) (q:Acc×Acc):Acc×Acc:=bif x.kind==1 then(q.1,upd q.2 ⟨x.via,x.name⟩ x.w) else bif x.kind==2 then(q.1,upd q.2 ⟨x.ZG,x.name⟩ x.w) else(upd q.1 ⟨x.ZG,x.name⟩ 16,q.2)
def UQ (w:Za):Acc×Acc:= (List.range w.cells.length).foldl (fun s m=>(List.range w.names.toNat).foldl (fun s n=>Je w ZoD m n s) s) ([],[])
def Zcg (w:Za):Acc×Acc:=w.notes.foldl (fun q x=>ZoC x q) (UQ w)
def view (a n:Int) (q:Acc×Acc):Int×Int:= (val q.1 ⟨a,n⟩,val q.2 ⟨a,n⟩)
theorem ZpQ {F:Nat} (hF:1000 <=F) {w:Za} (sm:Small w) (sh:Szd w) {st:Store} (so:X8 w st):ZqE F st=some (Zcg w):=by
 unfold ZqE;have hno:=sm.notes
 obtain⟨h1,_⟩:=Zlb hF sm sh so (z:=Zb.mk 0 false 0 0 0 false) (fun _ (_:Acc×Acc)=>True) (fun _ _ _=>trivial) (E:=Zfd F st) (B1:=Zn8 F st) (B2:=Zn7 F st) (Y:=fun a c s k=>bif decide (c.from_ >=0) then k (upd s.1 ⟨a,c.name⟩ c.out,upd s.2 ⟨c.from_,c.name⟩ c.has) else k (upd s.1 ⟨a,c.name⟩ c.out,s.2)) ZoD (fun v s next=>rfl) (fun v0 next v s nx=>by obtain⟨a,b⟩:=s;rfl) (fun i a c s k _ _ _=>⟨by
  unfold ZoD;cases decide (c.from_ >=0) <;> rfl,trivial⟩) ([],[]) trivial
 rw [h1];unfold Zfd;refine(XR w.notes (fun v (s:Acc×Acc)=>(v,s.1,s.2)) (ZhI st) (fun _ x s next=>next (ZoC x s)) (fun s=>some s) (by omega) (fun k y s next hy hk=>?_) (fun s next=>?_) (by omega) (UQ w)).trans ?_
 ·simp only [ZhI,so.notes,Yt,hy,hk,decide_true,cond_true,Option.bind_some,Zfc,Zac,ZoC];cases y.kind==1
  ·cases y.kind==2 <;> rfl
  ·rfl
 ·simp only [ZhI,so.notes];rw [decide_eq_false (by omega),cond_false]
 ·rw [(U7 (fun _ (x:Zd) s=>ZoC x s) (fun _ _=>True) trivial (fun _ _ _ _ _ _=>⟨rfl,trivial⟩)).1,ZbV]
  rfl
def hm (w:Za) (a n:Nat) (q:Int×Int) (m:Nat):Int×Int:=match cellOf w m n with
 | some c=>(if m=a then ZV (q.1 + c.out) else q.1,if c.from_= (a:Int) then ZV (q.2 + c.has) else q.2)
 | none=>q
theorem Znb {w:Za} {a n m:Nat} (hn:n < w.names.toNat) (q:Acc×Acc):
 view a n ((List.range w.names.toNat).foldl (fun s n=>Je w ZoD m n s) q)=hm w a n (view a n q) m:=by
 refine Zeb (view a n) (fun i s=>Je w ZoD m i s) (fun q=>hm w a n q m) hn (fun i s hi hne=>?_) (fun s=>?_) q
 ·unfold Je;cases hc:cellOf w m i with
  | none=>rfl
  | some c=>
    have hnm:=QJ hc;dsimp only;unfold view ZoD;have k1:¬ (Ze.mk (a:Int) (n:Int))=Ze.mk (m:Int) c.name:=fun e=>by injection e with _ e2;omega
    have k2:¬ (Ze.mk (a:Int) (n:Int))=Ze.mk c.from_ c.name:=fun e=>by injection e with _ e2;omega
    rw [Wj,if_neg k1];cases decide (c.from_ >=0)
    ·rfl
    ·simp only [cond_true];rw [Wj,if_neg k2]
 ·unfold Je hm;cases hc:cellOf w m n with
  | none=>rfl
  | some c=>
    have hnm:=QJ hc;dsimp only;unfold view ZoD;dsimp only;rw [hnm];congr 1
    ·rw [Wj];by_cases e:m=a
     ·subst e;rw [if_pos rfl,if_pos rfl]
     ·rw [if_neg e,if_neg (fun q=>by injection q with q1 _;omega)]
    ·by_cases e:c.from_= (a:Int)
     ·rw [if_pos e,decide_eq_true (by omega),cond_true,Wj,e,if_pos rfl]
     ·rw [if_neg e];cases decide (c.from_ >=0)
      ·rfl
      ·simp only [cond_true];rw [Wj,if_neg (fun q=>by injection q with q1 _;omega)]
theorem Zuh (c:Zd ->Bool) (l:List Zd) (g:Int):l.foldl (fun(g:Int) x=>bif c x then ZV (g + 16) else g) (ZV g)=ZV (g + 16 * (l.countP c:Int)):=by
 induction l generalizing g with
 | nil=>simp
 | cons x l ih=>
   rw [List.foldl_cons,List.countP_cons];cases hc:c x
   ·simp only [cond_false];rw [ih];simp
   ·simp only [cond_true,if_true];rw [ZjH,ih];congr 1;omega
theorem Zlf {w:Za} (sh:Szd w) {a n:Nat} (ha:a < w.cells.length) (hn:(n:Int) < w.names):val (Zcg w).1 ⟨a,n⟩=JK w a n∧val (Zcg w).2 ⟨a,n⟩=Zdw w a n:=by
 have e1:view a n (UQ w)= (List.range w.cells.length).foldl (fun q m=>hm w a n q m) (0,0):=
  Uu (view a n) (fun s m _=>Znb (by omega) s) ([],[])
 have e2:((List.range w.cells.length).foldl (fun q m=>hm w a n q m) (0,0)).2= (List.range w.cells.length).foldl (fun s k=>Zl6 w a n k s) 0:=by
  refine Uu (fun q:Int×Int=>q.2) (fun s m _=>?_) (0,0);unfold hm Zl6;cases cellOf w m n with
  | none=>rfl
  | some c=>
    dsimp only;by_cases e:c.from_= (a:Int)
    ·rw [if_pos e];have:(c.from_== (a:Int))=true:=by simp [e]
     rw [this];rfl
    ·rw [if_neg e];have:(c.from_== (a:Int))=false:=by simp [e]
     rw [this];rfl
 have e3:((List.range w.cells.length).foldl (fun q m=>hm w a n q m) (0,0)).1=ZV (ZoU w a n):=by
  have f1:((List.range w.cells.length).foldl (fun q m=>hm w a n q m) (0,0)).1= (List.range w.cells.length).foldl (fun(g:Int) m=>match cellOf w m n with | some c=>if m=a then ZV (g + c.out) else g | none=>g) 0:=by
   refine Uu (fun q:Int×Int=>q.1) (fun s m _=>?_) (0,0);unfold hm;cases cellOf w m n with
   | none=>rfl
   | some c=>rfl
  rw [f1]
  have:=Zeb (V:=id) (fun m (g:Int)=>match cellOf w m n with | some c=>if m=a then ZV (g + c.out) else g | none=>g) (fun g=>match cellOf w a n with | some c=>ZV (g + c.out) | none=>g) ha (fun i s hi hne=>by
   simp only [id];cases cellOf w i n with
   | none=>rfl
   | some c=>dsimp only;rw [if_neg hne]) (fun s=>by
   simp only [id];cases cellOf w a n with
   | none=>rfl
   | some c=>simp) 0
  simp only [id] at this;rw [this];unfold ZoU;cases cellOf w a n with
  | none=>exact Zrt.symm
  | some c=>dsimp only;rw [Int.zero_add]
 have e4:view a n (Zcg w)=w.notes.foldl (fun q x=>(bif((x.kind==3) && (x.ZG== (a:Int))) && (x.name== (n:Int)) then ZV (q.1 + 16) else q.1,ZfW a n x q.2)) (view a n (UQ w)):=by
  refine Uu (view a n) (fun s x hx=>?_) (UQ w);have hx:=sh.kind x hx;unfold view ZoC ZfW;by_cases k1:x.kind=1
  ·simp only [k1,beq_self_eq_true,cond_true,Bool.true_and];rw [Wj];have r1:((1:Int)==2)=false:=rfl;have r2:((1:Int)==3)=false:=rfl;simp only [r1,r2,Bool.false_and,Bool.or_false,cond_false];congr 1;by_cases e:Ze.mk (a:Int) (n:Int)=Ze.mk x.via x.name
   ·rw [if_pos e];injection e with z1 z2
    have b:((x.name== (n:Int)) && (x.via== (a:Int)))=true:=by simp [z1,z2]
    rw [b,cond_true,z1,z2]
   ·rw [if_neg e]
    have b:((x.name== (n:Int)) && (x.via== (a:Int)))=false:=by
     rw [Bool.and_eq_false_iff];by_cases z:x.name= (n:Int)
     ·right;simp;intro z2;exact e (by rw [z,z2])
     ·left;simp [z]
    rw [b,cond_false]
  ·by_cases k2:x.kind=2
   ·have r1:((2:Int)==1)=false:=rfl;have r2:((2:Int)==3)=false:=rfl;simp only [k2,r1,r2,beq_self_eq_true,cond_true,cond_false,Bool.true_and,Bool.false_and,Bool.false_or];rw [Wj];congr 1;by_cases e:Ze.mk (a:Int) (n:Int)=Ze.mk x.ZG x.name
    ·rw [if_pos e];injection e with z1 z2
     have b:((x.name== (n:Int)) && (x.ZG== (a:Int)))=true:=by simp [z1,z2]
     rw [b,cond_true,z1,z2]
    ·rw [if_neg e]
     have b:((x.name== (n:Int)) && (x.ZG== (a:Int)))=false:=by
      rw [Bool.and_eq_false_iff];by_cases z:x.name= (n:Int)
      ·right;simp;intro z2;exact e (by rw [z,z2])
      ·left;simp [z]
     rw [b,cond_false]
   ·have q1:(x.kind==1)=false:=by simp [k1]
    have q2:(x.kind==2)=false:=by simp [k2]
    have q3:(x.kind==3)=true:=by
     rcases hx with z | z | z
     ·exact absurd z k1
     ·exact absurd z k2
     ·simp [z]
    simp only [q1,q2,q3,cond_false,Bool.true_and,Bool.false_and,Bool.or_false,Bool.and_false];rw [Wj];congr 1;by_cases e:Ze.mk (a:Int) (n:Int)=Ze.mk x.ZG x.name
    ·rw [if_pos e];injection e with z1 z2
     have b:((x.ZG== (a:Int)) && (x.name== (n:Int)))=true:=by simp [z1,z2]
     rw [b,cond_true,z1,z2]
    ·rw [if_neg e]
     have b:((x.ZG== (a:Int)) && (x.name== (n:Int)))=false:=by
      rw [Bool.and_eq_false_iff];by_cases z:x.name= (n:Int)
      ·left;simp;intro z2;exact e (by rw [z,z2])
      ·right;simp [z]
     rw [b,cond_false]
 constructor
 ·show(view a n (Zcg w)).1=_;rw [e4,Uu (fun q:Int×Int=>q.1) (g:=fun(g:Int) (x:Zd)=>bif((x.kind==3) && (x.ZG== (a:Int))) && (x.name== (n:Int)) then ZV (g + 16) else g) (fun s x _=>rfl),e1,e3,Zuh];unfold JK ZbQ;congr 1;omega
 ·show(view a n (Zcg w)).2=_;rw [e4,Uu (fun q:Int×Int=>q.2) (g:=fun(g:Int) (x:Zd)=>ZfW a n x g) (fun s x _=>rfl),e1,e2]
  rfl
def Y0 (w:Za) (n h:Int):Nat ->Int ->Bool
 | 0,a=>a==h
 | k + 1,a=>bif a==h then true else match cellOf w a.toNat n with
   | none=>false
   | some c=>bif decide (c.from_ < 0) then false else Y0 w n h k c.from_
def Wz (w:Za) (n h:Int):Bool:= !((List.range w.cells.length).any fun m=>(cellOf w m n).isSome && !(Y0 w n h w.cells.length m))
theorem Shp.from_ {w:Za} (sh:Shp w) {m:Nat} {n:Int} {c:Zb} (h:cellOf w m n=some c) (h0:¬ c.from_ < 0):0 <=c.from_∧c.from_ < (w.cells.length:Int):=by
 obtain⟨row,k,h1,h2⟩:=KE h;have:= (sh.cell m row k c h1 h2).1;unfold WG at this;rw [Bool.and_eq_true] at this;have:=this.2;have e:(c.from_==-1)=false:=by simp;omega
 rw [e] at this;cases hr:c.root
 ·rw [hr] at this;simp only [Bool.or_self,cond_false,Bool.and_eq_true] at this;have:=this.1.1;unfold KW at this
  simpa using this
 ·rw [hr] at this;simp at this
section
theorem Znx {F:Nat} (hF:1000 <=F) {w:Za} (sm:Small w) (sh:Shp w) {st:Store} (so:X8 w st) (n h:Int):ZqC F st n h=some (Wz w n h):=by
 have hc:=sm.cells;have h6:=sh.c6
 let z:Zb:=Zb.mk 0 false 0 0 0 false
 have key:∀ (d i F' m:Nat) (next:Int ->Option Bool) (a:Int),i + d=w.cells.length ->d < F' ->0 <=a ->a < (w.cells.length:Int) ->
  loop F' (ZhD st n h m next) (a,(cellOf w a.toNat n).isSome,(i:Int),((cellOf w a.toNat n).getD z).name,((cellOf w a.toNat n).getD z).root,((cellOf w a.toNat n).getD z).from_,((cellOf w a.toNat n).getD z).has,((cellOf w a.toNat n).getD z).out,((cellOf w a.toNat n).getD z).use)=bif Y0 w n h d a then next (ZV ((m:Int) + 1)) else some false:=by
  intro d
  induction d with
  | zero=>
    intro i F' m next a hi hF' h0 h1;obtain⟨F',rfl⟩:=Nat.exists_eq_succ_of_ne_zero (n:=F') (by omega);rw [YF];simp only [ZhD,Y0,so.m];rw [decide_eq_false (by omega),cond_false];have:(a !=h)= !(a==h):=rfl;rw [this];cases a==h <;> rfl
  | succ d ih=>
    intro i F' m next a hi hF' h0 h1;obtain⟨F',rfl⟩:=Nat.exists_eq_succ_of_ne_zero (n:=F') (by omega);rw [YF];simp only [ZhD,Y0,so.m];rw [decide_eq_true (by omega),cond_true];cases a==h
    ·simp only [cond_false];cases hq:cellOf w a.toNat n with
     | none=>rfl
     | some c=>
       simp only [Option.isSome_some,Bool.not_true,Bool.false_or,Option.getD_some];by_cases hf:c.from_ < 0
       ·rw [decide_eq_true hf];rfl
       ·rw [decide_eq_false hf];simp only [cond_false];have hv:=sh.from_ hq hf;unfold KS;rw [so.cells,if_pos hv,Option.bind_some,QX (by omega)];exact ih (i + 1) F' m next c.from_ (by omega) (by omega) hv.1 hv.2
    ·rfl
 unfold ZqC;refine(Za0 w.cells.length (fun v (_:Unit)=>v) (ZhE F st n h) (fun m s next=>bif(cellOf w m n).isSome && !(Y0 w n h w.cells.length m) then some false else next ()) (fun _=>some true) (by omega) (fun m s next hm=>?_) (fun s next=>?_) (by omega) ()).trans ?_
 ·simp only [ZhE,so.m];rw [decide_eq_true (by omega),cond_true];unfold KS;rw [so.cells,if_pos (by omega),Option.bind_some,Int.toNat_natCast];have:=key w.cells.length 0 F m next (m:Int) (by omega) (by omega) (by omega) (by omega);rw [Int.toNat_natCast] at this;cases hq:cellOf w m n with
  | none=>rfl
  | some c=>
    rw [hq] at this;simp only [Option.isSome_some,Bool.not_true,cond_false,Bool.true_and,Option.getD_some];refine Eq.trans this ?_;cases Y0 w n h w.cells.length m <;> rfl
 ·simp only [ZhE,so.m];rw [decide_eq_false (by omega),cond_false]
 ·rw [Kr (r:=some false) (fun _ m=>(cellOf w m n).isSome && !(Y0 w n h w.cells.length m)) (fun _ _ _ _=>rfl),Zeu];unfold Wz;cases (List.range w.cells.length).any fun m=>(cellOf w m n).isSome && !(Y0 w n h w.cells.length m) <;> rfl
end
def Zk0 (w:Za) (m:Nat) (n:Int):Nat:=ZbQ w m n + (match cellOf w m n with | some c=>bif c.root then 1 else 0 | none=>0)
def Wu (w:Za) (n:Int) (q:Int×Int) (m:Nat):Int×Int:=bif decide ((Zk0 w m n:Int) > 0) then(ZV (q.1 + (Zk0 w m n:Int)),(m:Int)) else q
theorem Ut {α σ:Type} (P:σ ->Prop) (f:σ ->α ->σ) (l:List α) (h:∀ s x,x ∈ l ->P s ->P (f s x)) (s:σ) (h0:P s):P (l.foldl f s):=by
 induction l generalizing s with
 | nil=>exact h0
 | cons x l ih=>exact ih (fun s y hy=>h s y (by simp [hy])) _ (h s x (by simp) h0)
theorem Za2 {w:Za} (sh:Shp w) (n:Int):∀ x ∈ YK w n,0 <=x∧x < (w.cells.length:Int):=by
 unfold YK;refine Ut (fun s:List Int=>∀ x ∈ s,0 <=x∧x < (w.cells.length:Int)) _ _ (fun s x hx hs=>?_) _ ?_
 ·cases h:(x.kind==3) && (x.name==n)
  ·exact hs
  ·intro y hy;simp only [cond_true,List.mem_append,List.mem_singleton] at hy;rcases hy with hy | hy
   ·exact hs y hy
   ·subst hy;have:=sh.note x hx;unfold Ww KW at this;simp only [Bool.and_eq_true,decide_eq_true_eq] at this;exact this.1.1.1
 ·refine Ut (fun s:List Int=>∀ x ∈ s,0 <=x∧x < (w.cells.length:Int)) _ _ (fun s m hm hs=>?_) _ (by simp);rw [List.mem_range] at hm;cases cellOf w m n with
  | none=>exact hs
  | some c=>
    dsimp only;cases c.root
    ·exact hs
    ·intro y hy;simp only [cond_true,List.mem_append,List.mem_singleton] at hy;rcases hy with hy | hy
     ·exact hs y hy
     ·subst hy;omega
theorem ZnL {w:Za} (sh:Shp w) (n:Int):(YK w n).length <=100:=by
 have h:(YK w n).length <=w.cells.length + w.notes.length:=by
  unfold YK;refine Nat.le_trans (Zja _ (fun s x=>?_) w.notes _) (Nat.add_le_add_right (Nat.le_trans (Zja _ (fun s m=>?_) (List.range w.cells.length) []) (by simp)) _)
  ·cases (x.kind==3) && (x.name==n) <;> simp
  ·cases cellOf w m n with
   | none=>simp
   | some c=>dsimp only;cases c.root <;> simp
 have:=sh.c6;have:=sh.notes;omega
theorem ZqQ {c:Zd ->Bool} (l:List Zd) (k:Nat):l.foldl (fun(k:Nat) x=>bif c x then k + 1 else k) k=k + l.countP c:=by
 induction l generalizing k with
 | nil=>rfl
 | cons x l ih=>
   rw [List.foldl_cons,ih,List.countP_cons];cases c x <;> simp;omega
theorem WZ {w:Za} {m:Nat} (hm:m < w.cells.length) (n:Int):(YK w n).count (m:Int)=Zk0 w m n:=by
 unfold YK
 rw [Uu (fun s:List Int=>s.count (m:Int)) (g:=fun(k:Nat) (x:Zd)=>bif((x.kind==3) && (x.ZG== (m:Int))) && (x.name==n) then k + 1 else k) (fun s x hx=>by
  cases h1:x.kind==3 <;> cases h2:x.name==n <;> cases h3:x.ZG== (m:Int) <;> simp [List.count_append,List.count_singleton,h3])]
 rw [ZqQ]
 rw [Uu (fun s:List Int=>s.count (m:Int)) (g:=fun(k:Nat) (m':Nat)=>match cellOf w m' n with | some c=>bif c.root && (m'==m) then k + 1 else k | none=>k) (fun s m' hx=>by
  cases cellOf w m' n with
  | none=>rfl
  | some c=>
    dsimp only;cases c.root
    ·rfl
    ·by_cases e:m'=m
     ·subst e;simp
     ·have e1:(m'==m)=false:=by simp [e]
      have e2:¬ (m':Int)= (m:Int):=by omega
      simp [e1,List.count_append,List.count_singleton,e2])]
 have:=Zeb (V:=id) (fun m' (k:Nat)=>match cellOf w m' n with | some c=>bif c.root && (m'==m) then k + 1 else k | none=>k) (fun k=>match cellOf w m n with | some c=>bif c.root then k + 1 else k | none=>k) hm (fun i s hi hne=>by
  simp only [id];cases cellOf w i n with
  | none=>rfl
  | some c=>
    have e1:(i==m)=false:=by simp [hne]
    dsimp only;rw [e1,Bool.and_false];rfl) (fun s=>by
  simp only [id];cases cellOf w m n with
  | none=>rfl
  | some c=>simp) 0
 simp only [id] at this;rw [List.count_nil,this];unfold Zk0 ZbQ;cases cellOf w m n with
 | none=>simp
 | some c=>cases c.root <;> simp <;> omega
theorem ZmI (L:List Int) (h:∀ x ∈ L,0 <=x) (M:Nat):L.countP (fun x=>decide (x < ((M + 1:Nat):Int)))=L.countP (fun x=>decide (x < (M:Int))) + L.count (M:Int):=by
 induction L with
 | nil=>rfl
 | cons x L ih=>
   have:=ih (fun y hy=>h y (by simp [hy]));rw [List.countP_cons,List.countP_cons,List.count_cons,this];have h0:=h x (by simp);by_cases e:x= (M:Int)
   ·subst e;have a1:decide ((M:Int) < ((M + 1:Nat):Int))=true:=by simp;omega
    have a2:decide ((M:Int) < (M:Int))=false:=by simp
    rw [a1,a2];simp;omega
   ·have a3:(x== (M:Int))=false:=by simp [e]
    by_cases l:x < (M:Int)
    ·have a1:decide (x < ((M + 1:Nat):Int))=true:=by simp;omega
     have a2:decide (x < (M:Int))=true:=by simp [l]
     rw [a1,a2,a3];simp;omega
    ·have a1:decide (x < ((M + 1:Nat):Int))=false:=by simp;omega
     have a2:decide (x < (M:Int))=false:=by simp;omega
     rw [a1,a2,a3];simp
theorem ZeO {w:Za} (sh:Shp w) (n:Int):((List.range w.cells.length).foldl (Wu w n) (0,0)).1= ((YK w n).length:Int)∧∀ h,YK w n= [h] ->((List.range w.cells.length).foldl (Wu w n) (0,0)).2=h:=by
 have hl:=ZnL sh n;have hr:=Za2 sh n
 have key:∀ M,M <=w.cells.length ->((List.range M).foldl (Wu w n) (0,0)).1= ((YK w n).countP (fun x=>decide (x < (M:Int))):Int)∧(((List.range M).foldl (Wu w n) (0,0)).1 ≠ 0 ->((List.range M).foldl (Wu w n) (0,0)).2 ∈ YK w n):=by
  intro M
  induction M with
  | zero=>
    intro _
    have:(YK w n).countP (fun x=>decide (x < ((0:Nat):Int)))=0:=by
     rw [List.countP_eq_zero];intro x hx;have:= (hr x hx).1;simp;omega
    rw [this];exact⟨rfl,fun h=>absurd rfl h⟩
  | succ M ih=>
    intro hM;obtain⟨i1,i2⟩:=ih (by omega);rw [List.range_succ,List.foldl_append];simp only [List.foldl_cons,List.foldl_nil];rw [ZmI _ (fun x hx=>(hr x hx).1)];have hc:=WZ (w:=w) (m:=M) (by omega) n;have hle:=List.countP_le_length (p:=fun x=>decide (x < (M:Int))) (l:=YK w n);have hle2:=List.count_le_length (a:= (M:Int)) (l:=YK w n);generalize (List.range M).foldl (Wu w n) (0,0)=q at i1 i2 ⊢;unfold Wu;rw [← hc];by_cases h0:(YK w n).count (M:Int)=0
    ·have:decide ((((YK w n).count (M:Int):Nat):Int) > 0)=false:=by simp [h0]
     rw [this,cond_false,h0];exact⟨i1,i2⟩
    ·have:decide ((((YK w n).count (M:Int):Nat):Int) > 0)=true:=decide_eq_true (by omega);rw [this,cond_true];refine⟨?_,fun _=>?_⟩
     ·show ZV (q.1 + _)=_;rw [i1,YW] <;> omega
     ·have hp:0 < (YK w n).count (M:Int):=Nat.pos_of_ne_zero h0;exact List.count_pos_iff.1 hp
 obtain⟨k1,k2⟩:=key w.cells.length (Nat.le_refl _)
 have e:(YK w n).countP (fun x=>decide (x < (w.cells.length:Int)))= (YK w n).length:=by
  rw [List.countP_eq_length];intro x hx
  simpa using (hr x hx).2
 rw [e] at k1;refine⟨k1,fun h hh=>?_⟩;have:=k2 (by rw [k1,hh];simp);rw [hh] at this
 simpa using this
end Go.Proofs.Ytekpjgmhkkjhgaa
end
section
namespace Go.Proofs.Ytekpjgmhkkjhgaa
open Go.Lf
def ZqZ (w:Za) (n:Int) (m:Nat):Bool:= (JK w m n !=Zdw w m n) || decide (JK w m n > 1000000)
def Qr (w:Za) (n:Int):Int×Int:= (List.range w.cells.length).foldl (Wu w n) (0,0)
def Wl (w:Za) (n:Int):Bool:= !((List.range w.cells.length).any (ZqZ w n)) && ((Qr w n).1==1 && Wz w n (Qr w n).2)
def KO (w:Za):Bool:=Zbs w && (!(anyI (Ku w) 0 w.freed) && (ZcX w && Km w))
def Kl (w:Za):Bool:=KO w && !((List.range w.names.toNat).any fun n=>Yx w n && !(Wl w n))
theorem ZfL {w:Za} (h:KO w=true):Shp w:=by
 unfold KO at h;simp only [Bool.and_eq_true] at h;exact ZrA h.1 h.2.2.1 h.2.2.2
section
theorem Zsb {F:Nat} (hF:1000 <=F) {w:Za} (sm:Small w) (sh:Shp w) (n:Int):(((YK w n).length:Int)==1)= ((Qr w n).1==1)∧((YK w n).length=1 ->YK w n= [(Qr w n).2]):=by
 obtain⟨h1,h2⟩:=ZeO sh n;unfold Qr;refine⟨by rw [h1],fun hl=>?_⟩;obtain⟨h,hh⟩:=List.length_eq_one_iff.1 hl;rw [h2 h hh];exact hh
theorem Zpr {F:Nat} (hF:1000 <=F) {w:Za} (sm:Small w):ZqF F w=some (Kl w):=by
 unfold ZqF;have hf:=sm.freed;have hc:=sm.cells;have hn:=sm.notes
 have e0:((((((decide ((w.cells.length:Int) < 1)) || (decide ((w.cells.length:Int) > 6))) || (decide (w.names < 0))) || (decide (w.names > 12))) || (decide ((w.notes.length:Int) > 80))) || (decide ((w.freed.length:Int) > w.names)))= !(Zbs w):=by
  unfold Zbs;rw [Bool.eq_iff_iff];simp only [Bool.or_eq_true,decide_eq_true_eq,Bool.not_eq_true',← Bool.not_eq_true,Bool.and_eq_true];omega
 rw [e0];cases h0:Zbs w
 ·unfold Kl KO;rw [h0];rfl
 ·have h0':=h0;unfold Zbs at h0';simp only [Bool.and_eq_true,decide_eq_true_eq] at h0';have en:((w.names.toNat:Nat):Int)=w.names:=by omega
  simp only [Bool.not_true,cond_false];refine(XR w.freed (fun v (_:Unit)=>v) (ZhO F w) (fun k x s next=>bif Ku w k x then some false else next ()) (fun _=>bif ZcX w && Km w then some (!((List.range w.names.toNat).any fun n=>Yx w n && !(Wl w n))) else some false) (by omega) (fun k y s next hy hk=>?_) (fun s next=>?_) (by omega) ()).trans ?_
  ·have hk':k < w.freed.length:=by omega
   simp only [ZhO,Yt,hy,hk,decide_true,cond_true,Option.bind_some,Zpm _ hk' (by omega)];unfold Ku;have a1:decide (y < 0)= !decide (0 <=y):=by rw [← decide_not];exact decide_eq_decide.2 (by omega)
   have a2:decide (y >=w.names)= !decide (y < w.names):=by rw [← decide_not];exact decide_eq_decide.2 (by omega)
   rw [a1,a2];cases decide (0 <=y) <;> cases decide (y < w.names) <;> cases decide ((k:Int) > 0) <;> rfl
  ·simp only [ZhO];rw [decide_eq_false (by omega),cond_false,ZqA hF sm _ rfl rfl rfl,Option.bind_some];cases hr:ZcX w && Km w
   ·rfl
   ·simp only [Bool.not_true,cond_false,cond_true];rw [Bool.and_eq_true] at hr;have sh:=ZrA h0 hr.1 hr.2;obtain⟨cs,q1,q2⟩:=ZoV hF sm sh;have so:X8 w ⟨(w.cells.length:Int),w.names,cs,w.notes,w.freed⟩:= ⟨rfl,rfl,rfl,rfl,q2⟩
    rw [q1,Option.bind_some,ZpQ hF sm sh.szd so,Option.bind_some];generalize hst:(⟨(w.cells.length:Int),w.names,cs,w.notes,w.freed⟩:Store)=st at so;refine(Za0 w.names.toNat (fun v (_:Unit)=>v) (ZhN F st (Zcg w)) (fun n s next=>bif Yx w n && !(Wl w n) then some false else next ()) (fun _=>some true) (by omega) (fun n s next hnn=>?_) (fun s next=>?_) (by omega) ()).trans ?_
    ·have Zy5:(n:Int) < w.names:=by omega
     simp only [ZhN,so.n];rw [decide_eq_true Zy5,cond_true,ZeX hF sm st so.n so.freed,Option.bind_some];cases Yx w n
     ·rfl
     ·simp only [Bool.not_true,cond_false,Bool.true_and];rw [ZnJ hF sm sh so Zy5,Option.bind_some];obtain⟨n1,n2⟩:=Zsb hF sm sh (n:Int);have e5:(((YK w n).length:Int) !=1)= !((Qr w n).1==1):=by rw [← n1];rfl
      rw [e5,Bool.not_not];unfold Wl;cases h1:(Qr w n).1==1
      ·simp only [Zs7,Option.bind_some,Bool.not_false,Bool.true_or,cond_true,Bool.false_and,Bool.and_false]
      ·rw [h1] at n1
       have hl:(YK w n).length=1:=by
        have:=eq_of_beq n1;omega
       rw [n2 hl];have eg:Yb [(Qr w n).2] 0=some (Qr w n).2:=rfl;simp only [Zd9,eg,Option.bind_some,Znx hF sm sh so,Bool.not_true,Bool.false_or,Bool.true_and];cases Wz w n (Qr w n).2
       ·simp only [Bool.not_false,cond_true,Bool.and_false]
       ·simp only [Bool.not_true,cond_false,Bool.and_true,Bool.not_not];refine(Za0 w.cells.length (fun v (_:Unit)=>v) (ZhM st (Zcg w) n next) (fun m s nx=>bif ZqZ w n m then some false else nx ()) (fun _=>next (ZV ((n:Int) + 1))) (by omega) (fun m s nx hm=>?_) (fun s nx=>?_) (by omega) ()).trans ?_
        ·simp only [ZhM,so.m];obtain⟨g1,g2⟩:=Zlf sh.szd hm Zy5;rw [decide_eq_true (by omega),cond_true];have p1:Zac (Zcg w).1 ⟨(m:Int),(n:Int)⟩ 0=some (JK w m n):=by rw [← g1];rfl
         have p2:Zac (Zcg w).2 ⟨(m:Int),(n:Int)⟩ 0=some (Zdw w m n):=by rw [← g2];rfl
         simp only [p1,p2,Option.bind_some,Zma];unfold ZqZ;cases JK w m n !=Zdw w m n <;> rfl
        ·simp only [ZhM,so.m,ZhL];rw [decide_eq_false (by omega),cond_false]
        ·rw [Kr (r:=some false) (fun _ m=>ZqZ w n m) (fun _ _ _ _=>rfl),Zeu]
    ·simp only [ZhN,so.n];rw [decide_eq_false (by omega),cond_false]
    ·rw [Kr (r:=some false) (fun _ (n:Nat)=>Yx w n && !(Wl w n)) (fun _ _ _ _=>rfl),Zeu];cases (List.range w.names.toNat).any fun n=>Yx w n && !(Wl w n) <;> rfl
  ·rw [Kr (r:=some false) (Ku w) (fun k _ _ _=>by rw [Nat.zero_add])];unfold Kl KO;rw [h0];cases anyI (Ku w) 0 w.freed
   ·cases ZcX w && Km w <;> rfl
   ·rfl
end
end Go.Proofs.Ytekpjgmhkkjhgaa
end
section
namespace Go.Proofs.Ytekpjgmhkkjhgaa
open Go.Lf
abbrev Row:=List Zb
def KN (r:Row):Prop:=r.Pairwise fun a b=>a.name < b.name
def KL (r:Row) (n:Int):Option Zb:=r.find? fun c=>c.name==n
def put (c:Zb):Row ->Row
 | []=>[c]
 | d::r=>if d.name < c.name then d::put c r else if d.name=c.name then c::r else c::d::r
def rmv (n:Int) (r:Row):Row:=r.filter fun c=>!(c.name==n)
theorem J8 {r:Row} {n:Int} {c:Zb} (h:KL r n=some c):c.name=n:=by
 unfold KL at h;have:=List.find?_some h;simpa using this
theorem Zec {r:Row} {n:Int} {c:Zb} (h:KL r n=some c):c ∈ r:=List.mem_of_find?_eq_some h
theorem Y5 (d:Zb) (r:Row) (n:Int):KL (d::r) n=if d.name=n then some d else KL r n:=by
 unfold KL;rw [List.find?_cons];by_cases h:d.name=n
 ·have:(d.name==n)=true:=by simp [h]
  rw [this,if_pos h]
 ·have:(d.name==n)=false:=by simp [h]
  rw [this,if_neg h]
theorem ZvM (n:Int):KL [] n=none:=rfl
theorem KN.tail {d:Zb} {r:Row} (s:KN (d::r)):KN r:= (List.pairwise_cons.1 s).2
theorem KN.head {d:Zb} {r:Row} (s:KN (d::r)):∀ c ∈ r,d.name < c.name:= (List.pairwise_cons.1 s).1
theorem Zhz {r:Row} {n:Int} (h:∀ c ∈ r,n < c.name):KL r n=none:=by
 unfold KL;rw [List.find?_eq_none];intro c hc;have:=h c hc;simp;omega
theorem Zn0 {r:Row} (s:KN r) {c:Zb} (h:c ∈ r):KL r c.name=some c:=by
 induction r with
 | nil=>simp at h
 | cons d r ih=>
   rw [Y5];rcases List.mem_cons.1 h with rfl | h
   ·rw [if_pos rfl]
   ·have:=s.head c h;rw [if_neg (by omega)];exact ih s.tail h
theorem KX (c:Zb) {r:Row} (s:KN r) (n:Int):KL (put c r) n=if n=c.name then some c else KL r n:=by
 induction r with
 | nil=>rw [put,Y5,ZvM];by_cases h:n=c.name <;> simp [h];exact fun e=>h e.symm
 | cons d r ih=>
   unfold put;by_cases h1:d.name < c.name
   ·rw [if_pos h1,Y5,Y5,ih s.tail];by_cases h2:d.name=n
    ·rw [if_pos h2,if_pos h2,if_neg (by omega)]
    ·rw [if_neg h2,if_neg h2]
   ·rw [if_neg h1];by_cases h2:d.name=c.name
    ·rw [if_pos h2,Y5,Y5];by_cases h3:n=c.name
     ·rw [if_pos h3.symm,if_pos h3]
     ·rw [if_neg (fun e=>h3 e.symm),if_neg h3,if_neg (by omega)]
    ·rw [if_neg h2,Y5];by_cases h3:n=c.name
     ·rw [if_pos h3.symm,if_pos h3]
     ·rw [if_neg (fun e=>h3 e.symm),if_neg h3]
theorem Zu8 {c x:Zb} {r:Row} (h:x ∈ put c r):x=c∨x ∈ r:=by
 induction r with
 | nil=>simp [put] at h;exact .inl h
 | cons d r ih=>
   unfold put at h;split at h
   ·rcases List.mem_cons.1 h with rfl | h
    ·exact .inr (by simp)
    ·exact(ih h).imp id fun z=>by simp [z]
   ·split at h
    ·rcases List.mem_cons.1 h with rfl | h
     ·exact .inl rfl
     ·exact .inr (by simp [h])
    ·rcases List.mem_cons.1 h with rfl | h
     ·exact .inl rfl
     ·exact .inr h
theorem KN.put {c:Zb} {r:Row} (s:KN r):KN (put c r):=by
 induction r with
 | nil=>exact List.pairwise_singleton _ _
 | cons d r ih=>
   unfold Go.Proofs.Ytekpjgmhkkjhgaa.put;by_cases h1:d.name < c.name
   ·rw [if_pos h1];refine List.pairwise_cons.2 ⟨fun x hx=>?_,ih s.tail⟩;rcases Zu8 hx with rfl | hx
    ·exact h1
    ·exact s.head x hx
   ·rw [if_neg h1];by_cases h2:d.name=c.name
    ·rw [if_pos h2];exact List.pairwise_cons.2 ⟨fun x hx=>by have:=s.head x hx;omega,s.tail⟩
    ·rw [if_neg h2];refine List.pairwise_cons.2 ⟨fun x hx=>?_,s⟩;rcases List.mem_cons.1 hx with rfl | hx
     ·omega
     ·have:=s.head x hx;omega
theorem Zpn (n:Int) (r:Row) (k:Int):KL (rmv n r) k=if k=n then none else KL r k:=by
 induction r with
 | nil=>simp [rmv,KL]
 | cons d r ih=>
   unfold rmv at ih ⊢;rw [List.filter_cons];by_cases h:d.name=n
   ·have:(!(d.name==n))=false:=by simp [h]
    rw [if_neg (by simp [h]),ih,Y5];by_cases hk:k=n
    ·rw [if_pos hk,if_pos hk]
    ·rw [if_neg hk,if_neg hk,if_neg (by omega)]
   ·rw [if_pos (by simp [h]),Y5,ih,Y5];by_cases hk:k=n
    ·rw [if_pos hk,if_pos hk,if_neg (by omega)]
    ·rw [if_neg hk,if_neg hk]
theorem KN.rmv {r:Row} (s:KN r) (n:Int):KN (rmv n r):=List.Pairwise.filter _ s
theorem KN.ext:∀ {r q:Row},KN r ->KN q ->(∀ n,KL r n=KL q n) ->r=q
 | [],[],_,_,_=>rfl
 | [],d::q,_,_,h=>by have:=h d.name;rw [Y5,if_pos rfl] at this;simp [KL] at this
 | d::r,[],_,_,h=>by have:=h d.name;rw [Y5,if_pos rfl] at this;simp [KL] at this
 | d::r,e::q,s,t,h=>by
   have hde:d=e:=by
    have h1:=h d.name;have h2:=h e.name;rw [Y5,if_pos rfl,Y5] at h1;rw [Y5,Y5,if_pos rfl] at h2;by_cases hn:e.name=d.name
    ·rw [if_pos hn] at h1;exact Option.some.inj h1
    ·rw [if_neg hn] at h1;rw [if_neg (fun z=>hn z.symm)] at h2;have m1:=t.head d (Zec h1.symm);have m2:=s.head e (Zec h2);omega
   subst hde;congr 1;refine KN.ext s.tail t.tail fun n=>?_
   have:=h n;rw [Y5,Y5] at this;by_cases hn:d.name=n
   ·rw [Zhz (fun c hc=>by have:=s.head c hc;omega),Zhz (fun c hc=>by have:=t.head c hc;omega)]
   ·rwa [if_neg hn,if_neg hn] at this
def blank (n:Int):Zb:= ⟨n,false,-1,0,0,false⟩
def look (r:Row) (n:Int):Zb:= (KL r n).getD (blank n)
def cw (w:Za) (m:Nat) (r:Row):Za:= ⟨w.cells.set m r,w.notes,w.names,w.freed⟩
theorem set_self {α:Type} {l:List α} {m:Nat} {x:α} (h:l[m]? =some x):l.set m x=l:=by
 apply List.ext_getElem?;intro k;rw [List.getElem?_set];by_cases hk:m=k
 ·subst hk;have:= (List.getElem?_eq_some_iff.1 h).1;rw [if_pos rfl,if_pos this,h]
 ·rw [if_neg hk]
def JB (n:Int):List Int ->List Int
 | []=>[n]
 | x::l=>if x > n then n::x::l else x::JB n l
def Jf (w:Za) (m:Nat) (n:Int) (c:Zb):Za:=
 bif c.use || (c.out !=0) then w else
  ⟨w.cells.set m (rmv n (rowOf w m)),bif c.root then w.notes else bif decide (c.from_ >=0) then w.notes ++ [⟨2,c.from_,n,0,c.has⟩] else w.notes,w.names,bif c.root then JB n w.freed else w.freed⟩
theorem Zcu (r:Row) (n:Int):(look r n).name=n:=by
 unfold look;cases h:KL r n with
 | none=>rfl
 | some c=>exact J8 h
theorem Zu0 {r:Row} (s:KN r) {c d:Zb} (h:c.name=d.name):put c (put d r)=put c r:=by
 refine KN.ext s.put.put s.put fun k=>?_
 rw [KX _ s.put,KX _ s,KX _ s];by_cases hk:k=c.name
 ·rw [if_pos hk,if_pos hk]
 ·rw [if_neg hk,if_neg hk,if_neg (by omega)]
theorem Jm {w:Za} {m:Nat} (hm:m < w.cells.length) (r:Row):rowOf (cw w m r) m=r:=by
 unfold rowOf cw;simp [hm]
theorem Zgr {c:Zb} (r:Row):(put c r).length <=r.length + 1:=by
 induction r with
 | nil=>simp [put]
 | cons d r ih=>
   unfold put;split
   ·simp;omega
   ·split
    ·simp
    ·simp
def sent (w:Za) (x:Zd):Za:= ⟨w.cells,w.notes ++ [x],w.names,w.freed⟩
def Jj (w:Za) (m:Nat) (n ZG x:Int):Za:=
 bif ZG != (m:Int) then sent w ⟨2,ZG,n,0,x⟩ else cw w m (put {look (rowOf w m) n with out:=ZV ((look (rowOf w m) n).out - x)} (rowOf w m))
theorem Small.cw {w:Za} (s:Small w) {m:Nat} {r:Row} (h:r.length < 1000):Small (cw w m r):=by
 refine⟨by show(w.cells.set m r).length < 1000;simp;exact s.cells,fun q hq=>?_,s.notes,s.freed⟩;have hq:q ∈ w.cells.set m r:=hq;rcases List.mem_or_eq_of_mem_set hq with z | z
 ·exact s.rows q z
 ·rw [z];exact h
def UN (w:Za) (x:Zd):Za:=
 let m:=x.ZG.toNat
 let r:=rowOf w m
 let c:=look r x.name
 let a:=cw w m
 bif x.kind==1 then
  bif(!c.root && (c.from_==-1)) && (x.via !=x.ZG) then a (put ⟨c.name,c.root,x.via,x.w,c.out,true⟩ r)
  else bif(!c.root && decide (c.from_ >=0)) && (c.from_==x.via) then a (put ⟨c.name,c.root,c.from_,ZV (c.has + x.w),c.out,true⟩ r)
  else Jj (a (put ⟨c.name,c.root,c.from_,c.has,c.out,true⟩ r)) m x.name x.via x.w
 else bif x.kind==2 then
  let d:Zb:= ⟨c.name,c.root,c.from_,c.has,ZV (c.out - x.w),c.use⟩
  Jf (a (put d r)) m x.name d
 else
  let d:Zb:= ⟨c.name,true,-1,0,ZV (c.out + 16),c.use⟩
  let b:=a (put d r)
  let e:=bif decide (c.from_ >=0) then Jj b m x.name c.from_ c.has else b
  Jf e m x.name (look (rowOf e m) x.name)
theorem Ym {w:Za} {m:Nat} {r:Row}:(cw w m r).cells.length=w.cells.length:=by unfold cw;simp
theorem ZEP (w:Za) (m:Nat) (r q:Row):cw (cw w m r) m q=cw w m q:=by unfold cw;simp
theorem ZcF {w:Za} {m:Nat} (hm:m < w.cells.length) (n ZG x:Int):rowOf (Jj w m n ZG x) m=rowOf w m∨rowOf (Jj w m n ZG x) m=put {look (rowOf w m) n with out:=ZV ((look (rowOf w m) n).out - x)} (rowOf w m):=by
 unfold Jj;cases (ZG != (m:Int))
 ·right;rw [cond_false,Jm hm]
 ·left;rfl
theorem Zq2 {w:Za} {m:Nat} (n ZG x:Int):(Jj w m n ZG x).cells.length=w.cells.length:=by
 unfold Jj;cases (ZG != (m:Int))
 ·rw [cond_false,Ym]
 ·rfl
theorem ZmS {w:Za} {m:Nat} (s:Small w) (hr:(rowOf w m).length < 990) (hn:w.notes.length < 990) (n ZG x:Int):Small (Jj w m n ZG x):=by
 unfold Jj;cases (ZG != (m:Int))
 ·rw [cond_false];exact s.cw (by have:=Zgr (c:= {look (rowOf w m) n with out:=ZV ((look (rowOf w m) n).out - x)}) (rowOf w m);omega)
 ·exact⟨s.cells,s.rows,by show(w.notes ++ [_]).length < 1000;simp;omega,s.freed⟩
section
variable {F:Nat} {w:Za} {m:Nat} {n:Int}
theorem ZhA (hm:m < w.cells.length) (X9:KN (rowOf w m)) {d:Zb} (hd:d.name=n):KL (rowOf (cw w m (put d (rowOf w m))) m) n=some d:=by
 rw [Jm hm,KX _ X9,if_pos hd.symm]
theorem UH {r:Row} {d:Zb} (h:KL r n=some d):look r n=d:=by unfold look;rw [h];rfl
structure At1 (w:Za) (m:Nat) (n:Int):Prop where
 sm:Small w
 hm:m < w.cells.length
 X9:KN (rowOf w m)
 rl:(rowOf w m).length < 950
 nl:w.notes.length < 950
 has:∃ d,KL (rowOf w m) n=some d
theorem At1.put (sm:Small w) (hm:m < w.cells.length) (X9:KN (rowOf w m)) (hr:(rowOf w m).length < 940) (hn:w.notes.length < 940) {d:Zb} (hd:d.name=n):At1 (cw w m (put d (rowOf w m))) m n:=by
 have hl:=Zgr (c:=d) (rowOf w m);exact⟨sm.cw (by omega),by rw [Ym];exact hm,by rw [Jm hm];exact X9.put,by rw [Jm hm];omega,by show w.notes.length < 950;omega,d,ZhA hm X9 hd⟩
theorem ZtX (sm:Small w) (hm:m < w.cells.length) (X9:KN (rowOf w m)) (hr:(rowOf w m).length < 945) (hn:w.notes.length < 945) (ZG x:Int) (hd:∃ d,KL (rowOf w m) n=some d):At1 (Jj w m n ZG x) m n:=by
 refine⟨ZmS sm (by omega) (by omega) n ZG x,by rw [Zq2];exact hm,?_,?_,?_,?_⟩
 ·rcases ZcF hm n ZG x with h | h <;> rw [h]
  ·exact X9
  ·exact X9.put
 ·have hl:=Zgr (c:= {look (rowOf w m) n with out:=ZV ((look (rowOf w m) n).out - x)}) (rowOf w m);rcases ZcF hm n ZG x with h | h <;> rw [h] <;> omega
 ·unfold Jj;cases (ZG != (m:Int))
  ·rw [cond_false];show w.notes.length < 950;omega
  ·rw [cond_true];show(w.notes ++ [_]).length < 950;simp;omega
 ·rcases ZcF hm n ZG x with h | h <;> rw [h]
  ·exact hd
  ·exact⟨_,by rw [KX _ X9,if_pos (by exact(Zcu _ _).symm)]⟩
end
end Go.Proofs.Ytekpjgmhkkjhgaa
end
section
namespace Go.Proofs.Ytekpjgmhkkjhgaa
open Go.Lf
section
variable {w:Za} {st:Store} {m:Nat} {n:Int}
theorem X0 (w:Za) (a:Nat) (b:Int):cellOf w a b=KL (rowOf w a) b:=rfl
theorem X8.get (s:X8 w st) (hm:m < w.cells.length):Xl st.cells ⟨m,n⟩=KL (rowOf w m) n:=by
 rw [s.cells,if_pos (by omega),Int.toNat_natCast,X0]
theorem Zeo (s:X8 w st) (hm:m < w.cells.length):Zf3 st m n=some (look (rowOf w m) n):=by
 unfold Zf3 KS;rw [s.get hm];cases h:KL (rowOf w m) n with
 | none=>
   rw [show look (rowOf w m) n=blank n by unfold look;rw [h];rfl]
   rfl
 | some c=>
   rw [UH h]
   rfl
theorem Wt {a:Nat} (h:a ≠ m) (r:Row):rowOf (cw w m r) a=rowOf w a:=by
 unfold rowOf cw;simp only;rw [List.getElem?_set_ne (fun z=>h z.symm)]
theorem MapOf.put {l:List (Ze×Zb)} (s:MapOf w l) (hm:m < w.cells.length) (X9:KN (rowOf w m)) {c:Zb} (hc:c.name=n):MapOf (cw w m (put c (rowOf w m))) (YR l ⟨m,n⟩ c):=by
 intro a b;rw [ZeY,Ym,s a b];by_cases ha:0 <=a∧a < (w.cells.length:Int)
 ·rw [if_pos ha,if_pos ha,X0,X0];by_cases he:a= (m:Int)
  ·subst he;rw [Int.toNat_natCast,Jm hm,KX _ X9];by_cases hb:b=n
   ·subst hb;rw [if_pos rfl,if_pos hc.symm]
   ·rw [if_neg (fun z=>hb (by injection z)),if_neg (fun z=>hb (z.trans hc))]
  ·rw [if_neg (fun z=>he (by injection z)),Wt (by omega)]
 ·rw [if_neg ha,if_neg ha,if_neg (fun z=>ha (by injection z with z1 _;rw [z1];omega))]
theorem X8.put (s:X8 w st) (hm:m < w.cells.length) (X9:KN (rowOf w m)) {c:Zb} (hc:c.name=n):X8 (cw w m (Go.Proofs.Ytekpjgmhkkjhgaa.put c (rowOf w m))) ⟨st.machines,st.names,YR st.cells ⟨m,n⟩ c,st.notes,st.freed⟩:=
 ⟨by rw [Ym];exact s.m,s.n,s.notes,s.freed,s.cells.put hm X9 hc⟩
theorem X8.sent (s:X8 w st) (hn:w.notes.length < 1000) (x:Zd):∃ st',KZ st x=some st'∧X8 (sent w x) st':=by
 unfold KZ;rw [s.notes,QD (by simp;omega) (by decide)];exact⟨_,rfl,s.m,s.n,rfl,s.freed,s.cells⟩
theorem Zq0 (s:X8 w st) (hm:m < w.cells.length) (X9:KN (rowOf w m)) (hn:w.notes.length < 1000) (ZG x:Int):∃ st',Zf2 st m n ZG x=some st'∧X8 (Jj w m n ZG x) st':=by
 unfold Zf2 Jj;cases (ZG != (m:Int))
 ·simp only [cond_false];rw [Zeo s hm,Option.bind_some];exact⟨_,rfl,s.put hm X9 (by exact Zcu _ _)⟩
 ·simp only [cond_true];obtain⟨st',h1,h2⟩:=s.sent hn ⟨2,ZG,n,0,x⟩;rw [h1];exact⟨st',rfl,h2⟩
end
end Go.Proofs.Ytekpjgmhkkjhgaa
end
section
namespace Go.Proofs.Ytekpjgmhkkjhgaa
open Go.Lf
section
variable {κ ν:Type} [DecidableEq κ]
def UK (l:List (κ×ν)):Prop:= (l.map (·.1)).Nodup
theorem UK.nil:UK ([]:List (κ×ν)):=List.nodup_nil
theorem UK.YR {l:List (κ×ν)} (u:UK l) (k:κ) (x:ν):UK (YR l k x):=by
 unfold Go.Lf.YR;cases e:Ya l k with
 | some q=>
   unfold UK at u ⊢
   have:(l.modify q.1 fun p=>(p.1,x)).map (·.1)=l.map (·.1):=by
    apply List.ext_getElem?;intro i;rw [List.getElem?_map,List.getElem?_map,List.getElem?_modify];cases l[i]? with
    | none=>rfl
    | some p=>simp only [Option.map_some];split <;> rfl
   dsimp only;rw [this];exact u
 | none=>
   unfold UK at u ⊢;dsimp only;rw [List.map_append,List.nodup_append];refine⟨u,by simp,fun a ha b hb=>?_⟩;simp at hb;subst hb;obtain⟨p,hp,rfl⟩:=List.mem_map.1 ha;exact ZaY.1 e p hp
theorem UK.Zas {l:List (κ×ν)} (u:UK l) (k:κ):UK (Zas l k):=by
 unfold Go.Lf.Zas;cases e:Ya l k with
 | some q=>
   unfold UK at u ⊢;dsimp only;exact u.sublist ((List.eraseIdx_sublist l q.1).map _)
 | none=>exact u
theorem Kq (p:κ×ν) (l:List (κ×ν)) (k:κ):Ya (p::l) k=if p.1=k then some (0,p.2) else(Ya l k).map fun q=>(q.1 + 1,q.2):=rfl
theorem Zi3:∀ {l:List (κ×ν)},UK l ->∀ k k':κ,Xl (Zas l k) k'=if k'=k then none else Xl l k'
 | [],_,k,k'=>by simp [Zas,Xl,Ya]
 | p::l,u,k,k'=>by
   have u':p.1 ∉ l.map (·.1)∧UK l:=List.nodup_cons.1 u;have ih:=Zi3 u'.2 k k';unfold Zas Xl at ih ⊢;rw [Kq p l k,Kq p l k'];have hmm:∀ o:Option (Nat×ν),Option.map (·.2) (Option.map (fun q=>(q.1 + 1,q.2)) o)=Option.map (·.2) o:=fun o=>by cases o <;> rfl
   by_cases hp:p.1=k
   ·rw [if_pos hp];show Option.map _ (Ya ((p::l).eraseIdx 0) k')=_;rw [List.eraseIdx_cons_zero];by_cases hk:k'=k
    ·rw [if_pos hk,hk];have:Ya l k=none:=ZaY.2 fun q hq e=>u'.1 (List.mem_map.2 ⟨q,hq,e.trans hp.symm⟩)
     rw [this];rfl
    ·rw [if_neg hk,if_neg (fun z=>hk (z.symm.trans hp)),hmm]
   ·rw [if_neg hp];cases e:Ya l k with
    | none=>
      rw [e] at ih;dsimp only [Option.map_none] at ih ⊢;rw [Kq];by_cases hk:k'=k
      ·rw [if_pos hk] at ih ⊢;rw [if_neg (fun z=>hp (z.trans hk)),hmm];exact ih
      ·rw [if_neg hk]
    | some q=>
      rw [e] at ih;dsimp only [Option.map_some] at ih ⊢;rw [List.eraseIdx_cons_succ,Kq];by_cases h3:p.1=k'
      ·rw [if_pos h3,if_neg (fun z=>hp (h3.trans z)),if_pos h3]
      ·rw [if_neg h3,if_neg h3,hmm,hmm];exact ih
end
theorem MapOf.rmv {w:Za} {m:Nat} {n:Int} {l:List (Ze×Zb)} (s:MapOf w l) (u:UK l) (hm:m < w.cells.length):MapOf (cw w m (rmv n (rowOf w m))) (Zas l ⟨m,n⟩):=by
 intro a b;rw [Zi3 u,Ym,s a b];by_cases ha:0 <=a∧a < (w.cells.length:Int)
 ·rw [if_pos ha,if_pos ha,X0,X0];by_cases he:a= (m:Int)
  ·subst he;rw [Int.toNat_natCast,Jm hm,Zpn];by_cases hb:b=n
   ·subst hb;rw [if_pos rfl,if_pos rfl]
   ·rw [if_neg (fun z=>hb (by injection z)),if_neg hb]
  ·rw [if_neg (fun z=>he (by injection z)),Wt (by omega)]
 ·rw [if_neg ha,if_neg ha];split <;> rfl
end Go.Proofs.Ytekpjgmhkkjhgaa
end
section
namespace Go.Proofs.Ytekpjgmhkkjhgaa
open Go.Lf
def Asc (l:List Int):Prop:=l.Pairwise (· <=·)
theorem Zu9 (a b:Int):Zf0 a b=some (decide (a < b)):=by
 unfold Zf0 Zjl;simp [gd]
theorem Zho {x:Int}:∀ {l:List Int},(∀ y ∈ l,y <=x) ->JB x l=l ++ [x]
 | [],_=>rfl
 | y::l,h=>by
   have:=h y (by simp);rw [JB,if_neg (by omega),Zho (fun z hz=>h z (by simp [hz]))];rfl
theorem Zi6 {x y:Int} (h:x < y):∀ {l:List Int},JB x (l ++ [y])=JB x l ++ [y]
 | []=>by
   have h':y > x:=h;show(if y > x then x::y:: [] else y::JB x [])=_;rw [if_pos h'];rfl
 | z::l=>by
   rw [List.cons_append,JB,JB];by_cases hz:z > x
   ·rw [if_pos hz,if_pos hz];rfl
   ·rw [if_neg hz,if_neg hz,Zi6 h];rfl
theorem ZdZ {x z:Int}:∀ {l:List Int},z ∈ JB x l ->z=x∨z ∈ l
 | [],h=>by simp [JB] at h;exact .inl h
 | y::l,h=>by
   rw [JB] at h;split at h
   ·rcases List.mem_cons.1 h with h | h
    ·exact .inl h
    ·exact .inr h
   ·rcases List.mem_cons.1 h with h | h
    ·exact .inr (by simp [h])
    ·exact(ZdZ h).imp id fun q=>by simp [q]
theorem Asc.JB {x:Int}:∀ {l:List Int},Asc l ->Asc (JB x l)
 | [],_=>List.pairwise_singleton _ _
 | y::l,s=>by
   have s':=List.pairwise_cons.1 s;unfold Go.Proofs.Ytekpjgmhkkjhgaa.JB;by_cases h:y > x
   ·rw [if_pos h];refine List.pairwise_cons.2 ⟨fun z hz=>?_,s⟩;rcases List.mem_cons.1 hz with rfl | hz
    ·omega
    ·have:=s'.1 z hz;omega
   ·rw [if_neg h];refine List.pairwise_cons.2 ⟨fun z hz=>?_,Asc.JB s'.2⟩;rcases ZdZ hz with rfl | hz
    ·omega
    ·exact s'.1 z hz
theorem Zhn (x:Int):∀ l:List Int,(JB x l).length=l.length + 1
 | []=>rfl
 | y::l=>by
   rw [JB];split
   ·rfl
   ·simp [Zhn x l]
theorem Zpl {α:Type} (p s:List α) (x:α):(p ++ x::s)[p.length]? =some x:=by simp
theorem Znz (i:Int) (next:Int×List Int ->Option (List Int)):∀ (k:Nat) (pre suf:List Int) (x:Int) (F:Nat),pre.length=k ->k < F ->k < 100000 ->Asc pre ->loop F (ZgB 0 i next) ((k:Int),pre ++ x::suf)=next (ZV (i + 1),JB x pre ++ suf):=by
 intro k
 induction k with
 | zero=>
   intro pre suf x F hp hF _ _;obtain⟨F,rfl⟩:=Nat.exists_eq_succ_of_ne_zero (n:=F) (by omega);have:pre= []:=List.eq_nil_of_length_eq_zero hp;subst this;rw [YF]
   rfl
 | succ k ih=>
   intro pre suf x F hp hF hk hs;obtain⟨F,rfl⟩:=Nat.exists_eq_succ_of_ne_zero (n:=F) (by omega)
   obtain⟨p,y,rfl⟩:∃ p y,pre=p ++ [y]:=by
    refine⟨pre.dropLast,pre.getLast (by intro z;rw [z] at hp;simp at hp),?_⟩;exact(List.dropLast_concat_getLast _).symm
   have hpl:p.length=k:=by simpa using hp
   have hs':=List.pairwise_append.1 hs;rw [YF];have e0:(p ++ [y]) ++ x::suf=p ++ y::x::suf:=by simp
   rw [e0]
   have g1:Yb (p ++ y::x::suf) ((k + 1:Nat):Int)=some x:=by
    rw [Yt,← hpl];rw [List.getElem?_append_right (by omega)];simp
   have g2:Yb (p ++ y::x::suf) (k:Int)=some y:=by rw [Yt,← hpl];exact Zpl _ _ _
   have ew:ZV (((k + 1:Nat):Int) - 1)= (k:Int):=by rw [Zlv (by omega) (by omega)];rfl
   have hgt:decide (((k + 1:Nat):Int) > 0)=true:=decide_eq_true (by omega);simp only [ZgB,hgt,gd,cond_true,g1,g2,ew,Option.bind_some,Zu9,Bool.true_and];cases hlt:decide (x < y)
   ·rw [cond_false];have hle:y <=x:=by simpa using hlt
    rw [Zho (fun z hz=>by
     rcases List.mem_append.1 hz with hz | hz
     ·have:=hs'.2.2 z hz y (by simp);omega
     ·simp at hz;omega)]
    simp
   ·rw [cond_true];have hxy:x < y:=by simpa using hlt
    have s1:JI (p ++ y::x::suf) ((k + 1:Nat):Int) y=p ++ y::y::suf:=by
     unfold JI;rw [Int.toNat_natCast,← hpl,List.set_append_right _ _ (by omega)];simp
    have g3:Yb (p ++ y::y::suf) (k:Int)=some y:=by rw [Yt,← hpl];exact Zpl _ _ _
    have s2:JI (p ++ y::y::suf) (k:Int) x=p ++ x::y::suf:=by
     unfold JI;rw [Int.toNat_natCast,← hpl,List.set_append_right _ _ (by omega)];simp
    rw [s1,g3,Option.bind_some,s2,ih p (y::suf) x F hpl (by omega) (by omega) hs'.1,Zi6 hxy];simp
theorem Zg9 {F:Nat} (hF:100 <=F):∀ (d:Nat) (S rest:List Int) (n F':Nat),rest.length=d ->S.length + d=n ->n <=90 ->d < F' ->Asc S ->loop F' (Zcz F 0 n) ((S.length:Int),S ++ rest)=some (rest.foldl (fun S x=>JB x S) S):=by
 intro d
 induction d with
 | zero=>
   intro S rest n F' hr hn hn9 hF' hs;obtain⟨F',rfl⟩:=Nat.exists_eq_succ_of_ne_zero (n:=F') (by omega);have:rest= []:=List.eq_nil_of_length_eq_zero hr;subst this;rw [YF];simp only [Zcz];rw [decide_eq_false (by omega),cond_false];simp
 | succ d ih=>
   intro S rest n F' hr hn hn9 hF' hs;obtain⟨F',rfl⟩:=Nat.exists_eq_succ_of_ne_zero (n:=F') (by omega)
   match rest,hr with
   | x::r,hr=>
     rw [YF];simp only [Zcz];rw [decide_eq_true (by omega),cond_true,Znz _ _ S.length S r x F rfl (by omega) (by omega) hs,QX (by omega),List.foldl_cons];have:=ih (JB x S) r n F' (by simpa using hr) (by rw [Zhn];omega) hn9 (by omega) hs.JB;rw [Zhn] at this;exact this
theorem Zme:∀ (l S:List Int),Asc (S ++ l) ->l.foldl (fun S x=>JB x S) S=S ++ l
 | [],S,_=>by simp
 | x::l,S,h=>by
   rw [List.foldl_cons,Zho (fun y hy=>(List.pairwise_append.1 h).2.2 y hy x (by simp)),Zme l _ (by simpa using h)];simp
theorem ZuO {F:Nat} (hF:100 <=F) {l:List Int} (hl:l.length <=11) (hs:Asc l) (n:Int):Zmj F (l ++ [n])=some (JB n l):=by
 have hlen:(l ++ [n]).length=l.length + 1:=by simp
 unfold Zmj ZtE
 have e1:∃ q,XZ (IntKind.wrap .u64 ((l ++ [n]).length:Int))=some q:=by
  rw [hlen];have hw:∀ k:Nat,k <=12 ->IntKind.wrap .u64 (k:Int)= (k:Int):=by decide
  have:=hw (l.length + 1) (by omega);rw [this];unfold XZ;rw [decide_eq_true (by omega),decide_eq_true (by omega)];exact⟨_,rfl⟩
 obtain⟨q,e1⟩:=e1;rw [e1,Option.bind_some];unfold Zpz;obtain⟨F',rfl⟩:=Nat.exists_eq_succ_of_ne_zero (n:=F) (by omega);rw [YF];simp only [ZkI];have ew:ZV (((l ++ [n]).length:Int) - 0)= ((l.length + 1:Nat):Int):=by rw [hlen];exact YW (by omega) (by omega)
 rw [ew,decide_eq_true (by omega),cond_true];unfold Zpy;have e2:ZV ((0:Int) + 1)=1:=by rw [show(0:Int) + 1=1 from rfl];exact YW (by omega) (by omega)
 rw [e2]
 have key:loop (F' + 1) (Zcz (F' + 1) 0 ((l ++ [n]).length:Int)) (1,l ++ [n])=some (JB n l):=by
  match l,hl,hs,hlen with
  | [],_,_,_=>exact Zg9 (F:=F' + 1) hF 0 [n] [] 1 (F' + 1) rfl rfl (by omega) (by omega) (List.pairwise_singleton _ _)
  | x::r,hl,hs,hlen=>
    have:=Zg9 (F:=F' + 1) hF (r.length + 1) [x] (r ++ [n]) ((x::r ++ [n]).length) (F' + 1) (by simp) (by simp;omega) (by simp at hl ⊢;omega) (by simp at hl;omega) (List.pairwise_singleton _ _);rw [List.foldl_append,Zme r [x] hs] at this;exact this
 rw [key];rfl
def CI (c:Zb):Prop:= (c.from_ >=0∧c.root=false)∨(c.from_=-1∧c.has=0)
theorem ZtH {c:Zb} {n:Int} (hn:c.name=n) (hu:c.use=false) (ho:c.out=0) (hr:c.root=false) (hi:CI c):JC c (blank n)= !decide (c.from_ >=0):=by
 unfold JC blank;rcases hi with⟨h,_⟩ | ⟨h1,h2⟩
 ·rw [decide_eq_true h];have:(c.from_==-1)=false:=by simp;omega
  simp [this]
 ·rw [decide_eq_false (by omega)];simp [hn,hu,ho,hr,h1,h2]
theorem KP {F:Nat} (hF:100 <=F) {w:Za} {st:Store} {m:Nat} {n:Int} (s:X8 w st) (u:UK st.cells) (hm:m < w.cells.length) (hnl:w.notes.length < 1000) {c:Zb} (hc:KL (rowOf w m) n=some c) (hi:CI c) (ha:Asc w.freed) (hf:w.freed.length <=11):
 ∃ st',Zf1 F st m n=some st'∧X8 (Jf w m n c) st'∧UK st'.cells:=by
 have hcn:=J8 hc;unfold Zf1 Jf;rw [Zeo s hm,UH hc,Option.bind_some];cases hu:(c.use || (c.out !=0))
 ·simp only [cond_false]
  have hu1:c.use=false:=by
   cases h:c.use
   ·rfl
   ·rw [h] at hu;cases hu
  have hu2:c.out=0:=by
   rw [hu1,Bool.false_or] at hu
   simpa using hu
  have hmap:MapOf (cw w m (rmv n (rowOf w m))) (Zas st.cells ⟨m,n⟩):=s.cells.rmv u hm;cases hr:c.root
  ·simp only [cond_false];unfold Zmk;rw [Option.bind_some];have he:=ZtH hcn hu1 hu2 hr hi;unfold blank at he;rw [he];cases hfr:decide (c.from_ >=0)
   ·refine⟨_,rfl,⟨by show st.machines=_;rw [s.m];simp,s.n,s.notes,s.freed,hmap⟩,u.Zas _⟩
   ·simp only [Bool.not_true,Bool.not_false,cond_true];unfold KZ;dsimp only;rw [s.notes,QD (by simp;omega) (by decide)];refine⟨_,rfl,⟨by show st.machines=_;rw [s.m];simp,s.n,rfl,s.freed,hmap⟩,u.Zas _⟩
  ·simp only [cond_true];rw [s.freed,QD (by simp;omega) (by decide),Option.bind_some,ZuO hF hf ha,Option.bind_some];refine⟨_,rfl,⟨by show st.machines=_;rw [s.m];simp,s.n,s.notes,rfl,hmap⟩,u.Zas _⟩
 ·simp only [cond_true];exact⟨st,rfl,s,u⟩
theorem CI.blank (n:Int):CI (blank n):= .inr ⟨rfl,rfl⟩
theorem ZpM {F:Nat} {w:Za} {st:Store} {m:Nat} {n:Int} (s:X8 w st) (u:UK st.cells) (hm:m < w.cells.length) (X9:KN (rowOf w m)) (hn:w.notes.length < 1000) (ZG x:Int):∃ st',Zf2 st m n ZG x=some st'∧X8 (Jj w m n ZG x) st'∧UK st'.cells:=by
 obtain⟨st',h1,h2⟩:=Zq0 s hm X9 hn ZG x (n:=n);refine⟨st',h1,h2,?_⟩;unfold Zf2 KZ at h1;cases ht:(ZG != (m:Int))
 ·rw [ht,cond_false,Zeo s hm,Option.bind_some] at h1;cases h1;exact u.YR _ _
 ·rw [ht,cond_true,s.notes,QD (by simp;omega) (by decide)] at h1;cases h1;exact u
theorem Zq1 {w:Za} {m:Nat} {n:Int} (hm:m < w.cells.length) (X9:KN (rowOf w m)) (ZG x:Int) (hi:CI (look (rowOf w m) n)):CI (look (rowOf (Jj w m n ZG x) m) n):=by
 rcases ZcF hm n ZG x with h | h <;> rw [h]
 ·exact hi
 ·rw [UH (by rw [KX _ X9,if_pos (by exact(Zcu _ _).symm)])];exact hi
theorem Zor {F:Nat} (hF:100 <=F) {w:Za} {st:Store} (s:X8 w st) (u:UK st.cells) (sm:Small w) {m:Nat} (hm:m < w.cells.length) (hrl:(rowOf w m).length < 900) (hnl:w.notes.length < 900) (x:Zd) (hto:x.ZG= (m:Int)) (X9:KN (rowOf w m)) (hi:CI (look (rowOf w m) x.name)) (ha:Asc w.freed) (hf:w.freed.length <=11):
 ∃ st',Zto F st x=some st'∧X8 (UN w x) st'∧UK st'.cells:=by
 have hln:=Zcu (rowOf w m) x.name;have hat:∀ {d:Zb},d.name=x.name ->At1 (cw w m (put d (rowOf w m))) m x.name:=fun hd=>At1.put sm hm X9 (by omega) (by omega) hd
 have hst:∀ {d:Zb},d.name=x.name ->X8 (cw w m (put d (rowOf w m))) ⟨st.machines,st.names,YR st.cells ⟨m,x.name⟩ d,st.notes,st.freed⟩:=fun hd=>s.put hm X9 hd
 unfold Zto UN;rw [hto,Zeo s hm];simp only [Option.bind_some,Int.toNat_natCast];obtain⟨c,hcc⟩:∃ c,look (rowOf w m) x.name=c:= ⟨_,rfl⟩
 rw [hcc] at hln hi;simp only [hcc]
 have hlt:decide (c.from_ < 0)= (c.from_==-1):=by
  rcases hi with⟨h,_⟩ | ⟨h,_⟩
  ·rw [decide_eq_false (by omega)];symm;simp;omega
  ·rw [decide_eq_true (by omega),h];rfl
 have hge:(decide (c.from_ >=0) && (c.from_==x.via))= ((!c.root && decide (c.from_ >=0)) && (c.from_==x.via)):=by
  rcases hi with⟨h,h2⟩ | ⟨h,_⟩
  ·rw [h2];simp
  ·rw [decide_eq_false (by omega)];simp
 cases hk1:(x.kind==1)
 ·simp only [cond_false];cases hk2:(x.kind==2)
  ·simp only [cond_false];have h1:=hst (d:= ⟨c.name,true,-1,0,ZV (c.out + 16),c.use⟩) hln;have hA:=hat (d:= ⟨c.name,true,-1,0,ZV (c.out + 16),c.use⟩) hln;have u1:=u.YR (⟨m,x.name⟩:Ze) (⟨c.name,true,-1,0,ZV (c.out + 16),c.use⟩:Zb);have hd:(⟨c.name,true,-1,0,ZV (c.out + 16),c.use⟩:Zb).name=x.name:=hln;have hlk:=UH (ZhA hm X9 hd);cases hfr:decide (c.from_ >=0)
   ·simp only [cond_false];unfold Zfe;rw [hto];obtain⟨d,hdd⟩:=hA.has;obtain⟨st',q1,q2,q3⟩:=KP hF h1 u1 hA.hm (by show w.notes.length < 1000;omega) hdd (by rw [← UH hdd,hlk];exact .inr ⟨rfl,rfl⟩) ha hf;rw [show st.notes=w.notes from s.notes,show st.freed=w.freed from s.freed] at q1;rw [show st.notes=w.notes from s.notes,show st.freed=w.freed from s.freed];refine⟨st',(congrArg (fun o=>Option.bind o fun x61=>some x61) q1).trans rfl,?_,q3⟩;rw [UH hdd];exact q2
   ·simp only [cond_true];obtain⟨st1,p1,p2,p3⟩:=ZpM (F:=F) (n:=x.name) h1 u1 hA.hm hA.X9 (by show w.notes.length < 1000;omega) c.from_ c.has;rw [p1,Option.bind_some];have hbh:=ZtX hA.sm hA.hm hA.X9 (by have:=Zgr (c:= (⟨c.name,true,-1,0,ZV (c.out + 16),c.use⟩:Zb)) (rowOf w m);rw [Jm hm];omega) (by show w.notes.length < 945;omega) c.from_ c.has hA.has;have hci:CI (look (rowOf (Jj (cw w m (put (⟨c.name,true,-1,0,ZV (c.out + 16),c.use⟩:Zb) (rowOf w m))) m x.name c.from_ c.has) m) x.name):=Zq1 hA.hm hA.X9 _ _ (by rw [hlk];exact .inr ⟨rfl,rfl⟩);obtain⟨d,hdd⟩:=hbh.has
    have hfree:(Jj (cw w m (put (⟨c.name,true,-1,0,ZV (c.out + 16),c.use⟩:Zb) (rowOf w m))) m x.name c.from_ c.has).freed=w.freed:=by
     unfold Jj;cases (c.from_ != (m:Int)) <;> rfl
    obtain⟨st',q1,q2,q3⟩:=KP hF p2 p3 hbh.hm (by have:=hbh.nl;omega) hdd (by rw [← UH hdd];exact hci) (by rw [hfree];exact ha) (by rw [hfree];exact hf);unfold Zfe;rw [hto];refine⟨st',(congrArg (fun o=>Option.bind o fun x61=>some x61) q1).trans rfl,?_,q3⟩;rw [UH hdd];exact q2
  ·simp only [cond_true];have h1:=hst (d:= ⟨c.name,c.root,c.from_,c.has,ZV (c.out - x.w),c.use⟩) hln;have hd:(⟨c.name,c.root,c.from_,c.has,ZV (c.out - x.w),c.use⟩:Zb).name=x.name:=hln;have u1:=u.YR (⟨m,x.name⟩:Ze) (⟨c.name,c.root,c.from_,c.has,ZV (c.out - x.w),c.use⟩:Zb);obtain⟨st',q1,q2,q3⟩:=KP hF h1 u1 (hat hd).hm (by show w.notes.length < 1000;omega) (ZhA hm X9 hd) hi ha hf;exact⟨st',(congrArg (fun o=>Option.bind o fun x61=>some x61) q1).trans rfl,q2,q3⟩
 ·simp only [cond_true];rw [hlt,hge];cases hc1:((!c.root && (c.from_==-1)) && (x.via != (m:Int)))
  ·simp only [cond_false];cases hc2:((!c.root && decide (c.from_ >=0)) && (c.from_==x.via))
   ·simp only [cond_false];have h1:=hst (d:= ⟨c.name,c.root,c.from_,c.has,c.out,true⟩) hln;have hA:=hat (d:= ⟨c.name,c.root,c.from_,c.has,c.out,true⟩) hln;obtain⟨st1,p1,p2,p3⟩:=ZpM (F:=F) (n:=x.name) h1 (u.YR _ _) hA.hm hA.X9 (by show w.notes.length < 1000;omega) x.via x.w;exact⟨st1,(congrArg (fun o=>Option.bind o fun x18=>some x18) p1).trans rfl,p2,p3⟩
   ·simp only [cond_true];exact⟨_,rfl,hst (d:= ⟨c.name,c.root,c.from_,ZV (c.has + x.w),c.out,true⟩) hln,u.YR _ _⟩
  ·simp only [cond_true];exact⟨_,rfl,hst (d:= ⟨c.name,c.root,x.via,x.w,c.out,true⟩) hln,u.YR _ _⟩
end Go.Proofs.Ytekpjgmhkkjhgaa
end
