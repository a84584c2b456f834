/- Safe Part 12 of the proof. -/
import Derived.Test.YtekpjgmhkkjhgaaFa11
set_option linter.all false
section
noncomputable section
namespace Go.Proofs.Ytekpjgmhkkjhgaa
open Go.Yo Go.Lf
theorem ZzH {h:H} {r:Bool} (hL:ZzI=some r):Pure XX 14 #[] h (.bool r):=by
 cases hL;intro wm;have e:ev (cfg XW fun _=>false) 1 (.call 14 #[] wm h)=some (.fin (.ret (.bool true)) h):=rfl;exact Zeu (X:=XW) mixed 1 _ _ e
end Go.Proofs.Ytekpjgmhkkjhgaa
end
end
section
namespace Go.Proofs.Ytekpjgmhkkjhgaa
open Go.Lf
def ZfQ (F:Nat) (p0:Store) (p1:Int) (p2:Int):Option Store:=
 (ZfS p0 p1 p2).bind fun x1=>(bif(x1.use || (x1.out !=0)) then some p0 else(bif x1.root then(app 8 p0.freed [p2]).bind fun z8=>(ZlW F z8).bind fun x13=>some (Store.mk p0.machines p0.names (Zay p0.cells (Ze.mk p1 p2)) p0.notes x13) else(ZlX p2).bind fun x16=>(bif(!(K7 x1 x16)) then(K6 (Store.mk p0.machines p0.names (Zay p0.cells (Ze.mk p1 p2)) p0.notes p0.freed) (Zd.mk 2 x1.from_ p2 0 x1.has)).bind fun x17=>some x17 else some (Store.mk p0.machines p0.names (Zay p0.cells (Ze.mk p1 p2)) p0.notes p0.freed))))
end Go.Proofs.Ytekpjgmhkkjhgaa
end
section
set_option maxRecDepth 20000
noncomputable section
namespace Go.Proofs.Ytekpjgmhkkjhgaa
open Go.Yo Go.Lf
theorem Zkn {F wm:Nat} {h:H} {p0:Store} {p1 p2:Int} {ZF:Nat} {Zp:Option Addr} {Zo Xh:Nat} {Zz:Option Addr} {Zy XE Xf:Nat} {r:Store} (ZB:wm <=h.size) (hO:ZP (wm:=wm) [bx wm Xf [.int .i64 p0.machines,.int .i64 p0.names,.map (some ZF),.slice Zp Xh Zo,.slice Zz XE Zy],mp wm Zg Zk (some ZF) p0.cells,ow wm Zj Zp Xh Zo p0.notes,ow wm (ZR .i64) Zz XE Zy p0.freed] h) (hL:ZfQ F p0 p1 p2=some r):
 WR XX 106 #[.pointer (some ⟨Xf,0,none⟩),.int .i64 p1,.int .i64 p2] wm h (CP (fun(v:Value) (Gb:List (Ast wm))=>∃ (Jm:Nat) (Js:Option Addr) (Jk:Nat) (Jp:Nat) (Jr:Option Addr) (Jj:Nat) (Jo:Nat),v= .tuple [].toArray∧Gb= [bx wm Xf [.int .i64 r.machines,.int .i64 r.names,.map (some Jm),.slice Js Jk Jp,.slice Jr Jj Jo],mp wm Zg Zk (some Jm) r.cells,ow wm Zj Js Jk Jp r.notes,ow wm (ZR .i64) Jr Jj Jo r.freed]) [bx wm Xf [.int .i64 p0.machines,.int .i64 p0.names,.map (some ZF),.slice Zp Xh Zo,.slice Zz XE Zy],mp wm Zg Zk (some ZF) p0.cells,ow wm Zj Zp Xh Zo p0.notes,ow wm (ZR .i64) Zz XE Zy p0.freed] h):=by
 refine bg Try.ntmps106 ZB hO ?_;intro T hT hS;unfold ZfQ at hL;obtain rfl:=hS.on k2;obtain rfl:=hS.on k3;refine r4 ?_;refine r1 ?_;obtain⟨x1,hx1,hL⟩:=bind_some hL;refine WO.cp gN rfl (Xd.fn ZjV (Zc lk (Zc lk (Zc lk Zl)))) (WR.QU rfl (Zgr (Nat.le_refl _) (hS.Qo k0) (.inl (hS.lt k0)) (hS.mrd k1) (hS.ord k2) (hS.ord k3) hx1)) ?_;refine r1 ?_;rintro _ h3 ⟨b2,eb2,rfl,hS⟩;refine r1 ?_;rintro h4 hS;refine J8 ?_;refine r2 ?_;refine cn hL ?_ ?_
 ·intro hc hL;refine r2 ?_;have hr:=Option.some.inj hL;subst hr;exact ZT.gen (vs:= []) rfl Zm rfl ⟨_,⟨ZF,Zp,p0.notes.length,Zo,Zz,p0.freed.length,Zy,rfl,rfl⟩,hT ▸ hS.only (.c k1 (.c k1 (.c k1 (.c k1 .n))))⟩
 ·intro hc hL;refine r8 ?_;refine r2 ?_;refine WO.w gN rfl (Y0 XK (Zh lk (Zh lk ZA)) rfl (cs':= [.int .i64 p1,.int .i64 p2]) rfl) ?_;refine WO.hw gN (Zx4 (kv:=Zg) (vv:=Zk) (k:= (Ze.mk p1 p2)) hS k2 YI rfl JW (Zt (ZN rfl (Zf rfl fh)) rfl) (Zt fh rfl)) ?_;rintro h5 hS;refine r8 ?_;refine r2 ?_;refine cn hL ?_ ?_
  ·intro hc hL;refine r8 ?_;refine WO.hn gN rfl (Zf2 (e:= (ZR .i64)) hS X9 Y4 UY rfl rfl rfl (Zh lk ZA) rfl [((),p2)] rfl (xs:= [p2]) rfl (by intro q hq;simp only [List.mem_cons,List.not_mem_nil,or_false] at hq;subst hq;exact trivial) rfl) ?_;rintro _ h7 ⟨b6,eb6,rfl,hS⟩;obtain⟨z8,hz8,hL⟩:=bind_some hL;refine WO.hv gN rfl (ZdJ (e:= (ZR .i64)) hS k5 Zec lk lk (hS.Q7 k0) (hS.on k0) hz8) ?_;rintro _ h11 ⟨a9,c10,rfl,hS⟩;refine r3 ?_;rintro h12 hS;refine r6 ?_;refine r1 ?_;obtain⟨x13,Zr7,hL⟩:=bind_some hL;refine WO.cl gN rfl (Xd.fn ZyO (Zc lk Zl)) hS (.c k1 .n) (fun g' hz hf hO=>ZvY (by rw [hz];exact hS.hw) hO Zr7) ?_;rintro _ h14 _ ⟨rfl,rfl⟩ hS;refine r2 ?_;refine ZT.Yw ?_;have hr:=Option.some.inj hL;subst hr;exact ZT.gen (vs:= []) rfl Zm rfl ⟨_,⟨ZF,Zp,p0.notes.length,Zo,a9,z8.length,c10,rfl,rfl⟩,hT ▸ hS.only (.c k1 (.c k2 (.c k3 (.c k0 .n))))⟩
  ·intro hc hL;refine r1 ?_;refine WC.Yp mixed (by kernel_rfl) ?_;refine r2 ?_;obtain⟨x16,hx16,hL⟩:=bind_some hL;refine WX.cp gN rfl (Xd.fn Zsp (Zc lk Zl)) (WR.QU rfl (Zo9 (Nat.le_refl _) hx16)) ?_ rfl rfl;refine WX.w gN rfl (Yc (Zt (ZN rfl fh) rfl) (Zt fh rfl) (ZmE (xs:= [.int .i64 x1.name,.bool x1.root,.int .i64 x1.from_,.int .i64 x1.has,.int .i64 x1.out,.bool x1.use]) (ys:= [.int .i64 x16.name,.bool x16.root,.int .i64 x16.from_,.int .i64 x16.has,.int .i64 x16.out,.bool x16.use]) (ZDj x1 x16) rfl rfl)) ?_ rfl;refine r3 ?_;refine cn hL ?_ ?_
   ·intro hc hL;refine r6 ?_;refine r1 ?_;refine WO.w gN rfl (Xt Zpj (Zh lk (Zh lk (Zh lk (Zh lk ZA)))) rfl (cs':= [.int .i64 2,.int .i64 x1.from_,.int .i64 p2,.int .i64 0,.int .i64 x1.has]) rfl) ?_;obtain⟨x17,Zyr,hL⟩:=bind_some hL;refine WO.cl gN rfl (Xd.fn ZjU (Zc lk (Zc lk Zl))) hS (.c k2 (.c k0 (.c k1 (.c k1 .n)))) (fun g' hz hf hO=>Zgq (by rw [hz];exact hS.hw) hO Zyr) ?_;rintro _ h25 _ ⟨m18,a19,n20,c21,a22,n23,c24,rfl,rfl⟩ hS;obtain rfl:=hS.on k2;obtain rfl:=hS.on k3;refine r2 ?_;refine ZT.Yw ?_;have hr:=Option.some.inj hL;subst hr;exact ZT.gen (vs:= []) rfl Zm rfl ⟨_,⟨m18,a19,x17.notes.length,c21,a22,x17.freed.length,c24,rfl,rfl⟩,hT ▸ hS.only (.c k0 (.c k0 (.c k0 (.c k0 .n))))⟩
   ·intro hc hL;refine r2 ?_;refine ZT.Yw ?_;have hr:=Option.some.inj hL;subst hr;exact ZT.gen (vs:= []) rfl Zm rfl ⟨_,⟨ZF,Zp,p0.notes.length,Zo,Zz,p0.freed.length,Zy,rfl,rfl⟩,hT ▸ hS.only (.c k2 (.c k0 (.c k1 (.c k1 .n))))⟩
end Go.Proofs.Ytekpjgmhkkjhgaa
end
end
section
namespace Go.Proofs.Ytekpjgmhkkjhgaa
open Go.Lf
def Ze1 (F:Nat) (p1:Zd):Int×Int×(List (Ze×Za))×(List Zd)×(List Int) ->Option Store:=fun(v49,v50,v51,v53,v57)=>
 (ZfQ F (Store.mk v49 v50 v51 v53 v57) p1.Zv p1.name).bind fun x61=>some x61
def Zs5 (F:Nat) (p0:Store) (p1:Zd):Option Store:=
 (ZfS p0 p1.Zv p1.name).bind fun x5=>(bif(p1.kind==1) then(bif(((!x5.root) && (decide (x5.from_ < 0))) && (p1.via !=p1.Zv)) then some (Store.mk p0.machines p0.names (YV p0.cells (Ze.mk p1.Zv p1.name) (Za.mk x5.name x5.root p1.via p1.w x5.out true)) p0.notes p0.freed) else(bif((decide (x5.from_ >=0)) && (x5.from_==p1.via)) then some (Store.mk p0.machines p0.names (YV p0.cells (Ze.mk p1.Zv p1.name) (Za.mk x5.name x5.root x5.from_ (ZK (x5.has + p1.w)) x5.out true)) p0.notes p0.freed) else(ZfR (Store.mk p0.machines p0.names (YV p0.cells (Ze.mk p1.Zv p1.name) (Za.mk x5.name x5.root x5.from_ x5.has x5.out true)) p0.notes p0.freed) p1.Zv p1.name p1.via p1.w).bind fun x18=>some x18)) else(bif(p1.kind==2) then(ZfQ F (Store.mk p0.machines p0.names (YV p0.cells (Ze.mk p1.Zv p1.name) (Za.mk x5.name x5.root x5.from_ x5.has (ZK (x5.out - p1.w)) x5.use)) p0.notes p0.freed) p1.Zv p1.name).bind fun x30=>some x30 else(bif decide (x5.from_ >=0) then(ZfR (Store.mk p0.machines p0.names (YV p0.cells (Ze.mk p1.Zv p1.name) (Za.mk x5.name true (-1) 0 (ZK (x5.out + 16)) x5.use)) p0.notes p0.freed) p1.Zv p1.name x5.from_ x5.has).bind fun x71=>(Ze1 F p1) (x71.machines,x71.names,x71.cells,x71.notes,x71.freed) else(Ze1 F p1) (p0.machines,p0.names,YV p0.cells (Ze.mk p1.Zv p1.name) (Za.mk x5.name true (-1) 0 (ZK (x5.out + 16)) x5.use),p0.notes,p0.freed))))
def ZeU:Ze ->Int ->Option Bool:=fun ZEs ZAz=>
 (bif decide (ZAz > 1000000) then some true else some false)
def Zaj (F:Nat):Int×Int×(List (Ze×Za))×(List Zd)×(List Int) ->Option (PR Store):=fun(v14,v15,v16,v18,v22)=>
 (bif decide ((v18.length:Int) > 80) then some (.Q6 3) else(Zqh F (Store.mk v14 v15 v16 v18 v22)).bind fun x26=>(ZiM (ZeU) x26.1).bind fun q37=>(bif q37 then some (.Q6 3) else some (.ok (Store.mk v14 v15 v16 v18 v22))))
def ZsX (F:Nat) (p0:Store) (p1:Zn):Option (PR Store):=
 (Zl0 p0 p1).bind fun x3=>prC x3 (fun e5=>some (.Q6 e5)) (fun y4=>(bif(p1.ZW==1) then(Zaj F) (p0.machines,ZK (p0.names + 1),YV p0.cells (Ze.mk p1.at_ p0.names) (Za.mk p0.names true (-1) 0 0 true),p0.notes,p0.freed) else(bif(p1.ZW==2) then(ZlZ p0 p1).bind fun x103=>(Zaj F) (x103.machines,x103.names,x103.cells,x103.notes,x103.freed) else(bif(p1.ZW==3) then(Zag p0.cells (Ze.mk p1.at_ p1.name) (Za.mk 0 false 0 0 0 false)).bind fun x113=>(ZfQ F (Store.mk p0.machines p0.names (YV p0.cells (Ze.mk p1.at_ p1.name) (Za.mk x113.name x113.root x113.from_ x113.has x113.out false)) p0.notes p0.freed) p1.at_ p1.name).bind fun Zk6=>(Zaj F) (Zk6.machines,Zk6.names,Zk6.cells,Zk6.notes,Zk6.freed) else(bif(p1.ZW==4) then(Zag p0.cells (Ze.mk p1.at_ p1.name) (Za.mk 0 false 0 0 0 false)).bind fun Q0=>(K6 (Store.mk p0.machines p0.names (YV p0.cells (Ze.mk p1.at_ p1.name) (Za.mk Q0.name false p1.Zv 16 Q0.out Q0.use)) p0.notes p0.freed) (Zd.mk 3 p1.Zv p1.name 0 16)).bind fun Zk5=>(Zaj F) (Zk5.machines,Zk5.names,Zk5.cells,Zk5.notes,Zk5.freed) else(Yh p0.notes p1.at_).bind fun WZ=>(ZlY p0.notes p1.at_ (ZK (p1.at_ + 1))).bind fun Zul=>(Zs5 F (Store.mk p0.machines p0.names p0.cells Zul p0.freed) WZ).bind fun Zk4=>(Zaj F) (Zk4.machines,Zk4.names,Zk4.cells,Zk4.notes,Zk4.freed))))))
end Go.Proofs.Ytekpjgmhkkjhgaa
end
section
set_option maxRecDepth 20000
noncomputable section
namespace Go.Proofs.Ytekpjgmhkkjhgaa
open Go.Yo Go.Lf
theorem Zzv {F wm:Nat} {h:H} {p0:Store} {p1:Zd} {ZF:Nat} {Zp:Option Addr} {Zo Xh:Nat} {Zz:Option Addr} {Zy XE Xf:Nat} {r:Store} (ZB:wm <=h.size) (hO:ZP (wm:=wm) [bx wm Xf [.int .i64 p0.machines,.int .i64 p0.names,.map (some ZF),.slice Zp Xh Zo,.slice Zz XE Zy],mp wm Zg Zk (some ZF) p0.cells,ow wm Zj Zp Xh Zo p0.notes,ow wm (ZR .i64) Zz XE Zy p0.freed] h) (hL:Zs5 F p0 p1=some r):
 WR XX 66 #[.pointer (some ⟨Xf,0,none⟩),.agg [.int .i64 p1.kind,.int .i64 p1.Zv,.int .i64 p1.name,.int .i64 p1.via,.int .i64 p1.w].toArray] wm h (CP (fun(v:Value) (Gb:List (Ast wm))=>∃ (Jm:Nat) (Js:Option Addr) (Jk:Nat) (Jp:Nat) (Jr:Option Addr) (Jj:Nat) (Jo:Nat),v= .tuple [].toArray∧Gb= [bx wm Xf [.int .i64 r.machines,.int .i64 r.names,.map (some Jm),.slice Js Jk Jp,.slice Jr Jj Jo],mp wm Zg Zk (some Jm) r.cells,ow wm Zj Js Jk Jp r.notes,ow wm (ZR .i64) Jr Jj Jo r.freed]) [bx wm Xf [.int .i64 p0.machines,.int .i64 p0.names,.map (some ZF),.slice Zp Xh Zo,.slice Zz XE Zy],mp wm Zg Zk (some ZF) p0.cells,ow wm Zj Zp Xh Zo p0.notes,ow wm (ZR .i64) Zz XE Zy p0.freed] h):=by
 refine bg Try.ntmps66 ZB hO ?_;intro T hT hS;unfold Zs5 at hL;obtain rfl:=hS.on k2;obtain rfl:=hS.on k3;refine r3 ?_;rintro _ h2 ⟨b1,eb1,rfl,hS⟩;refine r1 ?_;rintro _ h4 ⟨b3,eb3,rfl,hS⟩;refine r8 ?_;refine r1 ?_;obtain⟨x5,hx5,hL⟩:=bind_some hL;refine WO.cp gN rfl (Xd.fn ZjV (Zc lk (Zc lk (Zc lk Zl)))) (WR.QU rfl (Zgr (Nat.le_refl _) (hS.Qo k2) (.inl (hS.lt k2)) (hS.mrd k3) (hS.ord k4) (hS.ord k5) hx5)) ?_;refine r1 ?_;rintro _ h7 ⟨b6,eb6,rfl,hS⟩;refine r1 ?_;rintro h8 hS;refine r4 ?_;refine WO.w gN rfl (Zdr (Zc lk (Zc lk (Zc lk Zl)))) ?_;refine r16 ?_;refine cn hL ?_ ?_
 ·intro hc hL;refine r4 ?_;rintro h9 hS;refine r16 ?_;refine r6 ?_;refine r1 ?_;refine cn hL ?_ ?_
  ·intro hc hL;refine r1 ?_;refine WC.Yp mixed (by kernel_rfl) ?_;refine r3 ?_;refine WX.wr (fun x=>x=b3) hS gN rfl (fun _ _ hR=>ZU Xj (Zt fh rfl) (At.eqv (hR b3 rfl) (hS.Qo k1)) (j:=4) rfl (v:= .int .i64 p1.w) rfl) ?_ rfl rfl;rintro h10 e11 hS;refine r1 ?_;refine WX.hu gN (UW hS k0 Y4 lk lk (vs:= [.int .i64 p1.via]) rfl rfl rfl rfl (cs':= [.int .i64 x5.name,.bool x5.root,.int .i64 p1.via,.int .i64 x5.has,.int .i64 x5.out,.bool true]) rfl) ?_ rfl rfl [3] (by kernel_rfl) (.c .z (hS.dj (.c k0 (.c k0 .n))) Z8.e);rintro h12 hS;refine WX.w gN rfl (Xl Zj2 lk) ?_ (by kernel_rfl);refine WX.hu gN (UW hS k0 Y4 lk lk (vs:= [.int .i64 p1.w]) rfl rfl rfl rfl (cs':= [.int .i64 x5.name,.bool x5.root,.int .i64 p1.via,.int .i64 p1.w,.int .i64 x5.out,.bool true]) rfl) ?_ rfl (by kernel_rfl) [] (by kernel_rfl) Z8.e;rintro h13 hS;refine r4 ?_;refine WO.inl gN rfl (Xd.clo (first:= []) (cap:= [.pointer (some ⟨b6,0,none⟩),.pointer (some ⟨b1,0,none⟩),.pointer (some ⟨b3,0,none⟩)]) lk Zhg Zl rfl) (WF.begin (args:= [_,_,_]) (fn:=Try.f104) (by kernel_rfl) (by exact rfl) Try.ntmps104 (by simp) ?_);simp only [ZC,ZJ,Nat.reduceAdd];refine WC.Yp mixed (by kernel_rfl) ?_;refine r8 ?_;refine WX.w gN rfl (Y0 XK (Zh lk (Zh lk ZA)) rfl (cs':= [.int .i64 p1.Zv,.int .i64 p1.name]) rfl) ?_ rfl;refine r1 ?_;refine WX.hu gN (ZbA (kv:=Zg) (vv:=Zk) (k:= (Ze.mk p1.Zv p1.name)) (v:= (Za.mk x5.name x5.root p1.via p1.w x5.out true)) hS k4 YI JW (Zt (Ye rfl (ZN rfl fh)) rfl) (Zt (Zf rfl fh) rfl) (Zt fh rfl)) ?_ rfl rfl [] (by kernel_rfl) Z8.e;rintro h14 hS;refine r1 ?_;refine ZT.Yw ?_;refine ZT.gen (vs:= []) rfl Zm rfl ?_;refine r3 ?_;refine ZT.Yw ?_;have hr:=Option.some.inj hL;subst hr;exact ZT.gen (vs:= []) rfl Zm rfl ⟨_,⟨ZF,Zp,p0.notes.length,Zo,Zz,p0.freed.length,Zy,rfl,rfl⟩,hT ▸ hS.only (.c k4 (.c k0 (.c k3 (.c k3 .n))))⟩
  ·intro hc hL;refine J8 ?_;refine r3 ?_;refine cn hL ?_ ?_
   ·intro hc hL;refine r8 ?_;refine r1 ?_;rintro h15 hS;refine r4 ?_;refine WO.inl gN rfl (Xd.clo (first:= []) (cap:= [.pointer (some ⟨b6,0,none⟩),.pointer (some ⟨b1,0,none⟩),.pointer (some ⟨b3,0,none⟩)]) lk Zhg Zl rfl) (WF.begin (args:= [_,_,_]) (fn:=Try.f104) (by kernel_rfl) (by exact rfl) Try.ntmps104 (by simp) ?_);simp only [ZC,ZJ,Nat.reduceAdd];refine WC.Yp mixed (by kernel_rfl) ?_;refine r8 ?_;refine WX.w gN rfl (Y0 XK (Zh lk (Zh lk ZA)) rfl (cs':= [.int .i64 p1.Zv,.int .i64 p1.name]) rfl) ?_ rfl;refine r1 ?_;refine WX.hu gN (ZbA (kv:=Zg) (vv:=Zk) (k:= (Ze.mk p1.Zv p1.name)) (v:= (Za.mk x5.name x5.root x5.from_ (ZK (x5.has + p1.w)) x5.out true)) hS k4 YI JW (Zt (Ye rfl (ZN rfl fh)) rfl) (Zt (Zf rfl fh) rfl) (Zt fh rfl)) ?_ rfl rfl [] (by kernel_rfl) Z8.e;rintro h16 hS;refine r1 ?_;refine ZT.Yw ?_;refine ZT.gen (vs:= []) rfl Zm rfl ?_;refine r3 ?_;refine ZT.Yw ?_;have hr:=Option.some.inj hL;subst hr;exact ZT.gen (vs:= []) rfl Zm rfl ⟨_,⟨ZF,Zp,p0.notes.length,Zo,Zz,p0.freed.length,Zy,rfl,rfl⟩,hT ▸ hS.only (.c k4 (.c k0 (.c k3 (.c k3 .n))))⟩
   ·intro hc hL;refine r3 ?_;refine WO.inl gN rfl (Xd.clo (first:= []) (cap:= [.pointer (some ⟨b6,0,none⟩),.pointer (some ⟨b1,0,none⟩),.pointer (some ⟨b3,0,none⟩)]) lk Zhg Zl rfl) (WF.begin (args:= [_,_,_]) (fn:=Try.f104) (by kernel_rfl) (by exact rfl) Try.ntmps104 (by simp) ?_);simp only [ZC,ZJ,Nat.reduceAdd];refine WC.Yp mixed (by kernel_rfl) ?_;refine r8 ?_;refine WX.w gN rfl (Y0 XK (Zh lk (Zh lk ZA)) rfl (cs':= [.int .i64 p1.Zv,.int .i64 p1.name]) rfl) ?_ rfl;refine r1 ?_;refine WX.hu gN (ZbA (kv:=Zg) (vv:=Zk) (k:= (Ze.mk p1.Zv p1.name)) (v:= (Za.mk x5.name x5.root x5.from_ x5.has x5.out true)) hS k4 YI JW (Zt (Ye rfl (ZN rfl fh)) rfl) (Zt (Zf rfl fh) rfl) (Zt fh rfl)) ?_ rfl rfl [] (by kernel_rfl) Z8.e;rintro h17 hS;refine r1 ?_;refine ZT.Yw ?_;refine ZT.gen (vs:= []) rfl Zm rfl ?_;refine J8 ?_;obtain⟨x18,ZpY,hL⟩:=bind_some hL;refine WO.cl gN rfl (Xd.fn Zsr (Zc lk (Zc lk (Zc lk (Zc lk (Zc lk Zl)))))) hS (.c k4 (.c k0 (.c k3 (.c k3 .n)))) (fun g' hz hf hO=>Zpc (by rw [hz];exact hS.hw) hO ZpY) ?_;rintro _ h26 _ ⟨m19,a20,n21,c22,a23,n24,c25,rfl,rfl⟩ hS;obtain rfl:=hS.on k2;obtain rfl:=hS.on k3;refine r3 ?_;refine ZT.Yw ?_;have hr:=Option.some.inj hL;subst hr;exact ZT.gen (vs:= []) rfl Zm rfl ⟨_,⟨m19,a20,x18.notes.length,c22,a23,x18.freed.length,c25,rfl,rfl⟩,hT ▸ hS.only (.c k0 (.c k0 (.c k0 (.c k0 .n))))⟩
 ·intro hc hL;refine r6 ?_;refine cn hL ?_ ?_
  ·intro hc hL;refine r8 ?_;refine r1 ?_;rintro h28 hS;refine r4 ?_;refine r1 ?_;refine WO.inl gN rfl (Xd.clo (first:= []) (cap:= [.pointer (some ⟨b6,0,none⟩),.pointer (some ⟨b1,0,none⟩),.pointer (some ⟨b3,0,none⟩)]) lk Zhg Zl rfl) (WF.begin (args:= [_,_,_]) (fn:=Try.f104) (by kernel_rfl) (by exact rfl) Try.ntmps104 (by simp) ?_);simp only [ZC,ZJ,Nat.reduceAdd];refine WC.Yp mixed (by kernel_rfl) ?_;refine r8 ?_;refine WX.w gN rfl (Y0 XK (Zh lk (Zh lk ZA)) rfl (cs':= [.int .i64 p1.Zv,.int .i64 p1.name]) rfl) ?_ rfl;refine r1 ?_;refine WX.hu gN (ZbA (kv:=Zg) (vv:=Zk) (k:= (Ze.mk p1.Zv p1.name)) (v:= (Za.mk x5.name x5.root x5.from_ x5.has (ZK (x5.out - p1.w)) x5.use)) hS k4 YI JW (Zt (Ye rfl (ZN rfl fh)) rfl) (Zt (Zf rfl fh) rfl) (Zt fh rfl)) ?_ rfl rfl [] (by kernel_rfl) Z8.e;rintro h29 hS;refine r1 ?_;refine ZT.Yw ?_;refine ZT.gen (vs:= []) rfl Zm rfl ?_;refine r8 ?_;obtain⟨x30,ZlC,hL⟩:=bind_some hL;refine WO.cl gN rfl (Xd.fn Znx (Zc lk (Zc lk (Zc lk Zl)))) hS (.c k4 (.c k0 (.c k3 (.c k3 .n)))) (fun g' hz hf hO=>Zkn (by rw [hz];exact hS.hw) hO ZlC) ?_;rintro _ h38 _ ⟨m31,a32,n33,c34,a35,n36,c37,rfl,rfl⟩ hS;obtain rfl:=hS.on k2;obtain rfl:=hS.on k3;refine r2 ?_;refine ZT.Yw ?_;have hr:=Option.some.inj hL;subst hr;exact ZT.gen (vs:= []) rfl Zm rfl ⟨_,⟨m31,a32,x30.notes.length,c34,a35,x30.freed.length,c37,rfl,rfl⟩,hT ▸ hS.only (.c k0 (.c k0 (.c k0 (.c k0 .n))))⟩
  ·intro hc hL;refine r1 ?_;refine WC.Yp mixed (by kernel_rfl) ?_;refine J8 ?_;rintro h40 hS;refine r2 ?_;rintro h41 hS;refine r2 ?_;rintro h42 hS;refine r8 ?_;refine r1 ?_;rintro h43 hS;refine r4 ?_;refine r1 ?_;refine WO.inl gN rfl (Xd.clo (first:= []) (cap:= [.pointer (some ⟨b6,0,none⟩),.pointer (some ⟨b1,0,none⟩),.pointer (some ⟨b3,0,none⟩)]) lk Zhg Zl rfl) (WF.begin (args:= [_,_,_]) (fn:=Try.f104) (by kernel_rfl) (by exact rfl) Try.ntmps104 (by simp) ?_);simp only [ZC,ZJ,Nat.reduceAdd];refine WC.Yp mixed (by kernel_rfl) ?_;refine r8 ?_;refine WX.w gN rfl (Y0 XK (Zh lk (Zh lk ZA)) rfl (cs':= [.int .i64 p1.Zv,.int .i64 p1.name]) rfl) ?_ rfl;refine r1 ?_;refine WX.hu gN (ZbA (kv:=Zg) (vv:=Zk) (k:= (Ze.mk p1.Zv p1.name)) (v:= (Za.mk x5.name true (-1) 0 (ZK (x5.out + 16)) x5.use)) hS k4 YI JW (Zt (Ye rfl (ZN rfl fh)) rfl) (Zt (Zf rfl fh) rfl) (Zt fh rfl)) ?_ rfl rfl [] (by kernel_rfl) Z8.e;rintro h44 hS;refine r1 ?_;refine ZT.Yw ?_;refine ZT.gen (vs:= []) rfl Zm rfl ?_;refine r2 ?_;refine WC.ZaT (r:=r) (fun(p:Int×Int×(List (Ze×Za))×(List Zd)×(List Int)) (s:Fs)=>match p with | (v49,v50,v51,v53,v57)=>∃ (Zbb:Fr) (h45:H) (m52:Nat) (a54:Option Addr) (c55:Nat) (n56:Nat) (a58:Option Addr) (c59:Nat) (n60:Nat),s= ⟨Zbb,[],h45,none⟩∧Sp wm T h [bx wm b1 [.pointer (some ⟨Xf,0,none⟩)],mp wm Zg Zk (some m52) v51,ow wm Zj a54 n56 c55 v53,ow wm (ZR .i64) a58 n60 c59 v57,bx wm Xf [.int .i64 v49,.int .i64 v50,.map (some m52),.slice a54 n56 c55,.slice a58 n60 c59],bx wm b3 [.int .i64 p1.kind,.int .i64 p1.Zv,.int .i64 p1.name,.int .i64 p1.via,.int .i64 p1.w]] h45∧Zbb.at 2= .pointer (some ⟨b1,0,none⟩)∧Zbb.at 3= .pointer (some ⟨b3,0,none⟩)) (Ze1 F p1) ?_ ?_
   ·clear hL hS;rintro⟨v49,v50,v51,v53,v57⟩ s hL ⟨Zbb,h45,m52,a54,c55,n56,a58,c59,n60,rfl,hS,e47,e48⟩;obtain rfl:=hS.on k2;obtain rfl:=hS.on k3;dsimp only [Ze1] at hL;refine r6 ?_;obtain⟨x61,ZE6,hL⟩:=bind_some hL;refine WO.cl gN rfl (Xd.fn Znx (Zc lk (Zc lk (Zc lk Zl)))) hS (.c k4 (.c k1 (.c k1 (.c k1 .n)))) (fun g' hz hf hO=>Zkn (by rw [hz];exact hS.hw) hO ZE6) ?_;rintro _ h69 _ ⟨m62,a63,n64,c65,a66,n67,c68,rfl,rfl⟩ hS;obtain rfl:=hS.on k2;obtain rfl:=hS.on k3;refine r2 ?_;refine ZT.Yw ?_;have hr:=Option.some.inj hL;subst hr;exact ZT.gen (vs:= []) rfl Zm rfl ⟨_,⟨m62,a63,x61.notes.length,c65,a66,x61.freed.length,c68,rfl,rfl⟩,hT ▸ hS.only (.c k0 (.c k0 (.c k0 (.c k0 .n))))⟩
   ·skip;refine r6 ?_;refine cn hL ?_ ?_
    ·intro hc hL;refine r8 ?_;obtain⟨x71,ZE4,hL⟩:=bind_some hL;refine WO.cl gN rfl (Xd.fn Zsr (Zc lk (Zc lk (Zc lk (Zc lk (Zc lk Zl)))))) hS (.c k4 (.c k0 (.c k3 (.c k3 .n)))) (fun g' hz hf hO=>Zpc (by rw [hz];exact hS.hw) hO ZE4) ?_;rintro _ h79 _ ⟨m72,a73,n74,c75,a76,n77,c78,rfl,rfl⟩ hS;obtain rfl:=hS.on k2;obtain rfl:=hS.on k3;refine r1 ?_;exact YS.Yw _ hL ⟨_,_,m72,a73,c75,x71.notes.length,a76,c78,x71.freed.length,rfl,hS.only (.c k6 (.c k1 (.c k1 (.c k1 (.c k0 (.c k1 .n)))))),Y3⟩
    ·intro hc hL;refine r1 ?_;exact YS.Yw _ hL ⟨_,_,ZF,Zp,Zo,p0.notes.length,Zz,Zy,p0.freed.length,rfl,hS.only (.c k3 (.c k0 (.c k3 (.c k3 (.c k2 (.c k1 .n)))))),Y3⟩
theorem ZsW {F wm:Nat} {h:H} {p0:Store} {p1:Zn} {ZF:Nat} {Zp:Option Addr} {Zo Xh:Nat} {Zz:Option Addr} {Zy XE Xf:Nat} {r:(PR Store)} (ZB:wm <=h.size) (hO:ZP (wm:=wm) [bx wm Xf [.int .i64 p0.machines,.int .i64 p0.names,.map (some ZF),.slice Zp Xh Zo,.slice Zz XE Zy],mp wm Zg Zk (some ZF) p0.cells,ow wm Zj Zp Xh Zo p0.notes,ow wm (ZR .i64) Zz XE Zy p0.freed] h) (hL:ZsX F p0 p1=some r):
 WF XX 95 #[.pointer (some ⟨Xf,0,none⟩),.agg [.int .i64 p1.ZW,.int .i64 p1.at_,.int .i64 p1.name,.int .i64 p1.Zv].toArray] wm h (PQ 32 (fun(r:Store) (v:Value) (Gb:List (Ast wm))=>∃ (Jm:Nat) (Js:Option Addr) (Jk:Nat) (Jp:Nat) (Jr:Option Addr) (Jj:Nat) (Jo:Nat),v= .tuple [].toArray∧Gb= [bx wm Xf [.int .i64 r.machines,.int .i64 r.names,.map (some Jm),.slice Js Jk Jp,.slice Jr Jj Jo],mp wm Zg Zk (some Jm) r.cells,ow wm Zj Js Jk Jp r.notes,ow wm (ZR .i64) Jr Jj Jo r.freed]) [bx wm Xf [.int .i64 p0.machines,.int .i64 p0.names,.map (some ZF),.slice Zp Xh Zo,.slice Zz XE Zy],mp wm Zg Zk (some ZF) p0.cells,ow wm Zj Zp Xh Zo p0.notes,ow wm (ZR .i64) Zz XE Zy p0.freed] h r):=by
 refine WF.Zfo (args:= [_,_]) (fn:=Try.f95) (by kernel_rfl) (by exact rfl) Try.ntmps95 (by simp) ?_;simp only [ZC,ZJ,Nat.reduceAdd];obtain⟨T,hT,hS⟩:∃ T,T=Xw (wm:=wm) [bx wm Xf [.int .i64 p0.machines,.int .i64 p0.names,.map (some ZF),.slice Zp Xh Zo,.slice Zz XE Zy],mp wm Zg Zk (some ZF) p0.cells,ow wm Zj Zp Xh Zo p0.notes,ow wm (ZR .i64) Zz XE Zy p0.freed]∧Sp wm T h [bx wm Xf [.int .i64 p0.machines,.int .i64 p0.names,.map (some ZF),.slice Zp Xh Zo,.slice Zz XE Zy],mp wm Zg Zk (some ZF) p0.cells,ow wm Zj Zp Xh Zo p0.notes,ow wm (ZR .i64) Zz XE Zy p0.freed] h:= ⟨_,rfl,Sp.start ZB hO⟩
 unfold ZsX at hL;obtain rfl:=hS.on k2;obtain rfl:=hS.on k3;refine r3 ?_;rintro _ h2 ⟨b1,eb1,rfl,hS⟩;refine r6 ?_;obtain⟨x3,hx3,hL⟩:=bind_some hL;rcases x3 with y4 | e5
 ·skip;replace hL:=Zrx hL;refine WO.clR gN rfl (Xd.fn Zsq (Zc lk (Zc lk Zl))) hS.hw (PQ.ok (Zpa (Nat.le_refl _) (hS.Qo k1) (.inl (hS.lt k1)) (hS.mrd k2) (hS.ord k3) (hS.ord k4) hx3)) ?_;rintro _ h6 _ ⟨rfl,rfl⟩ hR7;have hS:=hS.clR hR7 .n;refine r8 ?_;refine WO.w gN rfl (Y0 XK (Zh lk (Zh lk ZA)) rfl (cs':= [.int .i64 p1.at_,.int .i64 p1.name]) rfl) ?_;refine r1 ?_;rintro _ h9 ⟨b8,eb8,rfl,hS⟩;refine r1 ?_;rintro h10 hS;refine r2 ?_;refine WC.ZaT (r:=r) (fun(p:Int×Int×(List (Ze×Za))×(List Zd)×(List Int)) (s:Fs)=>match p with | (v14,v15,v16,v18,v22)=>∃ (Zzj:Fr) (h11:H) (m17:Nat) (a19:Option Addr) (c20:Nat) (n21:Nat) (a23:Option Addr) (c24:Nat) (n25:Nat),s= ⟨Zzj,[],h11,none⟩∧Sp wm T h [mp wm Zg Zk (some m17) v16,ow wm Zj a19 n21 c20 v18,ow wm (ZR .i64) a23 n25 c24 v22,bx wm Xf [.int .i64 v14,.int .i64 v15,.map (some m17),.slice a19 n21 c20,.slice a23 n25 c24]] h11∧Zzj.at 0= .pointer (some ⟨Xf,0,none⟩)) (Zaj F) ?_ ?_
  ·clear hL hS;rintro⟨v14,v15,v16,v18,v22⟩ s hL ⟨Zzj,h11,m17,a19,c20,n21,a23,c24,n25,rfl,hS,e13⟩;obtain rfl:=hS.on k1;obtain rfl:=hS.on k2;dsimp only [Zaj] at hL;refine r8 ?_;refine r3 ?_;refine cn hL ?_ ?_
   ·intro hc hL;refine r1 ?_;refine WO.w gN rfl (Zfp lk (by kernel_rfl)) ?_;refine WO.pnc gN lk ?_;refine Qp.panic ?_;refine XP.ofX ?_;refine ZaO.Q6 ?_;have hr:=Option.some.inj hL;subst hr;exact⟨rfl,hT ▸ hS.only .n⟩
   ·intro hc hL;refine r4 ?_;refine r1 ?_;obtain⟨x26,Zyq,hL⟩:=bind_some hL;refine WO.clR gN rfl (Xd.fn Zxg (Zc lk Zl)) hS.hw (Zs4 (Nat.le_refl _) (hS.Qo k3) (.inl (hS.lt k3)) (hS.mrd k0) (hS.ord k1) (hS.ord k2) Zyq) ?_;rintro _ h29 _ ⟨m27,m28,rfl,rfl⟩ ZFP;have hS:=hS.clR ZFP (.c (cvM hS.hw) (.c (cvM hS.hw) .n));refine r8 ?_;refine r2 ?_;refine WO.rng gN rfl hS UE lk (hS.get k0).at_ ?_;rintro h36 b31 ZK7 ZIh hS ZFr ZFI;refine r3 ?_;obtain⟨q37,ZFk,hL⟩:=bind_some hL;refine WC.loop (WL.ZEL [11,137,138,139,140,141,142,143] (pv 32 3) ZFk hS k0 fh ZFr ZFI rfl rfl rfl rfl rfl rfl rfl rfl ?_ ?_ ?_)
    ·clear hL hS;rintro⟨ZEs,ZAz⟩ p40 hL h41 ZnA ZcH hS ZF0;dsimp only [ZeU] at hL;have e45:=ZcH.at (t:=0) rfl (ZM rfl (Ye rfl (ZN rfl (Zf rfl e13))));have e46:=ZcH.at (t:=123) rfl (ZM rfl (Ye rfl (ZN rfl fh)));have e47:=ZcH.at (t:=124) rfl (ZM rfl (Ye rfl (Zf rfl fh)));have e48:=ZcH.at (t:=125) rfl (ZM rfl (Ye rfl fh));have e49:=ZcH.at (t:=126) rfl (ZM rfl (ZN rfl (Zf rfl fh)));have e50:=ZcH.at (t:=127) rfl (ZM rfl (ZN rfl fh));have e51:=ZcH.at (t:=128) rfl (ZM rfl (Zf rfl fh));have e52:=ZcH.at (t:=131) rfl (ZM rfl fh);have e53:=ZcH.at (t:=132) rfl (Ye rfl (ZN rfl (Zf rfl fh)));have e54:=ZcH.at (t:=130) rfl (Ye rfl (ZN rfl fh));have e55:=ZcH.at (t:=133) rfl (Ye rfl (Zf rfl fh));have e56:=ZcH.at (t:=134) rfl (Ye rfl fh);have e57:=ZcH.at (t:=8) rfl (ZN rfl (Zf rfl fh));have e58:=ZcH.at (t:=9) rfl (ZN rfl fh);have e59:=ZcH.at (t:=135) rfl (Zf rfl fh);have e60:=ZcH.at (t:=136) rfl fh;refine r4 ?_;refine WC.ZkD lk rfl ?_;refine r4 ?_;refine r1 ?_;refine WO.w gN rfl (ZtE lk ZF0) ?_;refine r8 ?_;refine r2 ?_;refine cn hL ?_ ?_
     ·intro hc hL;refine r1 ?_;refine WO.w gN rfl (Zfp lk (by kernel_rfl)) ?_;refine WO.pnc gN lk ?_;refine UX.panic ?_;have hp:=Option.some.inj hL;subst hp;exact Zon.panic (.s rfl (.s rfl (.s rfl (.s rfl (.s rfl (.s rfl (.s rfl (.s rfl .z))))))))
     ·intro hc hL;refine r2 ?_;have hp:=Option.some.inj hL;subst hp;exact Zon.Yw (.s rfl (.s rfl (.s rfl (.s rfl (.s rfl (.s rfl (.s rfl .z)))))))
    ·intro ZFj h62 ZJ5 ZcG hS;replace hL:=Ws ZFj hL;have e65:=ZcG.at (t:=0) rfl (ZM rfl (Ye rfl (ZN rfl (Zf rfl e13))));have e66:=ZcG.at (t:=123) rfl (ZM rfl (Ye rfl (ZN rfl fh)));have e67:=ZcG.at (t:=124) rfl (ZM rfl (Ye rfl (Zf rfl fh)));have e68:=ZcG.at (t:=125) rfl (ZM rfl (Ye rfl fh));have e69:=ZcG.at (t:=126) rfl (ZM rfl (ZN rfl (Zf rfl fh)));have e70:=ZcG.at (t:=127) rfl (ZM rfl (ZN rfl fh));have e71:=ZcG.at (t:=128) rfl (ZM rfl (Zf rfl fh));have e72:=ZcG.at (t:=131) rfl (ZM rfl fh);have e73:=ZcG.at (t:=132) rfl (Ye rfl (ZN rfl (Zf rfl fh)));have e74:=ZcG.at (t:=130) rfl (Ye rfl (ZN rfl fh));have e75:=ZcG.at (t:=133) rfl (Ye rfl (Zf rfl fh));have e76:=ZcG.at (t:=134) rfl (Ye rfl fh);have e77:=ZcG.at (t:=8) rfl (ZN rfl (Zf rfl fh));have e78:=ZcG.at (t:=9) rfl (ZN rfl fh);have e79:=ZcG.at (t:=135) rfl (Zf rfl fh);have e80:=ZcG.at (t:=136) rfl fh;refine r4 ?_;refine WC.Zdo lk rfl ?_;refine r2 ?_;refine Zwz.exit ?_;refine r1 ?_;refine XP.Yw ?_;have hr:=Option.some.inj hL;subst hr;exact XP.ZsQ rfl Zm rfl ⟨_,⟨m17,a19,v18.length,c20,a23,v22.length,c24,rfl,rfl⟩,hT ▸ hS.only (.c k5 (.c k2 (.c k2 (.c k2 .n))))⟩
    ·intro ZFi h82 ZJ4 ZcF hS;replace hL:=Wq ZFi hL;have e85:=ZcF.at (t:=0) rfl (ZM rfl (Ye rfl (ZN rfl (Zf rfl e13))));have e86:=ZcF.at (t:=123) rfl (ZM rfl (Ye rfl (ZN rfl fh)));have e87:=ZcF.at (t:=124) rfl (ZM rfl (Ye rfl (Zf rfl fh)));have e88:=ZcF.at (t:=125) rfl (ZM rfl (Ye rfl fh));have e89:=ZcF.at (t:=126) rfl (ZM rfl (ZN rfl (Zf rfl fh)));have e90:=ZcF.at (t:=127) rfl (ZM rfl (ZN rfl fh));have e91:=ZcF.at (t:=128) rfl (ZM rfl (Zf rfl fh));have e92:=ZcF.at (t:=131) rfl (ZM rfl fh);have e93:=ZcF.at (t:=132) rfl (Ye rfl (ZN rfl (Zf rfl fh)));have e94:=ZcF.at (t:=130) rfl (Ye rfl (ZN rfl fh));have e95:=ZcF.at (t:=133) rfl (Ye rfl (Zf rfl fh));have e96:=ZcF.at (t:=134) rfl (Ye rfl fh);have e97:=ZcF.at (t:=8) rfl (ZN rfl (Zf rfl fh));have e98:=ZcF.at (t:=9) rfl (ZN rfl fh);have e99:=ZcF.at (t:=135) rfl (Zf rfl fh);have e100:=ZcF.at (t:=136) rfl fh;refine UX.panic ?_;refine XP.ofX ?_;refine ZaO.Q6 ?_;have hr:=Option.some.inj hL;subst hr;exact⟨rfl,hT ▸ hS.only .n⟩
  ·skip;refine J8 ?_;refine r1 ?_;refine cn hL ?_ ?_
   ·intro hc hL;refine r1 ?_;refine WC.Yp mixed (by kernel_rfl) ?_;refine r8 ?_;refine r2 ?_;refine WX.w gN rfl (Y0 XK (Zh lk (Zh lk ZA)) rfl (cs':= [.int .i64 p1.at_,.int .i64 p0.names]) rfl) ?_ rfl;refine r4 ?_;refine WX.w gN rfl (Xt Zxz (Zh lk (Zh lk (Zh lk (Zh lk ZA)))) rfl (cs':= [.int .i64 p0.names,.bool true,.int .i64 (-1),.int .i64 0,.int .i64 0,.bool true]) rfl) ?_ rfl;refine WX.hu gN (ZbA (kv:=Zg) (vv:=Zk) (k:= (Ze.mk p1.at_ p0.names)) (v:= (Za.mk p0.names true (-1) 0 0 true)) hS k3 YI JW (Zt (ZM rfl (Ye rfl fh)) rfl) (Zt (Ye rfl (Zf rfl fh)) rfl) (Zt fh rfl)) ?_ rfl rfl [] (by kernel_rfl) Z8.e;rintro ZC7 hS;refine r8 ?_;refine r3 ?_;rintro Zzg hS;refine r2 ?_;exact YS.Yw _ hL ⟨_,_,ZF,Zp,Zo,p0.notes.length,Zz,Zy,p0.freed.length,rfl,hS.only (.c k1 (.c k3 (.c k3 (.c k0 .n)))),Y3⟩
   ·intro hc hL;refine r6 ?_;refine cn hL ?_ ?_
    ·intro hc hL;refine r3 ?_;obtain⟨x103,ZiU,hL⟩:=bind_some hL;refine WO.cl gN rfl (Xd.fn ZyQ (Zc lk (Zc lk Zl))) hS (.c k2 (.c k2 (.c k2 (.c k2 .n)))) (fun g' hz hf hO=>Zv0 (by rw [hz];exact hS.hw) hO ZiU) ?_;rintro _ ZJW _ ⟨ZEQ,a105,n106,c107,ZGX,n109,ZGN,rfl,rfl⟩ hS;obtain rfl:=hS.on k2;obtain rfl:=hS.on k3;refine r2 ?_;exact YS.Yw _ hL ⟨_,_,ZEQ,a105,c107,x103.notes.length,ZGX,ZGN,x103.freed.length,rfl,hS.only (.c k1 (.c k1 (.c k1 (.c k0 .n)))),Y3⟩
    ·intro hc hL;refine r6 ?_;refine cn hL ?_ ?_
     ·intro hc hL;refine r1 ?_;refine WC.Yp mixed (by kernel_rfl) ?_;refine r4 ?_;refine r1 ?_;obtain⟨x113,hx113,hL⟩:=bind_some hL;refine WX.w gN rfl (ZcB (kv:=Zg) (vv:=Zk) (k:= (Ze.mk p1.at_ p1.name)) (z:= (Za.mk 0 false 0 0 0 false)) YI JW Ub (Zt (Zf rfl fh) rfl) (Zt fh rfl) (hS.get k3).at_ hx113 (w:= .agg [.int .i64 x113.name,.bool x113.root,.int .i64 x113.from_,.int .i64 x113.has,.int .i64 x113.out,.bool x113.use].toArray) rfl) ?_ rfl;refine WX.hn gN rfl (ZiI hS Ub (vs:= [.int .i64 0,.bool false,.int .i64 0,.int .i64 0,.int .i64 0,.bool false]) rfl) ?_ rfl;rintro _ ZJU ⟨ZLz,ZH5,rfl,hS⟩;refine WX.hu gN (UW hS k0 Uc lk lk (vs:= [.int .i64 x113.name,.bool x113.root,.int .i64 x113.from_,.int .i64 x113.has,.int .i64 x113.out,.bool x113.use]) rfl rfl rfl rfl (cs':= [.int .i64 x113.name,.bool x113.root,.int .i64 x113.from_,.int .i64 x113.has,.int .i64 x113.out,.bool x113.use]) rfl) ?_ rfl rfl [] (by kernel_rfl) Z8.e;rintro h116 hS;refine r6 ?_;rintro ZJT hS;refine r3 ?_;refine WC.Yp mixed (by kernel_rfl) ?_;refine r6 ?_;refine WX.hu gN (ZbA (kv:=Zg) (vv:=Zk) (k:= (Ze.mk p1.at_ p1.name)) (v:= (Za.mk x113.name x113.root x113.from_ x113.has x113.out false)) hS k4 YI JW (Zt (ZN rfl fh) rfl) (Zt (Zf rfl fh) rfl) (Zt fh rfl)) ?_ rfl rfl [] (by kernel_rfl) Z8.e;rintro ZGh hS;refine r8 ?_;obtain⟨Zk6,ZBv,hL⟩:=bind_some hL;refine WO.cl gN rfl (Xd.fn Znx (Zc lk (Zc lk (Zc lk Zl)))) hS (.c k4 (.c k0 (.c k3 (.c k3 .n)))) (fun g' hz hf hO=>Zkn (by rw [hz];exact hS.hw) hO ZBv) ?_;rintro _ h127 _ ⟨ZEP,ZGW,n122,ZGM,a124,n125,ZGL,rfl,rfl⟩ hS;obtain rfl:=hS.on k2;obtain rfl:=hS.on k3;refine r2 ?_;exact YS.Yw _ hL ⟨_,_,ZEP,ZGW,ZGM,Zk6.notes.length,a124,ZGL,Zk6.freed.length,rfl,hS.only (.c k1 (.c k1 (.c k1 (.c k0 .n)))),Y3⟩
     ·intro hc hL;refine r6 ?_;refine cn hL ?_ ?_
      ·intro hc hL;refine r1 ?_;refine WC.Yp mixed (by kernel_rfl) ?_;refine r4 ?_;refine r1 ?_;obtain⟨Q0,ZBt,hL⟩:=bind_some hL;refine WX.w gN rfl (ZcB (kv:=Zg) (vv:=Zk) (k:= (Ze.mk p1.at_ p1.name)) (z:= (Za.mk 0 false 0 0 0 false)) YI JW Ub (Zt (Zf rfl fh) rfl) (Zt fh rfl) (hS.get k3).at_ ZBt (w:= .agg [.int .i64 Q0.name,.bool Q0.root,.int .i64 Q0.from_,.int .i64 Q0.has,.int .i64 Q0.out,.bool Q0.use].toArray) rfl) ?_ rfl;refine WX.hn gN rfl (ZiI hS Ub (vs:= [.int .i64 0,.bool false,.int .i64 0,.int .i64 0,.int .i64 0,.bool false]) rfl) ?_ rfl;rintro _ ZGf ⟨ZLx,ZH3,rfl,hS⟩;refine WX.hu gN (UW hS k0 Uc lk lk (vs:= [.int .i64 Q0.name,.bool Q0.root,.int .i64 Q0.from_,.int .i64 Q0.has,.int .i64 Q0.out,.bool Q0.use]) rfl rfl rfl rfl (cs':= [.int .i64 Q0.name,.bool Q0.root,.int .i64 Q0.from_,.int .i64 Q0.has,.int .i64 Q0.out,.bool Q0.use]) rfl) ?_ rfl rfl [] (by kernel_rfl) Z8.e;rintro ZJO hS;refine r3 ?_;refine WC.Yp mixed (by kernel_rfl) ?_;refine r1 ?_;refine WX.wr (fun x=>x=b1) hS gN rfl (fun _ _ hR=>ZU Xj (Zt fh rfl) (At.eqv (hR b1 rfl) (hS.Qo k2)) (j:=3) rfl (v:= .int .i64 p1.Zv) rfl) ?_ rfl rfl;rintro ZGe ZKN hS;refine r1 ?_;refine WX.hu gN (UW hS k0 ZwJ lk lk (vs:= [.bool false]) rfl rfl rfl rfl (cs':= [.int .i64 Q0.name,.bool false,.int .i64 Q0.from_,.int .i64 Q0.has,.int .i64 Q0.out,.bool Q0.use]) rfl) ?_ rfl rfl [1] (by kernel_rfl) (.c .z (hS.dj (.c k0 (.c k1 .n))) Z8.e);rintro ZGd hS;refine WX.w gN rfl (Xl ZoY lk) ?_ (by kernel_rfl);refine WX.hu gN (UW hS k0 Y4 lk lk (vs:= [.int .i64 p1.Zv]) rfl rfl rfl rfl (cs':= [.int .i64 Q0.name,.bool false,.int .i64 p1.Zv,.int .i64 Q0.has,.int .i64 Q0.out,.bool Q0.use]) rfl) ?_ rfl (by kernel_rfl) [] (by kernel_rfl) Z8.e;rintro ZJN hS;refine WX.w gN rfl (Xl Zj2 lk) ?_ (by kernel_rfl);refine WX.hu gN (UW hS k0 Y4 lk lk (vs:= [.int .i64 16]) rfl rfl rfl rfl (cs':= [.int .i64 Q0.name,.bool false,.int .i64 p1.Zv,.int .i64 16,.int .i64 Q0.out,.bool Q0.use]) rfl) ?_ rfl (by kernel_rfl) [] (by kernel_rfl) Z8.e;rintro ZGc hS;refine r3 ?_;refine WC.Yp mixed (by kernel_rfl) ?_;refine r6 ?_;refine WX.hu gN (ZbA (kv:=Zg) (vv:=Zk) (k:= (Ze.mk p1.at_ p1.name)) (v:= (Za.mk Q0.name false p1.Zv 16 Q0.out Q0.use)) hS k4 YI JW (Zt (ZN rfl fh) rfl) (Zt (Zf rfl fh) rfl) (Zt fh rfl)) ?_ rfl rfl [] (by kernel_rfl) Z8.e;rintro ZGb hS;refine r8 ?_;refine WO.w gN rfl (Xt Zpj (Zh lk (Zh lk (Zh lk (Zh lk ZA)))) rfl (cs':= [.int .i64 3,.int .i64 p1.Zv,.int .i64 p1.name,.int .i64 0,.int .i64 16]) rfl) ?_;obtain⟨Zk5,ZBr,hL⟩:=bind_some hL;refine WO.cl gN rfl (Xd.fn ZjU (Zc lk (Zc lk Zl))) hS (.c k4 (.c k0 (.c k3 (.c k3 .n)))) (fun g' hz hf hO=>Zgq (by rw [hz];exact hS.hw) hO ZBr) ?_;rintro _ ZGa _ ⟨ZEO,a141,n142,c143,ZGV,n145,c146,rfl,rfl⟩ hS;obtain rfl:=hS.on k2;obtain rfl:=hS.on k3;refine r2 ?_;exact YS.Yw _ hL ⟨_,_,ZEO,a141,c143,Zk5.notes.length,ZGV,c146,Zk5.freed.length,rfl,hS.only (.c k1 (.c k1 (.c k1 (.c k0 .n)))),Y3⟩
      ·intro hc hL;refine r1 ?_;refine WC.Yp mixed (by kernel_rfl) ?_;refine r6 ?_;obtain⟨WZ,ZiT,hL⟩:=bind_some hL;obtain⟨ZLs,ZIL,_,ZyY,Zy8,ZFV⟩:=Src.at_ (hS.Q7 k4) ZiT;refine WX.w gN rfl (Z5 UD XB lk lk rfl ZyY ZiT) ?_ rfl;refine WX.w gN rfl (Xr Zeh XB (Zt fh rfl) Zy8 (j:=0) rfl rfl (ws:= [.int .i64 WZ.kind,.int .i64 WZ.Zv,.int .i64 WZ.name,.int .i64 WZ.via,.int .i64 WZ.w]) rfl) ?_ rfl;refine WX.hn gN rfl (ZiI hS Zep (vs:= [.int .i64 0,.int .i64 0,.int .i64 0,.int .i64 0,.int .i64 0]) rfl) ?_ rfl;rintro _ ZC6 ⟨ZLr,ZH0,rfl,hS⟩;refine WX.hu gN (UW hS k0 XB lk lk (vs:= [.int .i64 WZ.kind,.int .i64 WZ.Zv,.int .i64 WZ.name,.int .i64 WZ.via,.int .i64 WZ.w]) rfl rfl rfl rfl (cs':= [.int .i64 WZ.kind,.int .i64 WZ.Zv,.int .i64 WZ.name,.int .i64 WZ.via,.int .i64 WZ.w]) rfl) ?_ rfl rfl [] (by kernel_rfl) Z8.e;rintro ZF9 hS;refine r3 ?_;refine WC.Yp mixed (by kernel_rfl) ?_;refine r8 ?_;refine r2 ?_;obtain⟨Zul,ZBn,hL⟩:=bind_some hL;refine WX.cl gN rfl (Xd.fn ZyP (Zc lk (Zc lk (Zc lk Zl)))) hS (.c k5 .n) (fun g' hz hf hO=>ZvZ (by rw [hz];exact hS.hw) hO ZBn) ?_ rfl rfl [] (by kernel_rfl) Z8.e;rintro _ ZJC _ ⟨a156,n157,ZDp,rfl,rfl⟩ hS;obtain rfl:=hS.on k0;refine WX.w gN rfl (Zn6 lk) ?_ (by kernel_rfl);refine WX.w gN rfl (Xl Zj1 lk) ?_ (by kernel_rfl);refine WX.hu gN (UW hS k4 ZmY lk lk (vs:= [.slice a156 Zul.length ZDp]) rfl rfl rfl rfl (cs':= [.int .i64 p0.machines,.int .i64 p0.names,.map (some ZF),.slice a156 Zul.length ZDp,.slice Zz p0.freed.length Zy]) rfl) ?_ rfl (by kernel_rfl) [] (by kernel_rfl) Z8.e;rintro ZJB hS;refine r4 ?_;refine r1 ?_;obtain⟨Zk4,ZBm,hL⟩:=bind_some hL;refine WO.cl gN rfl (Xd.fn ZBY (Zc lk (Zc lk Zl))) hS (.c k0 (.c k4 (.c k0 (.c k3 .n)))) (fun g' hz hf hO=>Zzv (by rw [hz];exact hS.hw) hO ZBm) ?_;rintro _ ZJx _ ⟨ZEN,a164,n165,ZGK,a167,n168,ZGJ,rfl,rfl⟩ hS;obtain rfl:=hS.on k2;obtain rfl:=hS.on k3;refine r2 ?_;exact YS.Yw _ hL ⟨_,_,ZEN,a164,ZGK,Zk4.notes.length,a167,ZGJ,Zk4.freed.length,rfl,hS.only (.c k1 (.c k1 (.c k1 (.c k0 .n)))),Y3⟩
 ·skip;replace hL:=Zow hL;refine WO.ZGF gN (Xd.fn Zsq (Zc lk (Zc lk Zl))) hS.hw hS (Zpa (Nat.le_refl _) (hS.Qo k1) (.inl (hS.lt k1)) (hS.mrd k2) (hS.ord k3) (hS.ord k4) hx3) ?_;rintro ZJw hS;refine Qp.panic ?_;refine XP.ofX ?_;refine ZaO.Q6 ?_;have hr:=Option.some.inj hL;subst hr;exact⟨rfl,hT ▸ hS.only .n⟩
end Go.Proofs.Ytekpjgmhkkjhgaa
end
end
section
namespace Go.Proofs.Ytekpjgmhkkjhgaa
open Go.Lf
def Zqi (F:Nat) (p0:Store) (p1:Zn):Option ((Option Store)×Int):=
 (ZsY F p0).bind fun x7=>(ZsX F x7 p1).bind fun x19=>prC x19 (fun e21=>some (none,e21)) (fun y20=>some ((some y20),0))
end Go.Proofs.Ytekpjgmhkkjhgaa
end
section
set_option maxRecDepth 20000
noncomputable section
namespace Go.Proofs.Ytekpjgmhkkjhgaa
open Go.Yo Go.Lf
theorem Zs6 {F wm:Nat} {h:H} {p0:Store} {p1:Zn} {ZF:Option Nat} {Zp:Option Addr} {Zo:Nat} {Zz:Option Addr} {Zy Xf UA:Nat} {r:((Option Store)×Int)} (ZB:wm <=h.size) (YR:At h Xf UA [.int .i64 p0.machines,.int .i64 p0.names,.map ZF,.slice Zp p0.notes.length Zo,.slice Zz p0.freed.length Zy]) (YQ:Stb wm h Xf) (ZI:Ui Zg Zk wm h ZF p0.cells) (Yr:Sl Zj wm h Zp Zo p0.notes) (Yu:Sl (ZR .i64) wm h Zz Zy p0.freed) (hL:Zqi F p0 p1=some r):
 WR XX 57 #[.pointer (some ⟨Xf,UA,none⟩),.agg [.int .i64 p1.ZW,.int .i64 p1.at_,.int .i64 p1.name,.int .i64 p1.Zv].toArray] wm h (CP (fun(v:Value) (Gb:List (Ast wm))=>match r.1 with | some y=>∃ (rb0:Nat) (ZbB:Nat) (Jt:Option Addr) (Jl:Nat) (Jq:Nat) (Un:Option Addr) (Ul:Nat) (Um:Nat),v= .tuple [.pointer (some ⟨rb0,0,none⟩),.int .i64 r.2].toArray∧Gb= [bx wm rb0 [.int .i64 y.machines,.int .i64 y.names,.map (some ZbB),.slice Jt Jl Jq,.slice Un Ul Um],mp wm Zg Zk (some ZbB) y.cells,ow wm Zj Jt Jl Jq y.notes,ow wm (ZR .i64) Un Ul Um y.freed] | none=>v= .tuple [.pointer none,.int .i64 r.2].toArray∧Gb= []) [] h):=by
 refine WF.Zfo (args:= [_,_]) (fn:=Try.f57) (by kernel_rfl) (by exact rfl) Try.ntmps57 (by simp) ?_;simp only [ZC,ZJ,Nat.reduceAdd];obtain⟨T,hT,hS⟩:∃ T,T=Xw (wm:=wm) []∧Sp wm T h [] h:= ⟨_,rfl,Sp.start ZB ZP.nil⟩
 unfold Zqi at hL;refine r3 ?_;rintro _ h2 ⟨b1,eb1,rfl,hS⟩;refine r1 ?_;rintro _ h4 ⟨b3,eb3,rfl,hS⟩;refine r1 ?_;rintro _ h6 ⟨b5,eb5,rfl,hS⟩;refine r4 ?_;refine WO.w gN rfl (Zdr (Zc lk (Zc lk Zl))) ?_;refine WO.dfr gN lk ?_;refine r4 ?_;refine r1 ?_;obtain⟨x7,hx7,hL⟩:=bind_some hL;refine WO.cl gN rfl (Xd.fn ZBQ (Zc lk Zl)) hS .n (fun g' hz hf hO=>Zzk (by rw [hz];exact hS.hw) (At.fz hf (Stb.fz hS.fz YR YQ) (At.fz hS.fz YQ YR)) (Stb.fz hf (At.fz hS.fz YQ YR) (Stb.fz hS.fz YR YQ)) ((hS.ms ZI).fz hf) ((hS.sl Yr).mono hf) ((hS.sl Yu).mono hf) hx7) ?_;rintro _ h16 _ ⟨b8,m9,a10,n11,c12,a13,n14,c15,rfl,rfl⟩ hS;obtain rfl:=hS.on k2;obtain rfl:=hS.on k3;refine r1 ?_;rintro h18 hS;refine r6 ?_;obtain⟨x19,ZuU,hL⟩:=bind_some hL;rcases x19 with y20 | e21
 ·skip;replace hL:=Zrx hL;refine WO.cl gN rfl (Xd.fn Zxc (Zc lk (Zc lk Zl))) hS (.c k1 (.c k1 (.c k1 (.c k1 .n)))) (fun g' hz hf hO=>(PQ.ok (ZsW (by rw [hz];exact hS.hw) hO ZuU))) ?_;rintro _ h29 _ ⟨m22,a23,n24,c25,a26,n27,c28,rfl,rfl⟩ hS;obtain rfl:=hS.on k2;obtain rfl:=hS.on k3;refine r6 ?_;rintro h31 hS;refine r1 ?_;rintro h32 hS;refine r3 ?_;refine XP.ofP ?_;refine ZaO.dfn (cap:= [.pointer (some ⟨b3,0,none⟩),.pointer (some ⟨b5,0,none⟩)]) (fn2:=Try.f93) (by kernel_rfl) (by exact rfl) Try.ntmps93 (by simp) rfl ?_;simp only [ZC,ZJ,Nat.reduceAdd];refine DC.seq ?_;refine DC.rec .ret (Tr.set (Tr.set (Tr.set (Tr.set (Tr.set (Tr.set (Tr.set (Tr.set (Tr.set .nil 0 (.pointer (some ⟨b3,0,none⟩))) 1 (.pointer (some ⟨b5,0,none⟩))) 5 (.nilIface)) 6 (.tuple [.int .i64 0,.bool false].toArray)) 4 (.tuple [.int .i64 0,.bool false].toArray)) 7 (.int .i64 0)) 8 (.bool false)) 2 (.int .i64 0)) 3 (.bool false)) (by exact rfl) rfl ?_;refine⟨rfl,?_⟩;refine DC.seq ?_;refine DC.rgn rfl ?_;refine r3 ?_;refine⟨rfl,?_⟩;refine DC.Zto lk rfl ?_;refine DC.skip ?_;refine⟨rfl,rfl,?_⟩;refine ZaO.ofL ?_ rfl;have hr:=Option.some.inj hL;subst hr;exact XP.gen rfl (ZO (ZM rfl fh) (Kn ZtO (hS.Qo k1) (j:=0) rfl (v:= .pointer (some ⟨b8,0,none⟩)) rfl) (ZO (Ye rfl (ZN rfl (Zf rfl fh))) (Kn ZtP (hS.Qo k0) (j:=0) rfl (v:= .int .i64 0) rfl) Zm)) rfl ⟨_,⟨b8,m22,a23,y20.notes.length,c25,a26,y20.freed.length,c28,rfl,rfl⟩,hT ▸ hS.only (.c k2 (.c k2 (.c k2 (.c k2 .n))))⟩
 ·skip;replace hL:=Zow hL;refine WO.clX gN (Xd.fn Zxc (Zc lk (Zc lk Zl))) hS (.c k1 (.c k1 (.c k1 (.c k1 .n)))) (fun g' hz hf hO=>ZsW (by rw [hz];exact hS.hw) hO ZuU) ?_;rintro h33 hS;refine Qp.panic ?_;refine XP.ofX ?_;refine ZaO.dfn (cap:= [.pointer (some ⟨b3,0,none⟩),.pointer (some ⟨b5,0,none⟩)]) (fn2:=Try.f93) (by kernel_rfl) (by exact rfl) Try.ntmps93 (by simp) rfl ?_;simp only [ZC,ZJ,Nat.reduceAdd];refine DC.seq ?_;refine DC.rec (.rcv (pv 32 e21)) (Tr.set (Tr.set (Tr.set (Tr.set (Tr.set (Tr.set (Tr.set (Tr.set (Tr.set .nil 0 (.pointer (some ⟨b3,0,none⟩))) 1 (.pointer (some ⟨b5,0,none⟩))) 5 (.iface 32 (.int .i64 e21))) 6 (.tuple [.int .i64 e21,.bool true].toArray)) 4 (.tuple [.int .i64 e21,.bool true].toArray)) 7 (.int .i64 e21)) 8 (.bool true)) 2 (.int .i64 e21)) 3 (.bool true)) (by exact rfl) rfl ?_;refine⟨rfl,?_⟩;refine DC.seq ?_;refine DC.rgn rfl ?_;refine r3 ?_;refine⟨rfl,?_⟩;refine DC.Ztn lk rfl ?_;refine DC.rgn rfl ?_;refine r3 ?_;rintro h34 hS;refine r1 ?_;rintro h35 hS;refine r1 ?_;refine⟨rfl,rfl,?_⟩;refine ZaO.ofL ?_ rfl;have hr:=Option.some.inj hL;subst hr;exact XP.gen rfl (ZO (Ye rfl (ZN rfl fh)) (Kn ZtO (hS.Qo k1) (j:=0) rfl (v:= .pointer none) rfl) (ZO (Ye rfl (Zf rfl fh)) (Kn ZtP (hS.Qo k0) (j:=0) rfl (v:= .int .i64 e21) rfl) Zm)) rfl ⟨_,⟨rfl,rfl⟩,hT ▸ hS.only .n⟩
end Go.Proofs.Ytekpjgmhkkjhgaa
end
end
section
namespace Go.Proofs.Ytekpjgmhkkjhgaa
open Go.Lf
def Zta (F:Nat) (p0:Zb) (p1:Zn):Option (Zb×Int):=
 (Zs7 F p0).bind fun x7=>(gd (!(!x7)) (Zqj p1 (p0.cells.length:Int)) default).bind fun x8=>(bif((!x7) || (!x8)) then some ((Zb.mk [] [] 0 []),2) else(Zig F p0).bind fun x10=>(Zqi F x10 p1).bind fun x21=>opt x21.1 ((bif(x21.2 !=0) then some ((Zb.mk [] [] 0 []),x21.2) else none)) (fun y22=>(bif(x21.2 !=0) then some ((Zb.mk [] [] 0 []),x21.2) else(ZlV F y22).bind fun x44=>some (x44,0))))
def Zbg (v40:Int) (ZbK:(Int×(List YM)×(List YM)×(List (List Za))×(List Zd)×Int×(List Int) ->Option (Zb×Model×Bool))):(List YM)×(List YM)×(List (List Za))×(List Zd)×Int×(List Int) ->Option (Zb×Model×Bool):=fun(v74,v78,v82,v87,v91,v92)=>
 ZbK (ZK (v40 + 1),v74,v78,v82,v87,v91,v92)
def Zdn (F:Nat) (z28:(List Zao)):Int×(List YM)×(List YM)×(List (List Za))×(List Zd)×Int×(List Int) ->(Int×(List YM)×(List YM)×(List (List Za))×(List Zd)×Int×(List Int) ->Option (Zb×Model×Bool)) ->Option (Zb×Model×Bool):=fun(v40,v42,v46,v50,v55,v59,v60) ZbK=>
 (bif decide (v40 < (z28.length:Int)) then(Yh z28 v40).bind fun x96=>(Zs8 x96 (v50.length:Int) v59 (v55.length:Int)).bind fun x102=>(bif(!x102.2) then(Zbg v40 ZbK) (v42,v46,v50,v55,v59,v60) else(Zta F (Zb.mk v50 v55 v59 v60) x102.1).bind fun JP=>(bif(JP.2==7) then(gd ((x102.1.ZW !=4) && (!((x102.1.ZW !=2) && (x102.1.ZW !=3)))) (Zkh F v42 (YM.mk x102.1.at_ x102.1.name)) default).bind fun ZAE=>(bif((x102.1.ZW !=4) && (((x102.1.ZW !=2) && (x102.1.ZW !=3)) || ZAE)) then some ((Zb.mk v50 v55 v59 v60),(Model.mk v42 v46),false) else(Zbg v40 ZbK) (v42,v46,v50,v55,v59,v60)) else(bif(((JP.2==3) && (x102.1.ZW !=5)) && ((v55.length:Int)==80)) then(Zbg v40 ZbK) (v42,v46,v50,v55,v59,v60) else(bif((JP.2 !=0) || ((JP.1.cells.length:Int) != (v50.length:Int))) then some ((Zb.mk v50 v55 v59 v60),(Model.mk v42 v46),false) else(Zqk F (Model.mk v42 v46) (Zb.mk v50 v55 v59 v60) x102.1).bind fun ZaR=>(Zs9 F ZaR JP.1).bind fun WZ=>(bif(!WZ) then some (JP.1,ZaR,false) else(Zbg v40 ZbK) (ZaR.uses,ZaR.ways,JP.1.cells,JP.1.notes,JP.1.names,JP.1.freed)))))) else some ((Zb.mk v50 v55 v59 v60),(Model.mk v42 v46),true))
def Zql (F:Nat) (p0:Int) (p1:(List Zao)):Option (Zb×Model×Bool):=
 (Zez (ZK p0) 6).bind fun x7=>(Ztb F (ZK (1 + x7))).bind fun x8=>(gd (!(x8.2 !=0)) (Zez (ZK p0) 6) default).bind fun x23=>(bif((x8.2 !=0) || ((x8.1.cells.length:Int) != (ZK (1 + x23)))) then some (x8.1,(Model.mk [] []),false) else(slL p1 0 (if 120 < (p1.length:Int) then 120 else(p1.length:Int))).bind fun z28=>loop F (Zdn F z28) (0,[],[],x8.1.cells,x8.1.notes,x8.1.names,x8.1.freed))
end Go.Proofs.Ytekpjgmhkkjhgaa
end
section
set_option maxRecDepth 20000
noncomputable section
namespace Go.Proofs.Ytekpjgmhkkjhgaa
open Go.Yo Go.Lf
theorem ZzF {F wm:Nat} {h:H} {p0:Zb} {p1:Zn} {Zr:Option Addr} {Zq:Nat} {Zp:Option Addr} {Zo:Nat} {Zz:Option Addr} {Zy:Nat} {r:(Zb×Int)} (ZB:wm <=h.size) (ZI:Sl (rSl ZG) wm h Zr Zq p0.cells) (Yr:Sl Zj wm h Zp Zo p0.notes) (Yu:Sl (ZR .i64) wm h Zz Zy p0.freed) (hL:Zta F p0 p1=some r):
 WR XX 17 #[.agg [.slice Zr p0.cells.length Zq,.slice Zp p0.notes.length Zo,.int .i64 p0.names,.slice Zz p0.freed.length Zy].toArray,.agg [.int .i64 p1.ZW,.int .i64 p1.at_,.int .i64 p1.name,.int .i64 p1.Zv].toArray] wm h (CP (fun(v:Value) (Gb:List (Ast wm))=>∃ (XT:Option Addr) (XQ:Nat) (XR:Nat) (Za0:Nat ->Option Addr×Nat×Nat) (Jt:Option Addr) (Jl:Nat) (Jq:Nat) (Un:Option Addr) (Ul:Nat) (Um:Nat),v= .tuple [.agg [.slice XT XQ XR,.slice Jt Jl Jq,.int .i64 r.1.names,.slice Un Ul Um].toArray,.int .i64 r.2].toArray∧Gb= [nst wm (Xi ZG) XT XQ XR Za0 r.1.cells,ow wm Zj Jt Jl Jq r.1.notes,ow wm (ZR .i64) Un Ul Um r.1.freed]) [] h):=by
 refine bg Try.ntmps17 ZB ZP.nil ?_;intro T hT hS;unfold Zta at hL;refine r3 ?_;rintro _ h2 ⟨b1,eb1,rfl,hS⟩;refine r1 ?_;rintro _ h4 ⟨b3,eb3,rfl,hS⟩;refine r1 ?_;rintro _ h6 ⟨b5,eb5,rfl,hS⟩;refine r6 ?_;refine r1 ?_;obtain⟨x7,hx7,hL⟩:=bind_some hL;refine WO.cp gN rfl (Xd.fn ZB0 (Zc lk Zl)) (WR.QU rfl (Zzy (Nat.le_refl _) (hS.slu ZI) (hS.slu Yr) (hS.slu Yu) hx7)) ?_;refine r6 ?_;obtain⟨x8,hx8,hL⟩:=XI hL;refine WO.gcp (Zi.no rfl rfl rfl (Ye rfl fh)) rfl (fun hg=>(Xd.fn ZBZ (Zc (XJ (ZN rfl (Zf rfl fh)) rfl hg) (Zc (XJ fh rfl hg) Zl)))) (fun hg=>Zzx (hx8 hg)) ?_;refine r4 ?_;refine cn hL ?_ ?_
 ·intro hc hL;refine r2 ?_;refine WO.w gN rfl (Xt Zmq ZA rfl (cs':= [.slice none 0 0,.slice none 0 0,.int .i64 0,.slice none 0 0]) rfl) ?_;refine r1 ?_;rintro h9 hS;refine r4 ?_;refine r1 ?_;have hS:=hS.ZuJ (e:= (Xi ZG)) (ps:=fun _=>(Xi ZG).dflt);have hS:=hS.nil (e:=Zj);have hS:=hS.nil (e:= (ZR .i64));have hr:=Option.some.inj hL;subst hr;exact ZT.gen (vs:= [.agg [.slice none 0 0,.slice none 0 0,.int .i64 0,.slice none 0 0].toArray,.int .i64 2]) rfl (ZO (ZM rfl (Ye rfl (ZN rfl fh))) (Z7 ZaM QJ (hS.Qo k3) (j:=0) rfl rfl (ws:= [.slice none 0 0,.slice none 0 0,.int .i64 0,.slice none 0 0]) rfl) (ZE lk Zm)) rfl ⟨_,⟨none,0,0,(fun _=>(Xi ZG).dflt),none,0,0,none,0,0,rfl,rfl⟩,hT ▸ hS.only (.c k2 (.c k1 (.c k0 .n)))⟩
 ·intro hc hL;refine r3 ?_;refine WC.Yp mixed (by kernel_rfl) ?_;refine r1 ?_;obtain⟨x10,ZFd,hL⟩:=bind_some hL;refine WX.cl0 gN rfl (Xd.fn Zsk (Zc lk Zl)) hS .n (fun g' hz hf hO=>ZnO (by rw [hz];exact hS.hw) ((hS.sl ZI).mono hf) ((hS.sl Yr).mono hf) ((hS.sl Yu).mono hf) ZFd) ?_ rfl rfl;rintro _ h19 _ ⟨b11,m12,a13,n14,c15,a16,n17,c18,rfl,rfl⟩ hS;obtain rfl:=hS.on k2;obtain rfl:=hS.on k3;refine r1 ?_;obtain⟨x21,Zng,hL⟩:=bind_some hL;rcases Zvd:x21.1 with _ | y22
  ·skip;rw [Zvd] at hL;replace hL:=ZrD hL;refine WX.clR gN rfl (Xd.fn Zxh (Zc lk (Zc lk Zl))) hS.hw (Zs6 (Nat.le_refl _) (hS.Qo k0) (.inl (hS.lt k0)) (hS.mrd k1) (hS.ord k2) (hS.ord k3) Zng) ?_ rfl rfl;rintro v26 h24 ZLJ ZCt ZFQ;rw [Zvd] at ZCt;obtain⟨rfl,rfl⟩:=ZCt;have hS:=hS.clR ZFQ .n;refine J8 ?_;refine r2 ?_;refine cn hL ?_ ?_
   ·intro hc hL;refine r2 ?_;refine WO.w gN rfl (Xt Zmq ZA rfl (cs':= [.slice none 0 0,.slice none 0 0,.int .i64 0,.slice none 0 0]) rfl) ?_;refine r2 ?_;rintro h29 hS;refine r4 ?_;refine r1 ?_;have hS:=hS.ZuJ (e:= (Xi ZG)) (ps:=fun _=>(Xi ZG).dflt);have hS:=hS.nil (e:=Zj);have hS:=hS.nil (e:= (ZR .i64));have hr:=Option.some.inj hL;subst hr;exact ZT.gen (vs:= [.agg [.slice none 0 0,.slice none 0 0,.int .i64 0,.slice none 0 0].toArray,.int .i64 x21.2]) rfl (ZO (ZM rfl (ZM rfl (ZM rfl (ZN rfl fh)))) (Z7 ZaM QJ (hS.Qo k3) (j:=0) rfl rfl (ws:= [.slice none 0 0,.slice none 0 0,.int .i64 0,.slice none 0 0]) rfl) (ZE lk Zm)) rfl ⟨_,⟨none,0,0,(fun _=>(Xi ZG).dflt),none,0,0,none,0,0,rfl,rfl⟩,hT ▸ hS.only (.c k2 (.c k1 (.c k0 .n)))⟩
   ·intro hc hL;cases hL
  ·skip;rw [Zvd] at hL;replace hL:=ZrC hL;refine WX.clR gN rfl (Xd.fn Zxh (Zc lk (Zc lk Zl))) hS.hw (Zs6 (Nat.le_refl _) (hS.Qo k0) (.inl (hS.lt k0)) (hS.mrd k1) (hS.ord k2) (hS.ord k3) Zng) ?_ rfl rfl;rintro v40 h38 ZLI ZCs ZFN;rw [Zvd] at ZCs;obtain⟨b30,m31,a32,n33,c34,a35,n36,c37,rfl,rfl⟩:=ZCs;have hS:=hS.clR ZFN (.c (cvB hS.hw) (.c (cvM hS.hw) (.c (cvO (fun _ _ _ _=>trivial) hS.hw) (.c (cvO (fun _ _ _ _=>trivial) hS.hw) .n))));obtain rfl:=hS.on k2;obtain rfl:=hS.on k3;refine J8 ?_;refine r2 ?_;refine cn hL ?_ ?_
   ·intro hc hL;refine r2 ?_;refine WO.w gN rfl (Xt Zmq ZA rfl (cs':= [.slice none 0 0,.slice none 0 0,.int .i64 0,.slice none 0 0]) rfl) ?_;refine r2 ?_;rintro h43 hS;refine r4 ?_;refine r1 ?_;have hS:=hS.ZuJ (e:= (Xi ZG)) (ps:=fun _=>(Xi ZG).dflt);have hS:=hS.nil (e:=Zj);have hS:=hS.nil (e:= (ZR .i64));have hr:=Option.some.inj hL;subst hr;exact ZT.gen (vs:= [.agg [.slice none 0 0,.slice none 0 0,.int .i64 0,.slice none 0 0].toArray,.int .i64 x21.2]) rfl (ZO (ZM rfl (ZM rfl (ZM rfl (ZN rfl fh)))) (Z7 ZaM QJ (hS.Qo k3) (j:=0) rfl rfl (ws:= [.slice none 0 0,.slice none 0 0,.int .i64 0,.slice none 0 0]) rfl) (ZE lk Zm)) rfl ⟨_,⟨none,0,0,(fun _=>(Xi ZG).dflt),none,0,0,none,0,0,rfl,rfl⟩,hT ▸ hS.only (.c k2 (.c k1 (.c k0 .n)))⟩
   ·intro hc hL;refine r4 ?_;refine r1 ?_;obtain⟨x44,ZuR,hL⟩:=bind_some hL;refine WO.clR gN rfl (Xd.fn Zsl (Zc lk Zl)) hS.hw (ZnP (Nat.le_refl _) (hS.Qo k0) (.inl (hS.lt k0)) (hS.mrd k1) (hS.ord k2) (hS.ord k3) ZuR) ?_;rintro _ h54 _ ⟨a45,n46,c47,ZA0,a48,n49,c50,a51,n52,c53,rfl,rfl⟩ ZFM;have hS:=hS.clR ZFM (.c (cvN (fun _ _ _ _=>trivial) hS.hw) (.c (cvO (fun _ _ _ _=>trivial) hS.hw) (.c (cvO (fun _ _ _ _=>trivial) hS.hw) .n)));obtain rfl:=hS.ZjD k0;obtain rfl:=hS.on k1;obtain rfl:=hS.on k2;refine r1 ?_;rintro h56 hS;refine r4 ?_;have hr:=Option.some.inj hL;subst hr;exact ZT.gen (vs:= [.agg [.slice a45 x44.cells.length c47,.slice a48 x44.notes.length c50,.int .i64 x44.names,.slice a51 x44.freed.length c53].toArray,.int .i64 0]) rfl (ZO (ZM rfl (ZM rfl (ZM rfl (ZN rfl fh)))) (Z7 ZaM QJ (hS.Qo k0) (j:=0) rfl rfl (ws:= [.slice a45 x44.cells.length c47,.slice a48 x44.notes.length c50,.int .i64 x44.names,.slice a51 x44.freed.length c53]) rfl) (ZE lk Zm)) rfl ⟨_,⟨a45,x44.cells.length,c47,ZA0,a48,x44.notes.length,c50,a51,x44.freed.length,c53,rfl,rfl⟩,hT ▸ hS.only (.c k1 (.c k1 (.c k1 .n)))⟩
theorem ZzE {F wm:Nat} {h:H} {p0:Int} {p1:(List Zao)} {YP:Option Addr} {YO:Nat} {r:(Zb×Model×Bool)} (ZB:wm <=h.size) (Uf:Sl Zru wm h YP YO p1) (hL:Zql F p0 p1=some r):
 WR XX 38 #[.int .u8 p0,.slice YP p1.length YO] wm h (CP (fun(v:Value) (Gb:List (Ast wm))=>∃ (XT:Option Addr) (XQ:Nat) (XR:Nat) (Za0:Nat ->Option Addr×Nat×Nat) (Jt:Option Addr) (Jl:Nat) (Jq:Nat) (Un:Option Addr) (Ul:Nat) (Um:Nat) (ZwT:Option Addr) (ZwN:Nat) (ZwQ:Nat) (ZwS:Option Addr) (ZwM:Nat) (ZwP:Nat),v= .tuple [.agg [.slice XT XQ XR,.slice Jt Jl Jq,.int .i64 r.1.names,.slice Un Ul Um].toArray,.agg [.slice ZwT ZwN ZwQ,.slice ZwS ZwM ZwP].toArray,.bool r.2.2].toArray∧Gb= [nst wm (Xi ZG) XT XQ XR Za0 r.1.cells,ow wm Zj Jt Jl Jq r.1.notes,ow wm (ZR .i64) Un Ul Um r.1.freed,ow wm Yy ZwT ZwN ZwQ r.2.1.uses,ow wm Yy ZwS ZwM ZwP r.2.1.ways]) [] h):=by
 refine bg Try.ntmps38 ZB ZP.nil ?_;intro T hT hS;unfold Zql at hL;refine r3 ?_;rintro _ h2 ⟨b1,eb1,rfl,hS⟩;refine r1 ?_;rintro _ h4 ⟨b3,eb3,rfl,hS⟩;refine r6 ?_;rintro _ h6 ⟨b5,eb5,rfl,hS⟩;refine r4 ?_;refine r1 ?_;refine WO.w gN rfl (Zds Zpz ZmQ lk) ?_;obtain⟨x7,hx7,hL⟩:=bind_some hL;refine WO.w gN rfl (Yc (Zt fh rfl) (Jf rfl) (Uy hx7)) ?_;refine r1 ?_;obtain⟨x8,hx8,hL⟩:=bind_some hL;refine WO.cl gN rfl (Xd.fn ZB7 (Zc lk Zl)) hS .n (fun g' hz hf hO=>ZzG (by rw [hz];exact hS.hw) hx8) ?_;rintro _ h18 _ ⟨a9,n10,c11,ZAZ,a12,n13,c14,a15,n16,c17,rfl,rfl⟩ hS;obtain rfl:=hS.ZjD k0;obtain rfl:=hS.on k1;obtain rfl:=hS.on k2;refine r4 ?_;rintro _ h21 ⟨b20,ZKs,rfl,hS⟩;refine r1 ?_;rintro h22 hS;refine J8 ?_;refine r1 ?_;refine WO.gv (Zi.no rfl rfl rfl (Ye rfl fh)) rfl (fun hg=>(Zds Zpz ZmQ (XJ fh rfl hg))) ?_;obtain⟨x23,ZuS,hL⟩:=XI hL;refine WO.gv (Zi.no rfl rfl rfl (Ye rfl (Zf rfl fh))) rfl (fun hg=>(Yc (XJ fh rfl hg) (Jf rfl) (Uy (ZuS hg)))) ?_;refine r4 ?_;refine r1 ?_;refine cn hL ?_ ?_
 ·intro hc hL;refine r1 ?_;refine WC.Yp mixed (by kernel_rfl) ?_;refine r1 ?_;refine WX.wr (fun x=>x=b5) hS gN rfl (fun _ _ hR=>Xr ZaL Q5 (Zt (ZM rfl (ZM rfl (Ye rfl (ZN rfl (Zf rfl fh))))) rfl) (At.eqv (hR b5 rfl) (hS.Qo k4)) (j:=0) rfl rfl (ws:= [.slice none 0 0,.slice none 0 0]) rfl) ?_ rfl rfl;rintro h24 e25 hS;refine WX.hu gN (UW hS k6 QJ lk lk (vs:= [.slice a9 x8.1.cells.length c11,.slice a12 x8.1.notes.length c14,.int .i64 x8.1.names,.slice a15 x8.1.freed.length c17]) rfl rfl rfl rfl (cs':= [.slice a9 x8.1.cells.length c11,.slice a12 x8.1.notes.length c14,.int .i64 x8.1.names,.slice a15 x8.1.freed.length c17]) rfl) ?_ rfl rfl [1] (by kernel_rfl) (.c .z (hS.dj (.c k6 (.c k4 .n))) Z8.e);rintro h26 hS;refine WX.hu gN (UW hS k6 Q5 lk lk (vs:= [.slice none 0 0,.slice none 0 0]) rfl rfl rfl rfl (cs':= [.slice none 0 0,.slice none 0 0]) rfl) ?_ rfl (by kernel_rfl) [] (by kernel_rfl) Z8.e;rintro h27 hS;refine WX.w gN rfl (Z6 lk) ?_ (by kernel_rfl);refine r4 ?_;have hS:=hS.nil (e:=Yy);have hS:=hS.nil (e:=Yy);have hr:=Option.some.inj hL;subst hr;exact ZT.gen (vs:= [.agg [.slice a9 x8.1.cells.length c11,.slice a12 x8.1.notes.length c14,.int .i64 x8.1.names,.slice a15 x8.1.freed.length c17].toArray,.agg [.slice none 0 0,.slice none 0 0].toArray,.bool false]) rfl (ZO (ZM rfl (ZM rfl (ZM rfl (Ye rfl fh)))) (Z7 ZaM QJ (hS.Qo k3) (j:=0) rfl rfl (ws:= [.slice a9 x8.1.cells.length c11,.slice a12 x8.1.notes.length c14,.int .i64 x8.1.names,.slice a15 x8.1.freed.length c17]) rfl) (ZO (ZM rfl (ZM rfl (ZM rfl (ZN rfl (Zf rfl fh))))) (Z7 ZaL Q5 (hS.Qo k2) (j:=0) rfl rfl (ws:= [.slice none 0 0,.slice none 0 0]) rfl) (ZE lk Zm))) rfl ⟨_,⟨a9,x8.1.cells.length,c11,ZAZ,a12,x8.1.notes.length,c14,a15,x8.1.freed.length,c17,none,0,0,none,0,0,rfl,rfl⟩,hT ▸ hS.only (.c k5 (.c k5 (.c k5 (.c k1 (.c k0 .n)))))⟩
 ·intro hc hL;refine r8 ?_;refine WO.w gN rfl (ZzY lk lk) ?_;obtain⟨z28,ZEX,hL⟩:=bind_some hL;refine WO.he gN rfl (Zrm (hS.sl Uf) rfl Zq7 Zju (Zt (ZN rfl (Zf rfl fh)) rfl) (Zt fh rfl) ZEX) ?_;rintro _ ⟨a29,c30,rfl,hv31⟩;have ZBC:=hv31.sl Uf;refine r4 ?_;refine r1 ?_;have hS:=hS.nil (e:=Yy);have hS:=hS.nil (e:=Yy);refine WC.loop (WL.lift hL (fun(p:Int×(List YM)×(List YM)×(List (List Za))×(List Zd)×Int×(List Int)) (s:Fs)=>match p with | (v40,v42,v46,v50,v55,v59,v60)=>∃ (ZbW:Fr) (h32:H) (a43:Option Addr) (c44:Nat) (n45:Nat) (a47:Option Addr) (c48:Nat) (n49:Nat) (a51:Option Addr) (c52:Nat) (n53:Nat) (Zlr:Nat ->Option Addr×Nat×Nat) (a56:Option Addr) (c57:Nat) (n58:Nat) (a61:Option Addr) (c62:Nat) (n63:Nat),s= ⟨ZbW,[],h32,none⟩∧Sp wm T h [bx wm b1 [.slice none 0 0,.slice none 0 0,.int .i64 0,.slice none 0 0],bx wm b3 [.slice none 0 0,.slice none 0 0],ow wm Yy a43 n45 c44 v42,ow wm Yy a47 n49 c48 v46,bx wm b5 [.slice a43 n45 c44,.slice a47 n49 c48],nst wm (Xi ZG) a51 n53 c52 Zlr v50,ow wm Zj a56 n58 c57 v55,ow wm (ZR .i64) a61 n63 c62 v60,bx wm b20 [.slice a51 n53 c52,.slice a56 n58 c57,.int .i64 v59,.slice a61 n63 c62]] h32∧ZbW.at 4= .pointer (some ⟨b1,0,none⟩)∧ZbW.at 5= .pointer (some ⟨b3,0,none⟩)∧ZbW.at 7= .pointer (some ⟨b5,0,none⟩)∧ZbW.at 8= .pointer (some ⟨b20,0,none⟩)∧ZbW.at 42= .slice a29 z28.length c30∧ZbW.at 43= .int .i64 (z28.length:Int)∧ZbW.at 44= .int .i64 v40) ⟨_,_,none,0,0,none,0,0,a9,c11,x8.1.cells.length,ZAZ,a12,c14,x8.1.notes.length,a15,c17,x8.1.freed.length,rfl,hS.only (.c k8 (.c k7 (.c k0 (.c k0 (.c k4 (.c k1 (.c k1 (.c k1 (.c k0 .n))))))))),Y3⟩ ?_);clear hL hS;rintro ZbK ⟨v40,v42,v46,v50,v55,v59,v60⟩ s Zu2 hL ⟨ZbW,h32,a43,c44,n45,a47,c48,n49,a51,c52,n53,Zlr,a56,c57,n58,a61,c62,n63,rfl,hS,e34,e35,e36,e37,e38,e39,e41⟩;obtain rfl:=hS.on k2;obtain rfl:=hS.on k3;obtain rfl:=hS.ZjD k5;obtain rfl:=hS.on k6;obtain rfl:=hS.on k7;dsimp only [Zdn] at hL;refine r6 ?_;refine cn hL ?_ ?_
  ·intro hc hL;refine r2 ?_;refine WC.ZaT (r:=r) (fun(p:(List YM)×(List YM)×(List (List Za))×(List Zd)×Int×(List Int)) (s:Fs)=>match p with | (v74,v78,v82,v87,v91,v92)=>∃ (ZjY:Fr) (h65:H) (a75:Option Addr) (c76:Nat) (n77:Nat) (a79:Option Addr) (c80:Nat) (n81:Nat) (a83:Option Addr) (c84:Nat) (n85:Nat) (Zx7:Nat ->Option Addr×Nat×Nat) (a88:Option Addr) (c89:Nat) (n90:Nat) (a93:Option Addr) (c94:Nat) (n95:Nat),s= ⟨ZjY,[],h65,none⟩∧Sp wm T h [bx wm b1 [.slice none 0 0,.slice none 0 0,.int .i64 0,.slice none 0 0],bx wm b3 [.slice none 0 0,.slice none 0 0],ow wm Yy a75 n77 c76 v74,ow wm Yy a79 n81 c80 v78,bx wm b5 [.slice a75 n77 c76,.slice a79 n81 c80],nst wm (Xi ZG) a83 n85 c84 Zx7 v82,ow wm Zj a88 n90 c89 v87,ow wm (ZR .i64) a93 n95 c94 v92,bx wm b20 [.slice a83 n85 c84,.slice a88 n90 c89,.int .i64 v91,.slice a93 n95 c94]] h65∧ZjY.at 4= .pointer (some ⟨b1,0,none⟩)∧ZjY.at 5= .pointer (some ⟨b3,0,none⟩)∧ZjY.at 7= .pointer (some ⟨b5,0,none⟩)∧ZjY.at 8= .pointer (some ⟨b20,0,none⟩)∧ZjY.at 42= .slice a29 z28.length c30∧ZjY.at 43= .int .i64 (z28.length:Int)∧ZjY.at 44= .int .i64 v40) (Zbg v40 ZbK) ?_ ?_
   ·clear hL hS;rintro⟨v74,v78,v82,v87,v91,v92⟩ s hL ⟨ZjY,h65,a75,c76,n77,a79,c80,n81,a83,c84,n85,Zx7,a88,c89,n90,a93,c94,n95,rfl,hS,e67,e68,e69,e70,e71,e72,e73⟩;obtain rfl:=hS.on k2;obtain rfl:=hS.on k3;obtain rfl:=hS.ZjD k5;obtain rfl:=hS.on k6;obtain rfl:=hS.on k7;dsimp only [Zbg] at hL;refine r4 ?_;exact YC.Yw (Zu2 _ _ hL ⟨_,_,a75,c76,v74.length,a79,c80,v78.length,a83,c84,v82.length,Zx7,a88,c89,v87.length,a93,c94,v92.length,rfl,hS.only (.c k0 (.c k0 (.c k0 (.c k0 (.c k0 (.c k0 (.c k0 (.c k0 (.c k0 .n))))))))),Y3⟩)
   ·skip;refine r3 ?_;obtain⟨x96,hx96,hL⟩:=bind_some hL;obtain⟨b97,o98,_,ZCa,ZCK,ZCB,ZHs⟩:=Sl.at_ ZBC hx96;refine WO.w gN rfl (Z5 Zq7 Zju lk lk rfl ZCa hx96) ?_;refine WO.w gN rfl (Xr ZxC Zju (Zt fh rfl) (At.fz hS.fz ZCB ZCK) (j:=0) rfl rfl (ws:= [.int .u8 x96.ZW,.int .u8 x96.at_,.int .u8 x96.name,.int .u8 x96.Zv]) rfl) ?_;refine r1 ?_;rintro _ ZGk ⟨b99,ZJ7,rfl,hS⟩;refine r1 ?_;rintro ZC7 hS;refine J8 ?_;refine r1 ?_;obtain⟨x102,hx102,hL⟩:=bind_some hL;refine WO.cl gN rfl (Xd.fn ZB1 (Zc lk (Zc lk (Zc lk (Zc lk Zl))))) hS .n (fun g' hz hf hO=>Zzz (by rw [hz];exact hS.hw) hx102) ?_;rintro _ ZJ0 _ ⟨rfl,rfl⟩ hS;refine r4 ?_;rintro _ ZGj ⟨ZDy,ZH8,rfl,hS⟩;refine r1 ?_;rintro ZGi hS;refine r8 ?_;refine r2 ?_;refine cn hL ?_ ?_
    ·intro hc hL;refine r3 ?_;exact YS.Yw _ hL ⟨_,_,a43,c44,v42.length,a47,c48,v46.length,a51,c52,v50.length,Zlr,a56,c57,v55.length,a61,c62,v60.length,rfl,hS.only (.c k2 (.c k2 (.c k2 (.c k2 (.c k2 (.c k2 (.c k2 (.c k2 (.c k2 .n))))))))),Y3⟩
    ·intro hc hL;refine r6 ?_;obtain⟨JP,ZBx,hL⟩:=bind_some hL;refine WO.clR gN rfl (Xd.fn ZB6 (Zc lk (Zc lk Zl))) hS.hw (ZzF (Nat.le_refl _) (hS.nrd k7 Zm5) (hS.ord k8) (hS.ord k9) ZBx) ?_;rintro _ ZGh _ ⟨a109,n110,Zqu,Zrw,ZqP,n113,Zqt,ZqO,n116,c117,rfl,rfl⟩ ZCr;have hS:=hS.clR ZCr (.c (cvN (fun _ _ _ _=>trivial) hS.hw) (.c (cvO (fun _ _ _ _=>trivial) hS.hw) (.c (cvO (fun _ _ _ _=>trivial) hS.hw) .n)));obtain rfl:=hS.ZjD k0;obtain rfl:=hS.on k1;obtain rfl:=hS.on k2;refine r4 ?_;rintro _ ZJR ⟨ZLy,ZH4,rfl,hS⟩;refine r1 ?_;rintro h122 hS;refine r8 ?_;refine r2 ?_;refine cn hL ?_ ?_
     ·intro hc hL;refine J8 ?_;refine r2 ?_;refine WO.gv (Zi.yes rfl rfl rfl (Ye rfl (ZN rfl (Zf rfl fh)))) rfl (fun hg=>(Qz (XJ (ZN rfl (Zf rfl fh)) rfl hg) (Zl5 fh hg) lk)) ?_;refine r6 ?_;refine r1 ?_;refine WO.gv (Zi.no2 rfl rfl rfl (Ye rfl (ZN rfl fh))) rfl (fun hg=>(Xt Zjf (Zh (XJ (ZN rfl fh) rfl hg) (Zh (XJ fh rfl hg) ZA)) rfl (cs':= [.int .i64 x102.1.at_,.int .i64 x102.1.name]) rfl)) ?_;obtain⟨ZAE,ZBu,hL⟩:=XI hL;refine WO.gcp (Zi.no2 rfl rfl rfl (Ye rfl (ZN rfl (Zf rfl fh)))) rfl (fun hg=>(Xd.fn Zsm (Zc (XJ (Ye rfl (Zf rfl fh)) rfl hg) (Zc (XJ fh rfl hg) Zl)))) (fun hg=>ZnQ (hS.ord k8) (ZBu hg)) ?_;refine WO.gv (Zi.yes rfl rfl rfl (ZM rfl (ZM rfl (Zf rfl fh)))) rfl (fun hg=>(ZxA (XJ (ZM rfl fh) rfl hg) lk (Zl5 fh hg))) ?_;refine r3 ?_;refine cn hL ?_ ?_
      ·intro hc hL;refine r1 ?_;refine WC.Yp mixed (by kernel_rfl) ?_;refine r1 ?_;refine WX.wr (fun x=>x=b5) hS gN rfl (fun _ _ hR=>Xr ZaL Q5 (Zt (ZM rfl (ZM rfl (ZM rfl (ZM rfl (ZM rfl (ZM rfl (Ye rfl (ZN rfl (Zf rfl e36))))))))) rfl) (At.eqv (hR b5 rfl) (hS.Qo k10)) (j:=0) rfl rfl (ws:= [.slice a43 v42.length c44,.slice a47 v46.length c48]) rfl) ?_ rfl rfl;rintro ZJQ e125 hS;refine WX.hu gN (UW hS k6 QJ lk lk (vs:= [.slice a51 v50.length c52,.slice a56 v55.length c57,.int .i64 v59,.slice a61 v60.length c62]) rfl rfl rfl rfl (cs':= [.slice a51 v50.length c52,.slice a56 v55.length c57,.int .i64 v59,.slice a61 v60.length c62]) rfl) ?_ rfl rfl [1] (by kernel_rfl) (.c .z (hS.dj (.c k6 (.c k9 .n))) Z8.e);rintro Zvh hS;refine WX.hu gN (UW hS k7 Q5 lk lk (vs:= [.slice a43 v42.length c44,.slice a47 v46.length c48]) rfl rfl rfl rfl (cs':= [.slice a43 v42.length c44,.slice a47 v46.length c48]) rfl) ?_ rfl (by kernel_rfl) [] (by kernel_rfl) Z8.e;rintro h127 hS;refine WX.w gN rfl (Z6 lk) ?_ (by kernel_rfl);refine r6 ?_;refine YS.ret ?_;refine r3 ?_;have hr:=Option.some.inj hL;subst hr;exact ZT.gen (vs:= [.agg [.slice a51 v50.length c52,.slice a56 v55.length c57,.int .i64 v59,.slice a61 v60.length c62].toArray,.agg [.slice a43 v42.length c44,.slice a47 v46.length c48].toArray,.bool false]) rfl (ZO (ZM rfl (ZM rfl (ZM rfl (ZM rfl (ZM rfl (ZM rfl (ZM rfl (Zf rfl e34)))))))) (Z7 ZaM QJ (hS.Qo k1) (j:=0) rfl rfl (ws:= [.slice a51 v50.length c52,.slice a56 v55.length c57,.int .i64 v59,.slice a61 v60.length c62]) rfl) (ZO (ZM rfl (ZM rfl (ZM rfl (ZM rfl (ZM rfl (ZM rfl (ZM rfl (Zf rfl e35)))))))) (Z7 ZaL Q5 (hS.Qo k0) (j:=0) rfl rfl (ws:= [.slice a43 v42.length c44,.slice a47 v46.length c48]) rfl) (ZE lk Zm))) rfl ⟨_,⟨a51,v50.length,c52,Zlr,a56,v55.length,c57,a61,v60.length,c62,a43,v42.length,c44,a47,v46.length,c48,rfl,rfl⟩,hT ▸ hS.only (.c k11 (.c k11 (.c k11 (.c k8 (.c k8 .n)))))⟩
      ·intro hc hL;refine r4 ?_;refine r1 ?_;exact YS.Yw _ hL ⟨_,_,a43,c44,v42.length,a47,c48,v46.length,a51,c52,v50.length,Zlr,a56,c57,v55.length,a61,c62,v60.length,rfl,hS.only (.c k6 (.c k6 (.c k6 (.c k6 (.c k6 (.c k6 (.c k6 (.c k6 (.c k6 .n))))))))),Y3⟩
     ·intro hc hL;refine r16 ?_;refine r4 ?_;refine cn hL ?_ ?_
      ·intro hc hL;refine r3 ?_;exact YS.Yw _ hL ⟨_,_,a43,c44,v42.length,a47,c48,v46.length,a51,c52,v50.length,Zlr,a56,c57,v55.length,a61,c62,v60.length,rfl,hS.only (.c k6 (.c k6 (.c k6 (.c k6 (.c k6 (.c k6 (.c k6 (.c k6 (.c k6 .n))))))))),Y3⟩
      ·intro hc hL;refine r16 ?_;refine r2 ?_;refine cn hL ?_ ?_
       ·intro hc hL;refine r1 ?_;refine WC.Yp mixed (by kernel_rfl) ?_;refine r1 ?_;refine WX.wr (fun x=>x=b5) hS gN rfl (fun _ _ hR=>Xr ZaL Q5 (Zt (ZM rfl (ZM rfl (ZM rfl (ZM rfl (ZM rfl (ZM rfl (ZM rfl e36))))))) rfl) (At.eqv (hR b5 rfl) (hS.Qo k10)) (j:=0) rfl rfl (ws:= [.slice a43 v42.length c44,.slice a47 v46.length c48]) rfl) ?_ rfl rfl;rintro h128 e129 hS;refine WX.hu gN (UW hS k6 QJ (Zt (ZM rfl (ZM rfl (ZM rfl (ZM rfl (ZM rfl (ZM rfl (ZM rfl (Zf rfl e34)))))))) rfl) lk (vs:= [.slice a51 v50.length c52,.slice a56 v55.length c57,.int .i64 v59,.slice a61 v60.length c62]) rfl rfl rfl rfl (cs':= [.slice a51 v50.length c52,.slice a56 v55.length c57,.int .i64 v59,.slice a61 v60.length c62]) rfl) ?_ rfl rfl [1] (by kernel_rfl) (.c .z (hS.dj (.c k6 (.c k9 .n))) Z8.e);rintro ZJP hS;refine WX.hu gN (UW hS k7 Q5 (Zt (ZM rfl (ZM rfl (ZM rfl (ZM rfl (ZM rfl (ZM rfl (ZM rfl (Zf rfl e35)))))))) rfl) lk (vs:= [.slice a43 v42.length c44,.slice a47 v46.length c48]) rfl rfl rfl rfl (cs':= [.slice a43 v42.length c44,.slice a47 v46.length c48]) rfl) ?_ rfl (by kernel_rfl) [] (by kernel_rfl) Z8.e;rintro ZGf hS;refine WX.w gN rfl (Z6 lk) ?_ (by kernel_rfl);refine r4 ?_;refine r1 ?_;refine YS.ret ?_;refine r3 ?_;have hr:=Option.some.inj hL;subst hr;exact ZT.gen (vs:= [.agg [.slice a51 v50.length c52,.slice a56 v55.length c57,.int .i64 v59,.slice a61 v60.length c62].toArray,.agg [.slice a43 v42.length c44,.slice a47 v46.length c48].toArray,.bool false]) rfl (ZO (ZM rfl (ZM rfl (ZM rfl (ZM rfl (ZM rfl (ZM rfl (ZM rfl (ZN rfl e34)))))))) (Z7 ZaM QJ (hS.Qo k1) (j:=0) rfl rfl (ws:= [.slice a51 v50.length c52,.slice a56 v55.length c57,.int .i64 v59,.slice a61 v60.length c62]) rfl) (ZO (ZM rfl (ZM rfl (ZM rfl (ZM rfl (ZM rfl (ZM rfl (ZM rfl (ZN rfl e35)))))))) (Z7 ZaL Q5 (hS.Qo k0) (j:=0) rfl rfl (ws:= [.slice a43 v42.length c44,.slice a47 v46.length c48]) rfl) (ZE lk Zm))) rfl ⟨_,⟨a51,v50.length,c52,Zlr,a56,v55.length,c57,a61,v60.length,c62,a43,v42.length,c44,a47,v46.length,c48,rfl,rfl⟩,hT ▸ hS.only (.c k11 (.c k11 (.c k11 (.c k8 (.c k8 .n)))))⟩
       ·intro hc hL;refine r6 ?_;refine r1 ?_;obtain⟨ZaR,ZBs,hL⟩:=bind_some hL;refine WO.ZGm hS k11 ?_;rintro ZGe ⟨ZHn,hS⟩;refine WO.fzn hS k12 ?_;rintro ZGd ⟨ZHm,hS⟩;refine WO.fzn hS k13 ?_;rintro ZGc ⟨ZHl,hS⟩;refine WO.cl gN rfl (Xd.fn ZB4 (Zc lk (Zc lk (Zc lk Zl)))) hS (.c k11 (.c k11 .n)) (fun g' hz hf hO=>ZzD (by rw [hz];exact hS.hw) ((hS.fsl k2).mono hf) ((hS.fsl k1).mono hf) ((hS.fsl k0).mono hf) hO ZBs) ?_;rintro _ ZJJ _ ⟨a139,n140,c141,Zol,n143,Zn5,rfl,rfl⟩ hS;simp only [List.cons_append,List.nil_append] at hS;obtain rfl:=hS.on k0;obtain rfl:=hS.on k1;refine r1 ?_;rintro ZGa hS;refine r6 ?_;rintro ZJI hS;refine r6 ?_;obtain⟨WZ,ZiT,hL⟩:=bind_some hL;refine WO.cp gN rfl (Xd.fn ZB2 (Zc lk (Zc lk Zl))) (WR.QU rfl (ZzA (Nat.le_refl _) (hS.ord k2) (hS.ord k3) (hS.nrd k8 Zm5) (hS.ord k9) (hS.ord k10) ZiT)) ?_;refine r3 ?_;refine cn hL ?_ ?_
        ·intro hc hL;refine r1 ?_;refine WC.Yp mixed (by kernel_rfl) ?_;refine r1 ?_;refine WX.wr (fun x=>x=b5) hS gN rfl (fun _ _ hR=>Xr ZaL Q5 (Zt (ZM rfl (ZM rfl (ZM rfl (ZM rfl (ZM rfl (ZM rfl (ZM rfl (ZM rfl (Zf rfl e36))))))))) rfl) (At.eqv (hR b5 rfl) (hS.Qo k1)) (j:=0) rfl rfl (ws:= [.slice a139 ZaR.uses.length c141,.slice Zol ZaR.ways.length Zn5]) rfl) ?_ rfl rfl;rintro ZJH ZKJ hS;refine WX.hu gN (UW hS k13 QJ (Zt (ZM rfl (ZM rfl (ZM rfl (ZM rfl (ZM rfl (ZM rfl (ZM rfl (ZM rfl (ZN rfl e34))))))))) rfl) lk (vs:= [.slice a109 JP.1.cells.length Zqu,.slice ZqP JP.1.notes.length Zqt,.int .i64 JP.1.names,.slice ZqO JP.1.freed.length c117]) rfl rfl rfl rfl (cs':= [.slice a109 JP.1.cells.length Zqu,.slice ZqP JP.1.notes.length Zqt,.int .i64 JP.1.names,.slice ZqO JP.1.freed.length c117]) rfl) ?_ rfl rfl [1] (by kernel_rfl) (.c .z (hS.dj (.c k13 (.c k1 .n))) Z8.e);rintro ZJG hS;refine WX.hu gN (UW hS k14 Q5 (Zt (ZM rfl (ZM rfl (ZM rfl (ZM rfl (ZM rfl (ZM rfl (ZM rfl (ZM rfl (ZN rfl e35))))))))) rfl) lk (vs:= [.slice a139 ZaR.uses.length c141,.slice Zol ZaR.ways.length Zn5]) rfl rfl rfl rfl (cs':= [.slice a139 ZaR.uses.length c141,.slice Zol ZaR.ways.length Zn5]) rfl) ?_ rfl (by kernel_rfl) [] (by kernel_rfl) Z8.e;rintro ZC6 hS;refine WX.w gN rfl (Z6 lk) ?_ (by kernel_rfl);refine r4 ?_;refine YS.ret ?_;refine r3 ?_;have hr:=Option.some.inj hL;subst hr;exact ZT.gen (vs:= [.agg [.slice a109 JP.1.cells.length Zqu,.slice ZqP JP.1.notes.length Zqt,.int .i64 JP.1.names,.slice ZqO JP.1.freed.length c117].toArray,.agg [.slice a139 ZaR.uses.length c141,.slice Zol ZaR.ways.length Zn5].toArray,.bool false]) rfl (ZO (ZM rfl (ZM rfl (ZM rfl (ZM rfl (ZM rfl (ZM rfl (ZM rfl (ZM rfl (ZN rfl (Zf rfl e34)))))))))) (Z7 ZaM QJ (hS.Qo k1) (j:=0) rfl rfl (ws:= [.slice a109 JP.1.cells.length Zqu,.slice ZqP JP.1.notes.length Zqt,.int .i64 JP.1.names,.slice ZqO JP.1.freed.length c117]) rfl) (ZO (ZM rfl (ZM rfl (ZM rfl (ZM rfl (ZM rfl (ZM rfl (ZM rfl (ZM rfl (ZN rfl (Zf rfl e35)))))))))) (Z7 ZaL Q5 (hS.Qo k0) (j:=0) rfl rfl (ws:= [.slice a139 ZaR.uses.length c141,.slice Zol ZaR.ways.length Zn5]) rfl) (ZE lk Zm))) rfl ⟨_,⟨a109,JP.1.cells.length,Zqu,Zrw,ZqP,JP.1.notes.length,Zqt,ZqO,JP.1.freed.length,c117,a139,ZaR.uses.length,c141,Zol,ZaR.ways.length,Zn5,rfl,rfl⟩,hT ▸ hS.only (.c k10 (.c k10 (.c k10 (.c k4 (.c k4 .n)))))⟩
        ·intro hc hL;refine r2 ?_;exact YS.Yw _ hL ⟨_,_,a139,c141,ZaR.uses.length,Zol,Zn5,ZaR.ways.length,a109,Zqu,JP.1.cells.length,Zrw,ZqP,Zqt,JP.1.notes.length,ZqO,c117,JP.1.freed.length,rfl,hS.only (.c k13 (.c k13 (.c k2 (.c k2 (.c k1 (.c k5 (.c k5 (.c k5 (.c k0 .n))))))))),Y3⟩
  ·intro hc hL;refine r6 ?_;refine WC.Yp mixed (by kernel_rfl) ?_;refine r1 ?_;refine WX.wr (fun x=>x=b5) hS gN rfl (fun _ _ hR=>Xr ZaL Q5 (Zt (ZN rfl e36) rfl) (At.eqv (hR b5 rfl) (hS.Qo k4)) (j:=0) rfl rfl (ws:= [.slice a43 v42.length c44,.slice a47 v46.length c48]) rfl) ?_ rfl rfl;rintro ZF9 ZKI hS;refine WX.hu gN (UW hS k0 QJ lk lk (vs:= [.slice a51 v50.length c52,.slice a56 v55.length c57,.int .i64 v59,.slice a61 v60.length c62]) rfl rfl rfl rfl (cs':= [.slice a51 v50.length c52,.slice a56 v55.length c57,.int .i64 v59,.slice a61 v60.length c62]) rfl) ?_ rfl rfl [1] (by kernel_rfl) (.c .z (hS.dj (.c k0 (.c k3 .n))) Z8.e);rintro ZJE hS;refine WX.hu gN (UW hS k1 Q5 lk lk (vs:= [.slice a43 v42.length c44,.slice a47 v46.length c48]) rfl rfl rfl rfl (cs':= [.slice a43 v42.length c44,.slice a47 v46.length c48]) rfl) ?_ rfl (by kernel_rfl) [] (by kernel_rfl) Z8.e;rintro ZJD hS;refine WX.w gN rfl (Z6 lk) ?_ (by kernel_rfl);refine r3 ?_;have hr:=Option.some.inj hL;subst hr;exact ZT.gen (vs:= [.agg [.slice a51 v50.length c52,.slice a56 v55.length c57,.int .i64 v59,.slice a61 v60.length c62].toArray,.agg [.slice a43 v42.length c44,.slice a47 v46.length c48].toArray,.bool true]) rfl (ZO (Ye rfl e34) (Z7 ZaM QJ (hS.Qo k1) (j:=0) rfl rfl (ws:= [.slice a51 v50.length c52,.slice a56 v55.length c57,.int .i64 v59,.slice a61 v60.length c62]) rfl) (ZO (Ye rfl e35) (Z7 ZaL Q5 (hS.Qo k0) (j:=0) rfl rfl (ws:= [.slice a43 v42.length c44,.slice a47 v46.length c48]) rfl) (ZE lk Zm))) rfl ⟨_,⟨a51,v50.length,c52,Zlr,a56,v55.length,c57,a61,v60.length,c62,a43,v42.length,c44,a47,v46.length,c48,rfl,rfl⟩,hT ▸ hS.only (.c k5 (.c k5 (.c k5 (.c k2 (.c k2 .n)))))⟩
end Go.Proofs.Ytekpjgmhkkjhgaa
end
end
section
namespace Go.Proofs.Ytekpjgmhkkjhgaa
open Go.Lf
def Zo0 (x1:(Zb×Model×Bool)):Int ->(Int ->Option Bool) ->Option Bool:=fun v31 Zai=>
 (bif decide (v31 < (x1.1.freed.length:Int)) then(Yh x1.1.freed v31).bind fun x34=>(bif((decide (x34 < 0)) || (decide (x34 >=x1.1.names))) then some false else Zai (ZK (v31 + 1))) else(gd (decide ((x1.2.1.ways.length:Int) <= (x1.1.notes.length:Int))) (ZzI) default).bind fun x37=>some ((decide ((x1.2.1.ways.length:Int) <= (x1.1.notes.length:Int))) && x37))
def f7L (F:Nat) (p0:Int) (p1:(List Zao)):Option Bool:=
 (Zql F p0 p1).bind fun x1=>(bif(!x1.2.2) then some false else loop F (Zo0 x1) 0)
end Go.Proofs.Ytekpjgmhkkjhgaa
end
section
set_option maxRecDepth 20000
noncomputable section
namespace Go.Proofs.Ytekpjgmhkkjhgaa
open Go.Yo Go.Lf
theorem ZDg {F wm:Nat} {h:H} {p0:Int} {p1:(List Zao)} {YP:Option Addr} {YO:Nat} {r:Bool} (ZB:wm <=h.size) (Uf:Sl Zru wm h YP YO p1) (hL:f7L F p0 p1=some r):
 WR XX 7 #[.int .u8 p0,.slice YP p1.length YO] wm h (CP (fun(v:Value) (Gb:List (Ast wm))=>v= .bool r∧Gb= []) [] h):=by
 refine bg Try.ntmps7 ZB ZP.nil ?_;intro T hT hS;unfold f7L at hL;refine r8 ?_;refine r1 ?_;obtain⟨x1,hx1,hL⟩:=bind_some hL;refine WO.cl gN rfl (Xd.fn ZB5 (Zc lk (Zc lk Zl))) hS .n (fun g' hz hf hO=>ZzE (by rw [hz];exact hS.hw) ((hS.sl Uf).mono hf) hx1) ?_;rintro _ h17 _ ⟨a2,n3,c4,ZA1,a5,n6,c7,a8,n9,c10,a11,n12,c13,a14,n15,c16,rfl,rfl⟩ hS;obtain rfl:=hS.ZjD k0;obtain rfl:=hS.on k1;obtain rfl:=hS.on k2;obtain rfl:=hS.on k3;obtain rfl:=hS.on k4;refine r4 ?_;refine r1 ?_;rintro _ h20 ⟨b19,ZGw,rfl,hS⟩;refine r1 ?_;rintro _ h22 ⟨b21,ZKr,rfl,hS⟩;refine r1 ?_;rintro h23 hS;refine r1 ?_;rintro h24 hS;refine r8 ?_;refine r2 ?_;refine cn hL ?_ ?_
 ·intro hc hL;refine r6 ?_;refine r1 ?_;exact rt hL hT hS
 ·intro hc hL;refine J8 ?_;refine WC.loop (WL.lift hL (fun(v31:Int) (s:Fs)=>∃ (ZnC:Fr) (h25:H),s= ⟨ZnC,[],h25,none⟩∧Sp wm T h [bx wm b19 [.slice a2 x1.1.cells.length c4,.slice a5 x1.1.notes.length c7,.int .i64 x1.1.names,.slice a8 x1.1.freed.length c10],bx wm b21 [.slice a11 x1.2.1.uses.length c13,.slice a14 x1.2.1.ways.length c16],ow wm (ZR .i64) a8 x1.1.freed.length c10 x1.1.freed,nst wm (Xi ZG) a2 x1.1.cells.length c4 ZA1 x1.1.cells,ow wm Zj a5 x1.1.notes.length c7 x1.1.notes,ow wm Yy a11 x1.2.1.uses.length c13 x1.2.1.uses,ow wm Yy a14 x1.2.1.ways.length c16 x1.2.1.ways] h25∧ZnC.at 5= .pointer (some ⟨b19,0,none⟩)∧ZnC.at 6= .pointer (some ⟨b21,0,none⟩)∧ZnC.at 20= .slice a8 x1.1.freed.length c10∧ZnC.at 21= .int .i64 (x1.1.freed.length:Int)∧ZnC.at 22= .int .i64 v31) ⟨_,_,rfl,hS.only (.c k1 (.c k0 (.c k2 (.c k0 (.c k0 (.c k0 (.c k0 .n))))))),Y3⟩ ?_);clear hL hS;rintro Zai v31 s ZjQ hL ⟨ZnC,h25,rfl,hS,e27,e28,e29,e30,e32⟩;dsimp only [Zo0] at hL;refine r6 ?_;refine cn hL ?_ ?_
  ·intro hc hL;refine r6 ?_;obtain⟨x34,hx34,hL⟩:=bind_some hL;obtain⟨b35,o36,_,ZCj,ZCX,ZHD⟩:=Src.at_ (hS.Q7 k2) hx34;refine WO.w gN rfl (Z5 X9 Y4 lk lk rfl ZCj hx34) ?_;refine WO.w gN rfl (ZU Xj (Zt fh rfl) ZCX (j:=0) rfl (v:= .int .i64 x34) rfl) ?_;refine J8 ?_;refine r3 ?_;refine cn hL ?_ ?_
   ·intro hc hL;refine r8 ?_;refine r3 ?_;exact rt hL hT hS
   ·intro hc hL;refine r6 ?_;refine r1 ?_;exact YC.Yw (ZjQ _ _ hL ⟨_,_,rfl,hS.only (.c k0 (.c k0 (.c k0 (.c k0 (.c k0 (.c k0 (.c k0 .n))))))),Y3⟩)
  ·intro hc hL;refine J8 ?_;refine r3 ?_;obtain⟨x37,Zyn,hL⟩:=XI hL;refine WO.gcp (Zi.yes rfl rfl rfl fh) rfl (fun hg=>(Xd.fn ZB8 Zl)) (fun hg=>ZzH (Zyn hg)) ?_;refine r4 ?_;refine r1 ?_;exact rt hL hT hS
theorem ZDh {F:Nat} {h:H} {p0:Int} {p1:(List Zao)} {YP:Option Addr} {YO:Nat} {r:Bool} (Uf:Sl Zru h.size h YP YO p1) (hL:f7L F p0 p1=some r):Pure XX 7 #[.int .u8 p0,.slice YP p1.length YO] h (.bool r):=
 WR.QU rfl (ZDg (Nat.le_refl _) Uf hL)
end Go.Proofs.Ytekpjgmhkkjhgaa
end
end
section
end
section
namespace Go.Proofs.Ytekpjgmhkkjhgaa
abbrev CV:=Int ->Option Za
def Yn (cv:CV) (m:Int) (o:Option Za):CV:=fun a=>if a=m then o else cv a
def XY:Option Za ->Int | some c=>c.out | none=>0
def JY:Option Za ->Nat | some c=>if c.root=true then 1 else 0 | none=>0
def WJ (a:Int):Option Za ->Int | some c=>if c.from_=a then c.has else 0 | none=>0
def UJ (a:Int) (x:Zd):Int:=if(x.kind=1∧x.via=a)∨(x.kind=2∧x.Zv=a) then x.w else 0
def YG (a:Int) (x:Zd):Int:=if x.kind=3∧x.Zv=a then 16 else 0
def YF (f:Zd ->Int):List Zd ->Int | []=>0 | x::l=>f x + YF f l
def KP (f:Nat ->Int):Nat ->Int | 0=>0 | k + 1=>KP f k + f k
def JR:List Zd ->Nat | []=>0 | x::l=>(if x.kind=3 then 1 else 0) + JR l
def Jb (M:Nat) (cv:CV) (ns:List Zd) (a:Int):Int:=KP (fun m=>WJ a (cv m)) M + YF (UJ a) ns
def J4 (cv:CV) (ns:List Zd) (a:Int):Int:=XY (cv a) + YF (YG a) ns
theorem Xg (f:Zd ->Int) (l r:List Zd):YF f (l ++ r)=YF f l + YF f r:=by
 induction l with
 | nil=>simp [YF]
 | cons x l ih=>simp only [List.cons_append,YF,ih];omega
theorem ZaG (l r:List Zd):JR (l ++ r)=JR l + JR r:=by
 induction l with
 | nil=>simp [JR]
 | cons x l ih=>simp only [List.cons_append,JR,ih];omega
theorem Qf (f:Zd ->Int) (x:Zd):YF f [x]=f x:=by simp [YF]
theorem Zd8 (x:Zd):JR [x]=if x.kind=3 then 1 else 0:=by simp [JR]
theorem KR {f:Zd ->Int} {l:List Zd} (h:∀ x ∈ l,0 <=f x):0 <=YF f l:=by
 induction l with
 | nil=>simp [YF]
 | cons x l ih=>
   have:=h x (by simp);have:=ih fun y hy=>h y (by simp [hy])
   simp only [YF];omega
theorem Zuq {f:Zd ->Int} {l:List Zd} (h:∀ x ∈ l,0 <=f x) {x:Zd} (hx:x ∈ l):f x <=YF f l:=by
 induction l with
 | nil=>simp at hx
 | cons y l ih=>
   have h1:=h y (by simp);have h2:=KR fun z hz=>h z (List.mem_cons_of_mem _ hz)
   simp only [YF];rcases List.mem_cons.1 hx with rfl | hx
   ·omega
   ·have:=ih (fun z hz=>h z (List.mem_cons_of_mem _ hz)) hx;omega
theorem Zer {f:Zd ->Int} {l r:List Zd} (h:l.Perm r):YF f l=YF f r:=by
 induction h with
 | nil=>rfl
 | cons x _ ih=>simp only [YF,ih]
 | swap x y l=>simp only [YF];omega
 | trans _ _ i1 i2=>exact i1.trans i2
theorem Zqr {l r:List Zd} (h:l.Perm r):JR l=JR r:=by
 induction h with
 | nil=>rfl
 | cons x _ ih=>simp only [JR,ih]
 | swap x y l=>simp only [JR];omega
 | trans _ _ i1 i2=>exact i1.trans i2
theorem Zbw {f:Nat ->Int} {M:Nat} (h:∀ m,m < M ->0 <=f m):0 <=KP f M:=by
 induction M with
 | zero=>simp [KP]
 | succ M ih=>
   have:=h M (by omega);have:=ih fun m hm=>h m (by omega)
   simp only [KP];omega
theorem Zup {f:Nat ->Int} {M:Nat} (h:∀ m,m < M ->0 <=f m) {m:Nat} (hm:m < M):f m <=KP f M:=by
 induction M with
 | zero=>omega
 | succ M ih=>
   have h1:=h M (by omega);have h2:=Zbw fun m (hm:m < M)=>h m (by omega)
   simp only [KP];by_cases e:m=M
   ·subst e;omega
   ·have:=ih (fun m hm=>h m (by omega)) (by omega);omega
theorem ZmR {f g:Nat ->Int} {M:Nat} (h:∀ m,m < M ->f m=g m):KP f M=KP g M:=by
 induction M with
 | zero=>rfl
 | succ M ih=>simp only [KP];rw [ih fun m hm=>h m (by omega),h M (by omega)]
theorem Zq8 {f g:Nat ->Int} {M k:Nat} (hk:k < M) (h:∀ m,m < M ->m ≠ k ->f m=g m):KP f M=KP g M - g k + f k:=by
 induction M with
 | zero=>omega
 | succ M ih=>
   simp only [KP];by_cases e:k=M
   ·subst e;rw [ZmR fun m hm=>h m (by omega) (by omega)];omega
   ·rw [ih (by omega) (fun m hm hn=>h m (by omega) hn),h M (by omega) (fun z=>e z.symm)];omega
theorem ZdU {M:Nat} {cv:CV} {ns:List Zd} {m:Int} (h0:0 <=m) (h1:m < M) (o:Option Za) (a:Int):
 Jb M (Yn cv m o) ns a=Jb M cv ns a - WJ a (cv m) + WJ a o:=by
 unfold Jb;have hm:((m.toNat:Nat):Int)=m:=by omega
 rw [Zq8 (k:=m.toNat) (g:=fun k=>WJ a (cv k)) (by omega) (fun k hk hne=>by
  unfold Yn;rw [if_neg (by omega)])]
 have:Yn cv m o ((m.toNat:Nat):Int)=o:=by unfold Yn;rw [if_pos hm]
 rw [this,hm];omega
theorem U4 (cv:CV) (m:Int) (o:Option Za):Yn cv m o m=o:=by simp [Yn]
theorem KV {cv:CV} {m a:Int} {o:Option Za} (h:a ≠ m):Yn cv m o a=cv a:=by simp [Yn,h]
structure Nm (M:Nat) (n:Int) (cv:CV) (ns:List Zd) (h:Int):Prop where
 rng:∀ m c,cv m=some c ->0 <=m∧m < M
 nam:∀ m c,cv m=some c ->c.name=n
 cel:∀ m c,cv m=some c ->(c.root=false∧0 <=c.from_∧c.from_ < M∧c.from_ ≠ m∧1 <=c.has)∨(c.from_=-1∧c.has=0)
 nts:∀ x ∈ ns,(0 <=x.Zv∧x.Zv < M)∧x.name=n∧1 <=x.w∧((x.kind=1∧0 <=x.via∧x.via < M)∨(x.kind=2∧x.via=0)∨(x.kind=3∧x.via=0∧x.w=16∧x.Zv=h))
 hM:0 <=h∧h < M
 rt:∀ m c,cv m=some c ->c.root=true ->m=h
 one:JY (cv h) + JR ns=1
 acc:∀ a:Int,0 <=a ->a < M ->J4 cv ns a=Jb M cv ns a
 lead:∃ dep:Int ->Nat,∀ m c,cv m=some c ->m ≠ h ->0 <=c.from_∧(cv c.from_ ≠ none∨c.from_=h)∧dep c.from_ < dep m
theorem Nm.perm {M:Nat} {n:Int} {cv:CV} {ns ns':List Zd} {h:Int} (H:Nm M n cv ns h) (p:ns.Perm ns'):Nm M n cv ns' h:=
 {H with
  nts:=fun x hx=>H.nts x (p.mem_iff.2 hx)
  one:=by rw [← Zqr p];exact H.one
  acc:=fun a h0 h1=>by
   have:=H.acc a h0 h1;unfold J4 Jb at this ⊢;rw [← Zer p,← Zer p];exact this}
section
variable {M:Nat} {n:Int} {cv:CV} {ns:List Zd} {h:Int}
theorem Nm.ZbV (H:Nm M n cv ns h) {a:Int} (h0:0 <=a) (m:Int):0 <=WJ a (cv m):=by
 unfold WJ;cases e:cv m with
 | none=>simp
 | some c=>
   dsimp only;split
   ·rcases H.cel m c e with⟨_,_,_,_,h5⟩ | ⟨h1,h2⟩ <;> omega
   ·omega
theorem Nm.Za3 (H:Nm M n cv ns h) (a:Int):∀ x ∈ ns,0 <=UJ a x:=by
 intro x hx;have:= (H.nts x hx).2.2.1;unfold UJ;split <;> omega
theorem Ka (a:Int) (x:Zd):0 <=YG a x:=by unfold YG;split <;> omega
theorem Nm.Zcr (H:Nm M n cv ns h) {m:Int} {c:Za} (e:cv m=some c) (hf:0 <=c.from_):1 <=c.has∧c.has <=Jb M cv ns c.from_:=by
 have hr:=H.rng m c e;have hh:1 <=c.has:=by rcases H.cel m c e with⟨_,_,_,_,h5⟩ | ⟨h1,h2⟩ <;> omega
 refine⟨hh,?_⟩;have h1:=Zup (f:=fun k=>WJ c.from_ (cv k)) (M:=M) (fun k _=>H.ZbV hf k) (m:=m.toNat) (by omega);have h2:=KR (H.Za3 c.from_);have hm:((m.toNat:Nat):Int)=m:=by omega
 have h3:WJ c.from_ (cv ((m.toNat:Nat):Int))=c.has:=by rw [hm,e];simp [WJ]
 rw [h3] at h1;unfold Jb;omega
theorem Nm.Ur (H:Nm M n cv ns h) {a:Int} (h0:0 <=a) {x:Zd} (hx:x ∈ ns):UJ a x <=Jb M cv ns a:=by
 have h1:=Zbw (f:=fun k=>WJ a (cv k)) (M:=M) (fun k _=>H.ZbV h0 k);have h2:=Zuq (H.Za3 a) hx;unfold Jb;omega
theorem ZgG (H:∀ x ∈ ns,x.kind=3 ->x.Zv=h) (a:Int):YF (YG a) ns=if a=h then 16 * (JR ns:Int) else 0:=by
 induction ns with
 | nil=>simp [YF,JR]
 | cons x l ih=>
   have i:=ih fun y hy=>H y (by simp [hy])
   have hx:=H x (by simp);simp only [YF,JR];rw [i];unfold YG;by_cases h3:x.kind=3
   ·have:=hx h3;by_cases ha:a=h
    ·rw [if_pos ⟨h3,by omega⟩,if_pos ha,if_pos ha,if_pos h3];omega
    ·rw [if_neg (by omega),if_neg ha,if_neg ha];omega
   ·rw [if_neg (fun z=>h3 z.1),if_neg h3];split <;> omega
theorem Nm.giv (H:Nm M n cv ns h) (a:Int):J4 cv ns a=XY (cv a) + if a=h then 16 * (JR ns:Int) else 0:=by
 unfold J4;rw [ZgG (h:=h) (fun x hx h3=>by rcases(H.nts x hx).2.2.2 with z | z | z <;> omega)]
theorem Nm.ZlH (H:Nm M n cv ns h) {a:Int} (h0:0 <=a):0 <=Jb M cv ns a:=by
 have h1:=Zbw (f:=fun k=>WJ a (cv k)) (M:=M) (fun k _=>H.ZbV h0 k);have h2:=KR (H.Za3 a);unfold Jb;omega
theorem Nm.there (H:Nm M n cv ns h) {a:Int} (h0:0 <=a) (h1:a < M) (hp:1 <=Jb M cv ns a):cv a ≠ none∨a=h:=by
 have:=H.acc a h0 h1;rw [H.giv] at this;by_cases e:a=h
 ·exact .inr e
 ·rw [if_neg e] at this;refine .inl fun z=>?_
  rw [z] at this;simp [XY] at this;omega
theorem Nm.ZjC (H:Nm M n cv ns h) {m:Int} {c:Za} (e:cv m=some c):-16 <=c.out∧(m ≠ h ->0 <=c.out)∧(JR ns=0 ->0 <=c.out):=by
 have hr:=H.rng m c e;have h1:=H.acc m hr.1 hr.2;have h2:=H.ZlH hr.1;have h3:=H.one;rw [H.giv,e] at h1;simp only [XY] at h1;refine⟨?_,fun hm=>?_,fun hc=>?_⟩
 ·split at h1 <;> omega
 ·rw [if_neg hm] at h1;omega
 ·rw [hc] at h1;split at h1 <;> omega
theorem Nm.ZzP (H:Nm M n cv ns h):JR ns <=1:=by have:=H.one;omega
theorem Nm.U9 (H:Nm M n cv ns h) {m:Int} {c:Za} (h0:m=h∨∃ d,cv m=some d∧d.from_=c.from_):
 ∃ dep:Int ->Nat,∀ a d,Yn cv m (some c) a=some d ->a ≠ h ->0 <=d.from_∧(Yn cv m (some c) d.from_ ≠ none∨d.from_=h)∧dep d.from_ < dep a:=by
 obtain⟨dep,L⟩:=H.lead;refine⟨dep,fun a d hd ha=>?_⟩
 have key:∀ f:Int,(cv f ≠ none∨f=h) ->(Yn cv m (some c) f ≠ none∨f=h):=by
  intro f hf;unfold Yn;split
  ·exact .inl (by simp)
  ·exact hf
 unfold Yn at hd;split at hd
 ·rename_i e;cases hd;rcases h0 with z | ⟨d,z1,z2⟩
  ·exact absurd (e.trans z) ha
  ·obtain⟨l1,l2,l3⟩:=L m d z1 (by rw [← e];exact ha);rw [z2] at l1 l2 l3;exact⟨l1,key _ l2,by rw [e];exact l3⟩
 ·obtain⟨l1,l2,l3⟩:=L a d hd ha;exact⟨l1,key _ l2,l3⟩
end
end Go.Proofs.Ytekpjgmhkkjhgaa
end
section
namespace Go.Proofs.Ytekpjgmhkkjhgaa
def Zty (n:Int):Za:= ⟨n,false,-1,0,0,false⟩
section
variable {M:Nat} {n:Int} {cv:CV} {ns ns':List Zd} {h m:Int}
def Zbo (n:Int) (cv:CV) (m:Int):Za:= (cv m).getD (Zty n)
structure Lk (M:Nat) (n:Int) (cv:CV) (h m:Int) (c:Za):Prop where
 nam:c.name=n
 cel:(c.root=false∧0 <=c.from_∧c.from_ < M∧c.from_ ≠ m∧1 <=c.has)∨(c.from_=-1∧c.has=0)
 out:XY (cv m)=c.out
 has:∀ a,0 <=a ->WJ a (cv m)=WJ a (some c)
 root:JY (cv m)=JY (some c)
 rt:c.root=true ->m=h
 or:cv m=some c∨(cv m=none∧c.root=false∧c.from_=-1∧c.out=0∧c.use=false)
theorem Nm.look (H:Nm M n cv ns h) (m:Int):Lk M n cv h m (Zbo n cv m):=by
 unfold Zbo;cases e:cv m with
 | none=>
   refine⟨rfl,.inr ⟨rfl,rfl⟩,by rw [e];rfl,fun a ha=>?_,by rw [e];rfl,(fun z=>Bool.noConfusion z),.inr ⟨e,rfl,rfl,rfl,rfl⟩⟩;rw [e];show 0=if(-1:Int)=a then(0:Int) else 0
   split <;> rfl
 | some c=>
   refine⟨H.nam m c e,H.cel m c e,by rw [e];rfl,fun a ha=>by rw [e];rfl,by rw [e];rfl,H.rt m c e,.inl e⟩
theorem Nm.put (H:Nm M n cv ns h) (h0:0 <=m) (h1:m < M) {c:Za} (hn:c.name=n)
 (hc:(c.root=false∧0 <=c.from_∧c.from_ < M∧c.from_ ≠ m∧1 <=c.has)∨(c.from_=-1∧c.has=0))
 (hns:∀ x ∈ ns',(0 <=x.Zv∧x.Zv < M)∧x.name=n∧1 <=x.w∧((x.kind=1∧0 <=x.via∧x.via < M)∨(x.kind=2∧x.via=0)∨(x.kind=3∧x.via=0∧x.w=16∧x.Zv=h)))
 (hrt:c.root=true ->m=h) (hone:(if h=m then JY (some c) else JY (cv h)) + JR ns'=1)
 (hacc:∀ a:Int,0 <=a ->a < M ->(if a=m then c.out else XY (cv a)) + YF (YG a) ns' + WJ a (cv m) + YF (UJ a) ns=XY (cv a) + YF (YG a) ns + WJ a (some c) + YF (UJ a) ns')
 (hl:∃ dep:Int ->Nat,∀ a d,Yn cv m (some c) a=some d ->a ≠ h ->0 <=d.from_∧(Yn cv m (some c) d.from_ ≠ none∨d.from_=h)∧dep d.from_ < dep a):
 Nm M n (Yn cv m (some c)) ns' h where
 rng a d hd:=by
  unfold Yn at hd;split at hd
  ·subst_vars;omega
  ·exact H.rng a d hd
 nam a d hd:=by
  unfold Yn at hd;split at hd
  ·cases hd;exact hn
  ·exact H.nam a d hd
 cel a d hd:=by
  unfold Yn at hd;split at hd
  ·subst_vars;cases hd;exact hc
  ·exact H.cel a d hd
 nts:=hns
 hM:=H.hM
 rt a d hd hr:=by
  unfold Yn at hd;split at hd
  ·subst_vars;cases hd;exact hrt hr
  ·exact H.rt a d hd hr
 one:=by
  rw [← hone];unfold Yn;split <;> rfl
 acc a a0 a1:=by
  have q:=H.acc a a0 a1;have p:=hacc a a0 a1;rw [ZdU h0 h1];unfold J4 at q ⊢;unfold Jb at q ⊢;have:XY (Yn cv m (some c) a)=if a=m then c.out else XY (cv a):=by unfold Yn;split <;> rfl
  rw [this];omega
 lead:=hl
theorem Nm.tail (H:∀ x ∈ ns,(0 <=x.Zv∧x.Zv < M)∧x.name=n∧1 <=x.w∧((x.kind=1∧0 <=x.via∧x.via < M)∨(x.kind=2∧x.via=0)∨(x.kind=3∧x.via=0∧x.w=16∧x.Zv=h))) (hs:∀ x ∈ ns',x ∈ ns):∀ x ∈ ns',(0 <=x.Zv∧x.Zv < M)∧x.name=n∧1 <=x.w∧((x.kind=1∧0 <=x.via∧x.via < M)∨(x.kind=2∧x.via=0)∨(x.kind=3∧x.via=0∧x.w=16∧x.Zv=h)):=fun x hx=>H x (hs x hx)
theorem Wo {x:Zd} (k:x.kind=1) (a:Int):YG a x=0:=by unfold YG;rw [if_neg (by omega)]
theorem Zcn {x:Zd} (k:x.kind=2) (a:Int):YG a x=0:=by unfold YG;rw [if_neg (by omega)]
theorem Zgf {x:Zd} (k:x.kind=3) (a:Int):YG a x=if x.Zv=a then 16 else 0:=by
 unfold YG;by_cases e:x.Zv=a
 ·rw [if_pos ⟨k,e⟩,if_pos e]
 ·rw [if_neg (fun z=>e z.2),if_neg e]
theorem Wn {x:Zd} (k:x.kind=1) (a:Int):UJ a x=if x.via=a then x.w else 0:=by
 unfold UJ;by_cases e:x.via=a
 ·rw [if_pos (.inl ⟨k,e⟩),if_pos e]
 ·rw [if_neg (by rintro(z | z) <;> omega),if_neg e]
theorem Za4 {x:Zd} (k:x.kind=2) (a:Int):UJ a x=if x.Zv=a then x.w else 0:=by
 unfold UJ;by_cases e:x.Zv=a
 ·rw [if_pos (.inr ⟨k,e⟩),if_pos e]
 ·rw [if_neg (by rintro(z | z) <;> omega),if_neg e]
theorem ZoB {x:Zd} (k:x.kind=3) (a:Int):UJ a x=0:=by
 unfold UJ;rw [if_neg (by rintro(z | z) <;> omega)]
theorem cnt1 {x:Zd} {l:List Zd} (k:¬ x.kind=3):JR (x::l)=JR l:=by simp only [JR,if_neg k];omega
theorem Qd (a:Int) (c:Za):WJ a (some c)=if c.from_=a then c.has else 0:=rfl
theorem Nm.use (H:Nm M n cv ns h) {c:Za} (e:cv m=some c) (u:Bool):Nm M n (Yn cv m (some ⟨c.name,c.root,c.from_,c.has,c.out,u⟩)) ns h:=by
 have hr:=H.rng m c e;refine H.put hr.1 hr.2 (by exact H.nam m c e) (by exact H.cel m c e) H.nts (by exact H.rt m c e) ?_ (fun a a0 a1=>?_) (H.U9 (.inr ⟨c,e,rfl⟩))
 ·rw [← H.one];by_cases z:h=m
  ·rw [if_pos z,z,e];rfl
  ·rw [if_neg z]
 ·rw [e];by_cases z:a=m
  ·rw [if_pos z,z,e];simp only [XY,Qd]
  ·rw [if_neg z];simp only [Qd]
theorem Nm.ZsN {x:Zd} (H:Nm M n cv (x::ns) h) (k:x.kind=1) {c:Za} (L:Lk M n cv h x.Zv c) (hr:c.root=false) (hf:c.from_=-1) (hv:x.via ≠ x.Zv) (u:Bool):
 Nm M n (Yn cv x.Zv (some ⟨c.name,c.root,x.via,x.w,c.out,u⟩)) ns h:=by
 have hx:=H.nts x (by simp);have hvr:0 <=x.via∧x.via < M:=by rcases hx.2.2.2 with z | z | z <;> omega
 have hh:=H.Ur hvr.1 (x:=x) (by simp);rw [Wn k,if_pos rfl] at hh;have ht:=H.there hvr.1 hvr.2 (by omega);refine H.put hx.1.1 hx.1.2 L.nam (.inl ⟨hr,hvr.1,hvr.2,hv,hx.2.2.1⟩) (Nm.tail H.nts (by simp_all)) (by rw [hr];simp) ?_ (fun a a0 a1=>?_) ?_
 ·have o:=H.one;rw [cnt1 (by omega)] at o;have:JY (some (Za.mk c.name c.root x.via x.w c.out u))=JY (some c):=rfl;rw [this];by_cases z:h=x.Zv
  ·rw [if_pos z,← L.root,← z];omega
  ·rw [if_neg z];omega
 ·rw [L.has a a0];simp only [YF,Wo k,Wn k,Qd,hf];rw [if_neg (by omega:¬ (-1:Int)=a)];by_cases z:a=x.Zv
  ·rw [if_pos z,z,L.out];omega
  ·rw [if_neg z];omega
 ·by_cases z:x.Zv=h
  ·exact H.U9 (.inl z)
  ·obtain⟨dep,l⟩:=H.lead;rcases L.or with e | ⟨e,_⟩
   ·obtain⟨l1,_⟩:=l _ c e z;omega
   refine⟨fun a=>if a=x.Zv then dep x.via + 1 else dep a,fun a d hd ha=>?_⟩;dsimp only;unfold Yn at hd;split at hd
   ·rename_i ea;cases hd;refine⟨hvr.1,?_,?_⟩
    ·show Yn cv x.Zv _ x.via ≠ none∨x.via=h;rw [KV hv];exact ht
    ·show(if x.via=x.Zv then _ else dep x.via) < _;rw [if_pos ea,if_neg hv];omega
   ·rename_i ea;obtain⟨l1,l2,l3⟩:=l a d hd ha
    have hne:d.from_ ≠ x.Zv:=by
     intro w;rw [w] at l2;rcases l2 with q | q
     ·exact q e
     ·exact z q
    rw [if_neg hne,if_neg ea,KV hne];exact⟨l1,l2,l3⟩
theorem Nm.Zp4 {x:Zd} (H:Nm M n cv (x::ns) h) (k:x.kind=1) {c:Za} (L:Lk M n cv h x.Zv c) (hf:0 <=c.from_) (hv:c.from_=x.via) (u:Bool):
 Nm M n (Yn cv x.Zv (some ⟨c.name,c.root,c.from_,c.has + x.w,c.out,u⟩)) ns h:=by
 have hx:=H.nts x (by simp);have hce:cv x.Zv=some c:=by rcases L.or with e | ⟨_,_,e,_⟩;exact e;omega
 have Zp1:c.root=false∧0 <=c.from_∧c.from_ < M∧c.from_ ≠ x.Zv∧1 <=c.has:=by rcases L.cel with z | z;exact z;omega
 refine H.put hx.1.1 hx.1.2 L.nam (.inl ⟨Zp1.1,Zp1.2.1,Zp1.2.2.1,Zp1.2.2.2.1,?_⟩) (Nm.tail H.nts (by simp_all)) L.rt ?_ (fun a a0 a1=>?_) (H.U9 (.inr ⟨c,hce,rfl⟩))
 ·show 1 <=c.has + x.w;omega
 ·have o:=H.one;rw [cnt1 (by omega)] at o;have:JY (some (Za.mk c.name c.root c.from_ (c.has + x.w) c.out u))=JY (some c):=rfl;rw [this];by_cases z:h=x.Zv
  ·rw [if_pos z,← L.root,← z];omega
  ·rw [if_neg z];omega
 ·rw [L.has a a0];simp only [YF,Wo k,Wn k,Qd,hv];by_cases z:a=x.Zv
  ·rw [if_pos z,z,L.out];split <;> omega
  ·rw [if_neg z];split <;> omega
theorem Nm.Zp5 {x y:Zd} (H:Nm M n cv (x::ns) h) (k:x.kind=1) (hy:y= ⟨2,x.via,n,0,x.w⟩):Nm M n cv (ns ++ [y]) h:=by
 have hx:=H.nts x (by simp);have hvr:0 <=x.via∧x.via < M:=by rcases hx.2.2.2 with z | z | z <;> omega
 refine{H with nts:=fun z hz=>?_,one:= ?_,acc:=fun a a0 a1=>?_}
 ·rcases List.mem_append.1 hz with q | q
  ·exact H.nts z (by simp [q])
  ·rw [List.mem_singleton.1 q,hy];exact⟨hvr,rfl,hx.2.2.1,.inr (.inl ⟨rfl,rfl⟩)⟩
 ·have o:=H.one;rw [cnt1 (by omega)] at o;rw [ZaG,Zd8,hy];simp;omega
 ·have q:=H.acc a a0 a1;unfold J4 Jb at q ⊢;simp only [YF,Wo k,Wn k] at q;have h2:y.kind=2:=by rw [hy]
  rw [Xg,Xg,Qf,Qf,Zcn h2,Za4 h2,hy];dsimp only;omega
theorem Nm.ZiX {x:Zd} (H:Nm M n cv (x::ns) h) (k:(x.kind=1∧x.via=x.Zv)∨x.kind=2) {c:Za} (L:Lk M n cv h x.Zv c) (u:Bool):
 Nm M n (Yn cv x.Zv (some ⟨c.name,c.root,c.from_,c.has,c.out - x.w,u⟩)) ns h:=by
 have hx:=H.nts x (by simp);have hh:=H.Ur hx.1.1 (x:=x) (by simp)
 have hH:∀ a,UJ a x=if x.Zv=a then x.w else 0:=by
  intro a;rcases k with⟨k,v⟩ | k
  ·rw [Wn k,v]
  ·exact Za4 k a
 have hG:∀ a,YG a x=0:=by
  intro a;rcases k with⟨k,v⟩ | k
  ·exact Wo k a
  ·exact Zcn k a
 have hk3:¬ x.kind=3:=by omega
 rw [hH,if_pos rfl] at hh;have ht:=H.there hx.1.1 hx.1.2 (by omega);refine H.put hx.1.1 hx.1.2 L.nam (by exact L.cel) (Nm.tail H.nts (by simp_all)) (by exact L.rt) ?_ (fun a a0 a1=>?_) ?_
 ·have o:=H.one;rw [cnt1 hk3] at o;have:JY (some (Za.mk c.name c.root c.from_ c.has (c.out - x.w) u))=JY (some c):=rfl;rw [this];by_cases z:h=x.Zv
  ·rw [if_pos z,← L.root,← z];omega
  ·rw [if_neg z];omega
 ·rw [L.has a a0];simp only [YF,hG,hH,Qd];by_cases z:a=x.Zv
  ·rw [if_pos z,z,L.out,if_pos rfl];omega
  ·rw [if_neg z,if_neg (by omega:¬ x.Zv=a)];omega
 ·refine H.U9 ?_;rcases L.or with e | ⟨e,_⟩
  ·exact .inr ⟨c,e,rfl⟩
  ·rcases ht with z | z
   ·exact absurd e z
   ·exact .inl z
theorem Nm.home {x:Zd} (H:Nm M n cv (x::ns) h) (k:x.kind=3) {c:Za} (L:Lk M n cv h x.Zv c) (u:Bool) {ys:List Zd}
 (hy:ys=if 0 <=c.from_ then [⟨2,c.from_,n,0,c.has⟩] else []):
 Nm M n (Yn cv x.Zv (some ⟨c.name,true,-1,0,c.out + 16,u⟩)) (ns ++ ys) h:=by
 have hx:=H.nts x (by simp);have hh:x.Zv=h:=by rcases hx.2.2.2 with z | z | z <;> omega
 have o:=H.one;simp only [JR,k,if_true] at o;refine H.put hx.1.1 hx.1.2 L.nam (.inr ⟨rfl,rfl⟩) ?_ (fun _=>hh) ?_ (fun a a0 a1=>?_) (H.U9 (.inl hh))
 ·intro z hz;rcases List.mem_append.1 hz with q | q
  ·exact H.nts z (by simp [q])
  ·rw [hy] at q;split at q
   ·rename_i hf;rw [List.mem_singleton.1 q];rcases L.cel with w | w
    ·exact⟨⟨w.2.1,w.2.2.1⟩,rfl,w.2.2.2.2,.inr (.inl ⟨rfl,rfl⟩)⟩
    ·omega
   ·simp at q
 ·rw [if_pos hh.symm,ZaG,show JY (some (Za.mk c.name true (-1) 0 (c.out + 16) u))=1 from rfl];have:JR ys=0:=by rw [hy];split <;> simp [JR]
  omega
 ·rw [L.has a a0];have hG:YF (YG a) ys=0:=by rw [hy];split <;> simp [YF,YG]
  have hH:YF (UJ a) ys=if c.from_=a then c.has else 0:=by
   rw [hy];by_cases hf:0 <=c.from_
   ·rw [if_pos hf,Qf,Za4 rfl]
   ·rw [if_neg hf,if_neg (by omega)];rfl
  rw [Xg,Xg,hG,hH];simp only [YF,Zgf k,ZoB k,Qd];rw [if_neg (by omega:¬ (-1:Int)=a)];by_cases z:a=x.Zv
  ·rw [if_pos z,z,L.out,if_pos rfl];omega
  ·rw [if_neg z,if_neg (by omega:¬ x.Zv=a)];omega
theorem Nm.gone (H:Nm M n cv ns h) {c:Za} (e:cv m=some c) (ho:c.out=0) (hr:c.root=false) {ys:List Zd}
 (hy:ys=if 0 <=c.from_ then [⟨2,c.from_,n,0,c.has⟩] else []):Nm M n (Yn cv m none) (ns ++ ys) h:=by
 have hm:=H.rng m c e;have Zp1:=H.cel m c e;have hG:∀ a,YF (YG a) ys=0:=by intro a;rw [hy];split <;> simp [YF,YG]
 have hH:∀ a,0 <=a ->YF (UJ a) ys=WJ a (some c):=by
  intro a a0;rw [hy,Qd];by_cases hf:0 <=c.from_
  ·rw [if_pos hf,Qf,Za4 rfl]
  ·rw [if_neg hf,if_neg (by omega)];rfl
 refine⟨?_,?_,?_,?_,H.hM,?_,?_,?_,?_⟩
 ·intro a d hd;unfold Yn at hd;split at hd
  ·cases hd
  ·exact H.rng a d hd
 ·intro a d hd;unfold Yn at hd;split at hd
  ·cases hd
  ·exact H.nam a d hd
 ·intro a d hd;unfold Yn at hd;split at hd
  ·cases hd
  ·exact H.cel a d hd
 ·intro z hz;rcases List.mem_append.1 hz with q | q
  ·exact H.nts z q
  ·rw [hy] at q;split at q
   ·rename_i hf;rw [List.mem_singleton.1 q];rcases Zp1 with w | w
    ·exact⟨⟨w.2.1,w.2.2.1⟩,rfl,w.2.2.2.2,.inr (.inl ⟨rfl,rfl⟩)⟩
    ·omega
   ·simp at q
 ·intro a d hd;unfold Yn at hd;split at hd
  ·cases hd
  ·exact H.rt a d hd
 ·have o:=H.one;have:JR ys=0:=by rw [hy];split <;> simp [JR]
  rw [ZaG,this]
  have:JY (Yn cv m none h)=JY (cv h):=by
   unfold Yn;split
   ·rename_i z;rw [z,e];simp [JY,hr]
   ·rfl
  rw [this];omega
 ·intro a a0 a1;have q:=H.acc a a0 a1;rw [ZdU hm.1 hm.2,e];unfold J4 Jb at *;rw [Xg,Xg,hG,hH a a0]
  have:XY (Yn cv m none a)=XY (cv a):=by
   unfold Yn;split
   ·rename_i z;rw [z,e];simp [XY,ho]
   ·rfl
  rw [this];simp only [Qd] at *;have:WJ a none=0:=rfl;omega
 ·obtain⟨dep,l⟩:=H.lead;refine⟨dep,fun a d hd ha=>?_⟩;unfold Yn at hd;split at hd
  ·cases hd
  ·obtain⟨l1,l2,l3⟩:=l a d hd ha;refine⟨l1,?_,l3⟩;by_cases z:d.from_=m
   ·by_cases zh:m=h
    ·exact .inr (z.trans zh)
    ·exfalso;have q:=H.Zcr hd l1;rw [z] at q;have p:=H.acc m hm.1 hm.2;rw [H.giv,if_neg zh,e] at p;simp only [XY] at p;omega
   ·rw [KV z];exact l2
theorem Nm.last (H:Nm M n cv ns h) {c:Za} (e:cv m=some c) (ho:c.out=0) (hr:c.root=true):(∀ a,a ≠ m ->cv a=none)∧ns= []:=by
 have hmh:=H.rt m c e hr;subst hmh;have o:=H.one;rw [e] at o;have h0:JR ns=0:=by simp only [JY,hr,if_true] at o;omega
 have hz:Jb M cv ns m=0:=by
  rw [← H.acc m H.hM.1 H.hM.2,H.giv,if_pos rfl,e,h0];simp [XY,ho]
 obtain⟨dep,l⟩:=H.lead
 have key:∀ k a,dep a <=k ->a ≠ m ->cv a=none:=by
  intro k
  induction k with
  | zero=>
    intro a hk ha;cases ec:cv a with
    | none=>rfl
    | some d=>have:=l a d ec ha;omega
  | succ k ih=>
    intro a hk ha;cases ec:cv a with
    | none=>rfl
    | some d=>
      exfalso;obtain⟨l1,l2,l3⟩:=l a d ec ha;by_cases z:d.from_=m
      ·have:=H.Zcr ec l1;rw [z] at this;omega
      ·rcases l2 with l2 | l2
       ·exact l2 (ih _ (by omega) z)
       ·exact z l2
 have k1:∀ a,a ≠ m ->cv a=none:=fun a ha=>key (dep a) a (Nat.le_refl _) ha
 refine⟨k1,?_⟩;cases ns with
 | nil=>rfl
 | cons x l'=>
   exfalso;have hx:=H.nts x (by simp)
   have hk3:¬ x.kind=3:=by
    intro z;simp only [JR,z,if_true] at h0;omega
   have hbad:∀ a:Int,0 <=a ->a < M ->1 <=Jb M cv (x::l') a ->False:=by
    intro a a0 a1 hp;by_cases z:a=m
    ·rw [z] at hp;omega
    ·have:=H.acc a a0 a1;rw [H.giv,if_neg z,k1 a z] at this;simp only [XY] at this;omega
   rcases hx.2.2.2 with z | z | z
   ·have:=H.Ur z.2.1 (x:=x) (by simp);rw [Wn z.1,if_pos rfl] at this;exact hbad _ z.2.1 z.2.2 (by omega)
   ·have:=H.Ur hx.1.1 (x:=x) (by simp);rw [Za4 z.1,if_pos rfl] at this;exact hbad _ hx.1.1 hx.1.2 (by omega)
   ·exact hk3 z.1
theorem Nm.Zuw (H:Nm M n cv ns h) {c:Za} (e:cv m=some c) (hf:0 <=c.from_) {t w:Int} (ht:0 <=t∧t < M) (h1:1 <=w) (h2:w < c.has) {y:Zd} (hy:y= ⟨1,t,n,c.from_,w⟩):
 Nm M n (Yn cv m (some ⟨c.name,c.root,c.from_,c.has - w,c.out,c.use⟩)) (ns ++ [y]) h:=by
 have hm:=H.rng m c e;have hc:c.root=false∧0 <=c.from_∧c.from_ < M∧c.from_ ≠ m∧1 <=c.has:=by rcases H.cel m c e with z | z;exact z;omega
 have ky:y.kind=1:=by rw [hy]
 refine H.put hm.1 hm.2 (by exact H.nam m c e) (.inl ⟨hc.1,hc.2.1,hc.2.2.1,hc.2.2.2.1,by show 1 <=c.has - w;omega⟩) ?_ (by exact H.rt m c e) ?_ (fun a a0 a1=>?_) (H.U9 (.inr ⟨c,e,rfl⟩))
 ·intro z hz;rcases List.mem_append.1 hz with q | q
  ·exact H.nts z q
  ·rw [List.mem_singleton.1 q,hy];exact⟨ht,rfl,h1,.inl ⟨rfl,hc.2.1,hc.2.2.1⟩⟩
 ·have o:=H.one;rw [ZaG,Zd8,ky,← o];by_cases z:h=m
  ·rw [if_pos z,z,e];rfl
  ·rw [if_neg z];simp
 ·rw [e,Xg,Xg,Qf,Qf,Wo ky,Wn ky,hy];simp only [Qd];by_cases z:a=m
  ·rw [if_pos z,z,e];simp only [XY];split <;> omega
  ·rw [if_neg z];split <;> omega
theorem Nm.Zuy (H:Nm M n cv ns h) {c:Za} (e:cv m=some c) {t w:Int} (ht:0 <=t∧t < M) (h1:1 <=w) {y:Zd} (hy:y= ⟨1,t,n,m,w⟩):
 Nm M n (Yn cv m (some ⟨c.name,c.root,c.from_,c.has,c.out + w,c.use⟩)) (ns ++ [y]) h:=by
 have hm:=H.rng m c e;have ky:y.kind=1:=by rw [hy]
 refine H.put hm.1 hm.2 (by exact H.nam m c e) (by exact H.cel m c e) ?_ (by exact H.rt m c e) ?_ (fun a a0 a1=>?_) (H.U9 (.inr ⟨c,e,rfl⟩))
 ·intro z hz;rcases List.mem_append.1 hz with q | q
  ·exact H.nts z q
  ·rw [List.mem_singleton.1 q,hy];exact⟨ht,rfl,h1,.inl ⟨rfl,hm⟩⟩
 ·have o:=H.one;rw [ZaG,Zd8,ky,← o];by_cases z:h=m
  ·rw [if_pos z,z,e];rfl
  ·rw [if_neg z];simp
 ·rw [e,Xg,Xg,Qf,Qf,Wo ky,Wn ky,hy];simp only [Qd];by_cases z:a=m
  ·rw [if_pos z,z,e,if_pos rfl];simp only [XY];omega
  ·rw [if_neg z,if_neg (by omega:¬ m=a)];omega
theorem Nm.go (H:Nm M n cv ns h) {c:Za} (e:cv m=some c) (hr:c.root=true) {t:Int} (ht:0 <=t∧t < M) (hne:t ≠ m) {y:Zd} (hy:y= ⟨3,t,n,0,16⟩):
 Nm M n (Yn cv m (some ⟨c.name,false,t,16,c.out,c.use⟩)) (ns ++ [y]) t:=by
 have hm:=H.rng m c e;have hmh:=H.rt m c e hr;subst hmh;have hc:c.from_=-1∧c.has=0:=by rcases H.cel m c e with z | z;exact absurd hr (by simp [z.1]);exact z
 have ky:y.kind=3:=by rw [hy]
 have o:=H.one;rw [e] at o;have h0:JR ns=0:=by simp only [JY,hr,if_true] at o;omega
 have no3:∀ x ∈ ns,¬ x.kind=3:=by
  intro x hx z
  have:∀ l:List Zd,x ∈ l ->1 <=JR l:=by
   intro l
   induction l with
   | nil=>simp
   | cons w l ih=>
     intro q;simp only [JR];rcases List.mem_cons.1 q with rfl | q
     ·rw [if_pos z];omega
     ·have:=ih q;omega
  have:=this ns hx;omega
 refine⟨?_,?_,?_,?_,ht,?_,?_,?_,?_⟩
 ·intro a d hd;unfold Yn at hd;split at hd
  ·subst_vars;exact hm
  ·exact H.rng a d hd
 ·intro a d hd;unfold Yn at hd;split at hd
  ·cases hd;exact H.nam m c e
  ·exact H.nam a d hd
 ·intro a d hd;unfold Yn at hd;split at hd
  ·subst_vars;cases hd;exact .inl ⟨rfl,ht.1,ht.2,hne,by show(1:Int) <=16;omega⟩
  ·exact H.cel a d hd
 ·intro z hz;rcases List.mem_append.1 hz with q | q
  ·have:=H.nts z q;refine⟨this.1,this.2.1,this.2.2.1,?_⟩;rcases this.2.2.2 with w | w | w
   ·exact .inl w
   ·exact .inr (.inl w)
   ·exact absurd w.1 (no3 z q)
  ·rw [List.mem_singleton.1 q,hy];exact⟨ht,rfl,by show(1:Int) <=16;omega,.inr (.inr ⟨rfl,rfl,rfl,rfl⟩)⟩
 ·intro a d hd hrd;unfold Yn at hd;split at hd
  ·cases hd;cases hrd
  ·rename_i z;exact absurd (H.rt a d hd hrd) z
 ·rw [ZaG,Zd8,if_pos ky,KV hne,h0]
  have:JY (cv t)=0:=by
   cases ec:cv t with
   | none=>rfl
   | some d=>
     show(if d.root=true then 1 else 0)=0;by_cases z:d.root=true
     ·exact absurd (H.rt t d ec z) hne
     ·rw [if_neg z]
  omega
 ·intro a a0 a1;have q:=H.acc a a0 a1;rw [ZdU hm.1 hm.2,e];unfold J4 Jb at *;rw [Xg,Xg,Qf,Qf,Zgf ky,ZoB ky,hy];simp only [Qd,hc.1,hc.2] at *
  have:XY (Yn cv m (some ⟨c.name,false,t,16,c.out,c.use⟩) a)=XY (cv a):=by
   unfold Yn;split
   ·rename_i z;rw [z,e];rfl
   ·rfl
  rw [this];rw [if_neg (by omega:¬ (-1:Int)=a)];omega
 ·obtain⟨dep,l⟩:=H.lead;refine⟨fun a=>if a=t then 0 else dep a + 1,fun a d hd ha=>?_⟩;dsimp only;rw [if_neg ha];unfold Yn at hd;split at hd
  ·cases hd;dsimp only;rw [if_pos rfl];exact⟨ht.1,.inr rfl,by omega⟩
  ·rename_i z;obtain⟨l1,l2,l3⟩:=l a d hd z;refine⟨l1,?_,?_⟩
   ·by_cases q:d.from_=m
    ·rw [q,U4];exact .inl (by simp)
    ·rw [KV q];rcases l2 with l2 | l2
     ·exact .inl l2
     ·exact absurd l2 q
   ·split <;> omega
theorem Nm.fresh (hm:0 <=m∧m < M):Nm M n (Yn (fun _=>none) m (some ⟨n,true,-1,0,0,true⟩)) [] m where
 rng a d hd:=by
  unfold Yn at hd;split at hd
  ·subst_vars;exact hm
  ·cases hd
 nam a d hd:=by
  unfold Yn at hd;split at hd
  ·cases hd;rfl
  ·cases hd
 cel a d hd:=by
  unfold Yn at hd;split at hd
  ·cases hd;exact .inr ⟨rfl,rfl⟩
  ·cases hd
 nts x hx:=by simp at hx
 hM:=hm
 rt a d hd _:=by
  unfold Yn at hd;split at hd
  ·assumption
  ·cases hd
 one:=by rw [U4];rfl
 acc a a0 a1:=by
  rw [ZdU hm.1 hm.2];unfold J4 Jb
  have:KP (fun m=>WJ a none) M=0:=by
   have:∀ k,KP (fun m=>WJ a none) k=0:=by
    intro k;induction k with
    | zero=>rfl
    | succ k ih=>simp only [KP,ih];rfl
   exact this M
  rw [this]
  have:XY (Yn (fun _=>none) m (some ⟨n,true,-1,0,0,true⟩) a)=0:=by
   unfold Yn;split <;> rfl
  rw [this,Qd];simp [YF,WJ]
 lead:= ⟨fun _=>0,fun a d hd ha=>by
  unfold Yn at hd;split at hd
  ·rename_i z;exact absurd z ha
  ·cases hd⟩
end
end Go.Proofs.Ytekpjgmhkkjhgaa
end
section
namespace Go.Lf
theorem ZgC (n:Int):ZK n=Int.bmod n 18446744073709551616:=by
 unfold ZK Go.IntKind.wrap;have e1:(2 ^ IntKind.i64.bits:Int)=18446744073709551616:=by decide
 have e2:(2 ^ (IntKind.i64.bits - 1):Int)=9223372036854775808:=by decide
 have e3:IntKind.i64.signed=true:=rfl;rw [e1,e2,e3];dsimp only;unfold Int.bmod;have:=Int.emod_nonneg n (b:=18446744073709551616) (by decide);have:=Int.emod_lt_of_pos n (b:=18446744073709551616) (by decide);simp;split <;> split <;> omega
theorem Zjr (a b:Int):ZK (ZK a + b)=ZK (a + b):=by
 rw [ZgC,ZgC,ZgC];simp
theorem XD {k:Nat} (h:k < 4611686018427387904):ZK ((k:Int) + 1)= ((k + 1:Nat):Int):=by
 rw [YJ (by omega) (by omega)];rfl
theorem Zk9 {k:Nat} (h:k < 4611686018427387904) (h0:0 < k):ZK ((k:Int) - 1)= ((k - 1:Nat):Int):=by
 rw [YJ (by omega) (by omega)];omega
theorem XM {α:Type} {JO:Nat} {xs ys:List α} (h:xs.length + ys.length <=1000000) (hb:JO <=1000):app JO xs ys=some (xs ++ ys):=
 ZtH (Nat.le_trans (Nat.mul_le_mul (show 2 * (xs.length + ys.length) + 1000 <=2001000 by omega) hb) (by decide))
def iter {α β σ:Type} (g:Nat ->α ->σ ->(σ ->Option β) ->Option β) (d:σ ->Option β):Nat ->List α ->σ ->Option β
 | _,[],s=>d s
 | i,x::l,s=>g i x s (fun s'=>iter g d (i + 1) l s')
theorem Xa {α β σ γ:Type} (l:List α) (mk:Int ->σ ->γ) (body:γ ->(γ ->Option β) ->Option β) (g:Nat ->α ->σ ->(σ ->Option β) ->Option β) (d:σ ->Option β)
 (hl:l.length < 4611686018427387904)
 (hb:∀ (k:Nat) x s next,l[k]? =some x ->((k:Int) < (l.length:Int)) ->body (mk k s) next=g k x s (fun s'=>next (mk (ZK (k + 1)) s')))
 (he:∀ s next,body (mk l.length s) next=d s) {F:Nat} (hF:l.length < F) (s:σ):loop F body (mk 0 s)=iter g d 0 l s:=by
 have key:∀ (m k F:Nat) s,k + m=l.length ->m < F ->loop F body (mk k s)=iter g d k (l.drop k) s:=by
  intro m
  induction m with
  | zero=>
    intro k F s hk hF;obtain⟨F,rfl⟩:=Nat.exists_eq_succ_of_ne_zero (n:=F) (by omega);have:k=l.length:=by omega
    subst this;rw [Yx,he,List.drop_length];rfl
  | succ m ih=>
    intro k F s hk hF;obtain⟨F,rfl⟩:=Nat.exists_eq_succ_of_ne_zero (n:=F) (by omega);have hlt:k < l.length:=by omega
    rw [Yx,hb k l[k] s _ (by simp [hlt]) (by omega),List.drop_eq_getElem_cons hlt,iter];congr 1;funext s';rw [XD (by omega)];exact ih (k + 1) F s' (by omega) (by omega)
 have:=key l.length 0 F s (by omega) (by omega)
 simpa using this
theorem Za9 {β σ γ:Type} (n:Nat) (mk:Int ->σ ->γ) (body:γ ->(γ ->Option β) ->Option β) (g:Nat ->σ ->(σ ->Option β) ->Option β) (d:σ ->Option β)
 (hl:n < 4611686018427387904)
 (hb:∀ (k:Nat) s next,k < n ->body (mk k s) next=g k s (fun s'=>next (mk (ZK (k + 1)) s')))
 (he:∀ s next,body (mk n s) next=d s) {F:Nat} (hF:n < F) (s:σ):loop F body (mk 0 s)=iter (fun _ k s next=>g k s next) d 0 (List.range n) s:=by
 refine Xa (List.range n) mk body (fun _ k s next=>g k s next) d (by simpa using hl) (fun k x s next hx hk=>?_) (by simpa using he) (by simpa using hF) s;rw [List.length_range] at hk
 have:x=k:=by
  rw [List.getElem?_range (by omega)] at hx
  simpa using hx.symm
 subst this;exact hb _ s next (by omega)
def anyI {α:Type} (c:Nat ->α ->Bool):Nat ->List α ->Bool
 | _,[]=>false
 | i,x::l=>c i x || anyI c (i + 1) l
theorem Zb8 {α:Type} {c:Nat ->α ->Bool}:∀ {l:List α} {i:Nat},anyI c i l=true↔∃ j x,l[j]? =some x∧c (i + j) x=true
 | [],i=>by simp [anyI]
 | y::l,i=>by
   unfold anyI;rw [Bool.or_eq_true,Zb8 (l:=l)]
   constructor
   ·rintro(h | ⟨j,x,h1,h2⟩)
    ·exact⟨0,y,rfl,h⟩
    ·exact⟨j + 1,x,h1,by rw [← h2];congr 1;omega⟩
   ·rintro⟨j,x,h1,h2⟩;cases j with
    | zero=>simp at h1;subst h1;exact .inl h2
    | succ j=>exact .inr ⟨j,x,by simpa using h1,by rw [← h2];congr 1;omega⟩
theorem Zef {α:Type} (c:α ->Bool) (l:List α) (i:Nat):anyI (fun _ x=>c x) i l=l.any c:=by
 induction l generalizing i with
 | nil=>rfl
 | cons x l ih=>unfold anyI;rw [ih];rfl
theorem KA {α β σ:Type} {g:Nat ->α ->σ ->(σ ->Option β) ->Option β} {d:σ ->Option β} {r:Option β} (c:Nat ->α ->Bool) {l:List α} {i:Nat} {s:σ}
 (hg:∀ k x next,l[k]? =some x ->g (i + k) x s next=bif c (i + k) x then r else next s):iter g d i l s=bif anyI c i l then r else d s:=by
 induction l generalizing i with
 | nil=>rfl
 | cons x l ih=>
   unfold iter anyI;have:=hg 0 x (fun s'=>iter g d (i + 1) l s') rfl;rw [Nat.add_zero] at this;rw [this];cases c i x
   ·rw [cond_false,Bool.false_or];exact ih (fun k y next hy=>by rw [show i + 1 + k=i + (k + 1) by omega];exact hg (k + 1) y next (by simpa using hy))
   ·rfl
def foldI {α σ:Type} (f:Nat ->α ->σ ->σ):Nat ->List α ->σ ->σ
 | _,[],s=>s
 | i,x::l,s=>foldI f (i + 1) l (f i x s)
theorem JG {α β σ:Type} {g:Nat ->α ->σ ->(σ ->Option β) ->Option β} {d:σ ->Option β} (f:Nat ->α ->σ ->σ) (I:Nat ->σ ->Prop) {l:List α} {i:Nat} {s:σ} (h0:I i s)
 (hg:∀ k x s next,l[k]? =some x ->I (i + k) s ->g (i + k) x s next=next (f (i + k) x s)∧I (i + k + 1) (f (i + k) x s)):iter g d i l s=d (foldI f i l s)∧I (i + l.length) (foldI f i l s):=by
 induction l generalizing i s with
 | nil=>exact⟨rfl,h0⟩
 | cons x l ih=>
   unfold iter foldI;have:=hg 0 x s (fun s'=>iter g d (i + 1) l s') rfl h0;rw [Nat.add_zero] at this;rw [this.1]
   have:=ih this.2 (fun k y s next hy hI=>by
    rw [show i + 1 + k=i + (k + 1) by omega] at hI ⊢;exact hg (k + 1) y s next (by simpa using hy) hI)
   rwa [show i + 1 + l.length=i + (x::l).length by simp;omega] at this
theorem Uu {α σ:Type} (f:α ->σ ->σ) (l:List α) (i:Nat) (s:σ):foldI (fun _=>f) i l s=l.foldl (fun s x=>f x s) s:=by
 induction l generalizing i s with
 | nil=>rfl
 | cons x l ih=>exact ih _ _
theorem ZdX {σ τ:Type} (V:σ ->τ) (f:Nat ->σ ->σ) (h:τ ->τ) {n N:Nat} (hn:n < N) (h1:∀ i s,i < N ->i ≠ n ->V (f i s)=V s) (h2:∀ s,V (f n s)=h (V s)) (s:σ):
 V ((List.range N).foldl (fun s i=>f i s) s)=h (V s):=by
 have key:∀ M,M <=N ->V ((List.range M).foldl (fun s i=>f i s) s)=if n < M then h (V s) else V s:=by
  intro M
  induction M with
  | zero=>intro _;simp
  | succ M ih=>
    intro hM;rw [List.range_succ,List.foldl_append];simp only [List.foldl_cons,List.foldl_nil];by_cases e:M=n
    ·subst e;rw [h2,ih (by omega),if_neg (by omega),if_pos (by omega)]
    ·rw [h1 _ _ (by omega) e,ih (by omega)];by_cases hm:n < M
     ·rw [if_pos hm,if_pos (by omega)]
     ·rw [if_neg hm,if_neg (by omega)]
 rw [key N (Nat.le_refl _),if_pos hn]
end Go.Lf
end
section
end
section
namespace Go.Proofs.Ytekpjgmhkkjhgaa
open Go.Lf
structure Small (w:Zb):Prop where
 cells:w.cells.length < 1000
 rows:∀ r ∈ w.cells,r.length < 1000
 notes:w.notes.length < 1000
 freed:w.freed.length < 1000
def rowOf (w:Zb) (m:Nat):List Za:=w.cells[m]?.getD []
def cellOf (w:Zb) (m:Nat) (n:Int):Option Za:= (rowOf w m).find? (fun c=>c.name==n)
theorem QK {w:Zb} {m:Nat} (h:m < w.cells.length):w.cells[m]? =some (rowOf w m):=by
 unfold rowOf;simp [h]
theorem ZeN {α β σ:Type} {g:Nat ->α ->σ ->(σ ->Option β) ->Option β} {d:σ ->Option β} (r:Nat ->Option β) (c:α ->Bool) {l:List α} {i:Nat} {s:σ}
 (hg:∀ k x next,l[k]? =some x ->g (i + k) x s next=bif c x then r (i + k) else next s):
 (∃ j x,l.find? c=some x∧l[j]? =some x∧iter g d i l s=r (i + j))∨(l.find? c=none∧iter g d i l s=d s):=by
 induction l generalizing i with
 | nil=>exact .inr ⟨rfl,rfl⟩
 | cons x l ih=>
   unfold iter;have:=hg 0 x (fun s'=>iter g d (i + 1) l s') rfl;rw [Nat.add_zero] at this;rw [this];cases hc:c x
   ·rw [cond_false,List.find?_cons,hc];rcases ih (i:=i + 1) (fun k y next hy=>by rw [show i + 1 + k=i + (k + 1) by omega];exact hg (k + 1) y next (by simpa using hy)) with⟨j,y,h1,h2,h3⟩ | ⟨h1,h2⟩
    ·exact .inl ⟨j + 1,y,h1,by simpa using h2,by rw [h3];congr 1;omega⟩
    ·exact .inr ⟨h1,h2⟩
   ·exact .inl ⟨0,x,by rw [List.find?_cons,hc],rfl,rfl⟩
def ZbT (w:Zb) (m n:Int):Nat:=w.notes.countP fun x=>(x.kind==3 && x.Zv==m) && x.name==n
theorem ZhJ {α:Type} (c:α ->Bool) (l:List α) (a:Nat) (h:a + l.length < 4611686018427387904):
 l.foldl (fun(s:Int) x=>bif c x then ZK (s + 1) else s) (a:Int)= ((a + l.countP c:Nat):Int):=by
 induction l generalizing a with
 | nil=>rfl
 | cons x l ih=>
   rw [List.foldl_cons,List.countP_cons];simp only [List.length_cons] at h;cases hc:c x
   ·simp only [cond_false];rw [ih a (by omega)];simp
   ·simp only [cond_true,if_true];rw [XD (by omega),ih (a + 1) (by omega)];congr 1;omega
def Zoy (w:Zb) (m:Nat) (n:Int):Int:=match cellOf w m n with | some c=>c.out | none=>0
def JH (w:Zb) (m:Nat) (n:Int):Int:=ZK (16 * (ZbT w m n:Int) + Zoy w m n)
def ZlI (w:Zb) (m n:Int) (k:Nat) (s:Int):Int:=match cellOf w k n with | some c=>bif c.from_==m then ZK (s + c.has) else s | none=>s
def ZfL (m n:Int) (x:Zd) (s:Int):Int:=bif(x.name==n) && (((x.kind==1) && (x.via==m)) || ((x.kind==2) && (x.Zv==m))) then ZK (s + x.w) else s
def Zdi (w:Zb) (m n:Int):Int:=w.notes.foldl (fun s x=>ZfL m n x s) ((List.range w.cells.length).foldl (fun s k=>ZlI w m n k s) 0)
theorem ZlL {α:Type} (g:Bool) (a d:α):gd g (some a) d=some (bif g then a else d):=by cases g <;> rfl
theorem contains_eq {F:Nat} (hF:1000 <=F) {l:List Int} (hl:l.length < 1000) (x:Int):Zkb F l x=some (l.any fun y=>y==x):=by
 unfold Zkb Zpb
 have e:=Xa l (fun v (_:Unit)=>v) (Zcw l x) (fun k y s next=>bif x==y then some (k:Int) else next ()) (fun _=>some (-1)) (by omega) (fun k y s next hy hk=>by
  simp only [Zcw,ZY,hy,hk,decide_true,Option.bind_some,cond_true]) (fun s next=>by simp [Zcw]) (by omega:l.length < F) ()
 rw [show loop F (Zcw l x) 0=_ from e];rcases ZeN (l:=l) (i:=0) (s:= ()) (d:=fun _=>some (-1)) (g:=fun k (y:Int) (_:Unit) next=>bif x==y then some (k:Int) else next ()) (fun k=>some (k:Int)) (fun c=>x==c) (fun _ _ _ _=>rfl) with⟨j,y,h1,h2,h3⟩ | ⟨h1,h2⟩
 ·rw [h3]
  have:(l.any fun y=>y==x)=true:=by
   rw [List.any_eq_true];have:=List.find?_some h1;exact⟨y,List.mem_of_find?_eq_some h1,by simpa using (by simpa using this:x=y).symm⟩
  rw [this];simp
 ·rw [h2]
  have:(l.any fun y=>y==x)=false:=by
   rw [List.any_eq_false];rw [List.find?_eq_none] at h1;intro y hy;have:=h1 y hy;simp at this ⊢;exact fun e=>this e.symm
  rw [this];rfl
def Yl (w:Zb) (n:Int):Bool:= (decide (0 <=n) && decide (n < w.names)) && !(w.freed.any fun y=>y==n)
def KZ (w:Zb) (m:Int):Bool:=decide (0 <=m) && decide (m < (w.cells.length:Int))
def WM (w:Zb) (m:Int) (c:Za):Bool:=
 (Yl w c.name && (decide (-16 <=c.out) && decide (c.out <=1000000)) && (c.use || !(c.out==0))) &&
 (bif c.root || c.from_==-1 then c.from_==-1 && c.has==0 else KZ w c.from_ && !(c.from_==m) && (decide (1 <=c.has) && decide (c.has <=1000000)))
def WB (w:Zb) (x:Zd):Bool:=
 (KZ w x.Zv && Yl w x.name && (decide (1 <=x.w) && decide (x.w <=1000000))) &&
 (bif x.kind==1 then KZ w x.via else bif x.kind==2 then x.via==0 else x.kind==3 && x.via==0 && x.w==16)
section
theorem ZeI {F:Nat} (hF:1000 <=F) {w:Zb} (sm:Small w) (st:Store) (e1:st.names=w.names) (e2:st.freed=w.freed) (n:Int):ZlU F st n=some (Yl w n):=by
 unfold ZlU Yl;rw [e1,e2,contains_eq hF sm.freed];simp only [ZlL,Option.bind_some];simp only [ge_iff_le];cases decide (0 <=n) <;> cases decide (n < w.names) <;> cases (w.freed.any fun y=>y==n) <;> rfl
theorem ZeL {w:Zb} (sm:Small w) (st:Store) (e1:st.machines= (w.cells.length:Int)) (n:Int):ZhB st n=some (KZ w n):=by
 unfold ZhB KZ;rw [e1]
theorem Zqs {F:Nat} (hF:1000 <=F) {w:Zb} (sm:Small w) (st:Store) (e0:st.machines= (w.cells.length:Int)) (e1:st.names=w.names) (e2:st.freed=w.freed) (m:Int) (c:Za):Zl2 F st m c=some (WM w m c):=by
 unfold Zl2;rw [ZeI hF sm st e1 e2,ZeL sm st e0];simp only [Option.bind_some];unfold WM;have a1:decide (c.out < -16)= !decide (-16 <=c.out):=by rw [← decide_not];exact decide_eq_decide.2 (by omega)
 have a2:decide (c.out > 1000000)= !decide (c.out <=1000000):=by rw [← decide_not];exact decide_eq_decide.2 (by omega)
 have a3:(c.from_ !=m)= !(c.from_==m):=rfl;rw [a1,a2,a3];simp only [ge_iff_le];generalize Yl w c.name=nm;generalize decide (-16 <=c.out)=oa;generalize decide (c.out <=1000000)=ob;generalize KZ w c.from_=fm;generalize decide (1 <=c.has)=ha;generalize decide (c.has <=1000000)=hb;generalize (c.out==0)=o0;generalize (c.from_==m)=f1;generalize (c.from_==-1)=f2;generalize (c.has==0)=hz;generalize c.use=us;generalize c.root=ro;cases nm <;> cases oa <;> cases ob <;> cases us <;> cases o0 <;> cases ro <;> cases f2 <;> cases fm <;> cases f1 <;> cases ha <;> cases hb <;> rfl
theorem ZpN {F:Nat} (hF:1000 <=F) {w:Zb} (sm:Small w) (st:Store) (e0:st.machines= (w.cells.length:Int)) (e1:st.names=w.names) (e2:st.freed=w.freed) (x:Zd):Zl1 F st x=some (WB w x):=by
 unfold Zl1;rw [ZeI hF sm st e1 e2,ZeL sm st e0,ZeL sm st e0];simp only [ZlL,Option.bind_some];unfold WB;have a1:decide (x.w < 1)= !decide (1 <=x.w):=by rw [← decide_not];exact decide_eq_decide.2 (by omega)
 have a2:decide (x.w > 1000000)= !decide (x.w <=1000000):=by rw [← decide_not];exact decide_eq_decide.2 (by omega)
 rw [a1,a2];generalize Yl w x.name=nm;generalize KZ w x.Zv=tm;generalize KZ w x.via=vm;generalize decide (1 <=x.w)=ha;generalize decide (x.w <=1000000)=hb;generalize (x.kind==1)=k1;generalize (x.kind==2)=k2;generalize (x.kind==3)=k3;generalize (x.via==0)=v0;generalize (x.w==16)=w16;cases nm <;> cases tm <;> cases vm <;> cases ha <;> cases hb <;> cases k1 <;> cases k2 <;> cases k3 <;> cases v0 <;> cases w16 <;> rfl
end
end Go.Proofs.Ytekpjgmhkkjhgaa
end
section
namespace Go.Proofs.Ytekpjgmhkkjhgaa
open Go.Lf
def Qu {α:Type} [Inhabited α] (l:List α) (k:Nat):α:=l[k-1]?.getD default
theorem ZoV {α:Type} [Inhabited α] (g:Bool) {l:List α} {k:Nat} (hk:k < l.length) (hl:l.length < 4611686018427387904):
 gd (g && decide ((k:Int) > 0)) (Yh l (ZK ((k:Int) - 1))) default=some (bif g && decide ((k:Int) > 0) then Qu l k else default):=by
 cases g
 ·rfl
 ·by_cases h:0 < k
  ·have:decide ((k:Int) > 0)=true:=by simp;omega
   rw [this,Bool.true_and,Zgn,Zk9 (by omega) h,ZY,cond_true];unfold Qu;have:k - 1 < l.length:=by omega
   simp [this]
  ·have:decide ((k:Int) > 0)=false:=by simp;omega
   rw [this];rfl
def KC (w:Zb) (k:Nat) (x:Int):Bool:= !(decide (0 <=x) && decide (x < w.names)) || (decide ((k:Int) > 0) && decide (x <=Qu w.freed k))
def Kv (w:Zb) (m:Nat) (row:List Za) (k:Nat) (c:Za):Bool:= !(WM w m c) || (decide ((k:Int) > 0) && decide (c.name <= (Qu row k).name))
def Zbx (w:Zb):Bool:= (decide (1 <= (w.cells.length:Int)) && decide ((w.cells.length:Int) <=6)) && (decide (0 <=w.names) && decide (w.names <=12)) && (decide ((w.notes.length:Int) <=80) && decide ((w.freed.length:Int) <=w.names))
def ZcN (w:Zb):Bool:= !(anyI (fun m row=>anyI (Kv w m row) 0 row) 0 w.cells)
def Kw (w:Zb):Bool:= !(w.notes.any fun x=>!(WB w x))
section
theorem Zqc {F:Nat} (hF:1000 <=F) {w:Zb} (sm:Small w) (st:Store) (e0:st.machines= (w.cells.length:Int)) (e1:st.names=w.names) (e2:st.freed=w.freed):Zs0 F st w=some (ZcN w && Kw w):=by
 have hc:=sm.cells;have hn:=sm.notes
 have l2:loop F (ZeW F st w) 0=some (Kw w):=by
  refine(Xa w.notes (fun v (_:Unit)=>v) (ZeW F st w) (fun _ x s next=>bif !(WB w x) then some false else next ()) (fun _=>some true) (by omega) (fun k y s next hy hk=>?_) (fun s next=>?_) (by omega) ()).trans ?_
  ·simp only [ZeW,ZY,hy,hk,decide_true,cond_true,Option.bind_some,ZpN hF sm st e0 e1 e2]
  ·simp [ZeW]
  ·rw [KA (r:=some false) (fun _ x=>!(WB w x)) (fun _ _ _ _=>rfl),Zef];unfold Kw;cases w.notes.any fun x=>!(WB w x) <;> rfl
 have l1:∀ (m:Nat) (row:List Za) (next:Int ->Option Bool),row.length < 1000 ->loop F (ZeX F st m next row) 0=bif anyI (Kv w m row) 0 row then some false else next (ZK ((m:Int) + 1)):=by
  intro m row next hr;refine(Xa row (fun v (_:Unit)=>v) (ZeX F st m next row) (fun k c s nx=>bif Kv w m row k c then some false else nx ()) (fun _=>next (ZK ((m:Int) + 1))) (by omega) (fun k y s nx hy hk=>?_) (fun s nx=>?_) (by omega) ()).trans ?_
  ·have hk':k < row.length:=by omega
   simp only [ZeX,ZY,hy,hk,decide_true,cond_true,Option.bind_some,Zqs hF sm st e0 e1 e2,ZoV _ hk' (by omega),ZlL];unfold Kv;cases WM w m y <;> cases decide ((k:Int) > 0) <;> rfl
  ·simp [ZeX]
  ·rw [KA (r:=some false) (Kv w m row) (fun k _ _ _=>by rw [Nat.zero_add])]
 unfold Zs0;refine(Xa w.cells (fun v (_:Unit)=>v) (Zhq F st w) (fun m row s next=>bif anyI (Kv w m row) 0 row then some false else next ()) (fun _=>some (Kw w)) (by omega) (fun k y s next hy hk=>?_) (fun s next=>?_) (by omega) ()).trans ?_
 ·have hr:=sm.rows y (List.mem_of_getElem? hy);simp only [Zhq,ZY,hy,hk,decide_true,cond_true,Option.bind_some];exact l1 k y next hr
 ·simp only [Zhq];rw [decide_eq_false (by omega),cond_false,l2]
 ·rw [KA (r:=some false) (fun m row=>anyI (Kv w m row) 0 row) (fun k _ _ _=>by rw [Nat.zero_add])];unfold ZcN;cases anyI (fun m (row:List Za)=>anyI (Kv w m row) 0 row) 0 w.cells <;> rfl
end
end Go.Proofs.Ytekpjgmhkkjhgaa
end
section
namespace Go.Proofs.Ytekpjgmhkkjhgaa
open Go.Lf
structure Shp (w:Zb):Prop where
 c1:1 <=w.cells.length
 c6:w.cells.length <=6
 n0:0 <=w.names
 n12:w.names <=12
 notes:w.notes.length <=80
 cell:∀ (m:Nat) (row:List Za) (k:Nat) (c:Za),w.cells[m]? =some row ->row[k]? =some c ->WM w m c=true∧(0 < k ->(Qu row k).name < c.name)
 note:∀ x ∈ w.notes,WB w x=true
theorem rows_ok {w:Zb} (h:ZcN w=true) (m:Nat) (row:List Za) (k:Nat) (c:Za) (hm:w.cells[m]? =some row) (hk:row[k]? =some c):WM w m c=true∧(0 < k ->(Qu row k).name < c.name):=by
 unfold ZcN at h;rw [Bool.not_eq_true',← Bool.not_eq_true] at h;have h1:¬ Kv w m row k c=true:=fun hb=>h (Zb8.2 ⟨m,row,hm,by rw [Nat.zero_add];exact Zb8.2 ⟨k,c,hk,by rw [Nat.zero_add];exact hb⟩⟩)
 unfold Kv at h1;rw [Bool.or_eq_true,Bool.and_eq_true,decide_eq_true_eq,decide_eq_true_eq,Bool.not_eq_true'] at h1;refine⟨?_,fun h0=>?_⟩
 ·cases hc:WM w m c
  ·exact absurd (.inl hc) h1
  ·rfl
 ·by_cases hl:(Qu row k).name < c.name
  ·exact hl
  ·exact absurd (.inr ⟨by omega,by omega⟩) h1
theorem asc {row:List Za} (h:∀ k c,row[k]? =some c ->0 < k ->(Qu row k).name < c.name):∀ (k j:Nat) (c d:Za),j < k ->row[k]? =some c ->row[j]? =some d ->d.name < c.name:=by
 intro k
 induction k with
 | zero=>intro j c d h0;omega
 | succ k ih=>
   intro j c d hj hc hd;have hlt:k + 1 < row.length:= (List.getElem?_eq_some_iff.1 hc).1;have hp:=h (k + 1) c hc (by omega)
   have e:row[k]? =some (Qu row (k + 1)):=by
    unfold Qu;have:k < row.length:=by omega
    simp [this]
   by_cases hjk:j=k
   ·subst hjk;rw [e] at hd;cases hd;exact hp
   ·have:=ih j _ d (by omega) e hd;omega
theorem Zre {w:Zb} (h1:Zbx w=true) (h2:ZcN w=true) (h3:Kw w=true):Shp w:=by
 unfold Zbx at h1;simp only [Bool.and_eq_true,decide_eq_true_eq] at h1;obtain⟨⟨⟨b1,b2⟩,b3,b4⟩,b5,b6⟩:=h1;refine⟨by omega,by omega,b3,b4,by omega,rows_ok h2,fun x hx=>?_⟩;unfold Kw at h3;rw [Bool.not_eq_true',List.any_eq_false] at h3;have:=h3 x hx
 simpa using this
theorem ZpA {row:List Za} (h:∀ k c,row[k]? =some c ->0 < k ->(Qu row k).name < c.name) {k:Nat} {c:Za} (hc:row[k]? =some c) (n:Int):
 (row.take (k + 1)).find? (fun x=>x.name==n)=if n=c.name then some c else(row.take k).find? (fun x=>x.name==n):=by
 have hlt:k < row.length:= (List.getElem?_eq_some_iff.1 hc).1
 have e:row.take (k + 1)=row.take k ++ [c]:=by
  rw [List.take_add_one,hc];rfl
 rw [e,List.find?_append];by_cases hn:n=c.name
 ·subst hn;rw [if_pos rfl]
  have:(row.take k).find? (fun x=>x.name==c.name)=none:=by
   rw [List.find?_eq_none];intro x hx;obtain⟨j,hj⟩:=List.mem_iff_getElem?.1 hx;have hjk:j < k:=by have:= (List.getElem?_eq_some_iff.1 hj).1;rw [List.length_take] at this;omega
   rw [List.getElem?_take_of_lt hjk] at hj;have:=asc h k j c x hjk hc hj;simp;omega
  rw [this];simp
 ·rw [if_neg hn];have: [c].find? (fun x=>x.name==n)=none:=by simp;exact fun e=>hn e.symm
  rw [this];cases (row.take k).find? (fun x=>x.name==n) <;> rfl
def MapOf (w:Zb) (l:List (Ze×Za)):Prop:=∀ a b:Int,Xk l ⟨a,b⟩=if 0 <=a∧a < (w.cells.length:Int) then cellOf w a.toNat b else none
theorem Zoz {F:Nat} (hF:1000 <=F) {w:Zb} (sm:Small w) (sh:Shp w):∃ cs,Zig F w=some ⟨(w.cells.length:Int),w.names,cs,w.notes,w.freed⟩∧MapOf w cs:=by
 have hc:=sm.cells;have hn:=sm.notes;have hf:=sm.freed;unfold Zig ZnL ZnK;rw [XM (by simp only [List.length_nil];omega) (by decide),XM (by simp only [List.length_nil];omega) (by decide)];simp only [Option.bind_some,List.nil_append]
 let I:Nat ->List (Ze×Za) ->Prop:=fun m l=>∀ a b:Int,Xk l ⟨a,b⟩=if 0 <=a∧a < (m:Int) then cellOf w a.toNat b else none
 have inner:∀ (m:Nat) (row:List Za) (next:Int×(List (Ze×Za)) ->Option Store) (l:List (Ze×Za)),w.cells[m]? =some row ->I m l ->∃ l',I (m + 1) l'∧loop F (Zak m next row) (0,l)=next (ZK ((m:Int) + 1),l'):=by
  intro m row next l hm hI;have hr:=sm.rows row (List.mem_of_getElem? hm);have hro:rowOf w m=row:=by unfold rowOf;rw [hm];rfl
  have hasc:∀ k c,row[k]? =some c ->0 < k ->(Qu row k).name < c.name:=fun k c hk=>(sh.cell m row k c hm hk).2
  let J:Nat ->List (Ze×Za) ->Prop:=fun k l'=>∀ a b:Int,Xk l' ⟨a,b⟩=if a= (m:Int) then(row.take k).find? (fun x=>x.name==b) else Xk l ⟨a,b⟩
  have e:=Xa row (fun v s=>(v,s)) (Zak m next row) (fun _ c s nx=>nx (YV s (Ze.mk m c.name) c)) (fun s=>next (ZK ((m:Int) + 1),s)) (by omega) (fun k y s nx hy hk=>by
   simp only [Zak,ZY,hy,hk,decide_true,cond_true,Option.bind_some]) (fun s nx=>by simp only [Zak];rw [decide_eq_false (by omega),cond_false]) (by omega:row.length < F) l
  obtain⟨e2,hJ⟩:=JG (d:=fun s=>next (ZK ((m:Int) + 1),s)) (g:=fun(_:Nat) (c:Za) s nx=>nx (YV s (Ze.mk m c.name) c)) (fun _ c s=>YV s (Ze.mk m c.name) c) J (l:=row) (i:=0) (s:=l) (fun a b=>by
   by_cases ha:a= (m:Int)
   ·rw [if_pos ha,hI a b,if_neg (by omega)];simp
   ·rw [if_neg ha]) (fun k c s nx hk hJ=>⟨rfl,fun a b=>by
    rw [Nat.zero_add] at hJ ⊢;rw [ZeJ];by_cases ha:a= (m:Int)
    ·subst ha;rw [if_pos rfl,ZpA hasc hk];by_cases hb:b=c.name
     ·rw [if_pos hb,hb,if_pos rfl]
     ·rw [if_neg hb,if_neg (fun q=>hb (by injection q)),hJ,if_pos rfl]
    ·rw [if_neg ha,if_neg (fun q=>ha (by injection q)),hJ,if_neg ha]⟩)
  refine⟨_,fun a b=>?_,e.trans e2⟩;rw [Nat.zero_add] at hJ;rw [hJ a b];by_cases ha:a= (m:Int)
  ·subst ha;rw [if_pos rfl,if_pos (by omega),List.take_length];unfold cellOf;rw [Int.toNat_natCast,hro]
  ·rw [if_neg ha,hI a b];by_cases hz:0 <=a∧a < (m:Int)
   ·rw [if_pos hz,if_pos (by omega)]
   ·rw [if_neg hz,if_neg (by omega)]
 have key:∀ (d m:Nat) (F':Nat) (l:List (Ze×Za)),m + d=w.cells.length ->d < F' ->I m l ->∃ cs,loop F' (Zal F w w.notes w.freed) ((m:Int),l)=some ⟨(w.cells.length:Int),w.names,cs,w.notes,w.freed⟩∧MapOf w cs:=by
  intro d
  induction d with
  | zero=>
    intro m F' l hm hF' hI;obtain⟨F',rfl⟩:=Nat.exists_eq_succ_of_ne_zero (n:=F') (by omega);have:m=w.cells.length:=by omega
    subst this;refine⟨l,?_,hI⟩;rw [Yx];simp only [Zal];rw [decide_eq_false (by omega),cond_false]
  | succ d ih=>
    intro m F' l hm hF' hI;obtain⟨F',rfl⟩:=Nat.exists_eq_succ_of_ne_zero (n:=F') (by omega);have hlt:m < w.cells.length:=by omega
    obtain⟨l',h1,h2⟩:=inner m w.cells[m] (loop F' (Zal F w w.notes w.freed)) l (by simp [hlt]) hI;obtain⟨cs,h3,h4⟩:=ih (m + 1) F' l' (by omega) (by omega) h1;refine⟨cs,?_,h4⟩;rw [Yx];have hg:w.cells[m]? =some w.cells[m]:=by simp [hlt]
    simp only [Zal,ZY,hg,Option.bind_some];rw [decide_eq_true (by omega),cond_true,h2,XD (by omega),h3]
 exact key w.cells.length 0 F [] (by omega) (by omega) (fun a b=>by rw [if_neg (by omega)];rfl)
def Ja {σ:Type} (w:Zb) (y:Int ->Za ->σ ->σ) (m:Nat) (n:Nat) (s:σ):σ:=match cellOf w m n with | some c=>y m c s | none=>s
theorem Qi {w:Zb} {m:Nat} {n:Int} {c:Za} (h:cellOf w m n=some c):c.name=n:=by
 unfold cellOf at h;have:=List.find?_some h
 simpa using this
theorem KJ {w:Zb} {m:Nat} {n:Int} {c:Za} (h:cellOf w m n=some c):∃ (row:List Za) (k:Nat),w.cells[m]? =some row∧row[k]? =some c:=by
 unfold cellOf rowOf at h;have:=List.mem_of_find?_eq_some h;cases e:w.cells[m]? with
 | none=>rw [e] at this;simp at this
 | some row=>
   rw [e] at this;obtain⟨k,hk⟩:=List.mem_iff_getElem?.1 this;exact⟨row,k,rfl,hk⟩
structure Qb (w:Zb) (st:Store):Prop where
 m:st.machines= (w.cells.length:Int)
 n:st.names=w.names
 notes:st.notes=w.notes
 freed:st.freed=w.freed
 cells:MapOf w st.cells
structure Szd (w:Zb):Prop where
 c6:w.cells.length <=6
 n0:0 <=w.names
 n12:w.names <=12
 kind:∀ x ∈ w.notes,x.kind=1∨x.kind=2∨x.kind=3
theorem Shp.szd {w:Zb} (sh:Shp w):Szd w:= ⟨sh.c6,sh.n0,sh.n12,fun x hx=>by
 have hx:=sh.note x hx;by_cases k1:x.kind=1
 ·exact .inl k1
 ·by_cases k2:x.kind=2
  ·exact .inr (.inl k2)
  ·have q1:(x.kind==1)=false:=by simp [k1]
   have q2:(x.kind==2)=false:=by simp [k2]
   unfold WB at hx;rw [q1,q2] at hx;simp at hx;exact .inr (.inr hx.2.1.1)⟩
section
theorem ZkR {F:Nat} (hF:1000 <=F) {w:Zb} (sm:Small w) (sh:Szd w) {st:Store} (so:Qb w st) {σ β:Type} (I:Nat ->σ ->Prop) (hI:∀ i s,I i s ->I (i + 1) s) {z:Za} {E:σ ->Option β} {B1:Int×σ ->(Int×σ ->Option β) ->Option β} {B2:Int ->(Int×σ ->Option β) ->Int×σ ->(Int×σ ->Option β) ->Option β} {Y:Int ->Za ->σ ->(σ ->Option β) ->Option β} (y':Int ->Za ->σ ->σ)
 (hB1:∀ v s next,B1 (v,s) next=bif decide (v < st.machines) then loop F (B2 v next) (0,s) else E s)
 (hB2:∀ v0 next v s nx,B2 v0 next (v,s) nx=bif decide (v < st.names) then(KW st.cells (Ze.mk v0 v) z).bind fun x=>bif x.2 then Y v0 x.1 s (fun s'=>nx (ZK (v + 1),s')) else nx (ZK (v + 1),s) else next (ZK (v0 + 1),s))
 (hy:∀ i (a:Nat) c s k,a < w.cells.length ->i < 100 ->I i s ->Y a c s k=k (y' a c s)∧I (i + 1) (y' a c s)) (s0:σ) (h0:I 0 s0):
 loop F B1 (0,s0)=E ((List.range w.cells.length).foldl (fun s m=>(List.range w.names.toNat).foldl (fun s n=>Ja w y' m n s) s) s0)∧
 I (w.cells.length * w.names.toNat) ((List.range w.cells.length).foldl (fun s m=>(List.range w.names.toNat).foldl (fun s n=>Ja w y' m n s) s) s0):=by
 have hc:=sh.c6;have hn:=sh.n0;have hn2:=sh.n12;have en:((w.names.toNat:Nat):Int)=w.names:=by omega
 have inner:∀ (m:Nat) (next:Int×σ ->Option β) (s:σ),m < w.cells.length ->I (m * w.names.toNat) s ->
  loop F (B2 m next) (0,s)=next (ZK ((m:Int) + 1),(List.range w.names.toNat).foldl (fun s n=>Ja w y' m n s) s)∧I ((m + 1) * w.names.toNat) ((List.range w.names.toNat).foldl (fun s n=>Ja w y' m n s) s):=by
  intro m next s hm hs
  have e:=Za9 w.names.toNat (fun v s=>(v,s)) (B2 m next) (fun k s nx=>match cellOf w m k with | some c=>Y m c s nx | none=>nx s) (fun s=>next (ZK ((m:Int) + 1),s)) (by omega) (fun k s nx hk=>by
   rw [hB2,so.n];rw [decide_eq_true (by omega),cond_true];unfold KW;rw [so.cells,if_pos (by omega),Int.toNat_natCast];cases cellOf w m k with
   | some c=>rfl
   | none=>rfl) (fun s nx=>by rw [hB2,so.n];rw [decide_eq_false (by omega),cond_false]) (by omega:w.names.toNat < F) s
  obtain⟨e2,h2⟩:=JG (d:=fun s=>next (ZK ((m:Int) + 1),s)) (g:=fun(_:Nat) (k:Nat) s nx=>match cellOf w m k with | some c=>Y m c s nx | none=>nx s) (fun _ k s=>Ja w y' m k s) (fun k s=>I (m * w.names.toNat + k) s) (l:=List.range w.names.toNat) (i:=0) (s:=s) hs (fun k x s nx hx hs=>by
   have hk:k < w.names.toNat:=by
    have:= (List.getElem?_eq_some_iff.1 hx).1
    simpa using this
   have:x=k:=by
    rw [List.getElem?_range hk] at hx
    simpa using hx.symm
   subst this;rw [Nat.zero_add] at hs ⊢
   have hb:m * w.names.toNat + x < 100:=by
    have:=Nat.mul_le_mul (show m <=5 by omega) (show w.names.toNat <=12 by omega);omega
   unfold Ja;cases cellOf w m x with
   | some c=>
     obtain⟨q1,q2⟩:=hy _ m c s nx hm hb hs;dsimp only;rw [q1];exact⟨rfl,q2⟩
   | none=>exact⟨rfl,hI _ _ hs⟩)
  rw [Uu] at e2 h2;refine⟨e.trans e2,?_⟩;rw [List.length_range,Nat.zero_add] at h2;rw [Nat.add_mul,Nat.one_mul];exact h2
 have key:∀ (d m F':Nat) (s:σ),m + d=w.cells.length ->d < F' ->I (m * w.names.toNat) s ->
  loop F' B1 ((m:Int),s)=E ((List.range' m d).foldl (fun s m=>(List.range w.names.toNat).foldl (fun s n=>Ja w y' m n s) s) s)∧I (w.cells.length * w.names.toNat) ((List.range' m d).foldl (fun s m=>(List.range w.names.toNat).foldl (fun s n=>Ja w y' m n s) s) s):=by
  intro d
  induction d with
  | zero=>
    intro m F' s hm hF' hs;obtain⟨F',rfl⟩:=Nat.exists_eq_succ_of_ne_zero (n:=F') (by omega);have:m=w.cells.length:=by omega
    subst this;rw [Yx,hB1,so.m];rw [decide_eq_false (by omega),cond_false];exact⟨rfl,hs⟩
  | succ d ih=>
    intro m F' s hm hF' hs;obtain⟨F',rfl⟩:=Nat.exists_eq_succ_of_ne_zero (n:=F') (by omega);obtain⟨h1,h2⟩:=inner m (loop F' B1) s (by omega) hs;obtain⟨h3,h4⟩:=ih (m + 1) F' _ (by omega) (by omega) h2;rw [Yx,List.range'_succ,List.foldl_cons];refine⟨?_,h4⟩;rw [hB1,so.m];rw [decide_eq_true (by omega),cond_true,h1,XD (by omega)];exact h3
 have:=key w.cells.length 0 F s0 (by omega) (by omega) (by rw [Nat.zero_mul];exact h0);rw [← List.range_eq_range'] at this;exact this
end
theorem fold_congr {σ:Type} {f g:σ ->Nat ->σ} {N:Nat} (h:∀ s m,m < N ->f s m=g s m) (s:σ):(List.range N).foldl f s= (List.range N).foldl g s:=by
 have:∀ M,M <=N ->(List.range M).foldl f s= (List.range M).foldl g s:=by
  intro M
  induction M with
  | zero=>intro _;rfl
  | succ M ih=>
    intro hM;rw [List.range_succ,List.foldl_append,List.foldl_append,ih (by omega)];simp only [List.foldl_cons,List.foldl_nil];exact h _ _ (by omega)
 exact this N (Nat.le_refl _)
theorem Ut {σ τ α:Type} (V:σ ->τ) {f:σ ->α ->σ} {g:τ ->α ->τ} {l:List α} (h:∀ s x,x ∈ l ->V (f s x)=g (V s) x) (s:σ):V (l.foldl f s)=l.foldl g (V s):=by
 induction l generalizing s with
 | nil=>rfl
 | cons x l ih=>
   rw [List.foldl_cons,List.foldl_cons,ih (fun s y hy=>h s y (by simp [hy])),h s x (by simp)]
def YK (w:Zb) (n:Int):List Int:=
 w.notes.foldl (fun(s:List Int) (x:Zd)=>bif(x.kind==3) && (x.name==n) then s ++ [x.Zv] else s)
   ((List.range w.cells.length).foldl (fun(s:List Int) (m:Nat)=>match cellOf w m n with | some c=>bif c.root then s ++ [(m:Int)] else s | none=>s) [])
theorem ZiW {α:Type} (f:List Int ->α ->List Int) (hf:∀ s x,(f s x).length <=s.length + 1) (l:List α) (s:List Int):(l.foldl f s).length <=s.length + l.length:=by
 induction l generalizing s with
 | nil=>simp
 | cons x l ih=>
   rw [List.foldl_cons];have:=ih (f s x);have:=hf s x;simp only [List.length_cons];omega
section
theorem Znl {F:Nat} (hF:1000 <=F) {w:Zb} (sm:Small w) (sh:Shp w) {st:Store} (so:Qb w st) {n:Nat} (hn:(n:Int) < w.names):ZsZ F st n=some (YK w n):=by
 unfold ZsZ
 let y':Int ->Za ->List Int ->List Int:=fun a c s=>bif(c.name== (n:Int)) && c.root then s ++ [a] else s
 obtain⟨h1,h2⟩:=ZkR hF sm sh.szd so (z:=Za.mk 0 false 0 0 0 false) (fun i (s:List Int)=>s.length <=i) (fun i s h=>Nat.le_succ_of_le h) (E:=ZeV F st n) (B1:=ZnI F st n) (B2:=ZnH F st n) (Y:=fun a c s k=>bif(c.name== (n:Int)) && c.root then(app 8 s [a]).bind k else k s) y' (fun v s next=>rfl) (fun v0 next v s nx=>rfl) (fun i a c s k _ hi hs=>by
  simp only [y'];cases ((c.name== (n:Int)) && c.root)
  ·exact⟨rfl,Nat.le_succ_of_le hs⟩
  ·simp only [cond_true];rw [XM (by simp;omega) (by decide)];exact⟨rfl,by simp;omega⟩) [] (Nat.le_refl _)
 rw [h1]
 have e:(List.range w.cells.length).foldl (fun s (m:Nat)=>(List.range w.names.toNat).foldl (fun s n=>Ja w y' m n s) s) []= (List.range w.cells.length).foldl (fun s (m:Nat)=>match cellOf w m n with | some c=>bif c.root then s ++ [(m:Int)] else s | none=>s) []:=by
  refine fold_congr (fun s m hm=>?_) _;refine ZdX (V:=id) (fun i s=>Ja w y' m i s) (fun s=>match cellOf w m n with | some c=>bif c.root then s ++ [(m:Int)] else s | none=>s) (n:=n) (N:=w.names.toNat) (by omega) (fun i s hi hne=>?_) (fun s=>?_) s
  ·simp only [id,Ja];cases hc:cellOf w m i with
   | none=>rfl
   | some c=>
     have:=Qi hc;have hb:(c.name== (n:Int))=false:=by rw [this];simp;omega
     simp only [y',hb];rfl
  ·simp only [id,Ja];cases hc:cellOf w m n with
   | none=>rfl
   | some c=>
     have:=Qi hc;have hb:(c.name== (n:Int))=true:=by rw [this];simp
     simp only [y',hb];rfl
 rw [e];rw [e] at h2;unfold ZeV;have hlen:=Nat.mul_le_mul sh.c6 (show w.names.toNat <=12 by have:=sh.n12;have:=sh.n0;omega);have hno:=sm.notes;refine(Xa w.notes (fun v (s:List Int)=>(v,s)) (Zhp st n) (fun _ x s next=>bif(x.kind==3) && (x.name== (n:Int)) then(app 8 s [x.Zv]).bind next else next s) (fun s=>some s) (by omega) (fun k y s next hy hk=>?_) (fun s next=>?_) (by omega) _).trans ?_
 ·simp only [Zhp,so.notes,ZY,hy,hk,decide_true,cond_true,Option.bind_some,Zho]
 ·simp only [Zhp,so.notes];rw [decide_eq_false (by omega),cond_false]
 ·rw [(JG (fun _ (x:Zd) s=>bif(x.kind==3) && (x.name== (n:Int)) then s ++ [x.Zv] else s) (fun k (s:List Int)=>s.length <=72 + k) (by simp at h2 ⊢;omega) (fun k x s next hx hs=>by
   have:= (List.getElem?_eq_some_iff.1 hx).1;cases ((x.kind==3) && (x.name== (n:Int)))
   ·exact⟨rfl,by simp;omega⟩
   ·simp only [cond_true];rw [XM (by simp;omega) (by decide)];exact⟨rfl,by simp;omega⟩)).1,Uu]
  rfl
end
end Go.Proofs.Ytekpjgmhkkjhgaa
end
section
namespace Go.Proofs.Ytekpjgmhkkjhgaa
open Go.Lf
abbrev Acc:=List (Ze×Int)
def val (v:Acc) (k:Ze):Int:= (Xk v k).getD 0
def upd (v:Acc) (k:Ze) (x:Int):Acc:=YV (WG v k 0) k (ZK (val v k + x))
theorem Wl (v:Acc) (k k':Ze) (x:Int):val (upd v k x) k'=if k'=k then ZK (val v k + x) else val v k':=by
 unfold val upd;rw [ZeJ,ZiO];by_cases h:k'=k
 ·rw [if_pos h,if_pos h];rfl
 ·rw [if_neg h,if_neg h,if_neg h]
theorem Zq2:ZK 0=0:=YJ (by decide) (by decide)
def Zoh (a:Int) (c:Za) (q:Acc×Acc):Acc×Acc:= (upd q.1 ⟨a,c.name⟩ c.out,bif decide (c.from_ >=0) then upd q.2 ⟨c.from_,c.name⟩ c.has else q.2)
def Zog (x:Zd) (q:Acc×Acc):Acc×Acc:=bif x.kind==1 then(q.1,upd q.2 ⟨x.via,x.name⟩ x.w) else bif x.kind==2 then(q.1,upd q.2 ⟨x.Zv,x.name⟩ x.w) else(upd q.1 ⟨x.Zv,x.name⟩ 16,q.2)
def UO (w:Zb):Acc×Acc:= (List.range w.cells.length).foldl (fun s m=>(List.range w.names.toNat).foldl (fun s n=>Ja w Zoh m n s) s) ([],[])
def Zcc (w:Zb):Acc×Acc:=w.notes.foldl (fun q x=>Zog x q) (UO w)
def view (a n:Int) (q:Acc×Acc):Int×Int:= (val q.1 ⟨a,n⟩,val q.2 ⟨a,n⟩)
theorem Zpq {F:Nat} (hF:1000 <=F) {w:Zb} (sm:Small w) (sh:Szd w) {st:Store} (so:Qb w st):Zqh F st=some (Zcc w):=by
 unfold Zqh;have hno:=sm.notes
 obtain⟨h1,_⟩:=ZkR hF sm sh so (z:=Za.mk 0 false 0 0 0 false) (fun _ (_:Acc×Acc)=>True) (fun _ _ _=>trivial) (E:=Ze0 F st) (B1:=ZnN F st) (B2:=ZnM F st) (Y:=fun a c s k=>bif decide (c.from_ >=0) then k (upd s.1 ⟨a,c.name⟩ c.out,upd s.2 ⟨c.from_,c.name⟩ c.has) else k (upd s.1 ⟨a,c.name⟩ c.out,s.2)) Zoh (fun v s next=>rfl) (fun v0 next v s nx=>by obtain⟨a,b⟩:=s;rfl) (fun i a c s k _ _ _=>⟨by
  unfold Zoh;cases decide (c.from_ >=0) <;> rfl,trivial⟩) ([],[]) trivial
 rw [h1];unfold Ze0;refine(Xa w.notes (fun v (s:Acc×Acc)=>(v,s.1,s.2)) (Zhr st) (fun _ x s next=>next (Zog x s)) (fun s=>some s) (by omega) (fun k y s next hy hk=>?_) (fun s next=>?_) (by omega) (UO w)).trans ?_
 ·simp only [Zhr,so.notes,ZY,hy,hk,decide_true,cond_true,Option.bind_some,ZeZ,Zag,Zog];cases y.kind==1
  ·cases y.kind==2 <;> rfl
  ·rfl
 ·simp only [Zhr,so.notes];rw [decide_eq_false (by omega),cond_false]
 ·rw [(JG (fun _ (x:Zd) s=>Zog x s) (fun _ _=>True) trivial (fun _ _ _ _ _ _=>⟨rfl,trivial⟩)).1,Uu]
  rfl
def hm (w:Zb) (a n:Nat) (q:Int×Int) (m:Nat):Int×Int:=match cellOf w m n with
 | some c=>(if m=a then ZK (q.1 + c.out) else q.1,if c.from_= (a:Int) then ZK (q.2 + c.has) else q.2)
 | none=>q
theorem ZmP {w:Zb} {a n m:Nat} (hn:n < w.names.toNat) (q:Acc×Acc):
 view a n ((List.range w.names.toNat).foldl (fun s n=>Ja w Zoh m n s) q)=hm w a n (view a n q) m:=by
 refine ZdX (view a n) (fun i s=>Ja w Zoh m i s) (fun q=>hm w a n q m) hn (fun i s hi hne=>?_) (fun s=>?_) q
 ·unfold Ja;cases hc:cellOf w m i with
  | none=>rfl
  | some c=>
    have hnm:=Qi hc;dsimp only;unfold view Zoh;have k1:¬ (Ze.mk (a:Int) (n:Int))=Ze.mk (m:Int) c.name:=fun e=>by injection e with _ e2;omega
    have k2:¬ (Ze.mk (a:Int) (n:Int))=Ze.mk c.from_ c.name:=fun e=>by injection e with _ e2;omega
    rw [Wl,if_neg k1];cases decide (c.from_ >=0)
    ·rfl
    ·simp only [cond_true];rw [Wl,if_neg k2]
 ·unfold Ja hm;cases hc:cellOf w m n with
  | none=>rfl
  | some c=>
    have hnm:=Qi hc;dsimp only;unfold view Zoh;dsimp only;rw [hnm];congr 1
    ·rw [Wl];by_cases e:m=a
     ·subst e;rw [if_pos rfl,if_pos rfl]
     ·rw [if_neg e,if_neg (fun q=>by injection q with q1 _;omega)]
    ·by_cases e:c.from_= (a:Int)
     ·rw [if_pos e,decide_eq_true (by omega),cond_true,Wl,e,if_pos rfl]
     ·rw [if_neg e];cases decide (c.from_ >=0)
      ·rfl
      ·simp only [cond_true];rw [Wl,if_neg (fun q=>by injection q with q1 _;omega)]
theorem ZtT (c:Zd ->Bool) (l:List Zd) (g:Int):l.foldl (fun(g:Int) x=>bif c x then ZK (g + 16) else g) (ZK g)=ZK (g + 16 * (l.countP c:Int)):=by
 induction l generalizing g with
 | nil=>simp
 | cons x l ih=>
   rw [List.foldl_cons,List.countP_cons];cases hc:c x
   ·simp only [cond_false];rw [ih];simp
   ·simp only [cond_true,if_true];rw [Zjr,ih];congr 1;omega
theorem ZkV {w:Zb} (sh:Szd w) {a n:Nat} (ha:a < w.cells.length) (hn:(n:Int) < w.names):val (Zcc w).1 ⟨a,n⟩=JH w a n∧val (Zcc w).2 ⟨a,n⟩=Zdi w a n:=by
 have e1:view a n (UO w)= (List.range w.cells.length).foldl (fun q m=>hm w a n q m) (0,0):=
  Ut (view a n) (fun s m _=>ZmP (by omega) s) ([],[])
 have e2:((List.range w.cells.length).foldl (fun q m=>hm w a n q m) (0,0)).2= (List.range w.cells.length).foldl (fun s k=>ZlI w a n k s) 0:=by
  refine Ut (fun q:Int×Int=>q.2) (fun s m _=>?_) (0,0);unfold hm ZlI;cases cellOf w m n with
  | none=>rfl
  | some c=>
    dsimp only;by_cases e:c.from_= (a:Int)
    ·rw [if_pos e];have:(c.from_== (a:Int))=true:=by simp [e]
     rw [this];rfl
    ·rw [if_neg e];have:(c.from_== (a:Int))=false:=by simp [e]
     rw [this];rfl
 have e3:((List.range w.cells.length).foldl (fun q m=>hm w a n q m) (0,0)).1=ZK (Zoy w a n):=by
  have f1:((List.range w.cells.length).foldl (fun q m=>hm w a n q m) (0,0)).1= (List.range w.cells.length).foldl (fun(g:Int) m=>match cellOf w m n with | some c=>if m=a then ZK (g + c.out) else g | none=>g) 0:=by
   refine Ut (fun q:Int×Int=>q.1) (fun s m _=>?_) (0,0);unfold hm;cases cellOf w m n with
   | none=>rfl
   | some c=>rfl
  rw [f1]
  have:=ZdX (V:=id) (fun m (g:Int)=>match cellOf w m n with | some c=>if m=a then ZK (g + c.out) else g | none=>g) (fun g=>match cellOf w a n with | some c=>ZK (g + c.out) | none=>g) ha (fun i s hi hne=>by
   simp only [id];cases cellOf w i n with
   | none=>rfl
   | some c=>dsimp only;rw [if_neg hne]) (fun s=>by
   simp only [id];cases cellOf w a n with
   | none=>rfl
   | some c=>simp) 0
  simp only [id] at this;rw [this];unfold Zoy;cases cellOf w a n with
  | none=>exact Zq2.symm
  | some c=>dsimp only;rw [Int.zero_add]
 have e4:view a n (Zcc w)=w.notes.foldl (fun q x=>(bif((x.kind==3) && (x.Zv== (a:Int))) && (x.name== (n:Int)) then ZK (q.1 + 16) else q.1,ZfL a n x q.2)) (view a n (UO w)):=by
  refine Ut (view a n) (fun s x hx=>?_) (UO w);have hx:=sh.kind x hx;unfold view Zog ZfL;by_cases k1:x.kind=1
  ·simp only [k1,beq_self_eq_true,cond_true,Bool.true_and];rw [Wl];have r1:((1:Int)==2)=false:=rfl;have r2:((1:Int)==3)=false:=rfl;simp only [r1,r2,Bool.false_and,Bool.or_false,cond_false];congr 1;by_cases e:Ze.mk (a:Int) (n:Int)=Ze.mk x.via x.name
   ·rw [if_pos e];injection e with z1 z2
    have b:((x.name== (n:Int)) && (x.via== (a:Int)))=true:=by simp [z1,z2]
    rw [b,cond_true,z1,z2]
   ·rw [if_neg e]
    have b:((x.name== (n:Int)) && (x.via== (a:Int)))=false:=by
     rw [Bool.and_eq_false_iff];by_cases z:x.name= (n:Int)
     ·right;simp;intro z2;exact e (by rw [z,z2])
     ·left;simp [z]
    rw [b,cond_false]
  ·by_cases k2:x.kind=2
   ·have r1:((2:Int)==1)=false:=rfl;have r2:((2:Int)==3)=false:=rfl;simp only [k2,r1,r2,beq_self_eq_true,cond_true,cond_false,Bool.true_and,Bool.false_and,Bool.false_or];rw [Wl];congr 1;by_cases e:Ze.mk (a:Int) (n:Int)=Ze.mk x.Zv x.name
    ·rw [if_pos e];injection e with z1 z2
     have b:((x.name== (n:Int)) && (x.Zv== (a:Int)))=true:=by simp [z1,z2]
     rw [b,cond_true,z1,z2]
    ·rw [if_neg e]
     have b:((x.name== (n:Int)) && (x.Zv== (a:Int)))=false:=by
      rw [Bool.and_eq_false_iff];by_cases z:x.name= (n:Int)
      ·right;simp;intro z2;exact e (by rw [z,z2])
      ·left;simp [z]
     rw [b,cond_false]
   ·have q1:(x.kind==1)=false:=by simp [k1]
    have q2:(x.kind==2)=false:=by simp [k2]
    have q3:(x.kind==3)=true:=by
     rcases hx with z | z | z
     ·exact absurd z k1
     ·exact absurd z k2
     ·simp [z]
    simp only [q1,q2,q3,cond_false,Bool.true_and,Bool.false_and,Bool.or_false,Bool.and_false];rw [Wl];congr 1;by_cases e:Ze.mk (a:Int) (n:Int)=Ze.mk x.Zv x.name
    ·rw [if_pos e];injection e with z1 z2
     have b:((x.Zv== (a:Int)) && (x.name== (n:Int)))=true:=by simp [z1,z2]
     rw [b,cond_true,z1,z2]
    ·rw [if_neg e]
     have b:((x.Zv== (a:Int)) && (x.name== (n:Int)))=false:=by
      rw [Bool.and_eq_false_iff];by_cases z:x.name= (n:Int)
      ·left;simp;intro z2;exact e (by rw [z,z2])
      ·right;simp [z]
     rw [b,cond_false]
 constructor
 ·show(view a n (Zcc w)).1=_;rw [e4,Ut (fun q:Int×Int=>q.1) (g:=fun(g:Int) (x:Zd)=>bif((x.kind==3) && (x.Zv== (a:Int))) && (x.name== (n:Int)) then ZK (g + 16) else g) (fun s x _=>rfl),e1,e3,ZtT];unfold JH ZbT;congr 1;omega
 ·show(view a n (Zcc w)).2=_;rw [e4,Ut (fun q:Int×Int=>q.2) (g:=fun(g:Int) (x:Zd)=>ZfL a n x g) (fun s x _=>rfl),e1,e2]
  rfl
def Y2 (w:Zb) (n h:Int):Nat ->Int ->Bool
 | 0,a=>a==h
 | k + 1,a=>bif a==h then true else match cellOf w a.toNat n with
   | none=>false
   | some c=>bif decide (c.from_ < 0) then false else Y2 w n h k c.from_
def WI (w:Zb) (n h:Int):Bool:= !((List.range w.cells.length).any fun m=>(cellOf w m n).isSome && !(Y2 w n h w.cells.length m))
theorem Shp.from_ {w:Zb} (sh:Shp w) {m:Nat} {n:Int} {c:Za} (h:cellOf w m n=some c) (h0:¬ c.from_ < 0):0 <=c.from_∧c.from_ < (w.cells.length:Int):=by
 obtain⟨row,k,h1,h2⟩:=KJ h;have:= (sh.cell m row k c h1 h2).1;unfold WM at this;rw [Bool.and_eq_true] at this;have:=this.2;have e:(c.from_==-1)=false:=by simp;omega
 rw [e] at this;cases hr:c.root
 ·rw [hr] at this;simp only [Bool.or_self,cond_false,Bool.and_eq_true] at this;have:=this.1.1;unfold KZ at this
  simpa using this
 ·rw [hr] at this;simp at this
section
theorem Zm9 {F:Nat} (hF:1000 <=F) {w:Zb} (sm:Small w) (sh:Shp w) {st:Store} (so:Qb w st) (n h:Int):Zqf F st n h=some (WI w n h):=by
 have hc:=sm.cells;have h6:=sh.c6
 let z:Za:=Za.mk 0 false 0 0 0 false
 have key:∀ (d i F' m:Nat) (next:Int ->Option Bool) (a:Int),i + d=w.cells.length ->d < F' ->0 <=a ->a < (w.cells.length:Int) ->
  loop F' (Zhm st n h m next) (a,(cellOf w a.toNat n).isSome,(i:Int),((cellOf w a.toNat n).getD z).name,((cellOf w a.toNat n).getD z).root,((cellOf w a.toNat n).getD z).from_,((cellOf w a.toNat n).getD z).has,((cellOf w a.toNat n).getD z).out,((cellOf w a.toNat n).getD z).use)=bif Y2 w n h d a then next (ZK ((m:Int) + 1)) else some false:=by
  intro d
  induction d with
  | zero=>
    intro i F' m next a hi hF' h0 h1;obtain⟨F',rfl⟩:=Nat.exists_eq_succ_of_ne_zero (n:=F') (by omega);rw [Yx];simp only [Zhm,Y2,so.m];rw [decide_eq_false (by omega),cond_false];have:(a !=h)= !(a==h):=rfl;rw [this];cases a==h <;> rfl
  | succ d ih=>
    intro i F' m next a hi hF' h0 h1;obtain⟨F',rfl⟩:=Nat.exists_eq_succ_of_ne_zero (n:=F') (by omega);rw [Yx];simp only [Zhm,Y2,so.m];rw [decide_eq_true (by omega),cond_true];cases a==h
    ·simp only [cond_false];cases hq:cellOf w a.toNat n with
     | none=>rfl
     | some c=>
       simp only [Option.isSome_some,Bool.not_true,Bool.false_or,Option.getD_some];by_cases hf:c.from_ < 0
       ·rw [decide_eq_true hf];rfl
       ·rw [decide_eq_false hf];simp only [cond_false];have hv:=sh.from_ hq hf;unfold KW;rw [so.cells,if_pos hv,Option.bind_some,XD (by omega)];exact ih (i + 1) F' m next c.from_ (by omega) (by omega) hv.1 hv.2
    ·rfl
 unfold Zqf;refine(Za9 w.cells.length (fun v (_:Unit)=>v) (Zhn F st n h) (fun m s next=>bif(cellOf w m n).isSome && !(Y2 w n h w.cells.length m) then some false else next ()) (fun _=>some true) (by omega) (fun m s next hm=>?_) (fun s next=>?_) (by omega) ()).trans ?_
 ·simp only [Zhn,so.m];rw [decide_eq_true (by omega),cond_true];unfold KW;rw [so.cells,if_pos (by omega),Option.bind_some,Int.toNat_natCast];have:=key w.cells.length 0 F m next (m:Int) (by omega) (by omega) (by omega) (by omega);rw [Int.toNat_natCast] at this;cases hq:cellOf w m n with
  | none=>rfl
  | some c=>
    rw [hq] at this;simp only [Option.isSome_some,Bool.not_true,cond_false,Bool.true_and,Option.getD_some];refine Eq.trans this ?_;cases Y2 w n h w.cells.length m <;> rfl
 ·simp only [Zhn,so.m];rw [decide_eq_false (by omega),cond_false]
 ·rw [KA (r:=some false) (fun _ m=>(cellOf w m n).isSome && !(Y2 w n h w.cells.length m)) (fun _ _ _ _=>rfl),Zef];unfold WI;cases (List.range w.cells.length).any fun m=>(cellOf w m n).isSome && !(Y2 w n h w.cells.length m) <;> rfl
end
def ZkF (w:Zb) (m:Nat) (n:Int):Nat:=ZbT w m n + (match cellOf w m n with | some c=>bif c.root then 1 else 0 | none=>0)
def Wy (w:Zb) (n:Int) (q:Int×Int) (m:Nat):Int×Int:=bif decide ((ZkF w m n:Int) > 0) then(ZK (q.1 + (ZkF w m n:Int)),(m:Int)) else q
theorem Us {α σ:Type} (P:σ ->Prop) (f:σ ->α ->σ) (l:List α) (h:∀ s x,x ∈ l ->P s ->P (f s x)) (s:σ) (h0:P s):P (l.foldl f s):=by
 induction l generalizing s with
 | nil=>exact h0
 | cons x l ih=>exact ih (fun s y hy=>h s y (by simp [hy])) _ (h s x (by simp) h0)
theorem Zba {w:Zb} (sh:Shp w) (n:Int):∀ x ∈ YK w n,0 <=x∧x < (w.cells.length:Int):=by
 unfold YK;refine Us (fun s:List Int=>∀ x ∈ s,0 <=x∧x < (w.cells.length:Int)) _ _ (fun s x hx hs=>?_) _ ?_
 ·cases h:(x.kind==3) && (x.name==n)
  ·exact hs
  ·intro y hy;simp only [cond_true,List.mem_append,List.mem_singleton] at hy;rcases hy with hy | hy
   ·exact hs y hy
   ·subst hy;have:=sh.note x hx;unfold WB KZ at this;simp only [Bool.and_eq_true,decide_eq_true_eq] at this;exact this.1.1.1
 ·refine Us (fun s:List Int=>∀ x ∈ s,0 <=x∧x < (w.cells.length:Int)) _ _ (fun s m hm hs=>?_) _ (by simp);rw [List.mem_range] at hm;cases cellOf w m n with
  | none=>exact hs
  | some c=>
    dsimp only;cases c.root
    ·exact hs
    ·intro y hy;simp only [cond_true,List.mem_append,List.mem_singleton] at hy;rcases hy with hy | hy
     ·exact hs y hy
     ·subst hy;omega
theorem Znn {w:Zb} (sh:Shp w) (n:Int):(YK w n).length <=100:=by
 have h:(YK w n).length <=w.cells.length + w.notes.length:=by
  unfold YK;refine Nat.le_trans (ZiW _ (fun s x=>?_) w.notes _) (Nat.add_le_add_right (Nat.le_trans (ZiW _ (fun s m=>?_) (List.range w.cells.length) []) (by simp)) _)
  ·cases (x.kind==3) && (x.name==n) <;> simp
  ·cases cellOf w m n with
   | none=>simp
   | some c=>dsimp only;cases c.root <;> simp
 have:=sh.c6;have:=sh.notes;omega
theorem Zqq {c:Zd ->Bool} (l:List Zd) (k:Nat):l.foldl (fun(k:Nat) x=>bif c x then k + 1 else k) k=k + l.countP c:=by
 induction l generalizing k with
 | nil=>rfl
 | cons x l ih=>
   rw [List.foldl_cons,ih,List.countP_cons];cases c x <;> simp;omega
theorem Ke {w:Zb} {m:Nat} (hm:m < w.cells.length) (n:Int):(YK w n).count (m:Int)=ZkF w m n:=by
 unfold YK
 rw [Ut (fun s:List Int=>s.count (m:Int)) (g:=fun(k:Nat) (x:Zd)=>bif((x.kind==3) && (x.Zv== (m:Int))) && (x.name==n) then k + 1 else k) (fun s x hx=>by
  cases h1:x.kind==3 <;> cases h2:x.name==n <;> cases h3:x.Zv== (m:Int) <;> simp [List.count_append,List.count_singleton,h3])]
 rw [Zqq]
 rw [Ut (fun s:List Int=>s.count (m:Int)) (g:=fun(k:Nat) (m':Nat)=>match cellOf w m' n with | some c=>bif c.root && (m'==m) then k + 1 else k | none=>k) (fun s m' hx=>by
  cases cellOf w m' n with
  | none=>rfl
  | some c=>
    dsimp only;cases c.root
    ·rfl
    ·by_cases e:m'=m
     ·subst e;simp
     ·have e1:(m'==m)=false:=by simp [e]
      have e2:¬ (m':Int)= (m:Int):=by omega
      simp [e1,List.count_append,List.count_singleton,e2])]
 have:=ZdX (V:=id) (fun m' (k:Nat)=>match cellOf w m' n with | some c=>bif c.root && (m'==m) then k + 1 else k | none=>k) (fun k=>match cellOf w m n with | some c=>bif c.root then k + 1 else k | none=>k) hm (fun i s hi hne=>by
  simp only [id];cases cellOf w i n with
  | none=>rfl
  | some c=>
    have e1:(i==m)=false:=by simp [hne]
    dsimp only;rw [e1,Bool.and_false];rfl) (fun s=>by
  simp only [id];cases cellOf w m n with
  | none=>rfl
  | some c=>simp) 0
 simp only [id] at this;rw [List.count_nil,this];unfold ZkF ZbT;cases cellOf w m n with
 | none=>simp
 | some c=>cases c.root <;> simp <;> omega
theorem Zmi (L:List Int) (h:∀ x ∈ L,0 <=x) (M:Nat):L.countP (fun x=>decide (x < ((M + 1:Nat):Int)))=L.countP (fun x=>decide (x < (M:Int))) + L.count (M:Int):=by
 induction L with
 | nil=>rfl
 | cons x L ih=>
   have:=ih (fun y hy=>h y (by simp [hy]));rw [List.countP_cons,List.countP_cons,List.count_cons,this];have h0:=h x (by simp);by_cases e:x= (M:Int)
   ·subst e;have a1:decide ((M:Int) < ((M + 1:Nat):Int))=true:=by simp;omega
    have a2:decide ((M:Int) < (M:Int))=false:=by simp
    rw [a1,a2];simp;omega
   ·have a3:(x== (M:Int))=false:=by simp [e]
    by_cases l:x < (M:Int)
    ·have a1:decide (x < ((M + 1:Nat):Int))=true:=by simp;omega
     have a2:decide (x < (M:Int))=true:=by simp [l]
     rw [a1,a2,a3];simp;omega
    ·have a1:decide (x < ((M + 1:Nat):Int))=false:=by simp;omega
     have a2:decide (x < (M:Int))=false:=by simp;omega
     rw [a1,a2,a3];simp
theorem Zey {w:Zb} (sh:Shp w) (n:Int):((List.range w.cells.length).foldl (Wy w n) (0,0)).1= ((YK w n).length:Int)∧∀ h,YK w n= [h] ->((List.range w.cells.length).foldl (Wy w n) (0,0)).2=h:=by
 have hl:=Znn sh n;have hr:=Zba sh n
 have key:∀ M,M <=w.cells.length ->((List.range M).foldl (Wy w n) (0,0)).1= ((YK w n).countP (fun x=>decide (x < (M:Int))):Int)∧(((List.range M).foldl (Wy w n) (0,0)).1 ≠ 0 ->((List.range M).foldl (Wy w n) (0,0)).2 ∈ YK w n):=by
  intro M
  induction M with
  | zero=>
    intro _
    have:(YK w n).countP (fun x=>decide (x < ((0:Nat):Int)))=0:=by
     rw [List.countP_eq_zero];intro x hx;have:= (hr x hx).1;simp;omega
    rw [this];exact⟨rfl,fun h=>absurd rfl h⟩
  | succ M ih=>
    intro hM;obtain⟨i1,i2⟩:=ih (by omega);rw [List.range_succ,List.foldl_append];simp only [List.foldl_cons,List.foldl_nil];rw [Zmi _ (fun x hx=>(hr x hx).1)];have hc:=Ke (w:=w) (m:=M) (by omega) n;have hle:=List.countP_le_length (p:=fun x=>decide (x < (M:Int))) (l:=YK w n);have hle2:=List.count_le_length (a:= (M:Int)) (l:=YK w n);generalize (List.range M).foldl (Wy w n) (0,0)=q at i1 i2 ⊢;unfold Wy;rw [← hc];by_cases h0:(YK w n).count (M:Int)=0
    ·have:decide ((((YK w n).count (M:Int):Nat):Int) > 0)=false:=by simp [h0]
     rw [this,cond_false,h0];exact⟨i1,i2⟩
    ·have:decide ((((YK w n).count (M:Int):Nat):Int) > 0)=true:=decide_eq_true (by omega);rw [this,cond_true];refine⟨?_,fun _=>?_⟩
     ·show ZK (q.1 + _)=_;rw [i1,YJ] <;> omega
     ·have hp:0 < (YK w n).count (M:Int):=Nat.pos_of_ne_zero h0;exact List.count_pos_iff.1 hp
 obtain⟨k1,k2⟩:=key w.cells.length (Nat.le_refl _)
 have e:(YK w n).countP (fun x=>decide (x < (w.cells.length:Int)))= (YK w n).length:=by
  rw [List.countP_eq_length];intro x hx
  simpa using (hr x hx).2
 rw [e] at k1;refine⟨k1,fun h hh=>?_⟩;have:=k2 (by rw [k1,hh];simp);rw [hh] at this
 simpa using this
end Go.Proofs.Ytekpjgmhkkjhgaa
end
section
namespace Go.Proofs.Ytekpjgmhkkjhgaa
open Go.Lf
def Zqy (w:Zb) (n:Int) (m:Nat):Bool:= (JH w m n !=Zdi w m n) || decide (JH w m n > 1000000)
def Qq (w:Zb) (n:Int):Int×Int:= (List.range w.cells.length).foldl (Wy w n) (0,0)
def Wm (w:Zb) (n:Int):Bool:= !((List.range w.cells.length).any (Zqy w n)) && ((Qq w n).1==1 && WI w n (Qq w n).2)
def KS (w:Zb):Bool:=Zbx w && (!(anyI (KC w) 0 w.freed) && (ZcN w && Kw w))
def ZaW (w:Zb):Bool:=KS w && !((List.range w.names.toNat).any fun n=>Yl w n && !(Wm w n))
theorem Zfz {w:Zb} (h:KS w=true):Shp w:=by
 unfold KS at h;simp only [Bool.and_eq_true] at h;exact Zre h.1 h.2.2.1 h.2.2.2
section
theorem ZrT {F:Nat} (hF:1000 <=F) {w:Zb} (sm:Small w) (sh:Shp w) (n:Int):(((YK w n).length:Int)==1)= ((Qq w n).1==1)∧((YK w n).length=1 ->YK w n= [(Qq w n).2]):=by
 obtain⟨h1,h2⟩:=Zey sh n;unfold Qq;refine⟨by rw [h1],fun hl=>?_⟩;obtain⟨h,hh⟩:=List.length_eq_one_iff.1 hl;rw [h2 h hh];exact hh
theorem ZvO {F:Nat} (hF:1000 <=F) {w:Zb} (sm:Small w):Zs7 F w=some (ZaW w):=by
 unfold Zs7;have hf:=sm.freed;have hc:=sm.cells;have hn:=sm.notes
 have e0:((((((decide ((w.cells.length:Int) < 1)) || (decide ((w.cells.length:Int) > 6))) || (decide (w.names < 0))) || (decide (w.names > 12))) || (decide ((w.notes.length:Int) > 80))) || (decide ((w.freed.length:Int) > w.names)))= !(Zbx w):=by
  unfold Zbx;rw [Bool.eq_iff_iff];simp only [Bool.or_eq_true,decide_eq_true_eq,Bool.not_eq_true',← Bool.not_eq_true,Bool.and_eq_true];omega
 rw [e0];cases h0:Zbx w
 ·unfold ZaW KS;rw [h0];rfl
 ·have h0':=h0;unfold Zbx at h0';simp only [Bool.and_eq_true,decide_eq_true_eq] at h0';have en:((w.names.toNat:Nat):Int)=w.names:=by omega
  simp only [Bool.not_true,cond_false];refine(Xa w.freed (fun v (_:Unit)=>v) (Zhw F w) (fun k x s next=>bif KC w k x then some false else next ()) (fun _=>bif ZcN w && Kw w then some (!((List.range w.names.toNat).any fun n=>Yl w n && !(Wm w n))) else some false) (by omega) (fun k y s next hy hk=>?_) (fun s next=>?_) (by omega) ()).trans ?_
  ·have hk':k < w.freed.length:=by omega
   simp only [Zhw,ZY,hy,hk,decide_true,cond_true,Option.bind_some,ZoV _ hk' (by omega)];unfold KC;have a1:decide (y < 0)= !decide (0 <=y):=by rw [← decide_not];exact decide_eq_decide.2 (by omega)
   have a2:decide (y >=w.names)= !decide (y < w.names):=by rw [← decide_not];exact decide_eq_decide.2 (by omega)
   rw [a1,a2];cases decide (0 <=y) <;> cases decide (y < w.names) <;> cases decide ((k:Int) > 0) <;> rfl
  ·simp only [Zhw];rw [decide_eq_false (by omega),cond_false,Zqc hF sm _ rfl rfl rfl,Option.bind_some];cases hr:ZcN w && Kw w
   ·rfl
   ·simp only [Bool.not_true,cond_false,cond_true];rw [Bool.and_eq_true] at hr;have sh:=Zre h0 hr.1 hr.2;obtain⟨cs,q1,q2⟩:=Zoz hF sm sh;have so:Qb w ⟨(w.cells.length:Int),w.names,cs,w.notes,w.freed⟩:= ⟨rfl,rfl,rfl,rfl,q2⟩
    rw [q1,Option.bind_some,Zpq hF sm sh.szd so,Option.bind_some];generalize hst:(⟨(w.cells.length:Int),w.names,cs,w.notes,w.freed⟩:Store)=st at so;refine(Za9 w.names.toNat (fun v (_:Unit)=>v) (Zhv F st (Zcc w)) (fun n s next=>bif Yl w n && !(Wm w n) then some false else next ()) (fun _=>some true) (by omega) (fun n s next hnn=>?_) (fun s next=>?_) (by omega) ()).trans ?_
    ·have ZyA:(n:Int) < w.names:=by omega
     simp only [Zhv,so.n];rw [decide_eq_true ZyA,cond_true,ZeI hF sm st so.n so.freed,Option.bind_some];cases Yl w n
     ·rfl
     ·simp only [Bool.not_true,cond_false,Bool.true_and];rw [Znl hF sm sh so ZyA,Option.bind_some];obtain⟨n1,n2⟩:=ZrT hF sm sh (n:Int);have e5:(((YK w n).length:Int) !=1)= !((Qq w n).1==1):=by rw [← n1];rfl
      rw [e5,Bool.not_not];unfold Wm;cases h1:(Qq w n).1==1
      ·simp only [ZlM,Option.bind_some,Bool.not_false,Bool.true_or,cond_true,Bool.false_and,Bool.and_false]
      ·rw [h1] at n1
       have hl:(YK w n).length=1:=by
        have:=eq_of_beq n1;omega
       rw [n2 hl];have eg:Yh [(Qq w n).2] 0=some (Qq w n).2:=rfl;simp only [Zgn,eg,Option.bind_some,Zm9 hF sm sh so,Bool.not_true,Bool.false_or,Bool.true_and];cases WI w n (Qq w n).2
       ·simp only [Bool.not_false,cond_true,Bool.and_false]
       ·simp only [Bool.not_true,cond_false,Bool.and_true,Bool.not_not];refine(Za9 w.cells.length (fun v (_:Unit)=>v) (Zhu st (Zcc w) n next) (fun m s nx=>bif Zqy w n m then some false else nx ()) (fun _=>next (ZK ((n:Int) + 1))) (by omega) (fun m s nx hm=>?_) (fun s nx=>?_) (by omega) ()).trans ?_
        ·simp only [Zhu,so.m];obtain⟨g1,g2⟩:=ZkV sh.szd hm ZyA;rw [decide_eq_true (by omega),cond_true];have p1:Zag (Zcc w).1 ⟨(m:Int),(n:Int)⟩ 0=some (JH w m n):=by rw [← g1];rfl
         have p2:Zag (Zcc w).2 ⟨(m:Int),(n:Int)⟩ 0=some (Zdi w m n):=by rw [← g2];rfl
         simp only [p1,p2,Option.bind_some,ZlL];unfold Zqy;cases JH w m n !=Zdi w m n <;> rfl
        ·simp only [Zhu,so.m,Zht];rw [decide_eq_false (by omega),cond_false]
        ·rw [KA (r:=some false) (fun _ m=>Zqy w n m) (fun _ _ _ _=>rfl),Zef]
    ·simp only [Zhv,so.n];rw [decide_eq_false (by omega),cond_false]
    ·rw [KA (r:=some false) (fun _ (n:Nat)=>Yl w n && !(Wm w n)) (fun _ _ _ _=>rfl),Zef];cases (List.range w.names.toNat).any fun n=>Yl w n && !(Wm w n) <;> rfl
  ·rw [KA (r:=some false) (KC w) (fun k _ _ _=>by rw [Nat.zero_add])];unfold ZaW KS;rw [h0];cases anyI (KC w) 0 w.freed
   ·cases ZcN w && Kw w <;> rfl
   ·rfl
end
end Go.Proofs.Ytekpjgmhkkjhgaa
end
section
namespace Go.Proofs.Ytekpjgmhkkjhgaa
open Go.Lf
abbrev Row:=List Za
def UC (r:Row):Prop:=r.Pairwise fun a b=>a.name < b.name
def WS (r:Row) (n:Int):Option Za:=r.find? fun c=>c.name==n
def put (c:Za):Row ->Row
 | []=>[c]
 | d::r=>if d.name < c.name then d::put c r else if d.name=c.name then c::r else c::d::r
def rmv (n:Int) (r:Row):Row:=r.filter fun c=>!(c.name==n)
theorem X0 {r:Row} {n:Int} {c:Za} (h:WS r n=some c):c.name=n:=by
 unfold WS at h;have:=List.find?_some h;simpa using this
theorem Zbc {r:Row} {n:Int} {c:Za} (h:WS r n=some c):c ∈ r:=List.mem_of_find?_eq_some h
theorem Y7 (d:Za) (r:Row) (n:Int):WS (d::r) n=if d.name=n then some d else WS r n:=by
 unfold WS;rw [List.find?_cons];by_cases h:d.name=n
 ·have:(d.name==n)=true:=by simp [h]
  rw [this,if_pos h]
 ·have:(d.name==n)=false:=by simp [h]
  rw [this,if_neg h]
theorem Zvm (n:Int):WS [] n=none:=rfl
theorem UC.tail {d:Za} {r:Row} (s:UC (d::r)):UC r:= (List.pairwise_cons.1 s).2
theorem UC.head {d:Za} {r:Row} (s:UC (d::r)):∀ c ∈ r,d.name < c.name:= (List.pairwise_cons.1 s).1
theorem Zhi {r:Row} {n:Int} (h:∀ c ∈ r,n < c.name):WS r n=none:=by
 unfold WS;rw [List.find?_eq_none];intro c hc;have:=h c hc;simp;omega
theorem ZnE {r:Row} (s:UC r) {c:Za} (h:c ∈ r):WS r c.name=some c:=by
 induction r with
 | nil=>simp at h
 | cons d r ih=>
   rw [Y7];rcases List.mem_cons.1 h with rfl | h
   ·rw [if_pos rfl]
   ·have:=s.head c h;rw [if_neg (by omega)];exact ih s.tail h
theorem K3 (c:Za) {r:Row} (s:UC r) (n:Int):WS (put c r) n=if n=c.name then some c else WS r n:=by
 induction r with
 | nil=>rw [put,Y7,Zvm];by_cases h:n=c.name <;> simp [h];exact fun e=>h e.symm
 | cons d r ih=>
   unfold put;by_cases h1:d.name < c.name
   ·rw [if_pos h1,Y7,Y7,ih s.tail];by_cases h2:d.name=n
    ·rw [if_pos h2,if_pos h2,if_neg (by omega)]
    ·rw [if_neg h2,if_neg h2]
   ·rw [if_neg h1];by_cases h2:d.name=c.name
    ·rw [if_pos h2,Y7,Y7];by_cases h3:n=c.name
     ·rw [if_pos h3.symm,if_pos h3]
     ·rw [if_neg (fun e=>h3 e.symm),if_neg h3,if_neg (by omega)]
    ·rw [if_neg h2,Y7];by_cases h3:n=c.name
     ·rw [if_pos h3.symm,if_pos h3]
     ·rw [if_neg (fun e=>h3 e.symm),if_neg h3]
theorem ZuM {c x:Za} {r:Row} (h:x ∈ put c r):x=c∨x ∈ r:=by
 induction r with
 | nil=>simp [put] at h;exact .inl h
 | cons d r ih=>
   unfold put at h;split at h
   ·rcases List.mem_cons.1 h with rfl | h
    ·exact .inr (by simp)
    ·exact(ih h).imp id fun z=>by simp [z]
   ·split at h
    ·rcases List.mem_cons.1 h with rfl | h
     ·exact .inl rfl
     ·exact .inr (by simp [h])
    ·rcases List.mem_cons.1 h with rfl | h
     ·exact .inl rfl
     ·exact .inr h
theorem UC.put {c:Za} {r:Row} (s:UC r):UC (put c r):=by
 induction r with
 | nil=>exact List.pairwise_singleton _ _
 | cons d r ih=>
   unfold Go.Proofs.Ytekpjgmhkkjhgaa.put;by_cases h1:d.name < c.name
   ·rw [if_pos h1];refine List.pairwise_cons.2 ⟨fun x hx=>?_,ih s.tail⟩;rcases ZuM hx with rfl | hx
    ·exact h1
    ·exact s.head x hx
   ·rw [if_neg h1];by_cases h2:d.name=c.name
    ·rw [if_pos h2];exact List.pairwise_cons.2 ⟨fun x hx=>by have:=s.head x hx;omega,s.tail⟩
    ·rw [if_neg h2];refine List.pairwise_cons.2 ⟨fun x hx=>?_,s⟩;rcases List.mem_cons.1 hx with rfl | hx
     ·omega
     ·have:=s.head x hx;omega
theorem ZoW (n:Int) (r:Row) (k:Int):WS (rmv n r) k=if k=n then none else WS r k:=by
 induction r with
 | nil=>simp [rmv,WS]
 | cons d r ih=>
   unfold rmv at ih ⊢;rw [List.filter_cons];by_cases h:d.name=n
   ·have:(!(d.name==n))=false:=by simp [h]
    rw [if_neg (by simp [h]),ih,Y7];by_cases hk:k=n
    ·rw [if_pos hk,if_pos hk]
    ·rw [if_neg hk,if_neg hk,if_neg (by omega)]
   ·rw [if_pos (by simp [h]),Y7,ih,Y7];by_cases hk:k=n
    ·rw [if_pos hk,if_pos hk,if_neg (by omega)]
    ·rw [if_neg hk,if_neg hk]
theorem UC.rmv {r:Row} (s:UC r) (n:Int):UC (rmv n r):=List.Pairwise.filter _ s
theorem UC.ext:∀ {r q:Row},UC r ->UC q ->(∀ n,WS r n=WS q n) ->r=q
 | [],[],_,_,_=>rfl
 | [],d::q,_,_,h=>by have:=h d.name;rw [Y7,if_pos rfl] at this;simp [WS] at this
 | d::r,[],_,_,h=>by have:=h d.name;rw [Y7,if_pos rfl] at this;simp [WS] at this
 | d::r,e::q,s,t,h=>by
   have hde:d=e:=by
    have h1:=h d.name;have h2:=h e.name;rw [Y7,if_pos rfl,Y7] at h1;rw [Y7,Y7,if_pos rfl] at h2;by_cases hn:e.name=d.name
    ·rw [if_pos hn] at h1;exact Option.some.inj h1
    ·rw [if_neg hn] at h1;rw [if_neg (fun z=>hn z.symm)] at h2;have m1:=t.head d (Zbc h1.symm);have m2:=s.head e (Zbc h2);omega
   subst hde;congr 1;refine UC.ext s.tail t.tail fun n=>?_
   have:=h n;rw [Y7,Y7] at this;by_cases hn:d.name=n
   ·rw [Zhi (fun c hc=>by have:=s.head c hc;omega),Zhi (fun c hc=>by have:=t.head c hc;omega)]
   ·rwa [if_neg hn,if_neg hn] at this
def blank (n:Int):Za:= ⟨n,false,-1,0,0,false⟩
def look (r:Row) (n:Int):Za:= (WS r n).getD (blank n)
def cw (w:Zb) (m:Nat) (r:Row):Zb:= ⟨w.cells.set m r,w.notes,w.names,w.freed⟩
theorem set_self {α:Type} {l:List α} {m:Nat} {x:α} (h:l[m]? =some x):l.set m x=l:=by
 apply List.ext_getElem?;intro k;rw [List.getElem?_set];by_cases hk:m=k
 ·subst hk;have:= (List.getElem?_eq_some_iff.1 h).1;rw [if_pos rfl,if_pos this,h]
 ·rw [if_neg hk]
def Jw (n:Int):List Int ->List Int
 | []=>[n]
 | x::l=>if x > n then n::x::l else x::Jw n l
def Xp (w:Zb) (m:Nat) (n:Int) (c:Za):Zb:=
 bif c.use || (c.out !=0) then w else
  ⟨w.cells.set m (rmv n (rowOf w m)),bif c.root then w.notes else bif decide (c.from_ >=0) then w.notes ++ [⟨2,c.from_,n,0,c.has⟩] else w.notes,w.names,bif c.root then Jw n w.freed else w.freed⟩
theorem JF (r:Row) (n:Int):(look r n).name=n:=by
 unfold look;cases h:WS r n with
 | none=>rfl
 | some c=>exact X0 h
theorem ZuC {r:Row} (s:UC r) {c d:Za} (h:c.name=d.name):put c (put d r)=put c r:=by
 refine UC.ext s.put.put s.put fun k=>?_
 rw [K3 _ s.put,K3 _ s,K3 _ s];by_cases hk:k=c.name
 ·rw [if_pos hk,if_pos hk]
 ·rw [if_neg hk,if_neg hk,if_neg (by omega)]
theorem Ji {w:Zb} {m:Nat} (hm:m < w.cells.length) (r:Row):rowOf (cw w m r) m=r:=by
 unfold rowOf cw;simp [hm]
theorem Zgd {c:Za} (r:Row):(put c r).length <=r.length + 1:=by
 induction r with
 | nil=>simp [put]
 | cons d r ih=>
   unfold put;split
   ·simp;omega
   ·split
    ·simp
    ·simp
def sent (w:Zb) (x:Zd):Zb:= ⟨w.cells,w.notes ++ [x],w.names,w.freed⟩
def XA (w:Zb) (m:Nat) (n Zv x:Int):Zb:=
 bif Zv != (m:Int) then sent w ⟨2,Zv,n,0,x⟩ else cw w m (put {look (rowOf w m) n with out:=ZK ((look (rowOf w m) n).out - x)} (rowOf w m))
theorem Small.cw {w:Zb} (s:Small w) {m:Nat} {r:Row} (h:r.length < 1000):Small (cw w m r):=by
 refine⟨by show(w.cells.set m r).length < 1000;simp;exact s.cells,fun q hq=>?_,s.notes,s.freed⟩;have hq:q ∈ w.cells.set m r:=hq;rcases List.mem_or_eq_of_mem_set hq with z | z
 ·exact s.rows q z
 ·rw [z];exact h
def QN (w:Zb) (x:Zd):Zb:=
 let m:=x.Zv.toNat
 let r:=rowOf w m
 let c:=look r x.name
 let a:=cw w m
 bif x.kind==1 then
  bif(!c.root && (c.from_==-1)) && (x.via !=x.Zv) then a (put ⟨c.name,c.root,x.via,x.w,c.out,true⟩ r)
  else bif(!c.root && decide (c.from_ >=0)) && (c.from_==x.via) then a (put ⟨c.name,c.root,c.from_,ZK (c.has + x.w),c.out,true⟩ r)
  else XA (a (put ⟨c.name,c.root,c.from_,c.has,c.out,true⟩ r)) m x.name x.via x.w
 else bif x.kind==2 then
  let d:Za:= ⟨c.name,c.root,c.from_,c.has,ZK (c.out - x.w),c.use⟩
  Xp (a (put d r)) m x.name d
 else
  let d:Za:= ⟨c.name,true,-1,0,ZK (c.out + 16),c.use⟩
  let b:=a (put d r)
  let e:=bif decide (c.from_ >=0) then XA b m x.name c.from_ c.has else b
  Xp e m x.name (look (rowOf e m) x.name)
theorem Yj {w:Zb} {m:Nat} {r:Row}:(cw w m r).cells.length=w.cells.length:=by unfold cw;simp
theorem ZDo (w:Zb) (m:Nat) (r q:Row):cw (cw w m r) m q=cw w m q:=by unfold cw;simp
theorem ZcA {w:Zb} {m:Nat} (hm:m < w.cells.length) (n Zv x:Int):rowOf (XA w m n Zv x) m=rowOf w m∨rowOf (XA w m n Zv x) m=put {look (rowOf w m) n with out:=ZK ((look (rowOf w m) n).out - x)} (rowOf w m):=by
 unfold XA;cases (Zv != (m:Int))
 ·right;rw [cond_false,Ji hm]
 ·left;rfl
theorem ZqB {w:Zb} {m:Nat} (n Zv x:Int):(XA w m n Zv x).cells.length=w.cells.length:=by
 unfold XA;cases (Zv != (m:Int))
 ·rw [cond_false,Yj]
 ·rfl
theorem Zmt {w:Zb} {m:Nat} (s:Small w) (hr:(rowOf w m).length < 990) (hn:w.notes.length < 990) (n Zv x:Int):Small (XA w m n Zv x):=by
 unfold XA;cases (Zv != (m:Int))
 ·rw [cond_false];exact s.cw (by have:=Zgd (c:= {look (rowOf w m) n with out:=ZK ((look (rowOf w m) n).out - x)}) (rowOf w m);omega)
 ·exact⟨s.cells,s.rows,by show(w.notes ++ [_]).length < 1000;simp;omega,s.freed⟩
section
variable {F:Nat} {w:Zb} {m:Nat} {n:Int}
theorem Zhj (hm:m < w.cells.length) (Ym:UC (rowOf w m)) {d:Za} (hd:d.name=n):WS (rowOf (cw w m (put d (rowOf w m))) m) n=some d:=by
 rw [Ji hm,K3 _ Ym,if_pos hd.symm]
theorem QL {r:Row} {d:Za} (h:WS r n=some d):look r n=d:=by unfold look;rw [h];rfl
structure At1 (w:Zb) (m:Nat) (n:Int):Prop where
 sm:Small w
 hm:m < w.cells.length
 Ym:UC (rowOf w m)
 rl:(rowOf w m).length < 950
 nl:w.notes.length < 950
 has:∃ d,WS (rowOf w m) n=some d
theorem At1.put (sm:Small w) (hm:m < w.cells.length) (Ym:UC (rowOf w m)) (hr:(rowOf w m).length < 940) (hn:w.notes.length < 940) {d:Za} (hd:d.name=n):At1 (cw w m (put d (rowOf w m))) m n:=by
 have hl:=Zgd (c:=d) (rowOf w m);exact⟨sm.cw (by omega),by rw [Yj];exact hm,by rw [Ji hm];exact Ym.put,by rw [Ji hm];omega,by show w.notes.length < 950;omega,d,Zhj hm Ym hd⟩
theorem Ztz (sm:Small w) (hm:m < w.cells.length) (Ym:UC (rowOf w m)) (hr:(rowOf w m).length < 945) (hn:w.notes.length < 945) (Zv x:Int) (hd:∃ d,WS (rowOf w m) n=some d):At1 (XA w m n Zv x) m n:=by
 refine⟨Zmt sm (by omega) (by omega) n Zv x,by rw [ZqB];exact hm,?_,?_,?_,?_⟩
 ·rcases ZcA hm n Zv x with h | h <;> rw [h]
  ·exact Ym
  ·exact Ym.put
 ·have hl:=Zgd (c:= {look (rowOf w m) n with out:=ZK ((look (rowOf w m) n).out - x)}) (rowOf w m);rcases ZcA hm n Zv x with h | h <;> rw [h] <;> omega
 ·unfold XA;cases (Zv != (m:Int))
  ·rw [cond_false];show w.notes.length < 950;omega
  ·rw [cond_true];show(w.notes ++ [_]).length < 950;simp;omega
 ·rcases ZcA hm n Zv x with h | h <;> rw [h]
  ·exact hd
  ·exact⟨_,by rw [K3 _ Ym,if_pos (by exact(JF _ _).symm)]⟩
end
end Go.Proofs.Ytekpjgmhkkjhgaa
end
section
namespace Go.Proofs.Ytekpjgmhkkjhgaa
open Go.Lf
section
variable {w:Zb} {st:Store} {m:Nat} {n:Int}
theorem YW (w:Zb) (a:Nat) (b:Int):cellOf w a b=WS (rowOf w a) b:=rfl
theorem Qb.get (s:Qb w st) (hm:m < w.cells.length):Xk st.cells ⟨m,n⟩=WS (rowOf w m) n:=by
 rw [s.cells,if_pos (by omega),Int.toNat_natCast,YW]
theorem Zd9 (s:Qb w st) (hm:m < w.cells.length):ZfS st m n=some (look (rowOf w m) n):=by
 unfold ZfS KW;rw [s.get hm];cases h:WS (rowOf w m) n with
 | none=>
   rw [show look (rowOf w m) n=blank n by unfold look;rw [h];rfl]
   rfl
 | some c=>
   rw [QL h]
   rfl
theorem Wx {a:Nat} (h:a ≠ m) (r:Row):rowOf (cw w m r) a=rowOf w a:=by
 unfold rowOf cw;simp only;rw [List.getElem?_set_ne (fun z=>h z.symm)]
theorem MapOf.put {l:List (Ze×Za)} (s:MapOf w l) (hm:m < w.cells.length) (Ym:UC (rowOf w m)) {c:Za} (hc:c.name=n):MapOf (cw w m (put c (rowOf w m))) (YV l ⟨m,n⟩ c):=by
 intro a b;rw [ZeJ,Yj,s a b];by_cases ha:0 <=a∧a < (w.cells.length:Int)
 ·rw [if_pos ha,if_pos ha,YW,YW];by_cases he:a= (m:Int)
  ·subst he;rw [Int.toNat_natCast,Ji hm,K3 _ Ym];by_cases hb:b=n
   ·subst hb;rw [if_pos rfl,if_pos hc.symm]
   ·rw [if_neg (fun z=>hb (by injection z)),if_neg (fun z=>hb (z.trans hc))]
  ·rw [if_neg (fun z=>he (by injection z)),Wx (by omega)]
 ·rw [if_neg ha,if_neg ha,if_neg (fun z=>ha (by injection z with z1 _;rw [z1];omega))]
theorem Qb.put (s:Qb w st) (hm:m < w.cells.length) (Ym:UC (rowOf w m)) {c:Za} (hc:c.name=n):Qb (cw w m (Go.Proofs.Ytekpjgmhkkjhgaa.put c (rowOf w m))) ⟨st.machines,st.names,YV st.cells ⟨m,n⟩ c,st.notes,st.freed⟩:=
 ⟨by rw [Yj];exact s.m,s.n,s.notes,s.freed,s.cells.put hm Ym hc⟩
theorem Qb.sent (s:Qb w st) (hn:w.notes.length < 1000) (x:Zd):∃ st',K6 st x=some st'∧Qb (sent w x) st':=by
 unfold K6;rw [s.notes,XM (by simp;omega) (by decide)];exact⟨_,rfl,s.m,s.n,rfl,s.freed,s.cells⟩
theorem Zqz (s:Qb w st) (hm:m < w.cells.length) (Ym:UC (rowOf w m)) (hn:w.notes.length < 1000) (Zv x:Int):∃ st',ZfR st m n Zv x=some st'∧Qb (XA w m n Zv x) st':=by
 unfold ZfR XA;cases (Zv != (m:Int))
 ·simp only [cond_false];rw [Zd9 s hm,Option.bind_some];exact⟨_,rfl,s.put hm Ym (by exact JF _ _)⟩
 ·simp only [cond_true];obtain⟨st',h1,h2⟩:=s.sent hn ⟨2,Zv,n,0,x⟩;rw [h1];exact⟨st',rfl,h2⟩
end
end Go.Proofs.Ytekpjgmhkkjhgaa
end
section
namespace Go.Proofs.Ytekpjgmhkkjhgaa
open Go.Lf
section
variable {κ ν:Type} [DecidableEq κ]
def UK (l:List (κ×ν)):Prop:= (l.map (·.1)).Nodup
theorem UK.nil:UK ([]:List (κ×ν)):=List.nodup_nil
theorem UK.YV {l:List (κ×ν)} (u:UK l) (k:κ) (x:ν):UK (YV l k x):=by
 unfold Go.Lf.YV;cases e:Z4 l k with
 | some q=>
   unfold UK at u ⊢
   have:(l.modify q.1 fun p=>(p.1,x)).map (·.1)=l.map (·.1):=by
    apply List.ext_getElem?;intro i;rw [List.getElem?_map,List.getElem?_map,List.getElem?_modify];cases l[i]? with
    | none=>rfl
    | some p=>simp only [Option.map_some];split <;> rfl
   dsimp only;rw [this];exact u
 | none=>
   unfold UK at u ⊢;dsimp only;rw [List.map_append,List.nodup_append];refine⟨u,by simp,fun a ha b hb=>?_⟩;simp at hb;subst hb;obtain⟨p,hp,rfl⟩:=List.mem_map.1 ha;exact Za7.1 e p hp
theorem UK.Zay {l:List (κ×ν)} (u:UK l) (k:κ):UK (Zay l k):=by
 unfold Go.Lf.Zay;cases e:Z4 l k with
 | some q=>
   unfold UK at u ⊢;dsimp only;exact u.sublist ((List.eraseIdx_sublist l q.1).map _)
 | none=>exact u
theorem Kz (p:κ×ν) (l:List (κ×ν)) (k:κ):Z4 (p::l) k=if p.1=k then some (0,p.2) else(Z4 l k).map fun q=>(q.1 + 1,q.2):=rfl
theorem ZiP:∀ {l:List (κ×ν)},UK l ->∀ k k':κ,Xk (Zay l k) k'=if k'=k then none else Xk l k'
 | [],_,k,k'=>by simp [Zay,Xk,Z4]
 | p::l,u,k,k'=>by
   have u':p.1 ∉ l.map (·.1)∧UK l:=List.nodup_cons.1 u;have ih:=ZiP u'.2 k k';unfold Zay Xk at ih ⊢;rw [Kz p l k,Kz p l k'];have hmm:∀ o:Option (Nat×ν),Option.map (·.2) (Option.map (fun q=>(q.1 + 1,q.2)) o)=Option.map (·.2) o:=fun o=>by cases o <;> rfl
   by_cases hp:p.1=k
   ·rw [if_pos hp];show Option.map _ (Z4 ((p::l).eraseIdx 0) k')=_;rw [List.eraseIdx_cons_zero];by_cases hk:k'=k
    ·rw [if_pos hk,hk];have:Z4 l k=none:=Za7.2 fun q hq e=>u'.1 (List.mem_map.2 ⟨q,hq,e.trans hp.symm⟩)
     rw [this];rfl
    ·rw [if_neg hk,if_neg (fun z=>hk (z.symm.trans hp)),hmm]
   ·rw [if_neg hp];cases e:Z4 l k with
    | none=>
      rw [e] at ih;dsimp only [Option.map_none] at ih ⊢;rw [Kz];by_cases hk:k'=k
      ·rw [if_pos hk] at ih ⊢;rw [if_neg (fun z=>hp (z.trans hk)),hmm];exact ih
      ·rw [if_neg hk]
    | some q=>
      rw [e] at ih;dsimp only [Option.map_some] at ih ⊢;rw [List.eraseIdx_cons_succ,Kz];by_cases h3:p.1=k'
      ·rw [if_pos h3,if_neg (fun z=>hp (h3.trans z)),if_pos h3]
      ·rw [if_neg h3,if_neg h3,hmm,hmm];exact ih
end
theorem MapOf.rmv {w:Zb} {m:Nat} {n:Int} {l:List (Ze×Za)} (s:MapOf w l) (u:UK l) (hm:m < w.cells.length):MapOf (cw w m (rmv n (rowOf w m))) (Zay l ⟨m,n⟩):=by
 intro a b;rw [ZiP u,Yj,s a b];by_cases ha:0 <=a∧a < (w.cells.length:Int)
 ·rw [if_pos ha,if_pos ha,YW,YW];by_cases he:a= (m:Int)
  ·subst he;rw [Int.toNat_natCast,Ji hm,ZoW];by_cases hb:b=n
   ·subst hb;rw [if_pos rfl,if_pos rfl]
   ·rw [if_neg (fun z=>hb (by injection z)),if_neg hb]
  ·rw [if_neg (fun z=>he (by injection z)),Wx (by omega)]
 ·rw [if_neg ha,if_neg ha];split <;> rfl
end Go.Proofs.Ytekpjgmhkkjhgaa
end
section
namespace Go.Proofs.Ytekpjgmhkkjhgaa
open Go.Lf
def Asc (l:List Int):Prop:=l.Pairwise (· <=·)
theorem ZuN (a b:Int):ZfP a b=some (decide (a < b)):=by
 unfold ZfP Zi5;simp [gd]
theorem Zg8 {x:Int}:∀ {l:List Int},(∀ y ∈ l,y <=x) ->Jw x l=l ++ [x]
 | [],_=>rfl
 | y::l,h=>by
   have:=h y (by simp);rw [Jw,if_neg (by omega),Zg8 (fun z hz=>h z (by simp [hz]))];rfl
theorem ZiS {x y:Int} (h:x < y):∀ {l:List Int},Jw x (l ++ [y])=Jw x l ++ [y]
 | []=>by
   have h':y > x:=h;show(if y > x then x::y:: [] else y::Jw x [])=_;rw [if_pos h'];rfl
 | z::l=>by
   rw [List.cons_append,Jw,Jw];by_cases hz:z > x
   ·rw [if_pos hz,if_pos hz];rfl
   ·rw [if_neg hz,if_neg hz,ZiS h];rfl
theorem ZdS {x z:Int}:∀ {l:List Int},z ∈ Jw x l ->z=x∨z ∈ l
 | [],h=>by simp [Jw] at h;exact .inl h
 | y::l,h=>by
   rw [Jw] at h;split at h
   ·rcases List.mem_cons.1 h with h | h
    ·exact .inl h
    ·exact .inr h
   ·rcases List.mem_cons.1 h with h | h
    ·exact .inr (by simp [h])
    ·exact(ZdS h).imp id fun q=>by simp [q]
theorem Asc.Jw {x:Int}:∀ {l:List Int},Asc l ->Asc (Jw x l)
 | [],_=>List.pairwise_singleton _ _
 | y::l,s=>by
   have s':=List.pairwise_cons.1 s;unfold Go.Proofs.Ytekpjgmhkkjhgaa.Jw;by_cases h:y > x
   ·rw [if_pos h];refine List.pairwise_cons.2 ⟨fun z hz=>?_,s⟩;rcases List.mem_cons.1 hz with rfl | hz
    ·omega
    ·have:=s'.1 z hz;omega
   ·rw [if_neg h];refine List.pairwise_cons.2 ⟨fun z hz=>?_,Asc.Jw s'.2⟩;rcases ZdS hz with rfl | hz
    ·omega
    ·exact s'.1 z hz
theorem Zg7 (x:Int):∀ l:List Int,(Jw x l).length=l.length + 1
 | []=>rfl
 | y::l=>by
   rw [Jw];split
   ·rfl
   ·simp [Zg7 x l]
theorem ZoU {α:Type} (p s:List α) (x:α):(p ++ x::s)[p.length]? =some x:=by simp
theorem Znb (i:Int) (next:Int×List Int ->Option (List Int)):∀ (k:Nat) (pre suf:List Int) (x:Int) (F:Nat),pre.length=k ->k < F ->k < 100000 ->Asc pre ->loop F (Zgp 0 i next) ((k:Int),pre ++ x::suf)=next (ZK (i + 1),Jw x pre ++ suf):=by
 intro k
 induction k with
 | zero=>
   intro pre suf x F hp hF _ _;obtain⟨F,rfl⟩:=Nat.exists_eq_succ_of_ne_zero (n:=F) (by omega);have:pre= []:=List.eq_nil_of_length_eq_zero hp;subst this;rw [Yx]
   rfl
 | succ k ih=>
   intro pre suf x F hp hF hk hs;obtain⟨F,rfl⟩:=Nat.exists_eq_succ_of_ne_zero (n:=F) (by omega)
   obtain⟨p,y,rfl⟩:∃ p y,pre=p ++ [y]:=by
    refine⟨pre.dropLast,pre.getLast (by intro z;rw [z] at hp;simp at hp),?_⟩;exact(List.dropLast_concat_getLast _).symm
   have hpl:p.length=k:=by simpa using hp
   have hs':=List.pairwise_append.1 hs;rw [Yx];have e0:(p ++ [y]) ++ x::suf=p ++ y::x::suf:=by simp
   rw [e0]
   have g1:Yh (p ++ y::x::suf) ((k + 1:Nat):Int)=some x:=by
    rw [ZY,← hpl];rw [List.getElem?_append_right (by omega)];simp
   have g2:Yh (p ++ y::x::suf) (k:Int)=some y:=by rw [ZY,← hpl];exact ZoU _ _ _
   have ew:ZK (((k + 1:Nat):Int) - 1)= (k:Int):=by rw [Zk9 (by omega) (by omega)];rfl
   have hgt:decide (((k + 1:Nat):Int) > 0)=true:=decide_eq_true (by omega);simp only [Zgp,hgt,gd,cond_true,g1,g2,ew,Option.bind_some,ZuN,Bool.true_and];cases hlt:decide (x < y)
   ·rw [cond_false];have hle:y <=x:=by simpa using hlt
    rw [Zg8 (fun z hz=>by
     rcases List.mem_append.1 hz with hz | hz
     ·have:=hs'.2.2 z hz y (by simp);omega
     ·simp at hz;omega)]
    simp
   ·rw [cond_true];have hxy:x < y:=by simpa using hlt
    have s1:Jh (p ++ y::x::suf) ((k + 1:Nat):Int) y=p ++ y::y::suf:=by
     unfold Jh;rw [Int.toNat_natCast,← hpl,List.set_append_right _ _ (by omega)];simp
    have g3:Yh (p ++ y::y::suf) (k:Int)=some y:=by rw [ZY,← hpl];exact ZoU _ _ _
    have s2:Jh (p ++ y::y::suf) (k:Int) x=p ++ x::y::suf:=by
     unfold Jh;rw [Int.toNat_natCast,← hpl,List.set_append_right _ _ (by omega)];simp
    rw [s1,g3,Option.bind_some,s2,ih p (y::suf) x F hpl (by omega) (by omega) hs'.1,ZiS hxy];simp
theorem ZgV {F:Nat} (hF:100 <=F):∀ (d:Nat) (S rest:List Int) (n F':Nat),rest.length=d ->S.length + d=n ->n <=90 ->d < F' ->Asc S ->loop F' (Zcu F 0 n) ((S.length:Int),S ++ rest)=some (rest.foldl (fun S x=>Jw x S) S):=by
 intro d
 induction d with
 | zero=>
   intro S rest n F' hr hn hn9 hF' hs;obtain⟨F',rfl⟩:=Nat.exists_eq_succ_of_ne_zero (n:=F') (by omega);have:rest= []:=List.eq_nil_of_length_eq_zero hr;subst this;rw [Yx];simp only [Zcu];rw [decide_eq_false (by omega),cond_false];simp
 | succ d ih=>
   intro S rest n F' hr hn hn9 hF' hs;obtain⟨F',rfl⟩:=Nat.exists_eq_succ_of_ne_zero (n:=F') (by omega)
   match rest,hr with
   | x::r,hr=>
     rw [Yx];simp only [Zcu];rw [decide_eq_true (by omega),cond_true,Znb _ _ S.length S r x F rfl (by omega) (by omega) hs,XD (by omega),List.foldl_cons];have:=ih (Jw x S) r n F' (by simpa using hr) (by rw [Zg7];omega) hn9 (by omega) hs.Jw;rw [Zg7] at this;exact this
theorem ZlQ:∀ (l S:List Int),Asc (S ++ l) ->l.foldl (fun S x=>Jw x S) S=S ++ l
 | [],S,_=>by simp
 | x::l,S,h=>by
   rw [List.foldl_cons,Zg8 (fun y hy=>(List.pairwise_append.1 h).2.2 y hy x (by simp)),ZlQ l _ (by simpa using h)];simp
theorem Zur {F:Nat} (hF:100 <=F) {l:List Int} (hl:l.length <=11) (hs:Asc l) (n:Int):ZlW F (l ++ [n])=some (Jw n l):=by
 have hlen:(l ++ [n]).length=l.length + 1:=by simp
 unfold ZlW Ztd
 have e1:∃ q,XZ (IntKind.wrap .u64 ((l ++ [n]).length:Int))=some q:=by
  rw [hlen];have hw:∀ k:Nat,k <=12 ->IntKind.wrap .u64 (k:Int)= (k:Int):=by decide
  have:=hw (l.length + 1) (by omega);rw [this];unfold XZ;rw [decide_eq_true (by omega),decide_eq_true (by omega)];exact⟨_,rfl⟩
 obtain⟨q,e1⟩:=e1;rw [e1,Option.bind_some];unfold Zo8;obtain⟨F',rfl⟩:=Nat.exists_eq_succ_of_ne_zero (n:=F) (by omega);rw [Yx];simp only [Zkl];have ew:ZK (((l ++ [n]).length:Int) - 0)= ((l.length + 1:Nat):Int):=by rw [hlen];exact YJ (by omega) (by omega)
 rw [ew,decide_eq_true (by omega),cond_true];unfold Zo7;have e2:ZK ((0:Int) + 1)=1:=by rw [show(0:Int) + 1=1 from rfl];exact YJ (by omega) (by omega)
 rw [e2]
 have key:loop (F' + 1) (Zcu (F' + 1) 0 ((l ++ [n]).length:Int)) (1,l ++ [n])=some (Jw n l):=by
  match l,hl,hs,hlen with
  | [],_,_,_=>exact ZgV (F:=F' + 1) hF 0 [n] [] 1 (F' + 1) rfl rfl (by omega) (by omega) (List.pairwise_singleton _ _)
  | x::r,hl,hs,hlen=>
    have:=ZgV (F:=F' + 1) hF (r.length + 1) [x] (r ++ [n]) ((x::r ++ [n]).length) (F' + 1) (by simp) (by simp;omega) (by simp at hl ⊢;omega) (by simp at hl;omega) (List.pairwise_singleton _ _);rw [List.foldl_append,ZlQ r [x] hs] at this;exact this
 rw [key];rfl
def CI (c:Za):Prop:= (c.from_ >=0∧c.root=false)∨(c.from_=-1∧c.has=0)
theorem Ztg {c:Za} {n:Int} (hn:c.name=n) (hu:c.use=false) (ho:c.out=0) (hr:c.root=false) (hi:CI c):K7 c (blank n)= !decide (c.from_ >=0):=by
 unfold K7 blank;rcases hi with⟨h,_⟩ | ⟨h1,h2⟩
 ·rw [decide_eq_true h];have:(c.from_==-1)=false:=by simp;omega
  simp [this]
 ·rw [decide_eq_false (by omega)];simp [hn,hu,ho,hr,h1,h2]
theorem KU {F:Nat} (hF:100 <=F) {w:Zb} {st:Store} {m:Nat} {n:Int} (s:Qb w st) (u:UK st.cells) (hm:m < w.cells.length) (hnl:w.notes.length < 1000) {c:Za} (hc:WS (rowOf w m) n=some c) (hi:CI c) (ha:Asc w.freed) (hf:w.freed.length <=11):
 ∃ st',ZfQ F st m n=some st'∧Qb (Xp w m n c) st'∧UK st'.cells:=by
 have hcn:=X0 hc;unfold ZfQ Xp;rw [Zd9 s hm,QL hc,Option.bind_some];cases hu:(c.use || (c.out !=0))
 ·simp only [cond_false]
  have hu1:c.use=false:=by
   cases h:c.use
   ·rfl
   ·rw [h] at hu;cases hu
  have hu2:c.out=0:=by
   rw [hu1,Bool.false_or] at hu
   simpa using hu
  have hmap:MapOf (cw w m (rmv n (rowOf w m))) (Zay st.cells ⟨m,n⟩):=s.cells.rmv u hm;cases hr:c.root
  ·simp only [cond_false];unfold ZlX;rw [Option.bind_some];have he:=Ztg hcn hu1 hu2 hr hi;unfold blank at he;rw [he];cases hfr:decide (c.from_ >=0)
   ·refine⟨_,rfl,⟨by show st.machines=_;rw [s.m];simp,s.n,s.notes,s.freed,hmap⟩,u.Zay _⟩
   ·simp only [Bool.not_true,Bool.not_false,cond_true];unfold K6;dsimp only;rw [s.notes,XM (by simp;omega) (by decide)];refine⟨_,rfl,⟨by show st.machines=_;rw [s.m];simp,s.n,rfl,s.freed,hmap⟩,u.Zay _⟩
  ·simp only [cond_true];rw [s.freed,XM (by simp;omega) (by decide),Option.bind_some,Zur hF hf ha,Option.bind_some];refine⟨_,rfl,⟨by show st.machines=_;rw [s.m];simp,s.n,s.notes,rfl,hmap⟩,u.Zay _⟩
 ·simp only [cond_true];exact⟨st,rfl,s,u⟩
theorem CI.blank (n:Int):CI (blank n):= .inr ⟨rfl,rfl⟩
theorem Zpm {F:Nat} {w:Zb} {st:Store} {m:Nat} {n:Int} (s:Qb w st) (u:UK st.cells) (hm:m < w.cells.length) (Ym:UC (rowOf w m)) (hn:w.notes.length < 1000) (Zv x:Int):∃ st',ZfR st m n Zv x=some st'∧Qb (XA w m n Zv x) st'∧UK st'.cells:=by
 obtain⟨st',h1,h2⟩:=Zqz s hm Ym hn Zv x (n:=n);refine⟨st',h1,h2,?_⟩;unfold ZfR K6 at h1;cases ht:(Zv != (m:Int))
 ·rw [ht,cond_false,Zd9 s hm,Option.bind_some] at h1;cases h1;exact u.YV _ _
 ·rw [ht,cond_true,s.notes,XM (by simp;omega) (by decide)] at h1;cases h1;exact u
theorem ZqA {w:Zb} {m:Nat} {n:Int} (hm:m < w.cells.length) (Ym:UC (rowOf w m)) (Zv x:Int) (hi:CI (look (rowOf w m) n)):CI (look (rowOf (XA w m n Zv x) m) n):=by
 rcases ZcA hm n Zv x with h | h <;> rw [h]
 ·exact hi
 ·rw [QL (by rw [K3 _ Ym,if_pos (by exact(JF _ _).symm)])];exact hi
theorem Zn3 {F:Nat} (hF:100 <=F) {w:Zb} {st:Store} (s:Qb w st) (u:UK st.cells) (sm:Small w) {m:Nat} (hm:m < w.cells.length) (hrl:(rowOf w m).length < 900) (hnl:w.notes.length < 900) (x:Zd) (hto:x.Zv= (m:Int)) (Ym:UC (rowOf w m)) (hi:CI (look (rowOf w m) x.name)) (ha:Asc w.freed) (hf:w.freed.length <=11):
 ∃ st',Zs5 F st x=some st'∧Qb (QN w x) st'∧UK st'.cells:=by
 have hln:=JF (rowOf w m) x.name;have hat:∀ {d:Za},d.name=x.name ->At1 (cw w m (put d (rowOf w m))) m x.name:=fun hd=>At1.put sm hm Ym (by omega) (by omega) hd
 have hst:∀ {d:Za},d.name=x.name ->Qb (cw w m (put d (rowOf w m))) ⟨st.machines,st.names,YV st.cells ⟨m,x.name⟩ d,st.notes,st.freed⟩:=fun hd=>s.put hm Ym hd
 unfold Zs5 QN;rw [hto,Zd9 s hm];simp only [Option.bind_some,Int.toNat_natCast];obtain⟨c,hcc⟩:∃ c,look (rowOf w m) x.name=c:= ⟨_,rfl⟩
 rw [hcc] at hln hi;simp only [hcc]
 have hlt:decide (c.from_ < 0)= (c.from_==-1):=by
  rcases hi with⟨h,_⟩ | ⟨h,_⟩
  ·rw [decide_eq_false (by omega)];symm;simp;omega
  ·rw [decide_eq_true (by omega),h];rfl
 have hge:(decide (c.from_ >=0) && (c.from_==x.via))= ((!c.root && decide (c.from_ >=0)) && (c.from_==x.via)):=by
  rcases hi with⟨h,h2⟩ | ⟨h,_⟩
  ·rw [h2];simp
  ·rw [decide_eq_false (by omega)];simp
 cases hk1:(x.kind==1)
 ·simp only [cond_false];cases hk2:(x.kind==2)
  ·simp only [cond_false];have h1:=hst (d:= ⟨c.name,true,-1,0,ZK (c.out + 16),c.use⟩) hln;have hA:=hat (d:= ⟨c.name,true,-1,0,ZK (c.out + 16),c.use⟩) hln;have u1:=u.YV (⟨m,x.name⟩:Ze) (⟨c.name,true,-1,0,ZK (c.out + 16),c.use⟩:Za);have hd:(⟨c.name,true,-1,0,ZK (c.out + 16),c.use⟩:Za).name=x.name:=hln;have hlk:=QL (Zhj hm Ym hd);cases hfr:decide (c.from_ >=0)
   ·simp only [cond_false];unfold Ze1;rw [hto];obtain⟨d,hdd⟩:=hA.has;obtain⟨st',q1,q2,q3⟩:=KU hF h1 u1 hA.hm (by show w.notes.length < 1000;omega) hdd (by rw [← QL hdd,hlk];exact .inr ⟨rfl,rfl⟩) ha hf;rw [show st.notes=w.notes from s.notes,show st.freed=w.freed from s.freed] at q1;rw [show st.notes=w.notes from s.notes,show st.freed=w.freed from s.freed];refine⟨st',(congrArg (fun o=>Option.bind o fun x61=>some x61) q1).trans rfl,?_,q3⟩;rw [QL hdd];exact q2
   ·simp only [cond_true];obtain⟨st1,p1,p2,p3⟩:=Zpm (F:=F) (n:=x.name) h1 u1 hA.hm hA.Ym (by show w.notes.length < 1000;omega) c.from_ c.has;rw [p1,Option.bind_some];have hbh:=Ztz hA.sm hA.hm hA.Ym (by have:=Zgd (c:= (⟨c.name,true,-1,0,ZK (c.out + 16),c.use⟩:Za)) (rowOf w m);rw [Ji hm];omega) (by show w.notes.length < 945;omega) c.from_ c.has hA.has;have hci:CI (look (rowOf (XA (cw w m (put (⟨c.name,true,-1,0,ZK (c.out + 16),c.use⟩:Za) (rowOf w m))) m x.name c.from_ c.has) m) x.name):=ZqA hA.hm hA.Ym _ _ (by rw [hlk];exact .inr ⟨rfl,rfl⟩);obtain⟨d,hdd⟩:=hbh.has
    have hfree:(XA (cw w m (put (⟨c.name,true,-1,0,ZK (c.out + 16),c.use⟩:Za) (rowOf w m))) m x.name c.from_ c.has).freed=w.freed:=by
     unfold XA;cases (c.from_ != (m:Int)) <;> rfl
    obtain⟨st',q1,q2,q3⟩:=KU hF p2 p3 hbh.hm (by have:=hbh.nl;omega) hdd (by rw [← QL hdd];exact hci) (by rw [hfree];exact ha) (by rw [hfree];exact hf);unfold Ze1;rw [hto];refine⟨st',(congrArg (fun o=>Option.bind o fun x61=>some x61) q1).trans rfl,?_,q3⟩;rw [QL hdd];exact q2
  ·simp only [cond_true];have h1:=hst (d:= ⟨c.name,c.root,c.from_,c.has,ZK (c.out - x.w),c.use⟩) hln;have hd:(⟨c.name,c.root,c.from_,c.has,ZK (c.out - x.w),c.use⟩:Za).name=x.name:=hln;have u1:=u.YV (⟨m,x.name⟩:Ze) (⟨c.name,c.root,c.from_,c.has,ZK (c.out - x.w),c.use⟩:Za);obtain⟨st',q1,q2,q3⟩:=KU hF h1 u1 (hat hd).hm (by show w.notes.length < 1000;omega) (Zhj hm Ym hd) hi ha hf;exact⟨st',(congrArg (fun o=>Option.bind o fun x61=>some x61) q1).trans rfl,q2,q3⟩
 ·simp only [cond_true];rw [hlt,hge];cases hc1:((!c.root && (c.from_==-1)) && (x.via != (m:Int)))
  ·simp only [cond_false];cases hc2:((!c.root && decide (c.from_ >=0)) && (c.from_==x.via))
   ·simp only [cond_false];have h1:=hst (d:= ⟨c.name,c.root,c.from_,c.has,c.out,true⟩) hln;have hA:=hat (d:= ⟨c.name,c.root,c.from_,c.has,c.out,true⟩) hln;obtain⟨st1,p1,p2,p3⟩:=Zpm (F:=F) (n:=x.name) h1 (u.YV _ _) hA.hm hA.Ym (by show w.notes.length < 1000;omega) x.via x.w;exact⟨st1,(congrArg (fun o=>Option.bind o fun x18=>some x18) p1).trans rfl,p2,p3⟩
   ·simp only [cond_true];exact⟨_,rfl,hst (d:= ⟨c.name,c.root,c.from_,ZK (c.has + x.w),c.out,true⟩) hln,u.YV _ _⟩
  ·simp only [cond_true];exact⟨_,rfl,hst (d:= ⟨c.name,c.root,x.via,x.w,c.out,true⟩) hln,u.YV _ _⟩
def ZdI (w:Zb) (d:Zn) (m:Nat) (c:Za):Zb:=
 bif decide (c.from_ >=0) && decide (c.has >=2) then sent (cw w m (put ⟨c.name,c.root,c.from_,ZK (c.has - ZK (c.has.tdiv 2)),c.out,c.use⟩ (rowOf w m))) ⟨1,d.Zv,d.name,c.from_,ZK (c.has.tdiv 2)⟩
 else sent (cw w m (put ⟨c.name,c.root,c.from_,c.has,ZK (c.out + 16),c.use⟩ (rowOf w m))) ⟨1,d.Zv,d.name,d.at_,16⟩
theorem ZEG (a:Int):ZpJ a 2=some (ZK (a.tdiv 2)):=rfl
theorem Zrh {w:Zb} {st:Store} (s:Qb w st) (u:UK st.cells) {m:Nat} (hm:m < w.cells.length) (Ym:UC (rowOf w m)) (hnl:w.notes.length < 1000) (d:Zn) (hat:d.at_= (m:Int)) {c:Za} (hc:WS (rowOf w m) d.name=some c):
 ∃ st',ZlZ st d=some st'∧Qb (ZdI w d m c) st'∧UK st'.cells:=by
 have hn:=X0 hc;unfold ZlZ ZdI;rw [hat,Zd9 s hm,QL hc,Option.bind_some];simp only [ZEG,Option.bind_some];cases (decide (c.from_ >=0) && decide (c.has >=2))
 ·simp only [cond_false];unfold Zcv;rw [hat];have h1:=s.put hm Ym (c:= ⟨c.name,c.root,c.from_,c.has,ZK (c.out + 16),c.use⟩) hn;obtain⟨st',q1,q2⟩:=h1.sent (by show w.notes.length < 1000;exact hnl) ⟨1,d.Zv,d.name,(m:Int),16⟩;refine⟨st',(congrArg (fun o=>Option.bind o fun x21=>some x21) q1).trans rfl,q2,?_⟩;unfold K6 at q1;dsimp only at q1;rw [s.notes,XM (by simp;omega) (by decide)] at q1;cases q1;exact u.YV _ _
 ·simp only [cond_true];unfold Zcv;rw [hat];have h1:=s.put hm Ym (c:= ⟨c.name,c.root,c.from_,ZK (c.has - ZK (c.has.tdiv 2)),c.out,c.use⟩) hn;obtain⟨st',q1,q2⟩:=h1.sent (by show w.notes.length < 1000;exact hnl) ⟨1,d.Zv,d.name,c.from_,ZK (c.has.tdiv 2)⟩;refine⟨st',(congrArg (fun o=>Option.bind o fun x21=>some x21) q1).trans rfl,q2,?_⟩;unfold K6 at q1;dsimp only at q1;rw [s.notes,XM (by simp;omega) (by decide)] at q1;cases q1;exact u.YV _ _
theorem Ku {α:Type} {xs:List α} {a b:Nat} (h1:a <=b) (h2:b <=xs.length):slL xs (a:Int) (b:Int)=some ((xs.take b).drop a):=by
 unfold slL;rw [decide_eq_true (by omega),decide_eq_true (by omega),decide_eq_true (by omega)];simp
theorem ZrB {l:List Zd} {k:Nat} (hk:k < l.length) (hl:l.length < 1000):ZlY l (k:Int) (ZK ((k:Int) + 1))=some (l.take k ++ l.drop (k + 1)):=by
 unfold ZlY;have e0:slL l 0 (k:Int)=some ((l.take k).drop 0):=Ku (a:=0) (Nat.zero_le k) (by omega);rw [XD (by omega),Ku (by omega) (by omega),Option.bind_some,e0,Ku (by omega) (Nat.le_refl _)];have:((k:Int)== ((k + 1:Nat):Int))=false:=by simp;omega
 rw [this,cond_false];simp only [Option.bind_some,List.drop_zero,List.take_length];rw [XM (by simp;omega) (by decide)]
 rfl
def ZeH (w:Zb):Za:= ⟨w.names,true,-1,0,0,true⟩
def ZdP (w:Zb) (m:Nat):Zb:= ⟨w.cells.set m (put (ZeH w) (rowOf w m)),w.notes,ZK (w.names + 1),w.freed⟩
theorem ZrR {w:Zb} {st:Store} (s:Qb w st) (u:UK st.cells) {m:Nat} (hm:m < w.cells.length) (Ym:UC (rowOf w m)):Qb (ZdP w m) ⟨st.machines,ZK (st.names + 1),YV st.cells ⟨m,w.names⟩ (ZeH w),st.notes,st.freed⟩∧UK (YV st.cells (⟨m,w.names⟩:Ze) (ZeH w)):=by
 have h:=s.put hm Ym (c:=ZeH w) (n:=w.names) rfl;refine⟨⟨?_,by show ZK (st.names + 1)=ZK (w.names + 1);rw [s.n],s.notes,s.freed,?_⟩,u.YV _ _⟩
 ·show st.machines=_;rw [s.m];unfold ZdP;simp
 ·exact h.cells
def K8 (c:Za):Za:= ⟨c.name,c.root,c.from_,c.has,c.out,false⟩
def ZfV (w:Zb) (m:Nat) (n:Int) (c:Za):Zb:=Xp (cw w m (put (K8 c) (rowOf w m))) m n (K8 c)
theorem Zqp {F:Nat} (hF:100 <=F) {w:Zb} {st:Store} (s:Qb w st) (u:UK st.cells) {m:Nat} (hm:m < w.cells.length) (Ym:UC (rowOf w m)) (hnl:w.notes.length < 1000) {n:Int} {c:Za} (hc:WS (rowOf w m) n=some c) (hi:CI c) (ha:Asc w.freed) (hf:w.freed.length <=11):
 ∃ st',ZfQ F ⟨st.machines,st.names,YV st.cells ⟨m,n⟩ (K8 c),st.notes,st.freed⟩ m n=some st'∧Qb (ZfV w m n c) st'∧UK st'.cells:=by
 have hn:=X0 hc;have h1:=s.put hm Ym (c:=K8 c) (n:=n) hn;exact KU hF h1 (u.YV _ _) (by rw [Yj];exact hm) hnl (Zhj hm Ym (show(K8 c).name=n from hn)) hi ha hf
def goC (c:Za) (Zv:Int):Za:= ⟨c.name,false,Zv,16,c.out,c.use⟩
def goW (w:Zb) (d:Zn) (m:Nat) (c:Za):Zb:=sent (cw w m (put (goC c d.Zv) (rowOf w m))) ⟨3,d.Zv,d.name,0,16⟩
theorem Zvk {w:Zb} {st:Store} (s:Qb w st) (u:UK st.cells) {m:Nat} (hm:m < w.cells.length) (Ym:UC (rowOf w m)) (hnl:w.notes.length < 1000) (d:Zn) {c:Za} (hc:WS (rowOf w m) d.name=some c):
 ∃ st',K6 ⟨st.machines,st.names,YV st.cells ⟨m,d.name⟩ (goC c d.Zv),st.notes,st.freed⟩ ⟨3,d.Zv,d.name,0,16⟩=some st'∧Qb (goW w d m c) st'∧UK st'.cells:=by
 have hn:=X0 hc;have h1:=s.put hm Ym (c:=goC c d.Zv) (n:=d.name) hn;obtain⟨st',q1,q2⟩:=h1.sent (by show w.notes.length < 1000;exact hnl) ⟨3,d.Zv,d.name,0,16⟩;refine⟨st',q1,q2,?_⟩;unfold K6 at q1;dsimp only at q1;rw [s.notes,XM (by simp;omega) (by decide)] at q1;cases q1;exact u.YV _ _
def YH (w:Zb) (d:Zn) (m:Nat):Int:=
 bif d.ZW==1 then(bif decide (w.names >=12) then 3 else 0) else bif d.ZW==5 then(bif decide (d.at_ >= (w.notes.length:Int)) then 5 else 0) else
  match WS (rowOf w m) d.name with
  | none=>7
  | some c=>bif d.ZW==4 then(bif !c.root then 7 else 0) else(bif !c.use then 7 else 0)
theorem Zn1 {w:Zb} {st:Store} (s:Qb w st) {m:Nat} (hm:m < w.cells.length) (d:Zn) (hat:d.ZW=1∨d.ZW=5∨d.at_= (m:Int)):Zl0 st d=some (bif YH w d m==0 then .ok () else .Q6 (YH w d m)):=by
 unfold Zl0 YH KW;rw [Option.bind_some,s.n,s.notes];cases h1:(d.ZW==1)
 ·cases h5:(d.ZW==5)
  ·have ha:d.at_= (m:Int):=by
    rcases hat with h | h | h
    ·rw [h] at h1;cases h1
    ·rw [h] at h5;cases h5
    ·exact h
   rw [ha,s.get hm];simp only [cond_false];cases hf:WS (rowOf w m) d.name with
   | none=>
     cases (d.ZW==4) <;> rfl
   | some c=>
     cases (d.ZW==4)
     ·cases hu:c.use <;> simp [hu]
     ·cases hr:c.root <;> simp [hr]
  ·simp only [cond_false,cond_true];cases decide (d.at_ >= (w.notes.length:Int)) <;> rfl
 ·simp only [cond_true];cases decide (w.names >=12) <;> rfl
theorem ZuF {F:Nat} (hF:1000 <=F) {w:Zb} (sm:Small w):∃ cs,Zig F w=some ⟨(w.cells.length:Int),w.names,cs,w.notes,w.freed⟩∧UK cs:=by
 have hc:=sm.cells;have hn:=sm.notes;have hf:=sm.freed;unfold Zig ZnL ZnK;rw [XM (by simp only [List.length_nil];omega) (by decide),XM (by simp only [List.length_nil];omega) (by decide)];simp only [Option.bind_some,List.nil_append]
 have inner:∀ (m:Nat) (row:List Za) (next:Int×(List (Ze×Za)) ->Option Store) (l:List (Ze×Za)),w.cells[m]? =some row ->UK l ->∃ l',UK l'∧loop F (Zak m next row) (0,l)=next (ZK ((m:Int) + 1),l'):=by
  intro m row next l hm hI;have hr:=sm.rows row (List.mem_of_getElem? hm)
  have e:=Xa row (fun v s=>(v,s)) (Zak m next row) (fun _ c s nx=>nx (YV s (Ze.mk m c.name) c)) (fun s=>next (ZK ((m:Int) + 1),s)) (by omega) (fun k y s nx hy hk=>by
   simp only [Zak,ZY,hy,hk,decide_true,cond_true,Option.bind_some]) (fun s nx=>by simp only [Zak];rw [decide_eq_false (by omega),cond_false]) (by omega:row.length < F) l
  obtain⟨e2,hJ⟩:=JG (d:=fun s=>next (ZK ((m:Int) + 1),s)) (g:=fun(_:Nat) (c:Za) s nx=>nx (YV s (Ze.mk m c.name) c)) (fun _ c s=>YV s (Ze.mk m c.name) c) (fun _ s=>UK s) (l:=row) (i:=0) (s:=l) hI (fun k c s nx hk hJ=>⟨rfl,hJ.YV _ _⟩);exact⟨_,hJ,e.trans e2⟩
 have key:∀ (d m:Nat) (F':Nat) (l:List (Ze×Za)),m + d=w.cells.length ->d < F' ->UK l ->∃ cs,loop F' (Zal F w w.notes w.freed) ((m:Int),l)=some ⟨(w.cells.length:Int),w.names,cs,w.notes,w.freed⟩∧UK cs:=by
  intro d
  induction d with
  | zero=>
    intro m F' l hm hF' hI;obtain⟨F',rfl⟩:=Nat.exists_eq_succ_of_ne_zero (n:=F') (by omega);refine⟨l,?_,hI⟩;rw [Yx];simp only [Zal];rw [decide_eq_false (by omega),cond_false]
  | succ d ih=>
    intro m F' l hm hF' hI;obtain⟨F',rfl⟩:=Nat.exists_eq_succ_of_ne_zero (n:=F') (by omega);have hr:=QK (w:=w) (m:=m) (by omega);obtain⟨l',q1,q2⟩:=inner m _ (loop F' (Zal F w w.notes w.freed)) l hr hI;obtain⟨cs,q3,q4⟩:=ih (m + 1) F' l' (by omega) (by omega) q1;refine⟨cs,?_,q4⟩;rw [Yx];simp only [Zal];rw [decide_eq_true (by omega),cond_true,ZY,hr,Option.bind_some,q2,XD (by omega),q3]
 exact key w.cells.length 0 F [] (by omega) (by omega) UK.nil
def YU (w:Zb) (n:Int):CV:=fun a=>if 0 <=a∧a < (w.cells.length:Int) then cellOf w a.toNat n else none
def Q8 (w:Zb) (n:Int):List Zd:=w.notes.filter fun x=>x.name==n
def Mst (M:Nat) (cv:CV) (ns:List Zd):Prop:=∀ a:Int,0 <=a ->a < M ->J4 cv ns a <=1000000
structure Rt (w:Zb):Prop where
 c1:1 <=w.cells.length
 c6:w.cells.length <=6
 n0:0 <=w.names
 n12:w.names <=12
 nts:w.notes.length <=80
 fr:w.freed.Pairwise (· < ·)
 frr:∀ x ∈ w.freed,0 <=x∧x < w.names
 Ym:∀ m,m < w.cells.length ->UC (rowOf w m)
 cn:∀ m,m < w.cells.length ->∀ c ∈ rowOf w m,Yl w c.name=true∧(c.use=true∨c.out ≠ 0)
 nn:∀ x ∈ w.notes,Yl w x.name=true
 nm:∀ n,Yl w n=true ->∃ h,Nm w.cells.length n (YU w n) (Q8 w n) h∧Mst w.cells.length (YU w n) (Q8 w n)
section
variable {w:Zb} {n:Int}
theorem Jc {m:Nat} (hm:m < w.cells.length) (n:Int):YU w n (m:Int)=cellOf w m n:=by
 unfold YU;rw [if_pos (by omega)]
 rfl
theorem X6 {a:Int} {c:Za} (h:YU w n a=some c):(0 <=a∧a < (w.cells.length:Int))∧cellOf w a.toNat n=some c:=by
 unfold YU at h;split at h
 ·rename_i z;exact⟨z,h⟩
 ·cases h
theorem ZcY (w:Zb) (m n:Int):YF (YG m) (Q8 w n)=16 * (ZbT w m n:Int):=by
 unfold Q8 ZbT
 induction w.notes with
 | nil=>rfl
 | cons x l ih=>
   rw [List.countP_cons,List.filter_cons];by_cases hn:x.name=n
   ·have:(x.name==n)=true:=by simp [hn]
    rw [this,if_pos rfl];simp only [YF,ih,Bool.and_true];unfold YG;by_cases z:x.kind=3∧x.Zv=m
    ·rw [if_pos z,if_pos (by simp [z.1,z.2])];omega
    ·rw [if_neg z,if_neg (by simpa using z)];omega
   ·have:(x.name==n)=false:=by simp [hn]
    rw [this,if_neg (by simp),ih];simp
theorem Zdk (w:Zb) {m:Nat} (hm:m < w.cells.length) (n:Int):JH w m n=ZK (J4 (YU w n) (Q8 w n) m):=by
 unfold JH J4;rw [ZcY,Jc hm];unfold Zoy XY;congr 1;cases cellOf w m n <;> dsimp only <;> omega
theorem Znr (m n:Int) (l:List Zd) (t:Int):l.foldl (fun s x=>ZfL m n x s) (ZK t)=ZK (t + YF (UJ m) (l.filter fun x=>x.name==n)):=by
 induction l generalizing t with
 | nil=>simp [YF]
 | cons x l ih=>
   rw [List.foldl_cons,List.filter_cons];by_cases hn:x.name=n
   ·have hb:(x.name==n)=true:=by simp [hn]
    rw [hb,if_pos rfl];unfold ZfL;rw [hb,Bool.true_and];simp only [YF];rw [show UJ m x=if(x.kind=1∧x.via=m)∨(x.kind=2∧x.Zv=m) then x.w else 0 from rfl];by_cases z:(x.kind=1∧x.via=m)∨(x.kind=2∧x.Zv=m)
    ·have:((x.kind==1) && (x.via==m) || (x.kind==2) && (x.Zv==m))=true:=by simpa using z
     rw [this,cond_true,Zjr,if_pos z];refine(ih _).trans ?_;congr 1;omega
    ·have:((x.kind==1) && (x.via==m) || (x.kind==2) && (x.Zv==m))=false:=by
      rw [← Bool.not_eq_true];simpa using z
     rw [this,cond_false,if_neg z];refine(ih _).trans ?_;congr 1;omega
   ·have hb:(x.name==n)=false:=by simp [hn]
    rw [hb,if_neg (by simp)];have:ZfL m n x (ZK t)=ZK t:=by unfold ZfL;rw [hb];rfl
    rw [this];exact ih t
theorem Zns (w:Zb) (m n:Int) {M:Nat} (hM:M <=w.cells.length):(List.range M).foldl (fun s k=>ZlI w m n k s) 0=ZK (KP (fun k=>WJ m (YU w n k)) M):=by
 induction M with
 | zero=>rfl
 | succ M ih=>
   rw [List.range_succ,List.foldl_append,ih (by omega)];simp only [List.foldl_cons,List.foldl_nil,KP];rw [Jc (by omega)];unfold ZlI WJ;cases cellOf w M n with
   | none=>simp
   | some c=>
     dsimp only;by_cases z:c.from_=m
     ·rw [if_pos z,show(c.from_==m)=true by simp [z],cond_true,Zjr]
     ·rw [if_neg z,show(c.from_==m)=false by simp [z],cond_false];simp
theorem Zp0 (w:Zb) (m n:Int):Zdi w m n=ZK (Jb w.cells.length (YU w n) (Q8 w n) m):=by
 unfold Zdi Jb Q8;rw [Zns w m n (Nat.le_refl _),Znr]
theorem ZgF {f:Zd ->Int} {l:List Zd} {B:Int} (h:∀ x ∈ l,0 <=f x∧f x <=B):0 <=YF f l∧YF f l <=B * (l.length:Int):=by
 induction l with
 | nil=>simp [YF]
 | cons x l ih=>
   have h1:=h x (by simp);have h2:=ih fun y hy=>h y (by simp [hy])
   simp only [YF,List.length_cons]
   have:B * ((l.length + 1:Nat):Int)=B * (l.length:Int) + B:=by
    rw [Int.natCast_add,Int.mul_add];simp
   omega
theorem ZmS {f:Nat ->Int} {B:Int} {M:Nat} (h:∀ m,m < M ->0 <=f m∧f m <=B):0 <=KP f M∧KP f M <=B * (M:Int):=by
 induction M with
 | zero=>simp [KP]
 | succ M ih=>
   have h1:=h M (by omega);have h2:=ih fun m hm=>h m (by omega)
   simp only [KP]
   have:B * ((M + 1:Nat):Int)=B * (M:Int) + B:=by
    rw [Int.natCast_add,Int.mul_add];simp
   omega
theorem ZaH {m:Int} {c:Za} (h:WM w m c=true):Yl w c.name=true∧(-16 <=c.out∧c.out <=1000000)∧(c.use=true∨c.out ≠ 0)∧
 ((c.root=false∧0 <=c.from_∧c.from_ < (w.cells.length:Int)∧c.from_ ≠ m∧1 <=c.has∧c.has <=1000000)∨(c.from_=-1∧c.has=0)):=by
 unfold WM KZ at h;rw [Bool.and_eq_true,Bool.and_eq_true,Bool.and_eq_true] at h;obtain⟨⟨⟨h1,h2⟩,h3⟩,h4⟩:=h;refine⟨h1,by simpa using h2,?_,?_⟩
 ·simpa using h3
 ·cases hr:(c.root || c.from_==-1)
  ·rw [hr,cond_false] at h4;simp at h4 hr;exact .inl ⟨hr.1,by omega,by omega,h4.1.2,by omega,by omega⟩
  ·rw [hr,cond_true] at h4;simp at h4;exact .inr h4
theorem Ztu {m:Int} {c:Za} (h1:Yl w c.name=true) (h2:-16 <=c.out∧c.out <=1000000) (h3:c.use=true∨c.out ≠ 0)
 (h4:(c.root=false∧0 <=c.from_∧c.from_ < (w.cells.length:Int)∧c.from_ ≠ m∧1 <=c.has∧c.has <=1000000)∨(c.from_=-1∧c.has=0)):WM w m c=true:=by
 unfold WM KZ;rw [Bool.and_eq_true,Bool.and_eq_true,Bool.and_eq_true];refine⟨⟨⟨h1,by simpa using h2⟩,by simpa using h3⟩,?_⟩;rcases h4 with⟨q1,q2,q3,q4,q5,q6⟩ | ⟨q1,q2⟩
 ·have:(c.root || c.from_==-1)=false:=by simp [q1];omega
  rw [this,cond_false];simp;exact⟨⟨⟨q2,q3⟩,q4⟩,q5,q6⟩
 ·have:(c.root || c.from_==-1)=true:=by simp [q1]
  rw [this,cond_true];simp [q1,q2]
theorem Zaw {x:Zd} (h:WB w x=true):(0 <=x.Zv∧x.Zv < (w.cells.length:Int))∧Yl w x.name=true∧(1 <=x.w∧x.w <=1000000)∧
 ((x.kind=1∧0 <=x.via∧x.via < (w.cells.length:Int))∨(x.kind=2∧x.via=0)∨(x.kind=3∧x.via=0∧x.w=16)):=by
 unfold WB KZ at h;rw [Bool.and_eq_true,Bool.and_eq_true,Bool.and_eq_true] at h;obtain⟨⟨⟨h1,h2⟩,h3⟩,h4⟩:=h;refine⟨by simpa using h1,h2,by simpa using h3,?_⟩;cases k1:(x.kind==1)
 ·rw [k1,cond_false] at h4;cases k2:(x.kind==2)
  ·rw [k2,cond_false] at h4;simp at h4;exact .inr (.inr ⟨h4.1.1,h4.1.2,h4.2⟩)
  ·rw [k2,cond_true] at h4;exact .inr (.inl ⟨by simpa using k2,by simpa using h4⟩)
 ·rw [k1,cond_true] at h4;exact .inl ⟨by simpa using k1,by simpa using h4⟩
theorem ZrG {x:Zd} (h1:0 <=x.Zv∧x.Zv < (w.cells.length:Int)) (h2:Yl w x.name=true) (h3:1 <=x.w∧x.w <=1000000)
 (h4:(x.kind=1∧0 <=x.via∧x.via < (w.cells.length:Int))∨(x.kind=2∧x.via=0)∨(x.kind=3∧x.via=0∧x.w=16)):WB w x=true:=by
 unfold WB KZ;rw [Bool.and_eq_true,Bool.and_eq_true,Bool.and_eq_true];refine⟨⟨⟨by simpa using h1,h2⟩,by simpa using h3⟩,?_⟩;rcases h4 with⟨k,v⟩ | ⟨k,v⟩ | ⟨k,v,u⟩
 ·rw [k];simpa using v
 ·rw [k];simpa using v
 ·rw [k];simp [v,u]
theorem Shp.Zfy (sh:Shp w) {m:Nat} (hm:m < w.cells.length) (n:Int):JH w m n=J4 (YU w n) (Q8 w n) m:=by
 rw [Zdk w hm];have h1:=ZgF (f:=YG (m:Int)) (l:=Q8 w n) (B:=16) (fun x _=>by unfold YG;split <;> omega);have h2:(Q8 w n).length <=w.notes.length:=List.length_filter_le _ _;have h3:=sh.notes
 have h4:-16 <=XY (YU w n m)∧XY (YU w n m) <=1000000:=by
  rw [Jc hm];cases e:cellOf w m n with
  | none=>simp [XY]
  | some c=>
    obtain⟨row,k,r1,r2⟩:=KJ e;exact(ZaH (sh.cell m row k c r1 r2).1).2.1
 unfold J4;rw [YJ] <;> omega
theorem Shp.ZgH (sh:Shp w) {m:Nat} (hm:m < w.cells.length) (n:Int):Zdi w m n=Jb w.cells.length (YU w n) (Q8 w n) m:=by
 rw [Zp0 w]
 have h1:=ZgF (f:=UJ (m:Int)) (l:=Q8 w n) (B:=1000000) (fun x hx=>by
  have:=Zaw (sh.note x (List.mem_filter.1 hx).1);unfold UJ;split <;> omega)
 have h2:(Q8 w n).length <=w.notes.length:=List.length_filter_le _ _;have h3:=sh.notes
 have h4:=ZmS (f:=fun k=>WJ (m:Int) (YU w n k)) (B:=1000000) (M:=w.cells.length) (fun k hk=>by
  rw [Jc hk];cases e:cellOf w k n with
  | none=>simp [WJ]
  | some c=>
    obtain⟨row,j,r1,r2⟩:=KJ e;have:= (ZaH (sh.cell k row j c r1 r2).1).2.2.2;unfold WJ;dsimp only;split <;> omega)
 have:=sh.c6;unfold Jb;rw [YJ] <;> omega
theorem WH (n h:Int) (k:Nat):Y2 w n h k h=true:=by cases k <;> simp [Y2]
theorem ZfK {h:Int}:∀ {k:Nat} {a:Int},Y2 w n h k a=true ->Y2 w n h (k + 1) a=true
 | 0,a,q=>by
   have:a=h:=by simpa [Y2] using q
   subst this;exact WH _ _ _
 | k + 1,a,q=>by
   rw [Y2] at q ⊢;cases e:(a==h)
   ·rw [e,cond_false] at q;rw [cond_false];cases ec:cellOf w a.toNat n with
    | none=>rw [ec] at q;cases q
    | some c=>
      rw [ec] at q;dsimp only at q ⊢;cases ef:decide (c.from_ < 0)
      ·rw [ef,cond_false] at q;exact ZfK q
      ·rw [ef] at q;cases q
   ·rfl
theorem ZjJ {h:Int} {k:Nat} {a:Int} (q:Y2 w n h k a=true):a=h∨cellOf w a.toNat n ≠ none:=by
 by_cases e:a=h
 ·exact .inl e
 ·right;intro z;cases k with
  | zero=>exact e (by simpa [Y2] using q)
  | succ k=>
    rw [Y2,z,show(a==h)=false by simp [e]] at q;cases q
theorem Uq {h:Int} {k:Nat} {a:Int} {c:Za} (ha:a ≠ h) (hc:cellOf w a.toNat n=some c):Y2 w n h (k + 1) a= (!decide (c.from_ < 0) && Y2 w n h k c.from_):=by
 rw [Y2,hc,show(a==h)=false by simp [ha],cond_false];dsimp only;cases decide (c.from_ < 0) <;> rfl
theorem Zfg {α:Type} {p q:α ->Bool} {l:List α} (h:∀ x ∈ l,p x=true ->q x=true) {x:α} (hx:x ∈ l) (h1:p x=false) (h2:q x=true):l.countP p < l.countP q:=by
 induction l with
 | nil=>simp at hx
 | cons y l ih=>
   rw [List.countP_cons,List.countP_cons];have hm:l.countP p <=l.countP q:=List.countP_mono_left fun z hz=>h z (by simp [hz])
   have hy:=h y (by simp);rcases List.mem_cons.1 hx with rfl | hx
   ·rw [h1,h2];simp;omega
   ·have:=ih (fun z hz=>h z (by simp [hz])) hx;cases ep:p y
    ·simp;omega
    ·rw [hy ep];simp;omega
theorem switch {f:Nat ->Bool}:∀ {K:Nat},f 0=false ->f (K + 1)=true ->∃ j,j <=K∧f j=false∧f (j + 1)=true
 | 0,h0,h1=>⟨0,Nat.le_refl _,h0,h1⟩
 | K + 1,h0,h1=>by
   cases e:f (K + 1) with
   | false=>exact⟨K + 1,Nat.le_refl _,e,h1⟩
   | true=>
     obtain⟨j,j1,j2⟩:=switch h0 e;exact⟨j,by omega,j2⟩
theorem ZuP {h:Int} (sh:Shp w) (L:WI w n h=true):∃ dep:Int ->Nat,∀ m c,YU w n m=some c ->m ≠ h ->0 <=c.from_∧(YU w n c.from_ ≠ none∨c.from_=h)∧dep c.from_ < dep m:=by
 have all:∀ m:Nat,m < w.cells.length ->cellOf w m n ≠ none ->Y2 w n h w.cells.length m=true:=by
  intro m hm hc;unfold WI at L;rw [Bool.not_eq_true',List.any_eq_false] at L;have:=L m (List.mem_range.2 hm);cases e:Y2 w n h w.cells.length m with
  | true=>rfl
  | false=>
    exfalso;apply this;rw [e];cases ec:cellOf w m n with
    | none=>exact absurd ec hc
    | some c=>rfl
 refine⟨fun a=>(List.range (w.cells.length + 1)).countP fun k=>!Y2 w n h k a,fun m c hc hm=>?_⟩;obtain⟨hr,hc'⟩:=X6 hc;have hmn:((m.toNat:Nat):Int)=m:=by omega
 have q:=all m.toNat (by omega) (by rw [hc'];simp);rw [hmn] at q;have hM:=sh.c1;obtain⟨K,hK⟩:=Nat.exists_eq_succ_of_ne_zero (n:=w.cells.length) (by omega);rw [hK,Uq hm hc',Bool.and_eq_true] at q;have hf:0 <=c.from_:=by have:=q.1;simp at this;omega
 have hfr:=sh.from_ hc' (by omega);refine⟨hf,?_,?_⟩
 ·rcases ZjJ q.2 with z | z
  ·exact .inr z
  ·left;unfold YU;rw [if_pos hfr];exact z
 ·have hp:w.cells.length=K + 1:=hK
  obtain⟨j,j1,j2,j3⟩:=switch (f:=fun k=>Y2 w n h k m) (K:=K) (by simp [Y2,hm]) (by
   show Y2 w n h (K + 1) m=true;rw [Uq hm hc',Bool.and_eq_true];exact q)
  rw [Uq hm hc',Bool.and_eq_true] at j3;refine Zfg (x:=j) (fun k hk hp=>?_) (List.mem_range.2 (by omega)) (by rw [j3.2];rfl) (by rw [j2];rfl);rw [Bool.not_eq_true'] at hp ⊢;cases k with
  | zero=>simp [Y2,hm]
  | succ k=>
    rw [Uq hm hc',Bool.and_eq_false_iff];right;cases e:Y2 w n h k c.from_ with
    | false=>rfl
    | true=>rw [ZfK e] at hp;cases hp
theorem ZuO {h:Int} (L:∃ dep:Int ->Nat,∀ m c,YU w n m=some c ->m ≠ h ->0 <=c.from_∧(YU w n c.from_ ≠ none∨c.from_=h)∧dep c.from_ < dep m):WI w n h=true:=by
 obtain⟨dep,L⟩:=L
 let S:Int ->Nat ->Bool:=fun a k=>(YU w n (k:Int)).isSome && decide (dep k < dep a)
 let rk:Int ->Nat:=fun a=>(List.range w.cells.length).countP (S a)
 have key:∀ k a c,rk a <=k ->YU w n a=some c ->Y2 w n h (k + 1) a=true:=by
  intro k
  induction k with
  | zero=>
    intro a c hk hc;by_cases ha:a=h
    ·subst ha;exact WH _ _ _
    ·obtain⟨l1,l2,l3⟩:=L a c hc ha;rw [Uq ha (X6 hc).2,Bool.and_eq_true];refine⟨by simp;omega,?_⟩;by_cases z:c.from_=h
     ·rw [z];exact WH _ _ _
     ·exfalso;have l2:YU w n c.from_ ≠ none:=by rcases l2 with q | q;exact q;exact absurd q z
      obtain⟨d,hd⟩:=Option.ne_none_iff_exists'.1 l2;have hr:= (X6 hd).1;have hf:((c.from_.toNat:Nat):Int)=c.from_:=by omega
      have:0 < rk a:=by
       refine List.countP_pos_iff.2 ⟨c.from_.toNat,List.mem_range.2 (by omega),?_⟩;show((YU w n ((c.from_.toNat:Nat):Int)).isSome && decide (dep ((c.from_.toNat:Nat):Int) < dep a))=true
       rw [hf,hd];simpa using l3
      omega
  | succ k ih=>
    intro a c hk hc;by_cases ha:a=h
    ·subst ha;exact WH _ _ _
    ·obtain⟨l1,l2,l3⟩:=L a c hc ha;rw [Uq ha (X6 hc).2,Bool.and_eq_true];refine⟨by simp;omega,?_⟩;by_cases z:c.from_=h
     ·rw [z];exact WH _ _ _
     ·have l2:YU w n c.from_ ≠ none:=by rcases l2 with q | q;exact q;exact absurd q z
      obtain⟨d,hd⟩:=Option.ne_none_iff_exists'.1 l2;have hr:= (X6 hd).1;have hf:((c.from_.toNat:Nat):Int)=c.from_:=by omega
      refine ih c.from_ d ?_ hd
      have:rk c.from_ < rk a:=by
       refine Zfg (x:=c.from_.toNat) (fun j hj hp=>?_) (List.mem_range.2 (by omega)) ?_ ?_
       ·have hp:((YU w n (j:Int)).isSome && decide (dep j < dep c.from_))=true:=hp;show((YU w n (j:Int)).isSome && decide (dep j < dep a))=true;rw [Bool.and_eq_true,decide_eq_true_eq] at hp ⊢;exact⟨hp.1,by omega⟩
       ·show((YU w n ((c.from_.toNat:Nat):Int)).isSome && decide (dep ((c.from_.toNat:Nat):Int) < dep c.from_))=false
        rw [hf];simp
       ·show((YU w n ((c.from_.toNat:Nat):Int)).isSome && decide (dep ((c.from_.toNat:Nat):Int) < dep a))=true
        rw [hf,hd];simpa using l3
      omega
 unfold WI;rw [Bool.not_eq_true',List.any_eq_false];intro m hm;rw [List.mem_range] at hm;rw [Bool.not_eq_true];cases e:cellOf w m n with
 | none=>rfl
 | some c=>
   have hc:YU w n m=some c:=by rw [Jc hm];exact e
   have:rk m < w.cells.length:=by
    have:=Zfg (p:=S m) (q:=fun _=>true) (l:=List.range w.cells.length) (fun _ _ _=>rfl) (x:=m) (List.mem_range.2 hm) (by show((YU w n (m:Int)).isSome && decide (dep m < dep m))=false;simp) rfl
    simpa [rk] using this
   obtain⟨K,hK⟩:=Nat.exists_eq_succ_of_ne_zero (n:=w.cells.length) (by omega);have:=key K m c (by omega) hc;rw [hK,this];rfl
end
end Go.Proofs.Ytekpjgmhkkjhgaa
end
