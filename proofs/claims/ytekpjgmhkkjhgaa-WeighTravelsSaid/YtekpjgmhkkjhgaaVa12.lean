/- Travels Part 12 of the proof. -/
import Derived.Test.YtekpjgmhkkjhgaaVa11
set_option linter.all false
theorem Go.Ne0{n:Nat}(h:n ≠ 0):∃k,n=Nat.succ k:=Nat.exists_eq_succ_of_ne_zero h
section
noncomputable section
namespace Go.Proofs.Ytekpjgmhkkjhgaa
open Go.YD Go.Lf
theorem ZCL {h:H} {r:Bool} (hL:ZCM=some r):Pure XX 14 #[] h (.bool r):=by
 cases hL;intro wm;have e:ev (cfg XW fun _=>false) 1 (.call 14 #[] wm h)=some (.fin (.ret (.bool true)) h):=rfl;exact Zfn (X:=XW) mixed 1 _ _ e
end Go.Proofs.Ytekpjgmhkkjhgaa
end
end
section
namespace Go.Proofs.Ytekpjgmhkkjhgaa
open Go.Lf
def ZgS (F:Nat) (p0:Store) (p1:Int) (p2:Int):Option Store:=
 (ZgU p0 p1 p2).bind fun x1=>(bif(x1.use || (x1.out !=0)) then some p0 else(bif x1.root then(app 8 p0.freed [p2]).bind fun z8=>(ZnR F z8).bind fun x13=>some (Store.mk p0.machines p0.names (Za9 p0.cells (Zf.mk p1 p2)) p0.notes x13) else(ZnS p2).bind fun x16=>(bif(!(ZaF x1 x16)) then(ZaE (Store.mk p0.machines p0.names (Za9 p0.cells (Zf.mk p1 p2)) p0.notes p0.freed) (Zd.mk 2 x1.from_ p2 0 x1.has)).bind fun x17=>some x17 else some (Store.mk p0.machines p0.names (Za9 p0.cells (Zf.mk p1 p2)) p0.notes p0.freed))))
end Go.Proofs.Ytekpjgmhkkjhgaa
end
section
set_option maxRecDepth 20000
noncomputable section
namespace Go.Proofs.Ytekpjgmhkkjhgaa
open Go.YD Go.Lf
theorem ZlY {F wm:Nat} {h:H} {p0:Store} {p1 p2:Int} {ZN:Nat} {Zt:Option Addr} {Zr Xz:Nat} {ZH:Option Addr} {ZG XV Xw:Nat} {r:Store} (ZK:wm <=h.size) (hO:Z0 (wm:=wm) [bx wm Xw [.int .i64 p0.machines,.int .i64 p0.names,.map (some ZN),.slice Zt Xz Zr,.slice ZH XV ZG],mp wm Zh Zn (some ZN) p0.cells,ow wm Zi Zt Xz Zr p0.notes,ow wm (ZO .i64) ZH XV ZG p0.freed] h) (hL:ZgS F p0 p1 p2=some r):
 WR XX 106 #[.pointer (some ⟨Xw,0,none⟩),.int .i64 p1,.int .i64 p2] wm h (CP (fun(v:Value) (Gb:List (Ast wm))=>∃ (JK:Nat) (JP:Option Addr) (JI:Nat) (JM:Nat) (JO:Option Addr) (JH:Nat) (JL:Nat),v= .tuple [].toArray∧Gb= [bx wm Xw [.int .i64 r.machines,.int .i64 r.names,.map (some JK),.slice JP JI JM,.slice JO JH JL],mp wm Zh Zn (some JK) r.cells,ow wm Zi JP JI JM r.notes,ow wm (ZO .i64) JO JH JL r.freed]) [bx wm Xw [.int .i64 p0.machines,.int .i64 p0.names,.map (some ZN),.slice Zt Xz Zr,.slice ZH XV ZG],mp wm Zh Zn (some ZN) p0.cells,ow wm Zi Zt Xz Zr p0.notes,ow wm (ZO .i64) ZH XV ZG p0.freed] h):=by
 refine bg Try.ntmps106 ZK hO ?_;intro T hT hS;unfold ZgS at hL;obtain rfl:=hS.on k2;obtain rfl:=hS.on k3;refine r4 ?_;refine r1 ?_;obtain⟨x1,hx1,hL⟩:=bind_some hL;refine WO.cp gN rfl (Y1.fn Zlo (Zc lk (Zc lk (Zc lk Zl)))) (WR.QO rfl (Zhy (Nat.le_refl _) (hS.Xc k0) (.inl (hS.lt k0)) (hS.mrd k1) (hS.ord k2) (hS.ord k3) hx1)) ?_;refine r1 ?_;rintro _ h3 ⟨b2,eb2,rfl,hS⟩;refine r1 ?_;rintro h4 hS;refine UU ?_;refine r2 ?_;refine cn hL ?_ ?_
 ·intro hc hL;refine r2 ?_;have hr:=Oi0 hL;subst hr;exact ZW.gen (vs:= []) rfl Zm rfl ⟨_,⟨ZN,Zt,p0.notes.length,Zr,ZH,p0.freed.length,ZG,rfl,rfl⟩,hT ▸ hS.only (.c k1 (.c k1 (.c k1 (.c k1 .n))))⟩
 ·intro hc hL;refine r8 ?_;refine r2 ?_;refine WO.w gN rfl (Xi X8 (Zj lk (Zj lk ZI)) rfl (cs':= [.int .i64 p1,.int .i64 p2]) rfl) ?_;refine WO.hw gN (ZAV (kv:=Zh) (vv:=Zn) (k:= (Zf.mk p1 p2)) hS k2 YW rfl Uk (Zk (ZB rfl (Ze rfl fh)) rfl) (Zk fh rfl)) ?_;rintro h5 hS;refine r8 ?_;refine r2 ?_;refine cn hL ?_ ?_
  ·intro hc hL;refine r8 ?_;refine WO.hn gN rfl (Zg5 (e:= (ZO .i64)) hS Qk Y4 Wv rfl rfl rfl (Zj lk ZI) rfl [((),p2)] rfl (xs:= [p2]) rfl (by intro q hq;simp only [List.mem_cons,List.not_mem_nil,or_false] at hq;subst hq;exact trivial) rfl) ?_;rintro _ h7 ⟨b6,eb6,rfl,hS⟩;obtain⟨z8,hz8,hL⟩:=bind_some hL;refine WO.hv gN rfl (Zey (e:= (ZO .i64)) hS k5 Ze3 lk lk (hS.Jv k0) (hS.on k0) hz8) ?_;rintro _ h11 ⟨a9,c10,rfl,hS⟩;refine r3 ?_;rintro h12 hS;refine r6 ?_;refine r1 ?_;obtain⟨x13,ZuK,hL⟩:=bind_some hL;refine WO.cl gN rfl (Y1.fn ZBH (Zc lk Zl)) hS (.c k1 .n) (fun g' hz hf hO=>ZyH (by rw [hz];exact hS.hw) hO ZuK) ?_;rintro _ h14 _ ⟨rfl,rfl⟩ hS;refine r2 ?_;refine ZW.Z4 ?_;have hr:=Oi0 hL;subst hr;exact ZW.gen (vs:= []) rfl Zm rfl ⟨_,⟨ZN,Zt,p0.notes.length,Zr,a9,z8.length,c10,rfl,rfl⟩,hT ▸ hS.only (.c k1 (.c k2 (.c k3 (.c k0 .n))))⟩
  ·intro hc hL;refine r1 ?_;refine WC.Yt mixed Kq0 ?_;refine r2 ?_;obtain⟨x16,hx16,hL⟩:=bind_some hL;refine WX.cp gN rfl (Y1.fn Zvb (Zc lk Zl)) (WR.QO rfl (Zro (Nat.le_refl _) hx16)) ?_ rfl rfl;refine WX.w gN rfl (ZR (Zk (ZB rfl fh) rfl) (Zk fh rfl) (ZoA (xs:= [.int .i64 x1.name,.bool x1.root,.int .i64 x1.from_,.int .i64 x1.has,.int .i64 x1.out,.bool x1.use]) (ys:= [.int .i64 x16.name,.bool x16.root,.int .i64 x16.from_,.int .i64 x16.has,.int .i64 x16.out,.bool x16.use]) (ZGK x1 x16) rfl rfl)) ?_ rfl;refine r3 ?_;refine cn hL ?_ ?_
   ·intro hc hL;refine r6 ?_;refine r1 ?_;refine WO.w gN rfl (Xu ZrD (Zj lk (Zj lk (Zj lk (Zj lk ZI)))) rfl (cs':= [.int .i64 2,.int .i64 x1.from_,.int .i64 p2,.int .i64 0,.int .i64 x1.has]) rfl) ?_;obtain⟨x17,ZBk,hL⟩:=bind_some hL;refine WO.cl gN rfl (Y1.fn Zln (Zc lk (Zc lk Zl))) hS (.c k2 (.c k0 (.c k1 (.c k1 .n)))) (fun g' hz hf hO=>Zhx (by rw [hz];exact hS.hw) hO ZBk) ?_;rintro _ h25 _ ⟨m18,a19,n20,c21,a22,n23,c24,rfl,rfl⟩ hS;obtain rfl:=hS.on k2;obtain rfl:=hS.on k3;refine r2 ?_;refine ZW.Z4 ?_;have hr:=Oi0 hL;subst hr;exact ZW.gen (vs:= []) rfl Zm rfl ⟨_,⟨m18,a19,x17.notes.length,c21,a22,x17.freed.length,c24,rfl,rfl⟩,hT ▸ hS.only (.c k0 (.c k0 (.c k0 (.c k0 .n))))⟩
   ·intro hc hL;refine r2 ?_;refine ZW.Z4 ?_;have hr:=Oi0 hL;subst hr;exact ZW.gen (vs:= []) rfl Zm rfl ⟨_,⟨ZN,Zt,p0.notes.length,Zr,ZH,p0.freed.length,ZG,rfl,rfl⟩,hT ▸ hS.only (.c k2 (.c k0 (.c k1 (.c k1 .n))))⟩
end Go.Proofs.Ytekpjgmhkkjhgaa
end
end
section
namespace Go.Proofs.Ytekpjgmhkkjhgaa
open Go.Lf
def ZfX (F:Nat) (p1:Zd):Int×Int×(List (Zf×Za))×(List Zd)×(List Int) ->Option Store:=fun(v49,v50,v51,v53,v57)=>
 (ZgS F (Store.mk v49 v50 v51 v53 v57) p1.Zx p1.name).bind fun x61=>some x61
def ZvN (F:Nat) (p0:Store) (p1:Zd):Option Store:=
 (ZgU p0 p1.Zx p1.name).bind fun x5=>(bif(p1.kind==1) then(bif(((!x5.root) && (decide (x5.from_ < 0))) && (p1.via !=p1.Zx)) then some (Store.mk p0.machines p0.names (Y9 p0.cells (Zf.mk p1.Zx p1.name) (Za.mk x5.name x5.root p1.via p1.w x5.out true)) p0.notes p0.freed) else(bif((decide (x5.from_ >=0)) && (x5.from_==p1.via)) then some (Store.mk p0.machines p0.names (Y9 p0.cells (Zf.mk p1.Zx p1.name) (Za.mk x5.name x5.root x5.from_ (ZP (x5.has + p1.w)) x5.out true)) p0.notes p0.freed) else(ZgT (Store.mk p0.machines p0.names (Y9 p0.cells (Zf.mk p1.Zx p1.name) (Za.mk x5.name x5.root x5.from_ x5.has x5.out true)) p0.notes p0.freed) p1.Zx p1.name p1.via p1.w).bind fun x18=>some x18)) else(bif(p1.kind==2) then(ZgS F (Store.mk p0.machines p0.names (Y9 p0.cells (Zf.mk p1.Zx p1.name) (Za.mk x5.name x5.root x5.from_ x5.has (ZP (x5.out - p1.w)) x5.use)) p0.notes p0.freed) p1.Zx p1.name).bind fun x30=>some x30 else(bif decide (x5.from_ >=0) then(ZgT (Store.mk p0.machines p0.names (Y9 p0.cells (Zf.mk p1.Zx p1.name) (Za.mk x5.name true (-1) 0 (ZP (x5.out + 16)) x5.use)) p0.notes p0.freed) p1.Zx p1.name x5.from_ x5.has).bind fun x71=>(ZfX F p1) (x71.machines,x71.names,x71.cells,x71.notes,x71.freed) else(ZfX F p1) (p0.machines,p0.names,Y9 p0.cells (Zf.mk p1.Zx p1.name) (Za.mk x5.name true (-1) 0 (ZP (x5.out + 16)) x5.use),p0.notes,p0.freed))))
def ZfQ:Zf ->Int ->Option Bool:=fun ZH2 ZDJ=>
 (bif decide (ZDJ > 1000000) then some true else some false)
def ZaU (F:Nat):Int×Int×(List (Zf×Za))×(List Zd)×(List Int) ->Option (PR Store):=fun(v14,v15,v16,v18,v22)=>
 (bif decide ((v18.length:Int) > 80) then some (.Ju 3) else(ZsG F (Store.mk v14 v15 v16 v18 v22)).bind fun x26=>(Zj6 (ZfQ) x26.1).bind fun q37=>(bif q37 then some (.Ju 3) else some (.ok (Store.mk v14 v15 v16 v18 v22))))
def ZvF (F:Nat) (p0:Store) (p1:Zo):Option (PR Store):=
 (ZnV p0 p1).bind fun x3=>prC x3 (fun e5=>some (.Ju e5)) (fun y4=>(bif(p1.ZT==1) then(ZaU F) (p0.machines,ZP (p0.names + 1),Y9 p0.cells (Zf.mk p1.at_ p0.names) (Za.mk p0.names true (-1) 0 0 true),p0.notes,p0.freed) else(bif(p1.ZT==2) then(ZnU p0 p1).bind fun x103=>(ZaU F) (x103.machines,x103.names,x103.cells,x103.notes,x103.freed) else(bif(p1.ZT==3) then(ZaT p0.cells (Zf.mk p1.at_ p1.name) (Za.mk 0 false 0 0 0 false)).bind fun x113=>(ZgS F (Store.mk p0.machines p0.names (Y9 p0.cells (Zf.mk p1.at_ p1.name) (Za.mk x113.name x113.root x113.from_ x113.has x113.out false)) p0.notes p0.freed) p1.at_ p1.name).bind fun ZmH=>(ZaU F) (ZmH.machines,ZmH.names,ZmH.cells,ZmH.notes,ZmH.freed) else(bif(p1.ZT==4) then(ZaT p0.cells (Zf.mk p1.at_ p1.name) (Za.mk 0 false 0 0 0 false)).bind fun Jt=>(ZaE (Store.mk p0.machines p0.names (Y9 p0.cells (Zf.mk p1.at_ p1.name) (Za.mk Jt.name false p1.Zx 16 Jt.out Jt.use)) p0.notes p0.freed) (Zd.mk 3 p1.Zx p1.name 0 16)).bind fun ZmG=>(ZaU F) (ZmG.machines,ZmG.names,ZmG.cells,ZmG.notes,ZmG.freed) else(Ym p0.notes p1.at_).bind fun Ky=>(ZnT p0.notes p1.at_ (ZP (p1.at_ + 1))).bind fun Zw9=>(ZvN F (Store.mk p0.machines p0.names p0.cells Zw9 p0.freed) Ky).bind fun ZmF=>(ZaU F) (ZmF.machines,ZmF.names,ZmF.cells,ZmF.notes,ZmF.freed))))))
end Go.Proofs.Ytekpjgmhkkjhgaa
end
section
set_option maxRecDepth 20000
noncomputable section
namespace Go.Proofs.Ytekpjgmhkkjhgaa
open Go.YD Go.Lf
theorem ZCC {F wm:Nat} {h:H} {p0:Store} {p1:Zd} {ZN:Nat} {Zt:Option Addr} {Zr Xz:Nat} {ZH:Option Addr} {ZG XV Xw:Nat} {r:Store} (ZK:wm <=h.size) (hO:Z0 (wm:=wm) [bx wm Xw [.int .i64 p0.machines,.int .i64 p0.names,.map (some ZN),.slice Zt Xz Zr,.slice ZH XV ZG],mp wm Zh Zn (some ZN) p0.cells,ow wm Zi Zt Xz Zr p0.notes,ow wm (ZO .i64) ZH XV ZG p0.freed] h) (hL:ZvN F p0 p1=some r):
 WR XX 66 #[.pointer (some ⟨Xw,0,none⟩),.agg [.int .i64 p1.kind,.int .i64 p1.Zx,.int .i64 p1.name,.int .i64 p1.via,.int .i64 p1.w].toArray] wm h (CP (fun(v:Value) (Gb:List (Ast wm))=>∃ (JK:Nat) (JP:Option Addr) (JI:Nat) (JM:Nat) (JO:Option Addr) (JH:Nat) (JL:Nat),v= .tuple [].toArray∧Gb= [bx wm Xw [.int .i64 r.machines,.int .i64 r.names,.map (some JK),.slice JP JI JM,.slice JO JH JL],mp wm Zh Zn (some JK) r.cells,ow wm Zi JP JI JM r.notes,ow wm (ZO .i64) JO JH JL r.freed]) [bx wm Xw [.int .i64 p0.machines,.int .i64 p0.names,.map (some ZN),.slice Zt Xz Zr,.slice ZH XV ZG],mp wm Zh Zn (some ZN) p0.cells,ow wm Zi Zt Xz Zr p0.notes,ow wm (ZO .i64) ZH XV ZG p0.freed] h):=by
 refine bg Try.ntmps66 ZK hO ?_;intro T hT hS;unfold ZvN at hL;obtain rfl:=hS.on k2;obtain rfl:=hS.on k3;refine r3 ?_;rintro _ h2 ⟨b1,eb1,rfl,hS⟩;refine r1 ?_;rintro _ h4 ⟨b3,eb3,rfl,hS⟩;refine r8 ?_;refine r1 ?_;obtain⟨x5,hx5,hL⟩:=bind_some hL;refine WO.cp gN rfl (Y1.fn Zlo (Zc lk (Zc lk (Zc lk Zl)))) (WR.QO rfl (Zhy (Nat.le_refl _) (hS.Xc k2) (.inl (hS.lt k2)) (hS.mrd k3) (hS.ord k4) (hS.ord k5) hx5)) ?_;refine r1 ?_;rintro _ h7 ⟨b6,eb6,rfl,hS⟩;refine r1 ?_;rintro h8 hS;refine r4 ?_;refine WO.w gN rfl (ZbW (Zc lk (Zc lk (Zc lk Zl)))) ?_;refine r16 ?_;refine cn hL ?_ ?_
 ·intro hc hL;refine r4 ?_;rintro h9 hS;refine r16 ?_;refine r6 ?_;refine r1 ?_;refine cn hL ?_ ?_
  ·intro hc hL;refine r1 ?_;refine WC.Yt mixed Kq0 ?_;refine r3 ?_;refine WX.wr (fun x=>x=b3) hS gN rfl (fun _ _ hR=>ZL Xk (Zk fh rfl) (At.eqv (hR b3 rfl) (hS.Xc k1)) (j:=4) rfl (v:= .int .i64 p1.w) rfl) ?_ rfl rfl;rintro h10 e11 hS;refine r1 ?_;refine WX.hu gN (Qe hS k0 Y4 lk lk (vs:= [.int .i64 p1.via]) rfl rfl rfl rfl (cs':= [.int .i64 x5.name,.bool x5.root,.int .i64 p1.via,.int .i64 x5.has,.int .i64 x5.out,.bool true]) rfl) ?_ rfl rfl [3] Kq0 (.c .z (hS.dj (.c k0 (.c k0 .n))) Yd.e);rintro h12 hS;refine WX.w gN rfl (Ye Zlz lk) ?_ Kq0;refine WX.hu gN (Qe hS k0 Y4 lk lk (vs:= [.int .i64 p1.w]) rfl rfl rfl rfl (cs':= [.int .i64 x5.name,.bool x5.root,.int .i64 p1.via,.int .i64 p1.w,.int .i64 x5.out,.bool true]) rfl) ?_ rfl Kq0 [] Kq0 Yd.e;rintro h13 hS;refine r4 ?_;refine WO.inl gN rfl (Y1.clo (first:= []) (cap:= [.pointer (some ⟨b6,0,none⟩),.pointer (some ⟨b1,0,none⟩),.pointer (some ⟨b3,0,none⟩)]) lk Zit Zl rfl) (WF.begin (args:= [_,_,_]) (fn:=Try.f104) Kq0 (by exact rfl) Try.ntmps104 (by simp) ?_);simp only [ZC,ZJ,Nat.reduceAdd];refine WC.Yt mixed Kq0 ?_;refine r8 ?_;refine WX.w gN rfl (Xi X8 (Zj lk (Zj lk ZI)) rfl (cs':= [.int .i64 p1.Zx,.int .i64 p1.name]) rfl) ?_ rfl;refine r1 ?_;refine WX.hu gN (Zca (kv:=Zh) (vv:=Zn) (k:= (Zf.mk p1.Zx p1.name)) (v:= (Za.mk x5.name x5.root p1.via p1.w x5.out true)) hS k4 YW Uk (Zk (ZV rfl (ZB rfl fh)) rfl) (Zk (Ze rfl fh) rfl) (Zk fh rfl)) ?_ rfl rfl [] Kq0 Yd.e;rintro h14 hS;refine r1 ?_;refine ZW.Z4 ?_;refine ZW.gen (vs:= []) rfl Zm rfl ?_;refine r3 ?_;refine ZW.Z4 ?_;have hr:=Oi0 hL;subst hr;exact ZW.gen (vs:= []) rfl Zm rfl ⟨_,⟨ZN,Zt,p0.notes.length,Zr,ZH,p0.freed.length,ZG,rfl,rfl⟩,hT ▸ hS.only (.c k4 (.c k0 (.c k3 (.c k3 .n))))⟩
  ·intro hc hL;refine UU ?_;refine r3 ?_;refine cn hL ?_ ?_
   ·intro hc hL;refine r8 ?_;refine r1 ?_;rintro h15 hS;refine r4 ?_;refine WO.inl gN rfl (Y1.clo (first:= []) (cap:= [.pointer (some ⟨b6,0,none⟩),.pointer (some ⟨b1,0,none⟩),.pointer (some ⟨b3,0,none⟩)]) lk Zit Zl rfl) (WF.begin (args:= [_,_,_]) (fn:=Try.f104) Kq0 (by exact rfl) Try.ntmps104 (by simp) ?_);simp only [ZC,ZJ,Nat.reduceAdd];refine WC.Yt mixed Kq0 ?_;refine r8 ?_;refine WX.w gN rfl (Xi X8 (Zj lk (Zj lk ZI)) rfl (cs':= [.int .i64 p1.Zx,.int .i64 p1.name]) rfl) ?_ rfl;refine r1 ?_;refine WX.hu gN (Zca (kv:=Zh) (vv:=Zn) (k:= (Zf.mk p1.Zx p1.name)) (v:= (Za.mk x5.name x5.root x5.from_ (ZP (x5.has + p1.w)) x5.out true)) hS k4 YW Uk (Zk (ZV rfl (ZB rfl fh)) rfl) (Zk (Ze rfl fh) rfl) (Zk fh rfl)) ?_ rfl rfl [] Kq0 Yd.e;rintro h16 hS;refine r1 ?_;refine ZW.Z4 ?_;refine ZW.gen (vs:= []) rfl Zm rfl ?_;refine r3 ?_;refine ZW.Z4 ?_;have hr:=Oi0 hL;subst hr;exact ZW.gen (vs:= []) rfl Zm rfl ⟨_,⟨ZN,Zt,p0.notes.length,Zr,ZH,p0.freed.length,ZG,rfl,rfl⟩,hT ▸ hS.only (.c k4 (.c k0 (.c k3 (.c k3 .n))))⟩
   ·intro hc hL;refine r3 ?_;refine WO.inl gN rfl (Y1.clo (first:= []) (cap:= [.pointer (some ⟨b6,0,none⟩),.pointer (some ⟨b1,0,none⟩),.pointer (some ⟨b3,0,none⟩)]) lk Zit Zl rfl) (WF.begin (args:= [_,_,_]) (fn:=Try.f104) Kq0 (by exact rfl) Try.ntmps104 (by simp) ?_);simp only [ZC,ZJ,Nat.reduceAdd];refine WC.Yt mixed Kq0 ?_;refine r8 ?_;refine WX.w gN rfl (Xi X8 (Zj lk (Zj lk ZI)) rfl (cs':= [.int .i64 p1.Zx,.int .i64 p1.name]) rfl) ?_ rfl;refine r1 ?_;refine WX.hu gN (Zca (kv:=Zh) (vv:=Zn) (k:= (Zf.mk p1.Zx p1.name)) (v:= (Za.mk x5.name x5.root x5.from_ x5.has x5.out true)) hS k4 YW Uk (Zk (ZV rfl (ZB rfl fh)) rfl) (Zk (Ze rfl fh) rfl) (Zk fh rfl)) ?_ rfl rfl [] Kq0 Yd.e;rintro h17 hS;refine r1 ?_;refine ZW.Z4 ?_;refine ZW.gen (vs:= []) rfl Zm rfl ?_;refine UU ?_;obtain⟨x18,Zsn,hL⟩:=bind_some hL;refine WO.cl gN rfl (Y1.fn Zvd (Zc lk (Zc lk (Zc lk (Zc lk (Zc lk Zl)))))) hS (.c k4 (.c k0 (.c k3 (.c k3 .n)))) (fun g' hz hf hO=>Zrr (by rw [hz];exact hS.hw) hO Zsn) ?_;rintro _ h26 _ ⟨m19,a20,n21,c22,a23,n24,c25,rfl,rfl⟩ hS;obtain rfl:=hS.on k2;obtain rfl:=hS.on k3;refine r3 ?_;refine ZW.Z4 ?_;have hr:=Oi0 hL;subst hr;exact ZW.gen (vs:= []) rfl Zm rfl ⟨_,⟨m19,a20,x18.notes.length,c22,a23,x18.freed.length,c25,rfl,rfl⟩,hT ▸ hS.only (.c k0 (.c k0 (.c k0 (.c k0 .n))))⟩
 ·intro hc hL;refine r6 ?_;refine cn hL ?_ ?_
  ·intro hc hL;refine r8 ?_;refine r1 ?_;rintro h28 hS;refine r4 ?_;refine r1 ?_;refine WO.inl gN rfl (Y1.clo (first:= []) (cap:= [.pointer (some ⟨b6,0,none⟩),.pointer (some ⟨b1,0,none⟩),.pointer (some ⟨b3,0,none⟩)]) lk Zit Zl rfl) (WF.begin (args:= [_,_,_]) (fn:=Try.f104) Kq0 (by exact rfl) Try.ntmps104 (by simp) ?_);simp only [ZC,ZJ,Nat.reduceAdd];refine WC.Yt mixed Kq0 ?_;refine r8 ?_;refine WX.w gN rfl (Xi X8 (Zj lk (Zj lk ZI)) rfl (cs':= [.int .i64 p1.Zx,.int .i64 p1.name]) rfl) ?_ rfl;refine r1 ?_;refine WX.hu gN (Zca (kv:=Zh) (vv:=Zn) (k:= (Zf.mk p1.Zx p1.name)) (v:= (Za.mk x5.name x5.root x5.from_ x5.has (ZP (x5.out - p1.w)) x5.use)) hS k4 YW Uk (Zk (ZV rfl (ZB rfl fh)) rfl) (Zk (Ze rfl fh) rfl) (Zk fh rfl)) ?_ rfl rfl [] Kq0 Yd.e;rintro h29 hS;refine r1 ?_;refine ZW.Z4 ?_;refine ZW.gen (vs:= []) rfl Zm rfl ?_;refine r8 ?_;obtain⟨x30,Zno,hL⟩:=bind_some hL;refine WO.cl gN rfl (Y1.fn Zpy (Zc lk (Zc lk (Zc lk Zl)))) hS (.c k4 (.c k0 (.c k3 (.c k3 .n)))) (fun g' hz hf hO=>ZlY (by rw [hz];exact hS.hw) hO Zno) ?_;rintro _ h38 _ ⟨m31,a32,n33,c34,a35,n36,c37,rfl,rfl⟩ hS;obtain rfl:=hS.on k2;obtain rfl:=hS.on k3;refine r2 ?_;refine ZW.Z4 ?_;have hr:=Oi0 hL;subst hr;exact ZW.gen (vs:= []) rfl Zm rfl ⟨_,⟨m31,a32,x30.notes.length,c34,a35,x30.freed.length,c37,rfl,rfl⟩,hT ▸ hS.only (.c k0 (.c k0 (.c k0 (.c k0 .n))))⟩
  ·intro hc hL;refine r1 ?_;refine WC.Yt mixed Kq0 ?_;refine UU ?_;rintro h40 hS;refine r2 ?_;rintro h41 hS;refine r2 ?_;rintro h42 hS;refine r8 ?_;refine r1 ?_;rintro h43 hS;refine r4 ?_;refine r1 ?_;refine WO.inl gN rfl (Y1.clo (first:= []) (cap:= [.pointer (some ⟨b6,0,none⟩),.pointer (some ⟨b1,0,none⟩),.pointer (some ⟨b3,0,none⟩)]) lk Zit Zl rfl) (WF.begin (args:= [_,_,_]) (fn:=Try.f104) Kq0 (by exact rfl) Try.ntmps104 (by simp) ?_);simp only [ZC,ZJ,Nat.reduceAdd];refine WC.Yt mixed Kq0 ?_;refine r8 ?_;refine WX.w gN rfl (Xi X8 (Zj lk (Zj lk ZI)) rfl (cs':= [.int .i64 p1.Zx,.int .i64 p1.name]) rfl) ?_ rfl;refine r1 ?_;refine WX.hu gN (Zca (kv:=Zh) (vv:=Zn) (k:= (Zf.mk p1.Zx p1.name)) (v:= (Za.mk x5.name true (-1) 0 (ZP (x5.out + 16)) x5.use)) hS k4 YW Uk (Zk (ZV rfl (ZB rfl fh)) rfl) (Zk (Ze rfl fh) rfl) (Zk fh rfl)) ?_ rfl rfl [] Kq0 Yd.e;rintro h44 hS;refine r1 ?_;refine ZW.Z4 ?_;refine ZW.gen (vs:= []) rfl Zm rfl ?_;refine r2 ?_;refine WC.Zal (r:=r) (fun(p:Int×Int×(List (Zf×Za))×(List Zd)×(List Int)) (s:Fs)=>match p with | (v49,v50,v51,v53,v57)=>∃ (ZbL:Fr) (h45:H) (m52:Nat) (a54:Option Addr) (c55:Nat) (n56:Nat) (a58:Option Addr) (c59:Nat) (n60:Nat),s= ⟨ZbL,[],h45,none⟩∧Sp wm T h [bx wm b1 [.pointer (some ⟨Xw,0,none⟩)],mp wm Zh Zn (some m52) v51,ow wm Zi a54 n56 c55 v53,ow wm (ZO .i64) a58 n60 c59 v57,bx wm Xw [.int .i64 v49,.int .i64 v50,.map (some m52),.slice a54 n56 c55,.slice a58 n60 c59],bx wm b3 [.int .i64 p1.kind,.int .i64 p1.Zx,.int .i64 p1.name,.int .i64 p1.via,.int .i64 p1.w]] h45∧ZbL.at 2= .pointer (some ⟨b1,0,none⟩)∧ZbL.at 3= .pointer (some ⟨b3,0,none⟩)) (ZfX F p1) ?_ ?_
   ·clear hL hS;rintro⟨v49,v50,v51,v53,v57⟩ s hL ⟨ZbL,h45,m52,a54,c55,n56,a58,c59,n60,rfl,hS,e47,e48⟩;obtain rfl:=hS.on k2;obtain rfl:=hS.on k3;dsimp only [ZfX] at hL;refine r6 ?_;obtain⟨x61,ZIN,hL⟩:=bind_some hL;refine WO.cl gN rfl (Y1.fn Zpy (Zc lk (Zc lk (Zc lk Zl)))) hS (.c k4 (.c k1 (.c k1 (.c k1 .n)))) (fun g' hz hf hO=>ZlY (by rw [hz];exact hS.hw) hO ZIN) ?_;rintro _ h69 _ ⟨m62,a63,n64,c65,a66,n67,c68,rfl,rfl⟩ hS;obtain rfl:=hS.on k2;obtain rfl:=hS.on k3;refine r2 ?_;refine ZW.Z4 ?_;have hr:=Oi0 hL;subst hr;exact ZW.gen (vs:= []) rfl Zm rfl ⟨_,⟨m62,a63,x61.notes.length,c65,a66,x61.freed.length,c68,rfl,rfl⟩,hT ▸ hS.only (.c k0 (.c k0 (.c k0 (.c k0 .n))))⟩
   ·skip;refine r6 ?_;refine cn hL ?_ ?_
    ·intro hc hL;refine r8 ?_;obtain⟨x71,ZIL,hL⟩:=bind_some hL;refine WO.cl gN rfl (Y1.fn Zvd (Zc lk (Zc lk (Zc lk (Zc lk (Zc lk Zl)))))) hS (.c k4 (.c k0 (.c k3 (.c k3 .n)))) (fun g' hz hf hO=>Zrr (by rw [hz];exact hS.hw) hO ZIL) ?_;rintro _ h79 _ ⟨m72,a73,n74,c75,a76,n77,c78,rfl,rfl⟩ hS;obtain rfl:=hS.on k2;obtain rfl:=hS.on k3;refine r1 ?_;exact YI.Z4 _ hL ⟨_,_,m72,a73,c75,x71.notes.length,a76,c78,x71.freed.length,rfl,hS.only (.c k6 (.c k1 (.c k1 (.c k1 (.c k0 (.c k1 .n)))))),Xa⟩
    ·intro hc hL;refine r1 ?_;exact YI.Z4 _ hL ⟨_,_,ZN,Zt,Zr,p0.notes.length,ZH,ZG,p0.freed.length,rfl,hS.only (.c k3 (.c k0 (.c k3 (.c k3 (.c k2 (.c k1 .n)))))),Xa⟩
theorem ZvE {F wm:Nat} {h:H} {p0:Store} {p1:Zo} {ZN:Nat} {Zt:Option Addr} {Zr Xz:Nat} {ZH:Option Addr} {ZG XV Xw:Nat} {r:(PR Store)} (ZK:wm <=h.size) (hO:Z0 (wm:=wm) [bx wm Xw [.int .i64 p0.machines,.int .i64 p0.names,.map (some ZN),.slice Zt Xz Zr,.slice ZH XV ZG],mp wm Zh Zn (some ZN) p0.cells,ow wm Zi Zt Xz Zr p0.notes,ow wm (ZO .i64) ZH XV ZG p0.freed] h) (hL:ZvF F p0 p1=some r):
 WF XX 95 #[.pointer (some ⟨Xw,0,none⟩),.agg [.int .i64 p1.ZT,.int .i64 p1.at_,.int .i64 p1.name,.int .i64 p1.Zx].toArray] wm h (PQ 32 (fun(r:Store) (v:Value) (Gb:List (Ast wm))=>∃ (JK:Nat) (JP:Option Addr) (JI:Nat) (JM:Nat) (JO:Option Addr) (JH:Nat) (JL:Nat),v= .tuple [].toArray∧Gb= [bx wm Xw [.int .i64 r.machines,.int .i64 r.names,.map (some JK),.slice JP JI JM,.slice JO JH JL],mp wm Zh Zn (some JK) r.cells,ow wm Zi JP JI JM r.notes,ow wm (ZO .i64) JO JH JL r.freed]) [bx wm Xw [.int .i64 p0.machines,.int .i64 p0.names,.map (some ZN),.slice Zt Xz Zr,.slice ZH XV ZG],mp wm Zh Zn (some ZN) p0.cells,ow wm Zi Zt Xz Zr p0.notes,ow wm (ZO .i64) ZH XV ZG p0.freed] h r):=by
 refine WF.Zgk (args:= [_,_]) (fn:=Try.f95) Kq0 (by exact rfl) Try.ntmps95 (by simp) ?_;simp only [ZC,ZJ,Nat.reduceAdd];obtain⟨T,hT,hS⟩:∃ T,T=XO (wm:=wm) [bx wm Xw [.int .i64 p0.machines,.int .i64 p0.names,.map (some ZN),.slice Zt Xz Zr,.slice ZH XV ZG],mp wm Zh Zn (some ZN) p0.cells,ow wm Zi Zt Xz Zr p0.notes,ow wm (ZO .i64) ZH XV ZG p0.freed]∧Sp wm T h [bx wm Xw [.int .i64 p0.machines,.int .i64 p0.names,.map (some ZN),.slice Zt Xz Zr,.slice ZH XV ZG],mp wm Zh Zn (some ZN) p0.cells,ow wm Zi Zt Xz Zr p0.notes,ow wm (ZO .i64) ZH XV ZG p0.freed] h:= ⟨_,rfl,Sp.start ZK hO⟩
 unfold ZvF at hL;obtain rfl:=hS.on k2;obtain rfl:=hS.on k3;refine r3 ?_;rintro _ h2 ⟨b1,eb1,rfl,hS⟩;refine r6 ?_;obtain⟨x3,hx3,hL⟩:=bind_some hL;rcases x3 with y4 | e5
 ·skip;replace hL:=Zt6 hL;refine WO.clR gN rfl (Y1.fn Zvc (Zc lk (Zc lk Zl))) hS.hw (PQ.ok (Zrp (Nat.le_refl _) (hS.Xc k1) (.inl (hS.lt k1)) (hS.mrd k2) (hS.ord k3) (hS.ord k4) hx3)) ?_;rintro _ h6 _ ⟨rfl,rfl⟩ hR7;have hS:=hS.clR hR7 .n;refine r8 ?_;refine WO.w gN rfl (Xi X8 (Zj lk (Zj lk ZI)) rfl (cs':= [.int .i64 p1.at_,.int .i64 p1.name]) rfl) ?_;refine r1 ?_;rintro _ h9 ⟨b8,eb8,rfl,hS⟩;refine r1 ?_;rintro h10 hS;refine r2 ?_;refine WC.Zal (r:=r) (fun(p:Int×Int×(List (Zf×Za))×(List Zd)×(List Int)) (s:Fs)=>match p with | (v14,v15,v16,v18,v22)=>∃ (ZCq:Fr) (h11:H) (m17:Nat) (a19:Option Addr) (c20:Nat) (n21:Nat) (a23:Option Addr) (c24:Nat) (n25:Nat),s= ⟨ZCq,[],h11,none⟩∧Sp wm T h [mp wm Zh Zn (some m17) v16,ow wm Zi a19 n21 c20 v18,ow wm (ZO .i64) a23 n25 c24 v22,bx wm Xw [.int .i64 v14,.int .i64 v15,.map (some m17),.slice a19 n21 c20,.slice a23 n25 c24]] h11∧ZCq.at 0= .pointer (some ⟨Xw,0,none⟩)) (ZaU F) ?_ ?_
  ·clear hL hS;rintro⟨v14,v15,v16,v18,v22⟩ s hL ⟨ZCq,h11,m17,a19,c20,n21,a23,c24,n25,rfl,hS,e13⟩;obtain rfl:=hS.on k1;obtain rfl:=hS.on k2;dsimp only [ZaU] at hL;refine r8 ?_;refine r3 ?_;refine cn hL ?_ ?_
   ·intro hc hL;refine r1 ?_;refine WO.w gN rfl (Zgl lk Kq0) ?_;refine WO.pnc gN lk ?_;refine ZX.panic ?_;refine Qb.ofX ?_;refine Zbp.Ju ?_;have hr:=Oi0 hL;subst hr;exact⟨rfl,hT ▸ hS.only .n⟩
   ·intro hc hL;refine r4 ?_;refine r1 ?_;obtain⟨x26,ZBj,hL⟩:=bind_some hL;refine WO.clR gN rfl (Y1.fn Zz6 (Zc lk Zl)) hS.hw (ZvM (Nat.le_refl _) (hS.Xc k3) (.inl (hS.lt k3)) (hS.mrd k0) (hS.ord k1) (hS.ord k2) ZBj) ?_;rintro _ h29 _ ⟨m27,m28,rfl,rfl⟩ ZB0;have hS:=hS.clR ZB0 (.c (cvM hS.hw) (.c (cvM hS.hw) .n));refine r8 ?_;refine r2 ?_;refine WO.rng gN rfl hS Wd lk (hS.get k0).at_ ?_;rintro h36 b31 ZPm ZMi hS ZI8 ZJo;refine r3 ?_;obtain⟨q37,ZI2,hL⟩:=bind_some hL;refine WC.loop (WL.ZIp [11,137,138,139,140,141,142,143] (pv 32 3) ZI2 hS k0 fh ZI8 ZJo rfl rfl rfl rfl rfl rfl rfl rfl ?_ ?_ ?_)
    ·clear hL hS;rintro⟨ZH2,ZDJ⟩ p40 hL h41 ZpB Zdr hS ZJJ;dsimp only [ZfQ] at hL;have e45:=Zdr.at (t:=0) rfl (Zp rfl (ZV rfl (ZB rfl (Ze rfl e13))));have e46:=Zdr.at (t:=123) rfl (Zp rfl (ZV rfl (ZB rfl fh)));have e47:=Zdr.at (t:=124) rfl (Zp rfl (ZV rfl (Ze rfl fh)));have e48:=Zdr.at (t:=125) rfl (Zp rfl (ZV rfl fh));have e49:=Zdr.at (t:=126) rfl (Zp rfl (ZB rfl (Ze rfl fh)));have e50:=Zdr.at (t:=127) rfl (Zp rfl (ZB rfl fh));have e51:=Zdr.at (t:=128) rfl (Zp rfl (Ze rfl fh));have e52:=Zdr.at (t:=131) rfl (Zp rfl fh);have e53:=Zdr.at (t:=132) rfl (ZV rfl (ZB rfl (Ze rfl fh)));have e54:=Zdr.at (t:=130) rfl (ZV rfl (ZB rfl fh));have e55:=Zdr.at (t:=133) rfl (ZV rfl (Ze rfl fh));have e56:=Zdr.at (t:=134) rfl (ZV rfl fh);have e57:=Zdr.at (t:=8) rfl (ZB rfl (Ze rfl fh));have e58:=Zdr.at (t:=9) rfl (ZB rfl fh);have e59:=Zdr.at (t:=135) rfl (Ze rfl fh);have e60:=Zdr.at (t:=136) rfl fh;refine r4 ?_;refine WC.Zmf lk rfl ?_;refine r4 ?_;refine r1 ?_;refine WO.w gN rfl (Zwr lk ZJJ) ?_;refine r8 ?_;refine r2 ?_;refine cn hL ?_ ?_
     ·intro hc hL;refine r1 ?_;refine WO.w gN rfl (Zgl lk Kq0) ?_;refine WO.pnc gN lk ?_;refine Qh.panic ?_;have hp:=Oi0 hL;subst hp;exact Zqs.panic (.s rfl (.s rfl (.s rfl (.s rfl (.s rfl (.s rfl (.s rfl (.s rfl .z))))))))
     ·intro hc hL;refine r2 ?_;have hp:=Oi0 hL;subst hp;exact Zqs.Z4 (.s rfl (.s rfl (.s rfl (.s rfl (.s rfl (.s rfl (.s rfl .z)))))))
    ·intro ZI1 h62 ZOo Zdq hS;replace hL:=Y3 ZI1 hL;have e65:=Zdq.at (t:=0) rfl (Zp rfl (ZV rfl (ZB rfl (Ze rfl e13))));have e66:=Zdq.at (t:=123) rfl (Zp rfl (ZV rfl (ZB rfl fh)));have e67:=Zdq.at (t:=124) rfl (Zp rfl (ZV rfl (Ze rfl fh)));have e68:=Zdq.at (t:=125) rfl (Zp rfl (ZV rfl fh));have e69:=Zdq.at (t:=126) rfl (Zp rfl (ZB rfl (Ze rfl fh)));have e70:=Zdq.at (t:=127) rfl (Zp rfl (ZB rfl fh));have e71:=Zdq.at (t:=128) rfl (Zp rfl (Ze rfl fh));have e72:=Zdq.at (t:=131) rfl (Zp rfl fh);have e73:=Zdq.at (t:=132) rfl (ZV rfl (ZB rfl (Ze rfl fh)));have e74:=Zdq.at (t:=130) rfl (ZV rfl (ZB rfl fh));have e75:=Zdq.at (t:=133) rfl (ZV rfl (Ze rfl fh));have e76:=Zdq.at (t:=134) rfl (ZV rfl fh);have e77:=Zdq.at (t:=8) rfl (ZB rfl (Ze rfl fh));have e78:=Zdq.at (t:=9) rfl (ZB rfl fh);have e79:=Zdq.at (t:=135) rfl (Ze rfl fh);have e80:=Zdq.at (t:=136) rfl fh;refine r4 ?_;refine WC.Zef lk rfl ?_;refine r2 ?_;refine Zzo.exit ?_;refine r1 ?_;refine Qb.Z4 ?_;have hr:=Oi0 hL;subst hr;exact Qb.Zvx rfl Zm rfl ⟨_,⟨m17,a19,v18.length,c20,a23,v22.length,c24,rfl,rfl⟩,hT ▸ hS.only (.c k5 (.c k2 (.c k2 (.c k2 .n))))⟩
    ·intro ZI0 h82 ZOn Zdp hS;replace hL:=Y2 ZI0 hL;have e85:=Zdp.at (t:=0) rfl (Zp rfl (ZV rfl (ZB rfl (Ze rfl e13))));have e86:=Zdp.at (t:=123) rfl (Zp rfl (ZV rfl (ZB rfl fh)));have e87:=Zdp.at (t:=124) rfl (Zp rfl (ZV rfl (Ze rfl fh)));have e88:=Zdp.at (t:=125) rfl (Zp rfl (ZV rfl fh));have e89:=Zdp.at (t:=126) rfl (Zp rfl (ZB rfl (Ze rfl fh)));have e90:=Zdp.at (t:=127) rfl (Zp rfl (ZB rfl fh));have e91:=Zdp.at (t:=128) rfl (Zp rfl (Ze rfl fh));have e92:=Zdp.at (t:=131) rfl (Zp rfl fh);have e93:=Zdp.at (t:=132) rfl (ZV rfl (ZB rfl (Ze rfl fh)));have e94:=Zdp.at (t:=130) rfl (ZV rfl (ZB rfl fh));have e95:=Zdp.at (t:=133) rfl (ZV rfl (Ze rfl fh));have e96:=Zdp.at (t:=134) rfl (ZV rfl fh);have e97:=Zdp.at (t:=8) rfl (ZB rfl (Ze rfl fh));have e98:=Zdp.at (t:=9) rfl (ZB rfl fh);have e99:=Zdp.at (t:=135) rfl (Ze rfl fh);have e100:=Zdp.at (t:=136) rfl fh;refine Qh.panic ?_;refine Qb.ofX ?_;refine Zbp.Ju ?_;have hr:=Oi0 hL;subst hr;exact⟨rfl,hT ▸ hS.only .n⟩
  ·skip;refine UU ?_;refine r1 ?_;refine cn hL ?_ ?_
   ·intro hc hL;refine r1 ?_;refine WC.Yt mixed Kq0 ?_;refine r8 ?_;refine r2 ?_;refine WX.w gN rfl (Xi X8 (Zj lk (Zj lk ZI)) rfl (cs':= [.int .i64 p1.at_,.int .i64 p0.names]) rfl) ?_ rfl;refine r4 ?_;refine WX.w gN rfl (Xu ZAv (Zj lk (Zj lk (Zj lk (Zj lk ZI)))) rfl (cs':= [.int .i64 p0.names,.bool true,.int .i64 (-1),.int .i64 0,.int .i64 0,.bool true]) rfl) ?_ rfl;refine WX.hu gN (Zca (kv:=Zh) (vv:=Zn) (k:= (Zf.mk p1.at_ p0.names)) (v:= (Za.mk p0.names true (-1) 0 0 true)) hS k3 YW Uk (Zk (Zp rfl (ZV rfl fh)) rfl) (Zk (ZV rfl (Ze rfl fh)) rfl) (Zk fh rfl)) ?_ rfl rfl [] Kq0 Yd.e;rintro ZGB hS;refine r8 ?_;refine r3 ?_;rintro ZCn hS;refine r2 ?_;exact YI.Z4 _ hL ⟨_,_,ZN,Zt,Zr,p0.notes.length,ZH,ZG,p0.freed.length,rfl,hS.only (.c k1 (.c k3 (.c k3 (.c k0 .n)))),Xa⟩
   ·intro hc hL;refine r6 ?_;refine cn hL ?_ ?_
    ·intro hc hL;refine r3 ?_;obtain⟨x103,Zkd,hL⟩:=bind_some hL;refine WO.cl gN rfl (Y1.fn ZBJ (Zc lk (Zc lk Zl))) hS (.c k2 (.c k2 (.c k2 (.c k2 .n)))) (fun g' hz hf hO=>ZyJ (by rw [hz];exact hS.hw) hO Zkd) ?_;rintro _ ZOg _ ⟨ZIu,a105,n106,c107,ZKL,n109,ZKD,rfl,rfl⟩ hS;obtain rfl:=hS.on k2;obtain rfl:=hS.on k3;refine r2 ?_;exact YI.Z4 _ hL ⟨_,_,ZIu,a105,c107,x103.notes.length,ZKL,ZKD,x103.freed.length,rfl,hS.only (.c k1 (.c k1 (.c k1 (.c k0 .n)))),Xa⟩
    ·intro hc hL;refine r6 ?_;refine cn hL ?_ ?_
     ·intro hc hL;refine r1 ?_;refine WC.Yt mixed Kq0 ?_;refine r4 ?_;refine r1 ?_;obtain⟨x113,hx113,hL⟩:=bind_some hL;refine WX.w gN rfl (Zdm (kv:=Zh) (vv:=Zn) (k:= (Zf.mk p1.at_ p1.name)) (z:= (Za.mk 0 false 0 0 0 false)) YW Uk UD (Zk (Ze rfl fh) rfl) (Zk fh rfl) (hS.get k3).at_ hx113 (w:= .agg [.int .i64 x113.name,.bool x113.root,.int .i64 x113.from_,.int .i64 x113.has,.int .i64 x113.out,.bool x113.use].toArray) rfl) ?_ rfl;refine WX.hn gN rfl (W9 hS UD (vs:= [.int .i64 0,.bool false,.int .i64 0,.int .i64 0,.int .i64 0,.bool false]) rfl) ?_ rfl;rintro _ ZOe ⟨ZPW,ZL7,rfl,hS⟩;refine WX.hu gN (Qe hS k0 JF lk lk (vs:= [.int .i64 x113.name,.bool x113.root,.int .i64 x113.from_,.int .i64 x113.has,.int .i64 x113.out,.bool x113.use]) rfl rfl rfl rfl (cs':= [.int .i64 x113.name,.bool x113.root,.int .i64 x113.from_,.int .i64 x113.has,.int .i64 x113.out,.bool x113.use]) rfl) ?_ rfl rfl [] Kq0 Yd.e;rintro h116 hS;refine r6 ?_;rintro ZOd hS;refine r3 ?_;refine WC.Yt mixed Kq0 ?_;refine r6 ?_;refine WX.hu gN (Zca (kv:=Zh) (vv:=Zn) (k:= (Zf.mk p1.at_ p1.name)) (v:= (Za.mk x113.name x113.root x113.from_ x113.has x113.out false)) hS k4 YW Uk (Zk (ZB rfl fh) rfl) (Zk (Ze rfl fh) rfl) (Zk fh rfl)) ?_ rfl rfl [] Kq0 Yd.e;rintro ZJ4 hS;refine r8 ?_;obtain⟨ZmH,ZEN,hL⟩:=bind_some hL;refine WO.cl gN rfl (Y1.fn Zpy (Zc lk (Zc lk (Zc lk Zl)))) hS (.c k4 (.c k0 (.c k3 (.c k3 .n)))) (fun g' hz hf hO=>ZlY (by rw [hz];exact hS.hw) hO ZEN) ?_;rintro _ h127 _ ⟨ZIt,ZKK,n122,Zs0,a124,n125,ZsZ,rfl,rfl⟩ hS;obtain rfl:=hS.on k2;obtain rfl:=hS.on k3;refine r2 ?_;exact YI.Z4 _ hL ⟨_,_,ZIt,ZKK,Zs0,ZmH.notes.length,a124,ZsZ,ZmH.freed.length,rfl,hS.only (.c k1 (.c k1 (.c k1 (.c k0 .n)))),Xa⟩
     ·intro hc hL;refine r6 ?_;refine cn hL ?_ ?_
      ·intro hc hL;refine r1 ?_;refine WC.Yt mixed Kq0 ?_;refine r4 ?_;refine r1 ?_;obtain⟨Jt,ZEL,hL⟩:=bind_some hL;refine WX.w gN rfl (Zdm (kv:=Zh) (vv:=Zn) (k:= (Zf.mk p1.at_ p1.name)) (z:= (Za.mk 0 false 0 0 0 false)) YW Uk UD (Zk (Ze rfl fh) rfl) (Zk fh rfl) (hS.get k3).at_ ZEL (w:= .agg [.int .i64 Jt.name,.bool Jt.root,.int .i64 Jt.from_,.int .i64 Jt.has,.int .i64 Jt.out,.bool Jt.use].toArray) rfl) ?_ rfl;refine WX.hn gN rfl (W9 hS UD (vs:= [.int .i64 0,.bool false,.int .i64 0,.int .i64 0,.int .i64 0,.bool false]) rfl) ?_ rfl;rintro _ ZJ2 ⟨ZPU,ZL5,rfl,hS⟩;refine WX.hu gN (Qe hS k0 JF lk lk (vs:= [.int .i64 Jt.name,.bool Jt.root,.int .i64 Jt.from_,.int .i64 Jt.has,.int .i64 Jt.out,.bool Jt.use]) rfl rfl rfl rfl (cs':= [.int .i64 Jt.name,.bool Jt.root,.int .i64 Jt.from_,.int .i64 Jt.has,.int .i64 Jt.out,.bool Jt.use]) rfl) ?_ rfl rfl [] Kq0 Yd.e;rintro ZN8 hS;refine r3 ?_;refine WC.Yt mixed Kq0 ?_;refine r1 ?_;refine WX.wr (fun x=>x=b1) hS gN rfl (fun _ _ hR=>ZL Xk (Zk fh rfl) (At.eqv (hR b1 rfl) (hS.Xc k2)) (j:=3) rfl (v:= .int .i64 p1.Zx) rfl) ?_ rfl rfl;rintro ZJ1 ZO3 hS;refine r1 ?_;refine WX.hu gN (Qe hS k0 Zzz lk lk (vs:= [.bool false]) rfl rfl rfl rfl (cs':= [.int .i64 Jt.name,.bool false,.int .i64 Jt.from_,.int .i64 Jt.has,.int .i64 Jt.out,.bool Jt.use]) rfl) ?_ rfl rfl [1] Kq0 (.c .z (hS.dj (.c k0 (.c k1 .n))) Yd.e);rintro ZJ0 hS;refine WX.w gN rfl (Ye Zrb lk) ?_ Kq0;refine WX.hu gN (Qe hS k0 Y4 lk lk (vs:= [.int .i64 p1.Zx]) rfl rfl rfl rfl (cs':= [.int .i64 Jt.name,.bool false,.int .i64 p1.Zx,.int .i64 Jt.has,.int .i64 Jt.out,.bool Jt.use]) rfl) ?_ rfl Kq0 [] Kq0 Yd.e;rintro ZJZ hS;refine WX.w gN rfl (Ye Zlz lk) ?_ Kq0;refine WX.hu gN (Qe hS k0 Y4 lk lk (vs:= [.int .i64 16]) rfl rfl rfl rfl (cs':= [.int .i64 Jt.name,.bool false,.int .i64 p1.Zx,.int .i64 16,.int .i64 Jt.out,.bool Jt.use]) rfl) ?_ rfl Kq0 [] Kq0 Yd.e;rintro ZGA hS;refine r3 ?_;refine WC.Yt mixed Kq0 ?_;refine r6 ?_;refine WX.hu gN (Zca (kv:=Zh) (vv:=Zn) (k:= (Zf.mk p1.at_ p1.name)) (v:= (Za.mk Jt.name false p1.Zx 16 Jt.out Jt.use)) hS k4 YW Uk (Zk (ZB rfl fh) rfl) (Zk (Ze rfl fh) rfl) (Zk fh rfl)) ?_ rfl rfl [] Kq0 Yd.e;rintro ZJY hS;refine r8 ?_;refine WO.w gN rfl (Xu ZrD (Zj lk (Zj lk (Zj lk (Zj lk ZI)))) rfl (cs':= [.int .i64 3,.int .i64 p1.Zx,.int .i64 p1.name,.int .i64 0,.int .i64 16]) rfl) ?_;obtain⟨ZmG,ZEJ,hL⟩:=bind_some hL;refine WO.cl gN rfl (Y1.fn Zln (Zc lk (Zc lk Zl))) hS (.c k4 (.c k0 (.c k3 (.c k3 .n)))) (fun g' hz hf hO=>Zhx (by rw [hz];exact hS.hw) hO ZEJ) ?_;rintro _ ZJU _ ⟨ZIs,a141,n142,c143,ZKJ,n145,c146,rfl,rfl⟩ hS;obtain rfl:=hS.on k2;obtain rfl:=hS.on k3;refine r2 ?_;exact YI.Z4 _ hL ⟨_,_,ZIs,a141,c143,ZmG.notes.length,ZKJ,c146,ZmG.freed.length,rfl,hS.only (.c k1 (.c k1 (.c k1 (.c k0 .n)))),Xa⟩
      ·intro hc hL;refine r1 ?_;refine WC.Yt mixed Kq0 ?_;refine r6 ?_;obtain⟨Ky,Zkc,hL⟩:=bind_some hL;obtain⟨ZPP,ZMM,_,ZBU,ZCb,ZJD⟩:=Src.at_ (hS.Jv k4) Zkc;refine WX.w gN rfl (Yb Ul XT lk lk rfl ZBU Zkc) ?_ rfl;refine WX.w gN rfl (Yo Ze7 XT (Zk fh rfl) ZCb (j:=0) rfl rfl (ws:= [.int .i64 Ky.kind,.int .i64 Ky.Zx,.int .i64 Ky.name,.int .i64 Ky.via,.int .i64 Ky.w]) rfl) ?_ rfl;refine WX.hn gN rfl (W9 hS Zfi (vs:= [.int .i64 0,.int .i64 0,.int .i64 0,.int .i64 0,.int .i64 0]) rfl) ?_ rfl;rintro _ ZGz ⟨ZPO,ZL0,rfl,hS⟩;refine WX.hu gN (Qe hS k0 XT lk lk (vs:= [.int .i64 Ky.kind,.int .i64 Ky.Zx,.int .i64 Ky.name,.int .i64 Ky.via,.int .i64 Ky.w]) rfl rfl rfl rfl (cs':= [.int .i64 Ky.kind,.int .i64 Ky.Zx,.int .i64 Ky.name,.int .i64 Ky.via,.int .i64 Ky.w]) rfl) ?_ rfl rfl [] Kq0 Yd.e;rintro ZJT hS;refine r3 ?_;refine WC.Yt mixed Kq0 ?_;refine r8 ?_;refine r2 ?_;obtain⟨Zw9,ZEE,hL⟩:=bind_some hL;refine WX.cl gN rfl (Y1.fn ZBI (Zc lk (Zc lk (Zc lk Zl)))) hS (.c k5 .n) (fun g' hz hf hO=>ZyI (by rw [hz];exact hS.hw) hO ZEE) ?_ rfl rfl [] Kq0 Yd.e;rintro _ ZNZ _ ⟨a156,n157,ZGZ,rfl,rfl⟩ hS;obtain rfl:=hS.on k0;refine WX.w gN rfl (Zqb lk) ?_ Kq0;refine WX.w gN rfl (Ye Zlx lk) ?_ Kq0;refine WX.hu gN (Qe hS k4 Zo0 lk lk (vs:= [.slice a156 Zw9.length ZGZ]) rfl rfl rfl rfl (cs':= [.int .i64 p0.machines,.int .i64 p0.names,.map (some ZN),.slice a156 Zw9.length ZGZ,.slice ZH p0.freed.length ZG]) rfl) ?_ rfl Kq0 [] Kq0 Yd.e;rintro ZNY hS;refine r4 ?_;refine r1 ?_;obtain⟨ZmF,ZED,hL⟩:=bind_some hL;refine WO.cl gN rfl (Y1.fn ZFi (Zc lk (Zc lk Zl))) hS (.c k0 (.c k4 (.c k0 (.c k3 .n)))) (fun g' hz hf hO=>ZCC (by rw [hz];exact hS.hw) hO ZED) ?_;rintro _ ZNV _ ⟨ZIr,a164,n165,ZKC,a167,n168,ZKB,rfl,rfl⟩ hS;obtain rfl:=hS.on k2;obtain rfl:=hS.on k3;refine r2 ?_;exact YI.Z4 _ hL ⟨_,_,ZIr,a164,ZKC,ZmF.notes.length,a167,ZKB,ZmF.freed.length,rfl,hS.only (.c k1 (.c k1 (.c k1 (.c k0 .n)))),Xa⟩
 ·skip;replace hL:=ZqC hL;refine WO.ZKx gN (Y1.fn Zvc (Zc lk (Zc lk Zl))) hS.hw hS (Zrp (Nat.le_refl _) (hS.Xc k1) (.inl (hS.lt k1)) (hS.mrd k2) (hS.ord k3) (hS.ord k4) hx3) ?_;rintro ZNT hS;refine ZX.panic ?_;refine Qb.ofX ?_;refine Zbp.Ju ?_;have hr:=Oi0 hL;subst hr;exact⟨rfl,hT ▸ hS.only .n⟩
end Go.Proofs.Ytekpjgmhkkjhgaa
end
end
section
namespace Go.Proofs.Ytekpjgmhkkjhgaa
open Go.Lf
def ZsH (F:Nat) (p0:Store) (p1:Zo):Option ((Option Store)×Int):=
 (ZvG F p0).bind fun x7=>(ZvF F x7 p1).bind fun x19=>prC x19 (fun e21=>some (none,e21)) (fun y20=>some ((some y20),0))
end Go.Proofs.Ytekpjgmhkkjhgaa
end
section
set_option maxRecDepth 20000
noncomputable section
namespace Go.Proofs.Ytekpjgmhkkjhgaa
open Go.YD Go.Lf
theorem ZvO {F wm:Nat} {h:H} {p0:Store} {p1:Zo} {ZN:Option Nat} {Zt:Option Addr} {Zr:Nat} {ZH:Option Addr} {ZG Xw U7:Nat} {r:((Option Store)×Int)} (ZK:wm <=h.size) (Y7:At h Xw U7 [.int .i64 p0.machines,.int .i64 p0.names,.map ZN,.slice Zt p0.notes.length Zr,.slice ZH p0.freed.length ZG]) (Y6:Stb wm h Xw) (ZM:UM Zh Zn wm h ZN p0.cells) (YA:Sl Zi wm h Zt Zr p0.notes) (YC:Sl (ZO .i64) wm h ZH ZG p0.freed) (hL:ZsH F p0 p1=some r):
 WR XX 57 #[.pointer (some ⟨Xw,U7,none⟩),.agg [.int .i64 p1.ZT,.int .i64 p1.at_,.int .i64 p1.name,.int .i64 p1.Zx].toArray] wm h (CP (fun(v:Value) (Gb:List (Ast wm))=>match r.1 with | some y=>∃ (rb0:Nat) (Zcb:Nat) (Q6:Option Addr) (JJ:Nat) (Q5:Nat) (JQ:Option Addr) (UR:Nat) (JN:Nat),v= .tuple [.pointer (some ⟨rb0,0,none⟩),.int .i64 r.2].toArray∧Gb= [bx wm rb0 [.int .i64 y.machines,.int .i64 y.names,.map (some Zcb),.slice Q6 JJ Q5,.slice JQ UR JN],mp wm Zh Zn (some Zcb) y.cells,ow wm Zi Q6 JJ Q5 y.notes,ow wm (ZO .i64) JQ UR JN y.freed] | none=>v= .tuple [.pointer none,.int .i64 r.2].toArray∧Gb= []) [] h):=by
 refine WF.Zgk (args:= [_,_]) (fn:=Try.f57) Kq0 (by exact rfl) Try.ntmps57 (by simp) ?_;simp only [ZC,ZJ,Nat.reduceAdd];obtain⟨T,hT,hS⟩:∃ T,T=XO (wm:=wm) []∧Sp wm T h [] h:= ⟨_,rfl,Sp.start ZK Z0.nil⟩
 unfold ZsH at hL;refine r3 ?_;rintro _ h2 ⟨b1,eb1,rfl,hS⟩;refine r1 ?_;rintro _ h4 ⟨b3,eb3,rfl,hS⟩;refine r1 ?_;rintro _ h6 ⟨b5,eb5,rfl,hS⟩;refine r4 ?_;refine WO.w gN rfl (ZbW (Zc lk (Zc lk Zl))) ?_;refine WO.dfr gN lk ?_;refine r4 ?_;refine r1 ?_;obtain⟨x7,hx7,hL⟩:=bind_some hL;refine WO.cl gN rfl (Y1.fn ZE9 (Zc lk Zl)) hS .n (fun g' hz hf hO=>ZCr (by rw [hz];exact hS.hw) (At.fz hf (Stb.fz hS.fz Y7 Y6) (At.fz hS.fz Y6 Y7)) (Stb.fz hf (At.fz hS.fz Y6 Y7) (Stb.fz hS.fz Y7 Y6)) ((hS.ms ZM).fz hf) ((hS.sl YA).mono hf) ((hS.sl YC).mono hf) hx7) ?_;rintro _ h16 _ ⟨b8,m9,a10,n11,c12,a13,n14,c15,rfl,rfl⟩ hS;obtain rfl:=hS.on k2;obtain rfl:=hS.on k3;refine r1 ?_;rintro h18 hS;refine r6 ?_;obtain⟨x19,ZxK,hL⟩:=bind_some hL;rcases x19 with y20 | e21
 ·skip;replace hL:=Zt6 hL;refine WO.cl gN rfl (Y1.fn Zz2 (Zc lk (Zc lk Zl))) hS (.c k1 (.c k1 (.c k1 (.c k1 .n)))) (fun g' hz hf hO=>(PQ.ok (ZvE (by rw [hz];exact hS.hw) hO ZxK))) ?_;rintro _ h29 _ ⟨m22,a23,n24,c25,a26,n27,c28,rfl,rfl⟩ hS;obtain rfl:=hS.on k2;obtain rfl:=hS.on k3;refine r6 ?_;rintro h31 hS;refine r1 ?_;rintro h32 hS;refine r3 ?_;refine Qb.ofP ?_;refine Zbp.dfn (cap:= [.pointer (some ⟨b3,0,none⟩),.pointer (some ⟨b5,0,none⟩)]) (fn2:=Try.f93) Kq0 (by exact rfl) Try.ntmps93 (by simp) rfl ?_;simp only [ZC,ZJ,Nat.reduceAdd];refine DC.seq ?_;refine DC.rec .ret (Tr.set (Tr.set (Tr.set (Tr.set (Tr.set (Tr.set (Tr.set (Tr.set (Tr.set .nil 0 (.pointer (some ⟨b3,0,none⟩))) 1 (.pointer (some ⟨b5,0,none⟩))) 5 (.nilIface)) 6 (.tuple [.int .i64 0,.bool false].toArray)) 4 (.tuple [.int .i64 0,.bool false].toArray)) 7 (.int .i64 0)) 8 (.bool false)) 2 (.int .i64 0)) 3 (.bool false)) (by exact rfl) rfl ?_;refine⟨rfl,?_⟩;refine DC.seq ?_;refine DC.rgn rfl ?_;refine r3 ?_;refine⟨rfl,?_⟩;refine DC.Zv7 lk rfl ?_;refine DC.skip ?_;refine⟨rfl,rfl,?_⟩;refine Zbp.ofL ?_ rfl;have hr:=Oi0 hL;subst hr;exact Qb.gen rfl (ZU (Zp rfl fh) (KP ZwB (hS.Xc k1) (j:=0) rfl (v:= .pointer (some ⟨b8,0,none⟩)) rfl) (ZU (ZV rfl (ZB rfl (Ze rfl fh))) (KP ZwC (hS.Xc k0) (j:=0) rfl (v:= .int .i64 0) rfl) Zm)) rfl ⟨_,⟨b8,m22,a23,y20.notes.length,c25,a26,y20.freed.length,c28,rfl,rfl⟩,hT ▸ hS.only (.c k2 (.c k2 (.c k2 (.c k2 .n))))⟩
 ·skip;replace hL:=ZqC hL;refine WO.clX gN (Y1.fn Zz2 (Zc lk (Zc lk Zl))) hS (.c k1 (.c k1 (.c k1 (.c k1 .n)))) (fun g' hz hf hO=>ZvE (by rw [hz];exact hS.hw) hO ZxK) ?_;rintro h33 hS;refine ZX.panic ?_;refine Qb.ofX ?_;refine Zbp.dfn (cap:= [.pointer (some ⟨b3,0,none⟩),.pointer (some ⟨b5,0,none⟩)]) (fn2:=Try.f93) Kq0 (by exact rfl) Try.ntmps93 (by simp) rfl ?_;simp only [ZC,ZJ,Nat.reduceAdd];refine DC.seq ?_;refine DC.rec (.rcv (pv 32 e21)) (Tr.set (Tr.set (Tr.set (Tr.set (Tr.set (Tr.set (Tr.set (Tr.set (Tr.set .nil 0 (.pointer (some ⟨b3,0,none⟩))) 1 (.pointer (some ⟨b5,0,none⟩))) 5 (.iface 32 (.int .i64 e21))) 6 (.tuple [.int .i64 e21,.bool true].toArray)) 4 (.tuple [.int .i64 e21,.bool true].toArray)) 7 (.int .i64 e21)) 8 (.bool true)) 2 (.int .i64 e21)) 3 (.bool true)) (by exact rfl) rfl ?_;refine⟨rfl,?_⟩;refine DC.seq ?_;refine DC.rgn rfl ?_;refine r3 ?_;refine⟨rfl,?_⟩;refine DC.Zv6 lk rfl ?_;refine DC.rgn rfl ?_;refine r3 ?_;rintro h34 hS;refine r1 ?_;rintro h35 hS;refine r1 ?_;refine⟨rfl,rfl,?_⟩;refine Zbp.ofL ?_ rfl;have hr:=Oi0 hL;subst hr;exact Qb.gen rfl (ZU (ZV rfl (ZB rfl fh)) (KP ZwB (hS.Xc k1) (j:=0) rfl (v:= .pointer none) rfl) (ZU (ZV rfl (Ze rfl fh)) (KP ZwC (hS.Xc k0) (j:=0) rfl (v:= .int .i64 e21) rfl) Zm)) rfl ⟨_,⟨rfl,rfl⟩,hT ▸ hS.only .n⟩
end Go.Proofs.Ytekpjgmhkkjhgaa
end
end
section
namespace Go.Proofs.Ytekpjgmhkkjhgaa
open Go.Lf
def ZiM (F:Nat) (p0:Zb) (p1:Zo):Option (Zb×Int):=
 (ZvP F p0).bind fun x7=>(gd (!(!x7)) (ZsI p1 (p0.cells.length:Int)) default).bind fun x8=>(bif((!x7) || (!x8)) then some ((Zb.mk [] [] 0 []),2) else(ZjC F p0).bind fun x10=>(ZsH F x10 p1).bind fun x21=>opt x21.1 ((bif(x21.2 !=0) then some ((Zb.mk [] [] 0 []),x21.2) else none)) (fun y22=>(bif(x21.2 !=0) then some ((Zb.mk [] [] 0 []),x21.2) else(ZnP F y22).bind fun x44=>some (x44,0))))
def ZbQ (v40:Int) (Zck:(Int×(List Yp)×(List Yp)×(List (List Za))×(List Zd)×Int×(List Int) ->Option (Zb×Model×Bool))):(List Yp)×(List Yp)×(List (List Za))×(List Zd)×Int×(List Int) ->Option (Zb×Model×Bool):=fun(v74,v78,v82,v87,v91,v92)=>
 Zck (ZP (v40 + 1),v74,v78,v82,v87,v91,v92)
def Zeb (F:Nat) (z28:(List Uz)):Int×(List Yp)×(List Yp)×(List (List Za))×(List Zd)×Int×(List Int) ->(Int×(List Yp)×(List Yp)×(List (List Za))×(List Zd)×Int×(List Int) ->Option (Zb×Model×Bool)) ->Option (Zb×Model×Bool):=fun(v40,v42,v46,v50,v55,v59,v60) Zck=>
 (bif decide (v40 < (z28.length:Int)) then(Ym z28 v40).bind fun x96=>(ZnQ x96 (v50.length:Int) v59 (v55.length:Int)).bind fun x102=>(bif(!x102.2) then(ZbQ v40 Zck) (v42,v46,v50,v55,v59,v60) else(ZiM F (Zb.mk v50 v55 v59 v60) x102.1).bind fun Ud=>(bif(Ud.2==7) then(gd ((x102.1.ZT !=4) && (!((x102.1.ZT !=2) && (x102.1.ZT !=3)))) (ZjD F v42 (Yp.mk x102.1.at_ x102.1.name)) default).bind fun ZDS=>(bif((x102.1.ZT !=4) && (((x102.1.ZT !=2) && (x102.1.ZT !=3)) || ZDS)) then some ((Zb.mk v50 v55 v59 v60),(Model.mk v42 v46),false) else(ZbQ v40 Zck) (v42,v46,v50,v55,v59,v60)) else(bif(((Ud.2==3) && (x102.1.ZT !=5)) && ((v55.length:Int)==80)) then(ZbQ v40 Zck) (v42,v46,v50,v55,v59,v60) else(bif((Ud.2 !=0) || ((Ud.1.cells.length:Int) != (v50.length:Int))) then some ((Zb.mk v50 v55 v59 v60),(Model.mk v42 v46),false) else(Zhc F (Model.mk v42 v46) (Zb.mk v50 v55 v59 v60) x102.1).bind fun Xx=>(ZpQ F Xx Ud.1).bind fun Ky=>(bif(!Ky) then some (Ud.1,Xx,false) else(ZbQ v40 Zck) (Xx.uses,Xx.ways,Ud.1.cells,Ud.1.notes,Ud.1.names,Ud.1.freed)))))) else some ((Zb.mk v50 v55 v59 v60),(Model.mk v42 v46),true))
def ZsJ (F:Nat) (p0:Int) (p1:(List Uz)):Option (Zb×Model×Bool):=
 (Zam (ZP p0) 6).bind fun x7=>(ZvT F (ZP (1 + x7))).bind fun x8=>(gd (!(x8.2 !=0)) (Zam (ZP p0) 6) default).bind fun x23=>(bif((x8.2 !=0) || ((x8.1.cells.length:Int) != (ZP (1 + x23)))) then some (x8.1,(Model.mk [] []),false) else(slL p1 0 (if 120 < (p1.length:Int) then 120 else(p1.length:Int))).bind fun z28=>loop F (Zeb F z28) (0,[],[],x8.1.cells,x8.1.notes,x8.1.names,x8.1.freed))
def Zf3 (F:Nat) (v16:Int) (v18:(List (List Za))) (v21:(List Zd)) (v24:Int) (v25:(List Int)) (v28:(List Yp)) (v32:(List Yp)) (Zfw:(Int×(List (List Za))×(List Zd)×Int×(List Int)×(List Yp)×(List Yp) ->Option (Zb×Model×Bool))):Int ->Option (Zb×Model×Bool):=fun v45=>
 (ZiM F (Zb.mk v18 v21 v24 v25) (Zo.mk 5 v45 0 0)).bind fun x50=>(bif(((x50.2 !=0) || (decide (v16 > 2000))) || ((x50.1.cells.length:Int) != (v18.length:Int))) then some ((Zb.mk v18 v21 v24 v25),(Model.mk v28 v32),false) else(Zhc F (Model.mk v28 v32) (Zb.mk v18 v21 v24 v25) (Zo.mk 5 v45 0 0)).bind fun x75=>Zfw (ZP (v16 + 1),x50.1.cells,x50.1.notes,x50.1.names,x50.1.freed,x75.uses,x75.ways))
def Zea (F:Nat) (p2:(List Int)):Int×(List (List Za))×(List Zd)×Int×(List Int)×(List Yp)×(List Yp) ->(Int×(List (List Za))×(List Zd)×Int×(List Int)×(List Yp)×(List Yp) ->Option (Zb×Model×Bool)) ->Option (Zb×Model×Bool):=fun(v16,v18,v21,v24,v25,v28,v32) Zfw=>
 (bif decide ((v21.length:Int) > 0) then(bif decide ((p2.length:Int) > 0) then(Zam v16 (p2.length:Int)).bind fun x86=>(Ym p2 x86).bind fun x87=>(Zam (ZP x87) (v21.length:Int)).bind fun x90=>(Zf3 F v16 v18 v21 v24 v25 v28 v32 Zfw) x90 else(Zf3 F v16 v18 v21 v24 v25 v28 v32 Zfw) 0) else(ZpQ F (Model.mk v28 v32) (Zb.mk v18 v21 v24 v25)).bind fun x93=>some ((Zb.mk v18 v21 v24 v25),(Model.mk v28 v32),x93))
def ZvS (F:Nat) (p0:Zb) (p1:Model) (p2:(List Int)):Option (Zb×Model×Bool):=
 loop F (Zea F p2) (0,p0.cells,p0.notes,p0.names,p0.freed,p1.uses,p1.ways)
end Go.Proofs.Ytekpjgmhkkjhgaa
end
section
set_option maxRecDepth 20000
noncomputable section
namespace Go.Proofs.Ytekpjgmhkkjhgaa
open Go.YD Go.Lf
theorem ZpU {F wm:Nat} {h:H} {p0:Zb} {p1:Zo} {Zv:Option Addr} {Zu:Nat} {Zt:Option Addr} {Zr:Nat} {ZH:Option Addr} {ZG:Nat} {r:(Zb×Int)} (ZK:wm <=h.size) (ZM:Sl (Ql Zq) wm h Zv Zu p0.cells) (YA:Sl Zi wm h Zt Zr p0.notes) (YC:Sl (ZO .i64) wm h ZH ZG p0.freed) (hL:ZiM F p0 p1=some r):
 WR XX 17 #[.agg [.slice Zv p0.cells.length Zu,.slice Zt p0.notes.length Zr,.int .i64 p0.names,.slice ZH p0.freed.length ZG].toArray,.agg [.int .i64 p1.ZT,.int .i64 p1.at_,.int .i64 p1.name,.int .i64 p1.Zx].toArray] wm h (CP (fun(v:Value) (Gb:List (Ast wm))=>∃ (XI:Option Addr) (Qc:Nat) (XH:Nat) (ZbB:Nat ->Option Addr×Nat×Nat) (Q6:Option Addr) (JJ:Nat) (Q5:Nat) (JQ:Option Addr) (UR:Nat) (JN:Nat),v= .tuple [.agg [.slice XI Qc XH,.slice Q6 JJ Q5,.int .i64 r.1.names,.slice JQ UR JN].toArray,.int .i64 r.2].toArray∧Gb= [nst wm (XB Zq) XI Qc XH ZbB r.1.cells,ow wm Zi Q6 JJ Q5 r.1.notes,ow wm (ZO .i64) JQ UR JN r.1.freed]) [] h):=by
 refine bg Try.ntmps17 ZK Z0.nil ?_;intro T hT hS;unfold ZiM at hL;refine r3 ?_;rintro _ h2 ⟨b1,eb1,rfl,hS⟩;refine r1 ?_;rintro _ h4 ⟨b3,eb3,rfl,hS⟩;refine r1 ?_;rintro _ h6 ⟨b5,eb5,rfl,hS⟩;refine r6 ?_;refine r1 ?_;obtain⟨x7,hx7,hL⟩:=bind_some hL;refine WO.cp gN rfl (Y1.fn ZFk (Zc lk Zl)) (WR.QO rfl (ZCF (Nat.le_refl _) (hS.slu ZM) (hS.slu YA) (hS.slu YC) hx7)) ?_;refine r6 ?_;obtain⟨x8,hx8,hL⟩:=X7 hL;refine WO.gcp (Zg.no rfl rfl rfl (ZV rfl fh)) rfl (fun hg=>(Y1.fn ZFj (Zc (Xm (ZB rfl (Ze rfl fh)) rfl hg) (Zc (Xm fh rfl hg) Zl)))) (fun hg=>ZCE (hx8 hg)) ?_;refine r4 ?_;refine cn hL ?_ ?_
 ·intro hc hL;refine r2 ?_;refine WO.w gN rfl (Xu Zon ZI rfl (cs':= [.slice none 0 0,.slice none 0 0,.int .i64 0,.slice none 0 0]) rfl) ?_;refine r1 ?_;rintro h9 hS;refine r4 ?_;refine r1 ?_;have hS:=hS.Zxy (e:= (XB Zq)) (ps:=fun _=>(XB Zq).dflt);have hS:=hS.nil (e:=Zi);have hS:=hS.nil (e:= (ZO .i64));have hr:=Oi0 hL;subst hr;exact ZW.gen (vs:= [.agg [.slice none 0 0,.slice none 0 0,.int .i64 0,.slice none 0 0].toArray,.int .i64 2]) rfl (ZU (Zp rfl (ZV rfl (ZB rfl fh))) (Z8 Uv YV (hS.Xc k3) (j:=0) rfl rfl (ws:= [.slice none 0 0,.slice none 0 0,.int .i64 0,.slice none 0 0]) rfl) (Zy lk Zm)) rfl ⟨_,⟨none,0,0,(fun _=>(XB Zq).dflt),none,0,0,none,0,0,rfl,rfl⟩,hT ▸ hS.only (.c k2 (.c k1 (.c k0 .n)))⟩
 ·intro hc hL;refine r3 ?_;refine WC.Yt mixed Kq0 ?_;refine r1 ?_;obtain⟨x10,ZIT,hL⟩:=bind_some hL;refine WX.cl0 gN rfl (Y1.fn Zu3 (Zc lk Zl)) hS .n (fun g' hz hf hO=>ZpN (by rw [hz];exact hS.hw) ((hS.sl ZM).mono hf) ((hS.sl YA).mono hf) ((hS.sl YC).mono hf) ZIT) ?_ rfl rfl;rintro _ h19 _ ⟨b11,m12,a13,n14,c15,a16,n17,c18,rfl,rfl⟩ hS;obtain rfl:=hS.on k2;obtain rfl:=hS.on k3;refine r1 ?_;obtain⟨x21,Zpj,hL⟩:=bind_some hL;rcases Zx6:x21.1 with _ | y22
  ·skip;rw [Zx6] at hL;replace hL:=Zue hL;refine WX.clR gN rfl (Y1.fn Zz7 (Zc lk (Zc lk Zl))) hS.hw (ZvO (Nat.le_refl _) (hS.Xc k0) (.inl (hS.lt k0)) (hS.mrd k1) (hS.ord k2) (hS.ord k3) Zpj) ?_ rfl rfl;rintro v26 h24 ZP6 ZFO ZJw;rw [Zx6] at ZFO;obtain⟨rfl,rfl⟩:=ZFO;have hS:=hS.clR ZJw .n;refine UU ?_;refine r2 ?_;refine cn hL ?_ ?_
   ·intro hc hL;refine r2 ?_;refine WO.w gN rfl (Xu Zon ZI rfl (cs':= [.slice none 0 0,.slice none 0 0,.int .i64 0,.slice none 0 0]) rfl) ?_;refine r2 ?_;rintro h29 hS;refine r4 ?_;refine r1 ?_;have hS:=hS.Zxy (e:= (XB Zq)) (ps:=fun _=>(XB Zq).dflt);have hS:=hS.nil (e:=Zi);have hS:=hS.nil (e:= (ZO .i64));have hr:=Oi0 hL;subst hr;exact ZW.gen (vs:= [.agg [.slice none 0 0,.slice none 0 0,.int .i64 0,.slice none 0 0].toArray,.int .i64 x21.2]) rfl (ZU (Zp rfl (Zp rfl (Zp rfl (ZB rfl fh)))) (Z8 Uv YV (hS.Xc k3) (j:=0) rfl rfl (ws:= [.slice none 0 0,.slice none 0 0,.int .i64 0,.slice none 0 0]) rfl) (Zy lk Zm)) rfl ⟨_,⟨none,0,0,(fun _=>(XB Zq).dflt),none,0,0,none,0,0,rfl,rfl⟩,hT ▸ hS.only (.c k2 (.c k1 (.c k0 .n)))⟩
   ·intro hc hL;cases hL
  ·skip;rw [Zx6] at hL;replace hL:=Zud hL;refine WX.clR gN rfl (Y1.fn Zz7 (Zc lk (Zc lk Zl))) hS.hw (ZvO (Nat.le_refl _) (hS.Xc k0) (.inl (hS.lt k0)) (hS.mrd k1) (hS.ord k2) (hS.ord k3) Zpj) ?_ rfl rfl;rintro v40 h38 ZP5 ZFN ZJt;rw [Zx6] at ZFN;obtain⟨b30,m31,a32,n33,c34,a35,n36,c37,rfl,rfl⟩:=ZFN;have hS:=hS.clR ZJt (.c (cvB hS.hw) (.c (cvM hS.hw) (.c (cvO (fun _ _ _ _=>trivial) hS.hw) (.c (cvO (fun _ _ _ _=>trivial) hS.hw) .n))));obtain rfl:=hS.on k2;obtain rfl:=hS.on k3;refine UU ?_;refine r2 ?_;refine cn hL ?_ ?_
   ·intro hc hL;refine r2 ?_;refine WO.w gN rfl (Xu Zon ZI rfl (cs':= [.slice none 0 0,.slice none 0 0,.int .i64 0,.slice none 0 0]) rfl) ?_;refine r2 ?_;rintro h43 hS;refine r4 ?_;refine r1 ?_;have hS:=hS.Zxy (e:= (XB Zq)) (ps:=fun _=>(XB Zq).dflt);have hS:=hS.nil (e:=Zi);have hS:=hS.nil (e:= (ZO .i64));have hr:=Oi0 hL;subst hr;exact ZW.gen (vs:= [.agg [.slice none 0 0,.slice none 0 0,.int .i64 0,.slice none 0 0].toArray,.int .i64 x21.2]) rfl (ZU (Zp rfl (Zp rfl (Zp rfl (ZB rfl fh)))) (Z8 Uv YV (hS.Xc k3) (j:=0) rfl rfl (ws:= [.slice none 0 0,.slice none 0 0,.int .i64 0,.slice none 0 0]) rfl) (Zy lk Zm)) rfl ⟨_,⟨none,0,0,(fun _=>(XB Zq).dflt),none,0,0,none,0,0,rfl,rfl⟩,hT ▸ hS.only (.c k2 (.c k1 (.c k0 .n)))⟩
   ·intro hc hL;refine r4 ?_;refine r1 ?_;obtain⟨x44,ZxH,hL⟩:=bind_some hL;refine WO.clR gN rfl (Y1.fn Zu4 (Zc lk Zl)) hS.hw (ZpO (Nat.le_refl _) (hS.Xc k0) (.inl (hS.lt k0)) (hS.mrd k1) (hS.ord k2) (hS.ord k3) ZxH) ?_;rintro _ h54 _ ⟨a45,n46,c47,ZEb,a48,n49,c50,a51,n52,c53,rfl,rfl⟩ ZJs;have hS:=hS.clR ZJs (.c (cvN (fun _ _ _ _=>trivial) hS.hw) (.c (cvO (fun _ _ _ _=>trivial) hS.hw) (.c (cvO (fun _ _ _ _=>trivial) hS.hw) .n)));obtain rfl:=hS.Zh8 k0;obtain rfl:=hS.on k1;obtain rfl:=hS.on k2;refine r1 ?_;rintro h56 hS;refine r4 ?_;have hr:=Oi0 hL;subst hr;exact ZW.gen (vs:= [.agg [.slice a45 x44.cells.length c47,.slice a48 x44.notes.length c50,.int .i64 x44.names,.slice a51 x44.freed.length c53].toArray,.int .i64 0]) rfl (ZU (Zp rfl (Zp rfl (Zp rfl (ZB rfl fh)))) (Z8 Uv YV (hS.Xc k0) (j:=0) rfl rfl (ws:= [.slice a45 x44.cells.length c47,.slice a48 x44.notes.length c50,.int .i64 x44.names,.slice a51 x44.freed.length c53]) rfl) (Zy lk Zm)) rfl ⟨_,⟨a45,x44.cells.length,c47,ZEb,a48,x44.notes.length,c50,a51,x44.freed.length,c53,rfl,rfl⟩,hT ▸ hS.only (.c k1 (.c k1 (.c k1 .n)))⟩
theorem ZCH {F wm:Nat} {h:H} {p0:Int} {p1:(List Uz)} {Yz:Option Addr} {Yy:Nat} {r:(Zb×Model×Bool)} (ZK:wm <=h.size) (Jd:Sl Zo3 wm h Yz Yy p1) (hL:ZsJ F p0 p1=some r):
 WR XX 38 #[.int .u8 p0,.slice Yz p1.length Yy] wm h (CP (fun(v:Value) (Gb:List (Ast wm))=>∃ (XI:Option Addr) (Qc:Nat) (XH:Nat) (ZbB:Nat ->Option Addr×Nat×Nat) (Q6:Option Addr) (JJ:Nat) (Q5:Nat) (JQ:Option Addr) (UR:Nat) (JN:Nat) (Zna:Option Addr) (Zm3:Nat) (Zm7:Nat) (Zm9:Option Addr) (Zm2:Nat) (Zm6:Nat),v= .tuple [.agg [.slice XI Qc XH,.slice Q6 JJ Q5,.int .i64 r.1.names,.slice JQ UR JN].toArray,.agg [.slice Zna Zm3 Zm7,.slice Zm9 Zm2 Zm6].toArray,.bool r.2.2].toArray∧Gb= [nst wm (XB Zq) XI Qc XH ZbB r.1.cells,ow wm Zi Q6 JJ Q5 r.1.notes,ow wm (ZO .i64) JQ UR JN r.1.freed,ow wm Z9 Zna Zm3 Zm7 r.2.1.uses,ow wm Z9 Zm9 Zm2 Zm6 r.2.1.ways]) [] h):=by
 refine bg Try.ntmps38 ZK Z0.nil ?_;intro T hT hS;unfold ZsJ at hL;refine r3 ?_;rintro _ h2 ⟨b1,eb1,rfl,hS⟩;refine r1 ?_;rintro _ h4 ⟨b3,eb3,rfl,hS⟩;refine r6 ?_;rintro _ h6 ⟨b5,eb5,rfl,hS⟩;refine r4 ?_;refine r1 ?_;refine WO.w gN rfl (ZcO ZoR ZmO lk) ?_;obtain⟨x7,hx7,hL⟩:=bind_some hL;refine WO.w gN rfl (ZR (Zk fh rfl) (XG rfl) (QA hx7)) ?_;refine r1 ?_;obtain⟨x8,hx8,hL⟩:=bind_some hL;refine WO.cl gN rfl (Y1.fn ZFr (Zc lk Zl)) hS .n (fun g' hz hf hO=>ZCK (by rw [hz];exact hS.hw) hx8) ?_;rintro _ h18 _ ⟨a9,n10,c11,ZEa,a12,n13,c14,a15,n16,c17,rfl,rfl⟩ hS;obtain rfl:=hS.Zh8 k0;obtain rfl:=hS.on k1;obtain rfl:=hS.on k2;refine r4 ?_;rintro _ h21 ⟨b20,ZON,rfl,hS⟩;refine r1 ?_;rintro h22 hS;refine UU ?_;refine r1 ?_;refine WO.gv (Zg.no rfl rfl rfl (ZV rfl fh)) rfl (fun hg=>(ZcO ZoR ZmO (Xm fh rfl hg))) ?_;obtain⟨x23,ZxI,hL⟩:=X7 hL;refine WO.gv (Zg.no rfl rfl rfl (ZV rfl (Ze rfl fh))) rfl (fun hg=>(ZR (Xm fh rfl hg) (XG rfl) (QA (ZxI hg)))) ?_;refine r4 ?_;refine r1 ?_;refine cn hL ?_ ?_
 ·intro hc hL;refine r1 ?_;refine WC.Yt mixed Kq0 ?_;refine r1 ?_;refine WX.wr (fun x=>x=b5) hS gN rfl (fun _ _ hR=>Yo Uu YZ (Zk (Zp rfl (Zp rfl (ZV rfl (ZB rfl (Ze rfl fh))))) rfl) (At.eqv (hR b5 rfl) (hS.Xc k4)) (j:=0) rfl rfl (ws:= [.slice none 0 0,.slice none 0 0]) rfl) ?_ rfl rfl;rintro h24 e25 hS;refine WX.hu gN (Qe hS k6 YV lk lk (vs:= [.slice a9 x8.1.cells.length c11,.slice a12 x8.1.notes.length c14,.int .i64 x8.1.names,.slice a15 x8.1.freed.length c17]) rfl rfl rfl rfl (cs':= [.slice a9 x8.1.cells.length c11,.slice a12 x8.1.notes.length c14,.int .i64 x8.1.names,.slice a15 x8.1.freed.length c17]) rfl) ?_ rfl rfl [1] Kq0 (.c .z (hS.dj (.c k6 (.c k4 .n))) Yd.e);rintro h26 hS;refine WX.hu gN (Qe hS k6 YZ lk lk (vs:= [.slice none 0 0,.slice none 0 0]) rfl rfl rfl rfl (cs':= [.slice none 0 0,.slice none 0 0]) rfl) ?_ rfl Kq0 [] Kq0 Yd.e;rintro h27 hS;refine WX.w gN rfl (Zw lk) ?_ Kq0;refine r4 ?_;have hS:=hS.nil (e:=Z9);have hS:=hS.nil (e:=Z9);have hr:=Oi0 hL;subst hr;exact ZW.gen (vs:= [.agg [.slice a9 x8.1.cells.length c11,.slice a12 x8.1.notes.length c14,.int .i64 x8.1.names,.slice a15 x8.1.freed.length c17].toArray,.agg [.slice none 0 0,.slice none 0 0].toArray,.bool false]) rfl (ZU (Zp rfl (Zp rfl (Zp rfl (ZV rfl fh)))) (Z8 Uv YV (hS.Xc k3) (j:=0) rfl rfl (ws:= [.slice a9 x8.1.cells.length c11,.slice a12 x8.1.notes.length c14,.int .i64 x8.1.names,.slice a15 x8.1.freed.length c17]) rfl) (ZU (Zp rfl (Zp rfl (Zp rfl (ZB rfl (Ze rfl fh))))) (Z8 Uu YZ (hS.Xc k2) (j:=0) rfl rfl (ws:= [.slice none 0 0,.slice none 0 0]) rfl) (Zy lk Zm))) rfl ⟨_,⟨a9,x8.1.cells.length,c11,ZEa,a12,x8.1.notes.length,c14,a15,x8.1.freed.length,c17,none,0,0,none,0,0,rfl,rfl⟩,hT ▸ hS.only (.c k5 (.c k5 (.c k5 (.c k1 (.c k0 .n)))))⟩
 ·intro hc hL;refine r8 ?_;refine WO.w gN rfl (Zwo lk lk) ?_;obtain⟨z28,ZIC,hL⟩:=bind_some hL;refine WO.he gN rfl (Zo1 (hS.sl Jd) rfl ZhN Zbt (Zk (ZB rfl (Ze rfl fh)) rfl) (Zk fh rfl) ZIC) ?_;rintro _ ⟨a29,c30,rfl,hv31⟩;have ZEU:=hv31.sl Jd;refine r4 ?_;refine r1 ?_;have hS:=hS.nil (e:=Z9);have hS:=hS.nil (e:=Z9);refine WC.loop (WL.lift hL (fun(p:Int×(List Yp)×(List Yp)×(List (List Za))×(List Zd)×Int×(List Int)) (s:Fs)=>match p with | (v40,v42,v46,v50,v55,v59,v60)=>∃ (Zcx:Fr) (h32:H) (a43:Option Addr) (c44:Nat) (n45:Nat) (a47:Option Addr) (c48:Nat) (n49:Nat) (a51:Option Addr) (c52:Nat) (n53:Nat) (Znc:Nat ->Option Addr×Nat×Nat) (a56:Option Addr) (c57:Nat) (n58:Nat) (a61:Option Addr) (c62:Nat) (n63:Nat),s= ⟨Zcx,[],h32,none⟩∧Sp wm T h [bx wm b1 [.slice none 0 0,.slice none 0 0,.int .i64 0,.slice none 0 0],bx wm b3 [.slice none 0 0,.slice none 0 0],ow wm Z9 a43 n45 c44 v42,ow wm Z9 a47 n49 c48 v46,bx wm b5 [.slice a43 n45 c44,.slice a47 n49 c48],nst wm (XB Zq) a51 n53 c52 Znc v50,ow wm Zi a56 n58 c57 v55,ow wm (ZO .i64) a61 n63 c62 v60,bx wm b20 [.slice a51 n53 c52,.slice a56 n58 c57,.int .i64 v59,.slice a61 n63 c62]] h32∧Zcx.at 4= .pointer (some ⟨b1,0,none⟩)∧Zcx.at 5= .pointer (some ⟨b3,0,none⟩)∧Zcx.at 7= .pointer (some ⟨b5,0,none⟩)∧Zcx.at 8= .pointer (some ⟨b20,0,none⟩)∧Zcx.at 42= .slice a29 z28.length c30∧Zcx.at 43= .int .i64 (z28.length:Int)∧Zcx.at 44= .int .i64 v40) ⟨_,_,none,0,0,none,0,0,a9,c11,x8.1.cells.length,ZEa,a12,c14,x8.1.notes.length,a15,c17,x8.1.freed.length,rfl,hS.only (.c k8 (.c k7 (.c k0 (.c k0 (.c k4 (.c k1 (.c k1 (.c k1 (.c k0 .n))))))))),Xa⟩ ?_);clear hL hS;rintro Zck ⟨v40,v42,v46,v50,v55,v59,v60⟩ s ZxT hL ⟨Zcx,h32,a43,c44,n45,a47,c48,n49,a51,c52,n53,Znc,a56,c57,n58,a61,c62,n63,rfl,hS,e34,e35,e36,e37,e38,e39,e41⟩;obtain rfl:=hS.on k2;obtain rfl:=hS.on k3;obtain rfl:=hS.Zh8 k5;obtain rfl:=hS.on k6;obtain rfl:=hS.on k7;dsimp only [Zeb] at hL;refine r6 ?_;refine cn hL ?_ ?_
  ·intro hc hL;refine r2 ?_;refine WC.Zal (r:=r) (fun(p:(List Yp)×(List Yp)×(List (List Za))×(List Zd)×Int×(List Int)) (s:Fs)=>match p with | (v74,v78,v82,v87,v91,v92)=>∃ (Zlr:Fr) (h65:H) (a75:Option Addr) (c76:Nat) (n77:Nat) (a79:Option Addr) (c80:Nat) (n81:Nat) (a83:Option Addr) (c84:Nat) (n85:Nat) (ZAY:Nat ->Option Addr×Nat×Nat) (a88:Option Addr) (c89:Nat) (n90:Nat) (a93:Option Addr) (c94:Nat) (n95:Nat),s= ⟨Zlr,[],h65,none⟩∧Sp wm T h [bx wm b1 [.slice none 0 0,.slice none 0 0,.int .i64 0,.slice none 0 0],bx wm b3 [.slice none 0 0,.slice none 0 0],ow wm Z9 a75 n77 c76 v74,ow wm Z9 a79 n81 c80 v78,bx wm b5 [.slice a75 n77 c76,.slice a79 n81 c80],nst wm (XB Zq) a83 n85 c84 ZAY v82,ow wm Zi a88 n90 c89 v87,ow wm (ZO .i64) a93 n95 c94 v92,bx wm b20 [.slice a83 n85 c84,.slice a88 n90 c89,.int .i64 v91,.slice a93 n95 c94]] h65∧Zlr.at 4= .pointer (some ⟨b1,0,none⟩)∧Zlr.at 5= .pointer (some ⟨b3,0,none⟩)∧Zlr.at 7= .pointer (some ⟨b5,0,none⟩)∧Zlr.at 8= .pointer (some ⟨b20,0,none⟩)∧Zlr.at 42= .slice a29 z28.length c30∧Zlr.at 43= .int .i64 (z28.length:Int)∧Zlr.at 44= .int .i64 v40) (ZbQ v40 Zck) ?_ ?_
   ·clear hL hS;rintro⟨v74,v78,v82,v87,v91,v92⟩ s hL ⟨Zlr,h65,a75,c76,n77,a79,c80,n81,a83,c84,n85,ZAY,a88,c89,n90,a93,c94,n95,rfl,hS,e67,e68,e69,e70,e71,e72,e73⟩;obtain rfl:=hS.on k2;obtain rfl:=hS.on k3;obtain rfl:=hS.Zh8 k5;obtain rfl:=hS.on k6;obtain rfl:=hS.on k7;dsimp only [ZbQ] at hL;refine r4 ?_;exact Yk.Z4 (ZxT _ _ hL ⟨_,_,a75,c76,v74.length,a79,c80,v78.length,a83,c84,v82.length,ZAY,a88,c89,v87.length,a93,c94,v92.length,rfl,hS.only (.c k0 (.c k0 (.c k0 (.c k0 (.c k0 (.c k0 (.c k0 (.c k0 (.c k0 .n))))))))),Xa⟩)
   ·skip;refine r3 ?_;obtain⟨x96,hx96,hL⟩:=bind_some hL;obtain⟨b97,o98,_,ZFu,ZF5,ZFV,ZLl⟩:=Sl.at_ ZEU hx96;refine WO.w gN rfl (Yb ZhN Zbt lk lk rfl ZFu hx96) ?_;refine WO.w gN rfl (Yo ZrL Zbt (Zk fh rfl) (At.fz hS.fz ZFV ZF5) (j:=0) rfl rfl (ws:= [.int .u8 x96.ZT,.int .u8 x96.at_,.int .u8 x96.name,.int .u8 x96.Zx]) rfl) ?_;refine r1 ?_;rintro _ ZJ7 ⟨b99,ZOq,rfl,hS⟩;refine r1 ?_;rintro ZGB hS;refine UU ?_;refine r1 ?_;obtain⟨x102,hx102,hL⟩:=bind_some hL;refine WO.cl gN rfl (Y1.fn Zz8 (Zc lk (Zc lk (Zc lk (Zc lk Zl))))) hS .n (fun g' hz hf hO=>ZvQ (by rw [hz];exact hS.hw) hx102) ?_;rintro _ ZOj _ ⟨rfl,rfl⟩ hS;refine r4 ?_;rintro _ ZJ6 ⟨ZHa,ZMa,rfl,hS⟩;refine r1 ?_;rintro ZJ5 hS;refine r8 ?_;refine r2 ?_;refine cn hL ?_ ?_
    ·intro hc hL;refine r3 ?_;exact YI.Z4 _ hL ⟨_,_,a43,c44,v42.length,a47,c48,v46.length,a51,c52,v50.length,Znc,a56,c57,v55.length,a61,c62,v60.length,rfl,hS.only (.c k2 (.c k2 (.c k2 (.c k2 (.c k2 (.c k2 (.c k2 (.c k2 (.c k2 .n))))))))),Xa⟩
    ·intro hc hL;refine r6 ?_;obtain⟨Ud,ZEP,hL⟩:=bind_some hL;refine WO.clR gN rfl (Y1.fn Zu8 (Zc lk (Zc lk Zl))) hS.hw (ZpU (Nat.le_refl _) (hS.nrd k7 Zo7) (hS.ord k8) (hS.ord k9) ZEP) ?_;rintro _ ZJ4 _ ⟨a109,n110,Zs2,Zt5,Ztm,n113,Zs1,Zjf,n116,c117,rfl,rfl⟩ ZFM;have hS:=hS.clR ZFM (.c (cvN (fun _ _ _ _=>trivial) hS.hw) (.c (cvO (fun _ _ _ _=>trivial) hS.hw) (.c (cvO (fun _ _ _ _=>trivial) hS.hw) .n)));obtain rfl:=hS.Zh8 k0;obtain rfl:=hS.on k1;obtain rfl:=hS.on k2;refine r4 ?_;rintro _ ZOb ⟨ZPV,ZL6,rfl,hS⟩;refine r1 ?_;rintro h122 hS;refine r8 ?_;refine r2 ?_;refine cn hL ?_ ?_
     ·intro hc hL;refine UU ?_;refine r2 ?_;refine WO.gv (Zg.yes rfl rfl rfl (ZV rfl (ZB rfl (Ze rfl fh)))) rfl (fun hg=>(QM (Xm (ZB rfl (Ze rfl fh)) rfl hg) (Zn0 fh hg) lk)) ?_;refine r6 ?_;refine r1 ?_;refine WO.gv (Zg.no2 rfl rfl rfl (ZV rfl (ZB rfl fh))) rfl (fun hg=>(Xu ZkD (Zj (Xm (ZB rfl fh) rfl hg) (Zj (Xm fh rfl hg) ZI)) rfl (cs':= [.int .i64 x102.1.at_,.int .i64 x102.1.name]) rfl)) ?_;obtain⟨ZDS,ZEM,hL⟩:=X7 hL;refine WO.gcp (Zg.no2 rfl rfl rfl (ZV rfl (ZB rfl (Ze rfl fh)))) rfl (fun hg=>(Y1.fn Zq1 (Zc (Xm (ZV rfl (Ze rfl fh)) rfl hg) (Zc (Xm fh rfl hg) Zl)))) (fun hg=>ZlQ (hS.ord k8) (ZEM hg)) ?_;refine WO.gv (Zg.yes rfl rfl rfl (Zp rfl (Zp rfl (Ze rfl fh)))) rfl (fun hg=>(ZkF (Xm (Zp rfl fh) rfl hg) lk (Zn0 fh hg))) ?_;refine r3 ?_;refine cn hL ?_ ?_
      ·intro hc hL;refine r1 ?_;refine WC.Yt mixed Kq0 ?_;refine r1 ?_;refine WX.wr (fun x=>x=b5) hS gN rfl (fun _ _ hR=>Yo Uu YZ (Zk (Zp rfl (Zp rfl (Zp rfl (Zp rfl (Zp rfl (Zp rfl (ZV rfl (ZB rfl (Ze rfl e36))))))))) rfl) (At.eqv (hR b5 rfl) (hS.Xc k10)) (j:=0) rfl rfl (ws:= [.slice a43 v42.length c44,.slice a47 v46.length c48]) rfl) ?_ rfl rfl;rintro ZOa e125 hS;refine WX.hu gN (Qe hS k6 YV lk lk (vs:= [.slice a51 v50.length c52,.slice a56 v55.length c57,.int .i64 v59,.slice a61 v60.length c62]) rfl rfl rfl rfl (cs':= [.slice a51 v50.length c52,.slice a56 v55.length c57,.int .i64 v59,.slice a61 v60.length c62]) rfl) ?_ rfl rfl [1] Kq0 (.c .z (hS.dj (.c k6 (.c k9 .n))) Yd.e);rintro Zx9 hS;refine WX.hu gN (Qe hS k7 YZ lk lk (vs:= [.slice a43 v42.length c44,.slice a47 v46.length c48]) rfl rfl rfl rfl (cs':= [.slice a43 v42.length c44,.slice a47 v46.length c48]) rfl) ?_ rfl Kq0 [] Kq0 Yd.e;rintro h127 hS;refine WX.w gN rfl (Zw lk) ?_ Kq0;refine r6 ?_;refine YI.ret ?_;refine r3 ?_;have hr:=Oi0 hL;subst hr;exact ZW.gen (vs:= [.agg [.slice a51 v50.length c52,.slice a56 v55.length c57,.int .i64 v59,.slice a61 v60.length c62].toArray,.agg [.slice a43 v42.length c44,.slice a47 v46.length c48].toArray,.bool false]) rfl (ZU (Zp rfl (Zp rfl (Zp rfl (Zp rfl (Zp rfl (Zp rfl (Zp rfl (Ze rfl e34)))))))) (Z8 Uv YV (hS.Xc k1) (j:=0) rfl rfl (ws:= [.slice a51 v50.length c52,.slice a56 v55.length c57,.int .i64 v59,.slice a61 v60.length c62]) rfl) (ZU (Zp rfl (Zp rfl (Zp rfl (Zp rfl (Zp rfl (Zp rfl (Zp rfl (Ze rfl e35)))))))) (Z8 Uu YZ (hS.Xc k0) (j:=0) rfl rfl (ws:= [.slice a43 v42.length c44,.slice a47 v46.length c48]) rfl) (Zy lk Zm))) rfl ⟨_,⟨a51,v50.length,c52,Znc,a56,v55.length,c57,a61,v60.length,c62,a43,v42.length,c44,a47,v46.length,c48,rfl,rfl⟩,hT ▸ hS.only (.c k11 (.c k11 (.c k11 (.c k8 (.c k8 .n)))))⟩
      ·intro hc hL;refine r4 ?_;refine r1 ?_;exact YI.Z4 _ hL ⟨_,_,a43,c44,v42.length,a47,c48,v46.length,a51,c52,v50.length,Znc,a56,c57,v55.length,a61,c62,v60.length,rfl,hS.only (.c k6 (.c k6 (.c k6 (.c k6 (.c k6 (.c k6 (.c k6 (.c k6 (.c k6 .n))))))))),Xa⟩
     ·intro hc hL;refine r16 ?_;refine r4 ?_;refine cn hL ?_ ?_
      ·intro hc hL;refine r3 ?_;exact YI.Z4 _ hL ⟨_,_,a43,c44,v42.length,a47,c48,v46.length,a51,c52,v50.length,Znc,a56,c57,v55.length,a61,c62,v60.length,rfl,hS.only (.c k6 (.c k6 (.c k6 (.c k6 (.c k6 (.c k6 (.c k6 (.c k6 (.c k6 .n))))))))),Xa⟩
      ·intro hc hL;refine r16 ?_;refine r2 ?_;refine cn hL ?_ ?_
       ·intro hc hL;refine r1 ?_;refine WC.Yt mixed Kq0 ?_;refine r1 ?_;refine WX.wr (fun x=>x=b5) hS gN rfl (fun _ _ hR=>Yo Uu YZ (Zk (Zp rfl (Zp rfl (Zp rfl (Zp rfl (Zp rfl (Zp rfl (Zp rfl e36))))))) rfl) (At.eqv (hR b5 rfl) (hS.Xc k10)) (j:=0) rfl rfl (ws:= [.slice a43 v42.length c44,.slice a47 v46.length c48]) rfl) ?_ rfl rfl;rintro h128 e129 hS;refine WX.hu gN (Qe hS k6 YV (Zk (Zp rfl (Zp rfl (Zp rfl (Zp rfl (Zp rfl (Zp rfl (Zp rfl (Ze rfl e34)))))))) rfl) lk (vs:= [.slice a51 v50.length c52,.slice a56 v55.length c57,.int .i64 v59,.slice a61 v60.length c62]) rfl rfl rfl rfl (cs':= [.slice a51 v50.length c52,.slice a56 v55.length c57,.int .i64 v59,.slice a61 v60.length c62]) rfl) ?_ rfl rfl [1] Kq0 (.c .z (hS.dj (.c k6 (.c k9 .n))) Yd.e);rintro ZN9 hS;refine WX.hu gN (Qe hS k7 YZ (Zk (Zp rfl (Zp rfl (Zp rfl (Zp rfl (Zp rfl (Zp rfl (Zp rfl (Ze rfl e35)))))))) rfl) lk (vs:= [.slice a43 v42.length c44,.slice a47 v46.length c48]) rfl rfl rfl rfl (cs':= [.slice a43 v42.length c44,.slice a47 v46.length c48]) rfl) ?_ rfl Kq0 [] Kq0 Yd.e;rintro ZJ2 hS;refine WX.w gN rfl (Zw lk) ?_ Kq0;refine r4 ?_;refine r1 ?_;refine YI.ret ?_;refine r3 ?_;have hr:=Oi0 hL;subst hr;exact ZW.gen (vs:= [.agg [.slice a51 v50.length c52,.slice a56 v55.length c57,.int .i64 v59,.slice a61 v60.length c62].toArray,.agg [.slice a43 v42.length c44,.slice a47 v46.length c48].toArray,.bool false]) rfl (ZU (Zp rfl (Zp rfl (Zp rfl (Zp rfl (Zp rfl (Zp rfl (Zp rfl (ZB rfl e34)))))))) (Z8 Uv YV (hS.Xc k1) (j:=0) rfl rfl (ws:= [.slice a51 v50.length c52,.slice a56 v55.length c57,.int .i64 v59,.slice a61 v60.length c62]) rfl) (ZU (Zp rfl (Zp rfl (Zp rfl (Zp rfl (Zp rfl (Zp rfl (Zp rfl (ZB rfl e35)))))))) (Z8 Uu YZ (hS.Xc k0) (j:=0) rfl rfl (ws:= [.slice a43 v42.length c44,.slice a47 v46.length c48]) rfl) (Zy lk Zm))) rfl ⟨_,⟨a51,v50.length,c52,Znc,a56,v55.length,c57,a61,v60.length,c62,a43,v42.length,c44,a47,v46.length,c48,rfl,rfl⟩,hT ▸ hS.only (.c k11 (.c k11 (.c k11 (.c k8 (.c k8 .n)))))⟩
       ·intro hc hL;refine r6 ?_;refine r1 ?_;obtain⟨Xx,ZqV,hL⟩:=bind_some hL;refine WO.Zye hS k11 ?_;rintro ZJ1 ⟨ZLg,hS⟩;refine WO.fzn hS k12 ?_;rintro ZJ0 ⟨ZLf,hS⟩;refine WO.fzn hS k13 ?_;rintro ZGA ⟨ZLe,hS⟩;refine WO.cl gN rfl (Y1.fn Zu7 (Zc lk (Zc lk (Zc lk Zl)))) hS (.c k11 (.c k11 .n)) (fun g' hz hf hO=>ZpT (by rw [hz];exact hS.hw) ((hS.fsl k2).mono hf) ((hS.fsl k1).mono hf) ((hS.fsl k0).mono hf) hO ZqV) ?_;rintro _ ZJV _ ⟨a139,n140,c141,Zqq,n143,Zqa,rfl,rfl⟩ hS;simp only [List.cons_append,List.nil_append] at hS;obtain rfl:=hS.on k0;obtain rfl:=hS.on k1;refine r1 ?_;rintro ZJU hS;refine r6 ?_;rintro ZN5 hS;refine r6 ?_;obtain⟨Ky,Zkc,hL⟩:=bind_some hL;refine WO.cp gN rfl (Y1.fn Zu5 (Zc lk (Zc lk Zl))) (WR.QO rfl (ZpP (Nat.le_refl _) (hS.ord k2) (hS.ord k3) (hS.nrd k8 Zo7) (hS.ord k9) (hS.ord k10) Zkc)) ?_;refine r3 ?_;refine cn hL ?_ ?_
        ·intro hc hL;refine r1 ?_;refine WC.Yt mixed Kq0 ?_;refine r1 ?_;refine WX.wr (fun x=>x=b5) hS gN rfl (fun _ _ hR=>Yo Uu YZ (Zk (Zp rfl (Zp rfl (Zp rfl (Zp rfl (Zp rfl (Zp rfl (Zp rfl (Zp rfl (Ze rfl e36))))))))) rfl) (At.eqv (hR b5 rfl) (hS.Xc k1)) (j:=0) rfl rfl (ws:= [.slice a139 Xx.uses.length c141,.slice Zqq Xx.ways.length Zqa]) rfl) ?_ rfl rfl;rintro ZN4 ZGV hS;refine WX.hu gN (Qe hS k13 YV (Zk (Zp rfl (Zp rfl (Zp rfl (Zp rfl (Zp rfl (Zp rfl (Zp rfl (Zp rfl (ZB rfl e34))))))))) rfl) lk (vs:= [.slice a109 Ud.1.cells.length Zs2,.slice Ztm Ud.1.notes.length Zs1,.int .i64 Ud.1.names,.slice Zjf Ud.1.freed.length c117]) rfl rfl rfl rfl (cs':= [.slice a109 Ud.1.cells.length Zs2,.slice Ztm Ud.1.notes.length Zs1,.int .i64 Ud.1.names,.slice Zjf Ud.1.freed.length c117]) rfl) ?_ rfl rfl [1] Kq0 (.c .z (hS.dj (.c k13 (.c k1 .n))) Yd.e);rintro ZN3 hS;refine WX.hu gN (Qe hS k14 YZ (Zk (Zp rfl (Zp rfl (Zp rfl (Zp rfl (Zp rfl (Zp rfl (Zp rfl (Zp rfl (ZB rfl e35))))))))) rfl) lk (vs:= [.slice a139 Xx.uses.length c141,.slice Zqq Xx.ways.length Zqa]) rfl rfl rfl rfl (cs':= [.slice a139 Xx.uses.length c141,.slice Zqq Xx.ways.length Zqa]) rfl) ?_ rfl Kq0 [] Kq0 Yd.e;rintro ZGz hS;refine WX.w gN rfl (Zw lk) ?_ Kq0;refine r4 ?_;refine YI.ret ?_;refine r3 ?_;have hr:=Oi0 hL;subst hr;exact ZW.gen (vs:= [.agg [.slice a109 Ud.1.cells.length Zs2,.slice Ztm Ud.1.notes.length Zs1,.int .i64 Ud.1.names,.slice Zjf Ud.1.freed.length c117].toArray,.agg [.slice a139 Xx.uses.length c141,.slice Zqq Xx.ways.length Zqa].toArray,.bool false]) rfl (ZU (Zp rfl (Zp rfl (Zp rfl (Zp rfl (Zp rfl (Zp rfl (Zp rfl (Zp rfl (ZB rfl (Ze rfl e34)))))))))) (Z8 Uv YV (hS.Xc k1) (j:=0) rfl rfl (ws:= [.slice a109 Ud.1.cells.length Zs2,.slice Ztm Ud.1.notes.length Zs1,.int .i64 Ud.1.names,.slice Zjf Ud.1.freed.length c117]) rfl) (ZU (Zp rfl (Zp rfl (Zp rfl (Zp rfl (Zp rfl (Zp rfl (Zp rfl (Zp rfl (ZB rfl (Ze rfl e35)))))))))) (Z8 Uu YZ (hS.Xc k0) (j:=0) rfl rfl (ws:= [.slice a139 Xx.uses.length c141,.slice Zqq Xx.ways.length Zqa]) rfl) (Zy lk Zm))) rfl ⟨_,⟨a109,Ud.1.cells.length,Zs2,Zt5,Ztm,Ud.1.notes.length,Zs1,Zjf,Ud.1.freed.length,c117,a139,Xx.uses.length,c141,Zqq,Xx.ways.length,Zqa,rfl,rfl⟩,hT ▸ hS.only (.c k10 (.c k10 (.c k10 (.c k4 (.c k4 .n)))))⟩
        ·intro hc hL;refine r2 ?_;exact YI.Z4 _ hL ⟨_,_,a139,c141,Xx.uses.length,Zqq,Zqa,Xx.ways.length,a109,Zs2,Ud.1.cells.length,Zt5,Ztm,Zs1,Ud.1.notes.length,Zjf,c117,Ud.1.freed.length,rfl,hS.only (.c k13 (.c k13 (.c k2 (.c k2 (.c k1 (.c k5 (.c k5 (.c k5 (.c k0 .n))))))))),Xa⟩
  ·intro hc hL;refine r6 ?_;refine WC.Yt mixed Kq0 ?_;refine r1 ?_;refine WX.wr (fun x=>x=b5) hS gN rfl (fun _ _ hR=>Yo Uu YZ (Zk (ZB rfl e36) rfl) (At.eqv (hR b5 rfl) (hS.Xc k4)) (j:=0) rfl rfl (ws:= [.slice a43 v42.length c44,.slice a47 v46.length c48]) rfl) ?_ rfl rfl;rintro ZJT ZGU hS;refine WX.hu gN (Qe hS k0 YV lk lk (vs:= [.slice a51 v50.length c52,.slice a56 v55.length c57,.int .i64 v59,.slice a61 v60.length c62]) rfl rfl rfl rfl (cs':= [.slice a51 v50.length c52,.slice a56 v55.length c57,.int .i64 v59,.slice a61 v60.length c62]) rfl) ?_ rfl rfl [1] Kq0 (.c .z (hS.dj (.c k0 (.c k3 .n))) Yd.e);rintro ZN1 hS;refine WX.hu gN (Qe hS k1 YZ lk lk (vs:= [.slice a43 v42.length c44,.slice a47 v46.length c48]) rfl rfl rfl rfl (cs':= [.slice a43 v42.length c44,.slice a47 v46.length c48]) rfl) ?_ rfl Kq0 [] Kq0 Yd.e;rintro ZN0 hS;refine WX.w gN rfl (Zw lk) ?_ Kq0;refine r3 ?_;have hr:=Oi0 hL;subst hr;exact ZW.gen (vs:= [.agg [.slice a51 v50.length c52,.slice a56 v55.length c57,.int .i64 v59,.slice a61 v60.length c62].toArray,.agg [.slice a43 v42.length c44,.slice a47 v46.length c48].toArray,.bool true]) rfl (ZU (ZV rfl e34) (Z8 Uv YV (hS.Xc k1) (j:=0) rfl rfl (ws:= [.slice a51 v50.length c52,.slice a56 v55.length c57,.int .i64 v59,.slice a61 v60.length c62]) rfl) (ZU (ZV rfl e35) (Z8 Uu YZ (hS.Xc k0) (j:=0) rfl rfl (ws:= [.slice a43 v42.length c44,.slice a47 v46.length c48]) rfl) (Zy lk Zm))) rfl ⟨_,⟨a51,v50.length,c52,Znc,a56,v55.length,c57,a61,v60.length,c62,a43,v42.length,c44,a47,v46.length,c48,rfl,rfl⟩,hT ▸ hS.only (.c k5 (.c k5 (.c k5 (.c k2 (.c k2 .n)))))⟩
theorem ZvR {F wm:Nat} {h:H} {p0:Zb} {p1:Model} {p2:(List Int)} {Zv:Option Addr} {Zu:Nat} {Zt:Option Addr} {Zr:Nat} {ZH:Option Addr} {ZG:Nat} {Yz:Option Addr} {Yy Zt8:Nat} {Qn:Option Addr} {Qm Zt7:Nat} {Zdz:Option Addr} {Zdy:Nat} {r:(Zb×Model×Bool)} (ZK:wm <=h.size) (ZM:Sl (Ql Zq) wm h Zv Zu p0.cells) (YA:Sl Zi wm h Zt Zr p0.notes) (YC:Sl (ZO .i64) wm h ZH ZG p0.freed) (ZfH:Sl (ZO .u8) wm h Zdz Zdy p2) (hO:Z0 (wm:=wm) [ow wm Z9 Yz Zt8 Yy p1.uses,ow wm Z9 Qn Zt7 Qm p1.ways] h) (hL:ZvS F p0 p1 p2=some r):
 WR XX 39 #[.agg [.slice Zv p0.cells.length Zu,.slice Zt p0.notes.length Zr,.int .i64 p0.names,.slice ZH p0.freed.length ZG].toArray,.agg [.slice Yz Zt8 Yy,.slice Qn Zt7 Qm].toArray,.slice Zdz p2.length Zdy] wm h (CP (fun(v:Value) (Gb:List (Ast wm))=>∃ (XI:Option Addr) (XH:Nat) (Q6:Option Addr) (Q5:Nat) (JQ:Option Addr) (JN:Nat) (Zna:Option Addr) (Zm3:Nat) (Zm7:Nat) (Zm9:Option Addr) (Zm2:Nat) (Zm6:Nat),v= .tuple [.agg [.slice XI r.1.cells.length XH,.slice Q6 r.1.notes.length Q5,.int .i64 r.1.names,.slice JQ r.1.freed.length JN].toArray,.agg [.slice Zna Zm3 Zm7,.slice Zm9 Zm2 Zm6].toArray,.bool r.2.2].toArray∧Gb= [UH wm (Ql (Ql Zq)) (XI,XH) r.1.cells,UH wm (Ql Zi) (Q6,Q5) r.1.notes,UH wm (Ql (ZO .i64)) (JQ,JN) r.1.freed,ow wm Z9 Zna Zm3 Zm7 r.2.1.uses,ow wm Z9 Zm9 Zm2 Zm6 r.2.1.ways]) [ow wm Z9 Yz Zt8 Yy p1.uses,ow wm Z9 Qn Zt7 Qm p1.ways] h):=by
 refine bg Try.ntmps39 ZK hO ?_;intro T hT hS;unfold ZvS at hL;obtain rfl:=hS.on k0;obtain rfl:=hS.on k1;refine r3 ?_;rintro _ h2 ⟨b1,eb1,rfl,hS⟩;refine r1 ?_;rintro _ h4 ⟨b3,eb3,rfl,hS⟩;refine r1 ?_;rintro _ h6 ⟨b5,eb5,rfl,hS⟩;refine r1 ?_;rintro _ h8 ⟨b7,eb7,rfl,hS⟩;refine r8 ?_;refine r2 ?_;have hS:=hS.add (A:=UH wm (Ql (Ql Zq)) (Zv,Zu) p0.cells) (hS.sl ZM) (fun _ z=>z);have hS:=hS.add (A:=UH wm (Ql Zi) (Zt,Zr) p0.notes) (hS.sl YA) (fun _ z=>z);have hS:=hS.add (A:=UH wm (Ql (ZO .i64)) (ZH,ZG) p0.freed) (hS.sl YC) (fun _ z=>z);refine WC.loop (WL.lift hL (fun(p:Int×(List (List Za))×(List Zd)×Int×(List Int)×(List Yp)×(List Yp)) (s:Fs)=>match p with | (v16,v18,v21,v24,v25,v28,v32)=>∃ (ZnJ:Fr) (h9:H) (a19:Option Addr) (c20:Nat) (a22:Option Addr) (c23:Nat) (a26:Option Addr) (c27:Nat) (a29:Option Addr) (c30:Nat) (n31:Nat) (a33:Option Addr) (c34:Nat) (n35:Nat),s= ⟨ZnJ,[],h9,none⟩∧Sp wm T h [UH wm (Ql (Ql Zq)) (a19,c20) v18,UH wm (Ql Zi) (a22,c23) v21,UH wm (Ql (ZO .i64)) (a26,c27) v25,bx wm b1 [.slice a19 v18.length c20,.slice a22 v21.length c23,.int .i64 v24,.slice a26 v25.length c27],ow wm Z9 a29 n31 c30 v28,ow wm Z9 a33 n35 c34 v32,bx wm b3 [.slice a29 n31 c30,.slice a33 n35 c34],bx wm b5 [.slice none 0 0,.slice none 0 0,.int .i64 0,.slice none 0 0],bx wm b7 [.slice none 0 0,.slice none 0 0]] h9∧ZnJ.at 2= .slice Zdz p2.length Zdy∧ZnJ.at 3= .pointer (some ⟨b1,0,none⟩)∧ZnJ.at 4= .pointer (some ⟨b3,0,none⟩)∧ZnJ.at 6= .pointer (some ⟨b5,0,none⟩)∧ZnJ.at 7= .pointer (some ⟨b7,0,none⟩)∧ZnJ.at 9= .int .i64 v16) ⟨_,_,Zv,Zu,Zt,Zr,ZH,ZG,Yz,Yy,p1.uses.length,Qn,Qm,p1.ways.length,rfl,hS.only (.c k2 (.c k1 (.c k0 (.c k3 (.c k3 (.c k3 (.c k2 (.c k1 (.c k0 .n))))))))),Xa⟩ ?_);clear hL hS;rintro Zfw ⟨v16,v18,v21,v24,v25,v28,v32⟩ s ZxY hL ⟨ZnJ,h9,a19,c20,a22,c23,a26,c27,a29,c30,n31,a33,c34,n35,rfl,hS,e11,e12,e13,e14,e15,e17⟩;obtain rfl:=hS.on k4;obtain rfl:=hS.on k5;dsimp only [Zea] at hL;refine r8 ?_;refine r1 ?_;refine cn hL ?_ ?_
 ·intro hc hL;refine r8 ?_;refine r1 ?_;refine WC.Zal (r:=r) (fun(v45:Int) (s:Fs)=>∃ (Zlt:Fr) (h37:H),s= ⟨Zlt,[],h37,none⟩∧Sp wm T h [bx wm b1 [.slice a19 v18.length c20,.slice a22 v21.length c23,.int .i64 v24,.slice a26 v25.length c27],bx wm b3 [.slice a29 v28.length c30,.slice a33 v32.length c34],bx wm b5 [.slice none 0 0,.slice none 0 0,.int .i64 0,.slice none 0 0],bx wm b7 [.slice none 0 0,.slice none 0 0],UH wm (Ql (Ql Zq)) (a19,c20) v18,UH wm (Ql Zi) (a22,c23) v21,UH wm (Ql (ZO .i64)) (a26,c27) v25,ow wm Z9 a29 v28.length c30 v28,ow wm Z9 a33 v32.length c34 v32] h37∧Zlt.at 2= .slice Zdz p2.length Zdy∧Zlt.at 3= .pointer (some ⟨b1,0,none⟩)∧Zlt.at 4= .pointer (some ⟨b3,0,none⟩)∧Zlt.at 6= .pointer (some ⟨b5,0,none⟩)∧Zlt.at 7= .pointer (some ⟨b7,0,none⟩)∧Zlt.at 9= .int .i64 v16∧Zlt.at 10= .int .i64 v45) (Zf3 F v16 v18 v21 v24 v25 v28 v32 Zfw) ?_ ?_
  ·clear hL hS;rintro v45 s hL ⟨Zlt,h37,rfl,hS,e39,e40,e41,e42,e43,e44,e46⟩;dsimp only [Zf3] at hL;refine r3 ?_;refine WO.w gN rfl (Xu Zi1 (Zj lk (Zj lk ZI)) rfl (cs':= [.int .i64 5,.int .i64 v45,.int .i64 0,.int .i64 0]) rfl) ?_;refine r1 ?_;rintro _ h48 ⟨b47,ZOI,rfl,hS⟩;refine r1 ?_;rintro h49 hS;refine r6 ?_;obtain⟨x50,ZBe,hL⟩:=bind_some hL;refine WO.cl gN rfl (Y1.fn Zu8 (Zc lk (Zc lk Zl))) hS .n (fun g' hz hf hO=>ZpU (by rw [hz];exact hS.hw) ((hS.fsl k5).mono hf) ((hS.fsl k6).mono hf) ((hS.fsl k7).mono hf) ZBe) ?_;rintro _ h60 _ ⟨a51,n52,c53,ZKY,a54,n55,c56,a57,n58,c59,rfl,rfl⟩ hS;obtain rfl:=hS.Zh8 k0;obtain rfl:=hS.on k1;obtain rfl:=hS.on k2;refine WO.Zye hS k0 ?_;rintro h62 ⟨hn63,hS⟩;refine WO.fzn hS k1 ?_;rintro h64 ⟨ZNb,hS⟩;refine WO.fzn hS k2 ?_;rintro h66 ⟨ZNa,hS⟩;refine r4 ?_;rintro _ h69 ⟨b68,ZOC,rfl,hS⟩;refine r1 ?_;rintro h70 hS;refine r16 ?_;refine r6 ?_;refine r1 ?_;refine cn hL ?_ ?_
   ·intro hc hL;refine r1 ?_;refine WC.Yt mixed Kq0 ?_;refine r1 ?_;refine WX.wr (fun x=>x=b3) hS gN rfl (fun _ _ hR=>Yo Uu YZ (Zk (Zp rfl (Zp rfl (Zp rfl (ZB rfl (Ze rfl e41))))) rfl) (At.eqv (hR b3 rfl) (hS.Xc k6)) (j:=0) rfl rfl (ws:= [.slice a29 v28.length c30,.slice a33 v32.length c34]) rfl) ?_ rfl rfl;rintro h71 e72 hS;refine WX.hu gN (Qe hS k7 YV lk lk (vs:= [.slice a19 v18.length c20,.slice a22 v21.length c23,.int .i64 v24,.slice a26 v25.length c27]) rfl rfl rfl rfl (cs':= [.slice a19 v18.length c20,.slice a22 v21.length c23,.int .i64 v24,.slice a26 v25.length c27]) rfl) ?_ rfl rfl [1] Kq0 (.c .z (hS.dj (.c k7 (.c k6 .n))) Yd.e);rintro h73 hS;refine WX.hu gN (Qe hS k8 YZ lk lk (vs:= [.slice a29 v28.length c30,.slice a33 v32.length c34]) rfl rfl rfl rfl (cs':= [.slice a29 v28.length c30,.slice a33 v32.length c34]) rfl) ?_ rfl Kq0 [] Kq0 Yd.e;rintro h74 hS;refine WX.w gN rfl (Zw lk) ?_ Kq0;refine r8 ?_;refine r1 ?_;have hr:=Oi0 hL;subst hr;exact ZW.gen (vs:= [.agg [.slice a19 v18.length c20,.slice a22 v21.length c23,.int .i64 v24,.slice a26 v25.length c27].toArray,.agg [.slice a29 v28.length c30,.slice a33 v32.length c34].toArray,.bool false]) rfl (ZU (Zp rfl (Zp rfl (Zp rfl (ZV rfl (Ze rfl e42))))) (Z8 Uv YV (hS.Xc k1) (j:=0) rfl rfl (ws:= [.slice a19 v18.length c20,.slice a22 v21.length c23,.int .i64 v24,.slice a26 v25.length c27]) rfl) (ZU (Zp rfl (Zp rfl (Zp rfl (ZV rfl (Ze rfl e43))))) (Z8 Uu YZ (hS.Xc k0) (j:=0) rfl rfl (ws:= [.slice a29 v28.length c30,.slice a33 v32.length c34]) rfl) (Zy lk Zm))) rfl ⟨_,⟨a19,c20,a22,c23,a26,c27,a29,v28.length,c30,a33,v32.length,c34,rfl,rfl⟩,hT ▸ hS.only (.c k9 (.c k9 (.c k9 (.c k9 (.c k9 .n)))))⟩
   ·intro hc hL;refine r6 ?_;refine r1 ?_;obtain⟨x75,ZuH,hL⟩:=bind_some hL;refine WO.cl gN rfl (Y1.fn Zu7 (Zc lk (Zc lk (Zc lk Zl)))) hS (.c k12 (.c k12 .n)) (fun g' hz hf hO=>ZpT (by rw [hz];exact hS.hw) ((hS.fsl k9).mono hf) ((hS.fsl k10).mono hf) ((hS.fsl k11).mono hf) hO ZuH) ?_;rintro _ h82 _ ⟨a76,n77,c78,a79,n80,c81,rfl,rfl⟩ hS;obtain rfl:=hS.on k0;obtain rfl:=hS.on k1;refine r1 ?_;rintro h84 hS;refine r4 ?_;refine r1 ?_;rintro h85 hS;refine r8 ?_;exact Yk.Z4 (ZxY _ _ hL ⟨_,_,a51,c53,a54,c56,a57,c59,a76,c78,x75.uses.length,a79,c81,x75.ways.length,rfl,hS.only (.c k7 (.c k6 (.c k5 (.c k0 (.c k1 (.c k1 (.c k0 (.c k2 (.c k2 .n))))))))),Xa⟩)
  ·skip;refine r6 ?_;refine r1 ?_;refine cn hL ?_ ?_
   ·intro hc hL;refine WC.Yt mixed Kq0 ?_;refine r4 ?_;obtain⟨x86,ZIH,hL⟩:=bind_some hL;refine WX.w gN rfl (ZR (Zk (ZB rfl fh) rfl) (Zk fh rfl) (QA ZIH)) ?_ rfl;obtain⟨x87,ZEr,hL⟩:=bind_some hL;obtain⟨b88,o89,_,ZFw,ZF7,ZFX,ZLn⟩:=Sl.at_ ZfH ZEr;refine WX.w gN rfl (Yb Zzw ZtN lk lk rfl ZFw ZEr) ?_ rfl;refine WX.w gN rfl (ZL ZDd (Zk fh rfl) (At.fz hS.fz ZFX ZF7) (j:=0) rfl (v:= .int .u8 x87) rfl) ?_ rfl;refine WX.w gN rfl (ZcO ZoR ZmO lk) ?_ rfl;refine r3 ?_;obtain⟨x90,hx90,hL⟩:=bind_some hL;refine WX.w gN rfl (ZR (Zk (ZB rfl (Ze rfl fh)) rfl) (Zk fh rfl) (QA hx90)) ?_ rfl;refine r2 ?_;exact YI.Z4 _ hL ⟨_,_,rfl,hS.only (.c k3 (.c k5 (.c k5 (.c k5 (.c k0 (.c k0 (.c k0 (.c k0 (.c k0 .n))))))))),Xa⟩
   ·intro hc hL;refine r1 ?_;exact YI.Z4 _ hL ⟨_,_,rfl,hS.only (.c k3 (.c k5 (.c k5 (.c k5 (.c k0 (.c k0 (.c k0 (.c k0 (.c k0 .n))))))))),Xa⟩
 ·intro hc hL;refine r6 ?_;refine WC.Yt mixed Kq0 ?_;refine r1 ?_;refine WX.wr (fun x=>x=b3) hS gN rfl (fun _ _ hR=>Yo Uu YZ (Zk (ZV rfl (Ze rfl e13)) rfl) (At.eqv (hR b3 rfl) (hS.Xc k6)) (j:=0) rfl rfl (ws:= [.slice a29 v28.length c30,.slice a33 v32.length c34]) rfl) ?_ rfl rfl;rintro h91 e92 hS;refine r2 ?_;obtain⟨x93,hx93,hL⟩:=bind_some hL;refine WX.cp gN rfl (Y1.fn Zu5 (Zc lk (Zc lk Zl))) (WR.QO rfl (ZpP (Nat.le_refl _) (hS.ord k4) (hS.ord k5) (hS.ZnG k0) (hS.ZnG k1) (hS.ZnG k2) hx93)) ?_ rfl rfl;refine WX.hu gN (Qe hS k7 YV lk lk (vs:= [.slice a19 v18.length c20,.slice a22 v21.length c23,.int .i64 v24,.slice a26 v25.length c27]) rfl rfl rfl rfl (cs':= [.slice a19 v18.length c20,.slice a22 v21.length c23,.int .i64 v24,.slice a26 v25.length c27]) rfl) ?_ rfl rfl [1] Kq0 (.c .z (hS.dj (.c k7 (.c k6 .n))) Yd.e);rintro h94 hS;refine WX.hu gN (Qe hS k8 YZ lk lk (vs:= [.slice a29 v28.length c30,.slice a33 v32.length c34]) rfl rfl rfl rfl (cs':= [.slice a29 v28.length c30,.slice a33 v32.length c34]) rfl) ?_ rfl Kq0 [] Kq0 Yd.e;rintro h95 hS;refine WX.w gN rfl (Zw lk) ?_ Kq0;refine r3 ?_;have hr:=Oi0 hL;subst hr;exact ZW.gen (vs:= [.agg [.slice a19 v18.length c20,.slice a22 v21.length c23,.int .i64 v24,.slice a26 v25.length c27].toArray,.agg [.slice a29 v28.length c30,.slice a33 v32.length c34].toArray,.bool x93]) rfl (ZU (Zp rfl (ZB rfl e14)) (Z8 Uv YV (hS.Xc k1) (j:=0) rfl rfl (ws:= [.slice a19 v18.length c20,.slice a22 v21.length c23,.int .i64 v24,.slice a26 v25.length c27]) rfl) (ZU (Zp rfl (ZB rfl e15)) (Z8 Uu YZ (hS.Xc k0) (j:=0) rfl rfl (ws:= [.slice a29 v28.length c30,.slice a33 v32.length c34]) rfl) (Zy lk Zm))) rfl ⟨_,⟨a19,c20,a22,c23,a26,c27,a29,v28.length,c30,a33,v32.length,c34,rfl,rfl⟩,hT ▸ hS.only (.c k2 (.c k2 (.c k2 (.c k3 (.c k3 .n)))))⟩
end Go.Proofs.Ytekpjgmhkkjhgaa
end
end
section
namespace Go.Proofs.Ytekpjgmhkkjhgaa
open Go.Lf
def ZcE (v83:Int) (Xg:(Int×(List (List Za))×(List Zd)×Int×(List Int)×(List Yp)×(List Yp) ->Option Bool)):(List (List Za))×(List Zd)×Int×(List Int)×(List Yp)×(List Yp) ->Option Bool:=fun(ZtC,v117,Zxd,ZtB,v124,ZtA)=>
 Xg (ZP (v83 + 1),ZtC,v117,Zxd,ZtB,v124,ZtA)
def Zed (F:Nat) (v83:Int) (v85:(List (List Za))) (v88:(List Zd)) (v91:Int) (v92:(List Int)) (Kn:(List Yp)) (v99:(List Yp)) (Xg:(Int×(List (List Za))×(List Zd)×Int×(List Int)×(List Yp)×(List Yp) ->Option Bool)) (YN:(Zo×Bool)):Int×Int ->Option Bool:=fun(v157,ZoP)=>
 (ZiM F (Zb.mk v85 v88 v91 v92) (Zo.mk YN.1.ZT v157 YN.1.name ZoP)).bind fun x159=>(bif((x159.2 !=0) || ((x159.1.cells.length:Int) != (v85.length:Int))) then some false else(Zhc F (Model.mk Kn v99) (Zb.mk v85 v88 v91 v92) (Zo.mk YN.1.ZT v157 YN.1.name ZoP)).bind fun Zg2=>(ZpQ F Zg2 x159.1).bind fun ZDP=>(bif(!ZDP) then some false else(ZcE v83 Xg) (x159.1.cells,x159.1.notes,x159.1.names,x159.1.freed,Zg2.uses,Zg2.ways)))
def Zec (F:Nat) (v83:Int) (v85:(List (List Za))) (v88:(List Zd)) (v91:Int) (v92:(List Int)) (Kn:(List Yp)) (v99:(List Yp)) (Xg:(Int×(List (List Za))×(List Zd)×Int×(List Int)×(List Yp)×(List Yp) ->Option Bool)) (YN:(Zo×Bool)):Int ->Option Bool:=fun v194=>
 (bif((decide (v194 < 0)) || ((v88.length:Int)==80)) then(ZcE v83 Xg) (v85,v88,v91,v92,Kn,v99) else(bif(YN.1.Zx==v194) then(Zam (ZP (v194 + 1)) (v85.length:Int)).bind fun Zw7=>(Zed F v83 v85 v88 v91 v92 Kn v99 Xg YN) (v194,Zw7) else(Zed F v83 v85 v88 v91 v92 Kn v99 Xg YN) (v194,YN.1.Zx)))
def K9 (F:Nat) (v83:Int) (v85:(List (List Za))) (v88:(List Zd)) (v91:Int) (v92:(List Int)) (Kn:(List Yp)) (v99:(List Yp)) (Xg:(Int×(List (List Za))×(List Zd)×Int×(List Int)×(List Yp)×(List Yp) ->Option Bool)) (YN:(Zo×Bool)) (v203:Int) (Zax:(Int ->Option Bool)):Int ->Option Bool:=fun Zxb=>
 (bif decide (Zxb >=0) then(Zec F v83 v85 v88 v91 v92 Kn v99 Xg YN) v203 else Zax (ZP (v203 + 1)))
def Zf4 (F:Nat) (v83:Int) (v85:(List (List Za))) (v88:(List Zd)) (v91:Int) (v92:(List Int)) (Kn:(List Yp)) (v99:(List Yp)) (Xg:(Int×(List (List Za))×(List Zd)×Int×(List Int)×(List Yp)×(List Yp) ->Option Bool)) (YN:(Zo×Bool)) (v203:Int) (Zax:(Int ->Option Bool)) (ZhK:(List Za)):Int ->(Int ->Option Bool) ->Option Bool:=fun ZoO ZqK=>
 (bif decide (ZoO < (ZhK.length:Int)) then(Ym ZhK ZoO).bind fun Zb5=>(bif((Zb5.name==YN.1.name) && Zb5.root) then(K9 F v83 v85 v88 v91 v92 Kn v99 Xg YN v203 Zax) ZoO else ZqK (ZP (ZoO + 1))) else(K9 F v83 v85 v88 v91 v92 Kn v99 Xg YN v203 Zax) (-1))
def Zf5 (F:Nat) (v83:Int) (v85:(List (List Za))) (v88:(List Zd)) (v91:Int) (v92:(List Int)) (Kn:(List Yp)) (v99:(List Yp)) (Xg:(Int×(List (List Za))×(List Zd)×Int×(List Int)×(List Yp)×(List Yp) ->Option Bool)) (YN:(Zo×Bool)):Int ->(Int ->Option Bool) ->Option Bool:=fun v203 Zax=>
 (bif decide (v203 < (v85.length:Int)) then(Ym v85 v203).bind fun ZhK=>loop F (Zf4 F v83 v85 v88 v91 v92 Kn v99 Xg YN v203 Zax ZhK) 0 else(Zec F v83 v85 v88 v91 v92 Kn v99 Xg YN) (-1))
def ZlX (F:Nat) (x40:(Zb×Model×Bool)) (JB:(Zb×Model×Bool)):Int ->(Int ->Option Bool) ->Option Bool:=fun ZrW ZqJ=>
 (bif decide (ZrW < (x40.2.1.uses.length:Int)) then(Ym x40.2.1.uses ZrW).bind fun Zjn=>(ZjD F JB.2.1.uses Zjn).bind fun ZDM=>(bif(!ZDM) then some false else ZqJ (ZP (ZrW + 1))) else(ZCM).bind fun ZDL=>some ZDL)
def Zf6 (F:Nat) (p3:(List Int)) (x40:(Zb×Model×Bool)) (z70:(List Uz)):Int×(List (List Za))×(List Zd)×Int×(List Int)×(List Yp)×(List Yp) ->(Int×(List (List Za))×(List Zd)×Int×(List Int)×(List Yp)×(List Yp) ->Option Bool) ->Option Bool:=fun(v83,v85,v88,v91,v92,Kn,v99) Xg=>
 (bif decide (v83 < (z70.length:Int)) then(Ym z70 v83).bind fun Xx=>(Zam Xx.ZT 2).bind fun ZkQ=>(ZnQ (Uz.mk (IntKind.wrap .u8 (4 + ZkQ)) Xx.at_ Xx.name Xx.Zx) (v85.length:Int) v91 (v88.length:Int)).bind fun YN=>(bif(!YN.2) then(ZcE v83 Xg) (v85,v88,v91,v92,Kn,v99) else(bif(YN.1.ZT==4) then loop F (Zf5 F v83 v85 v88 v91 v92 Kn v99 Xg YN) 0 else(Zed F v83 v85 v88 v91 v92 Kn v99 Xg YN) (YN.1.at_,YN.1.Zx))) else(ZvS F (Zb.mk v85 v88 v91 v92) (Model.mk Kn v99) p3).bind fun JB=>(gd (!(!JB.2.2)) (ZsK F x40.1.freed JB.1.freed) default).bind fun ZDO=>(bif(((!JB.2.2) || (!ZDO)) || ((x40.2.1.uses.length:Int) != (JB.2.1.uses.length:Int))) then some false else loop F (ZlX F x40 JB) 0))
def ZsL (F:Nat) (p0:Int) (p1:(List Uz)) (p2:(List Uz)) (p3:(List Int)):Option Bool:=
 (ZsJ F p0 p1).bind fun x1=>(bif(!x1.2.2) then some false else(ZpS x1.2.1.uses).bind fun x25=>(ZpS x1.2.1.ways).bind fun x31=>(ZvS F x1.1 x1.2.1 p3).bind fun x40=>(bif(!x40.2.2) then some false else(slL p2 0 (if 60 < (p2.length:Int) then 60 else(p2.length:Int))).bind fun z70=>loop F (Zf6 F p3 x40 z70) (0,x1.1.cells,x1.1.notes,x1.1.names,x1.1.freed,x25,x31)))
end Go.Proofs.Ytekpjgmhkkjhgaa
end
section
set_option maxRecDepth 20000
noncomputable section
namespace Go.Proofs.Ytekpjgmhkkjhgaa
open Go.YD Go.Lf
theorem ZCN {F wm:Nat} {h:H} {p0:Int} {p1 p2:(List Uz)} {p3:(List Int)} {Yz:Option Addr} {Yy:Nat} {Zdz:Option Addr} {Zdy:Nat} {ZgD:Option Addr} {ZgC:Nat} {r:Bool} (ZK:wm <=h.size) (Jd:Sl Zo3 wm h Yz Yy p1) (ZfH:Sl Zo3 wm h Zdz Zdy p2) (Zlg:Sl (ZO .u8) wm h ZgD ZgC p3) (hL:ZsL F p0 p1 p2 p3=some r):
 WR XX 10 #[.int .u8 p0,.slice Yz p1.length Yy,.slice Zdz p2.length Zdy,.slice ZgD p3.length ZgC] wm h (CP (fun(v:Value) (Gb:List (Ast wm))=>v= .bool r∧Gb= []) [] h):=by
 refine WF.begin (args:= [_,_,_,_]) (fn:=Try.f10) Kq0 (by exact rfl) Try.ntmps10 (by simp) ?_;simp only [ZC,ZJ,Nat.reduceAdd];obtain⟨T,hT,hS⟩:∃ T,T=XO (wm:=wm) []∧Sp wm T h [] h:= ⟨_,rfl,Sp.start ZK Z0.nil⟩
 unfold ZsL at hL;refine WC.seq ?_;refine WC.region ?_;refine WO.w gN rfl (Zw (XG rfl)) ?_;refine WO.nil ?_;refine ZX.Z4 ?_;refine WC.seq ?_;refine WC.region ?_;refine WO.w gN rfl (Zz (Zk (ZV rfl fh) rfl)) ?_;refine WO.w gN rfl (Zz (Zk (ZV rfl fh) rfl)) ?_;obtain⟨x1,hx1,hL⟩:=bind_some hL;refine WO.cl gN rfl (Y1.fn ZFp (Zc (Zk (Ze rfl fh) rfl) (Zc (Zk fh rfl) Zl))) hS .n (fun g' hz hf hO=>ZCH (by rw [hz];exact hS.hw) ((hS.sl Jd).mono hf) hx1) ?_;rintro _ h17 _ ⟨a2,n3,c4,ZIj,a5,n6,c7,a8,n9,c10,a11,n12,c13,a14,n15,c16,rfl,rfl⟩ hS;obtain rfl:=hS.Zh8 k0;obtain rfl:=hS.on k1;obtain rfl:=hS.on k2;obtain rfl:=hS.on k3;obtain rfl:=hS.on k4;refine WO.w gN rfl (Zz (Zk fh rfl)) ?_;refine WO.w gN rfl (YF (Zk fh rfl) (v:= .agg [.slice a2 x1.1.cells.length c4,.slice a5 x1.1.notes.length c7,.int .i64 x1.1.names,.slice a8 x1.1.freed.length c10].toArray) rfl) ?_;refine WO.w gN rfl (YF (Zk (Ze rfl fh) rfl) (v:= .agg [.slice a11 x1.2.1.uses.length c13,.slice a14 x1.2.1.ways.length c16].toArray) rfl) ?_;refine WO.w gN rfl (YF (Zk (ZB rfl fh) rfl) (v:= .bool x1.2.2) rfl) ?_;refine WO.hn gN rfl (W9 hS ZdH (vs:= [.slice none 0 0,.slice none 0 0,.int .i64 0,.slice none 0 0]) rfl) ?_;rintro _ h20 ⟨b19,ZKi,rfl,hS⟩;refine WO.hn gN rfl (W9 hS Zfh (vs:= [.slice none 0 0,.slice none 0 0]) rfl) ?_;rintro _ h22 ⟨b21,ZOM,rfl,hS⟩;refine WO.hu gN (Qe hS k1 YV (Zk (Ze rfl fh) rfl) (Zk (ZV rfl fh) rfl) (vs:= [.slice a2 x1.1.cells.length c4,.slice a5 x1.1.notes.length c7,.int .i64 x1.1.names,.slice a8 x1.1.freed.length c10]) rfl rfl rfl rfl (cs':= [.slice a2 x1.1.cells.length c4,.slice a5 x1.1.notes.length c7,.int .i64 x1.1.names,.slice a8 x1.1.freed.length c10]) rfl) ?_;rintro h23 hS;refine WO.hu gN (Qe hS k1 YZ (Zk fh rfl) (Zk (ZB rfl (Ze rfl fh)) rfl) (vs:= [.slice a11 x1.2.1.uses.length c13,.slice a14 x1.2.1.ways.length c16]) rfl rfl rfl rfl (cs':= [.slice a11 x1.2.1.uses.length c13,.slice a14 x1.2.1.ways.length c16]) rfl) ?_;rintro h24 hS;refine WO.w gN rfl (Zw (Zk (ZB rfl fh) rfl)) ?_;refine WO.nil ?_;refine ZX.Z4 ?_;refine WC.seq ?_;refine WC.seq ?_;refine WC.region ?_;refine WO.w gN rfl (Zz (Zk fh rfl)) ?_;refine WO.w gN rfl (Zag (Zk fh rfl)) ?_;refine WO.nil ?_;refine ZX.Z4 ?_;refine WC.Ut (Zk fh rfl) (fun hc=>?_) (fun hc=>?_)
 ·replace hL:=Y2 hc hL;refine WC.seq ?_;refine WC.region ?_;refine WO.w gN rfl (Zw (XG rfl)) ?_;refine WO.nil ?_;refine ZX.Z4 ?_;refine WC.ret ?_;refine ZX.ret ?_;have hr:=Oi0 hL;subst hr;exact ZW.XY rfl (Zy (Zk fh rfl) Zm) ⟨_,⟨rfl,rfl⟩,hT ▸ hS.only .n⟩
 ·replace hL:=Y3 hc hL;refine WC.skip ?_;refine ZX.Z4 ?_;refine WC.seq ?_;refine WC.Yt mixed Kq0 ?_;refine WX.w gN rfl (Ye ZbN (Zk (ZB rfl (Ze rfl fh)) rfl)) ?_ rfl;refine WX.w gN rfl (ZL Zi8 (Zk fh rfl) (hS.Xc k0) (j:=0) rfl (v:= .slice a11 x1.2.1.uses.length c13) rfl) ?_ rfl;obtain⟨x25,hx25,hL⟩:=bind_some hL;refine WX.clR gN rfl (Y1.fn Zu6 (Zc (Zk fh rfl) Zl)) hS.hw (ZpR (Nat.le_refl _) (hS.ord k5) hx25) ?_ rfl rfl;rintro _ h29 _ ⟨a26,n27,c28,rfl,rfl⟩ ZB0;have hS:=hS.clR ZB0 (.c (cvO (fun _ _ _ _=>trivial) hS.hw) .n);obtain rfl:=hS.on k0;refine WX.w gN rfl (Ye Zra (Zk (ZV rfl (ZB rfl fh)) rfl)) ?_ rfl;refine WX.w gN rfl (ZL Zi8 (Zk fh rfl) (hS.Xc k1) (j:=1) rfl (v:= .slice a14 x1.2.1.ways.length c16) rfl) ?_ rfl;obtain⟨x31,hx31,hL⟩:=bind_some hL;refine WX.clR gN rfl (Y1.fn Zu6 (Zc (Zk fh rfl) Zl)) hS.hw (ZpR (Nat.le_refl _) (hS.ord k7) hx31) ?_ rfl rfl;rintro _ h35 _ ⟨a32,n33,c34,rfl,rfl⟩ ZJu;have hS:=hS.clR ZJu (.c (cvO (fun _ _ _ _=>trivial) hS.hw) .n);obtain rfl:=hS.on k0;refine WX.w gN rfl (Xu ZG1 (Zj (Zk (ZB rfl (Ze rfl fh)) rfl) (Zj (Zk fh rfl) ZI)) rfl (cs':= [.slice a26 x25.length c28,.slice a32 x31.length c34]) rfl) ?_ rfl;refine WX.hn gN rfl (W9 hS Zfh (vs:= [.slice none 0 0,.slice none 0 0]) rfl) ?_ rfl;rintro _ h38 ⟨b37,ZKg,rfl,hS⟩;refine WX.hu gN (Qe hS k0 YZ (Zk fh rfl) (Zk (Ze rfl fh) rfl) (vs:= [.slice a26 x25.length c28,.slice a32 x31.length c34]) rfl rfl rfl rfl (cs':= [.slice a26 x25.length c28,.slice a32 x31.length c34]) rfl) ?_ rfl rfl [] Kq0 Yd.e;rintro h39 hS;refine WX.nil ?_;refine ZX.Z4 ?_;refine WC.seq ?_;refine WC.region ?_;refine WO.w gN rfl (Yo Uv YV (Zk (Zp rfl (ZV rfl fh)) rfl) (hS.Xc k4) (j:=0) rfl rfl (ws:= [.slice a2 x1.1.cells.length c4,.slice a5 x1.1.notes.length c7,.int .i64 x1.1.names,.slice a8 x1.1.freed.length c10]) rfl) ?_;refine WO.w gN rfl (Yo Uu YZ (Zk (Zp rfl (ZV rfl fh)) rfl) (hS.Xc k3) (j:=0) rfl rfl (ws:= [.slice a11 x1.2.1.uses.length c13,.slice a14 x1.2.1.ways.length c16]) rfl) ?_;refine WO.w gN rfl (Zz (Zk (Zp rfl (Zp rfl (ZV rfl (ZB rfl (Ze rfl fh))))) rfl)) ?_;obtain⟨x40,ZBg,hL⟩:=bind_some hL;refine WO.Zye hS k5 ?_;rintro h41 ⟨ZNe,hS⟩;refine WO.fzn hS k6 ?_;rintro h43 ⟨ZNd,hS⟩;refine WO.fzn hS k7 ?_;rintro h45 ⟨ZNc,hS⟩;refine WO.cl gN rfl (Y1.fn Zz9 (Zc (Zk (ZB rfl fh) rfl) (Zc (Zk (Ze rfl fh) rfl) (Zc (Zk fh rfl) Zl)))) hS (.c k8 (.c k8 .n)) (fun g' hz hf hO=>ZvR (by rw [hz];exact hS.hw) ((hS.fsl k2).mono hf) ((hS.fsl k1).mono hf) ((hS.fsl k0).mono hf) ((hS.sl Zlg).mono hf) hO ZBg) ?_;rintro _ h62 _ ⟨a47,c49,a50,c52,a53,c55,a56,n57,c58,a59,n60,c61,rfl,rfl⟩ hS;obtain rfl:=hS.on k3;obtain rfl:=hS.on k4;refine WO.w gN rfl (Zz (Zk fh rfl)) ?_;refine WO.w gN rfl (YF (Zk fh rfl) (v:= .agg [.slice a47 x40.1.cells.length c49,.slice a50 x40.1.notes.length c52,.int .i64 x40.1.names,.slice a53 x40.1.freed.length c55].toArray) rfl) ?_;refine WO.w gN rfl (YF (Zk (Ze rfl fh) rfl) (v:= .agg [.slice a56 x40.2.1.uses.length c58,.slice a59 x40.2.1.ways.length c61].toArray) rfl) ?_;refine WO.w gN rfl (YF (Zk (ZB rfl fh) rfl) (v:= .bool x40.2.2) rfl) ?_;refine WO.hn gN rfl (W9 hS ZdH (vs:= [.slice none 0 0,.slice none 0 0,.int .i64 0,.slice none 0 0]) rfl) ?_;rintro _ h65 ⟨b64,ZOE,rfl,hS⟩;refine WO.hn gN rfl (W9 hS Zfh (vs:= [.slice none 0 0,.slice none 0 0]) rfl) ?_;rintro _ h67 ⟨b66,ZOD,rfl,hS⟩;refine WO.hu gN (Qe hS k1 YV (Zk (Ze rfl fh) rfl) (Zk (ZV rfl fh) rfl) (vs:= [.slice a47 x40.1.cells.length c49,.slice a50 x40.1.notes.length c52,.int .i64 x40.1.names,.slice a53 x40.1.freed.length c55]) rfl rfl rfl rfl (cs':= [.slice a47 x40.1.cells.length c49,.slice a50 x40.1.notes.length c52,.int .i64 x40.1.names,.slice a53 x40.1.freed.length c55]) rfl) ?_;rintro h68 hS;refine WO.hu gN (Qe hS k1 YZ (Zk fh rfl) (Zk (ZB rfl (Ze rfl fh)) rfl) (vs:= [.slice a56 x40.2.1.uses.length c58,.slice a59 x40.2.1.ways.length c61]) rfl rfl rfl rfl (cs':= [.slice a56 x40.2.1.uses.length c58,.slice a59 x40.2.1.ways.length c61]) rfl) ?_;rintro h69 hS;refine WO.w gN rfl (Zw (Zk (ZB rfl fh) rfl)) ?_;refine WO.nil ?_;refine ZX.Z4 ?_;refine WC.seq ?_;refine WC.seq ?_;refine WC.region ?_;refine WO.w gN rfl (Zz (Zk fh rfl)) ?_;refine WO.w gN rfl (Zag (Zk fh rfl)) ?_;refine WO.nil ?_;refine ZX.Z4 ?_;refine WC.Ut (Zk fh rfl) (fun hc=>?_) (fun hc=>?_)
  ·replace hL:=Y2 hc hL;refine WC.seq ?_;refine WC.region ?_;refine WO.w gN rfl (Zw (XG rfl)) ?_;refine WO.nil ?_;refine ZX.Z4 ?_;refine WC.ret ?_;refine ZX.ret ?_;have hr:=Oi0 hL;subst hr;exact ZW.XY rfl (Zy (Zk fh rfl) Zm) ⟨_,⟨rfl,rfl⟩,hT ▸ hS.only .n⟩
  ·replace hL:=Y3 hc hL;refine WC.skip ?_;refine ZX.Z4 ?_;refine WC.seq ?_;refine WC.seq ?_;refine WC.region ?_;refine WO.w gN rfl (Zz (Zk (Zp rfl (Zp rfl (Zp rfl (Zp rfl (ZB rfl (Ze rfl fh)))))) rfl)) ?_;refine WO.w gN rfl (Zz (Zk (Zp rfl (Zp rfl (Zp rfl (Zp rfl (ZV rfl fh))))) rfl)) ?_;refine WO.w gN rfl (QS ZhN (Zk fh rfl) rfl) ?_;refine WO.w gN rfl (Zwo (Zk fh rfl) (XG rfl)) ?_;obtain⟨z70,ZIy,hL⟩:=bind_some hL;refine WO.he gN rfl (Zo1 (hS.sl ZfH) rfl ZhN Zbt (Zk (ZB rfl (Ze rfl fh)) rfl) (Zk fh rfl) ZIy) ?_;rintro _ ⟨a71,c72,rfl,ZIW⟩;have ZER:=ZIW.sl ZfH;refine WO.w gN rfl (QS ZhN (Zk fh rfl) rfl) ?_;refine WO.w gN rfl (Zz (XG rfl)) ?_;refine WO.nil ?_;refine ZX.Z4 ?_;refine WC.block ?_;refine WC.loop (WL.lift hL (fun(p:Int×(List (List Za))×(List Zd)×Int×(List Int)×(List Yp)×(List Yp)) (s:Fs)=>match p with | (v83,v85,v88,v91,v92,Kn,v99)=>∃ (Zjw:Fr) (h74:H) (a86:Option Addr) (c87:Nat) (a89:Option Addr) (c90:Nat) (a93:Option Addr) (c94:Nat) (a96:Option Addr) (c97:Nat) (n98:Nat) (ZcW:Option Addr) (ZcM:Nat) (n102:Nat),s= ⟨Zjw,[],h74,none⟩∧Sp wm T h [UH wm (Ql (Ql Zq)) (a86,c87) v85,UH wm (Ql Zi) (a89,c90) v88,UH wm (Ql (ZO .i64)) (a93,c94) v92,bx wm b19 [.slice a86 v85.length c87,.slice a89 v88.length c90,.int .i64 v91,.slice a93 v92.length c94],ow wm Z9 a96 n98 c97 Kn,ow wm Z9 ZcW n102 ZcM v99,bx wm b37 [.slice a96 n98 c97,.slice ZcW n102 ZcM],bx wm b64 [.slice a47 x40.1.cells.length c49,.slice a50 x40.1.notes.length c52,.int .i64 x40.1.names,.slice a53 x40.1.freed.length c55],bx wm b66 [.slice a56 x40.2.1.uses.length c58,.slice a59 x40.2.1.ways.length c61],UH wm (Ql (Ql Zq)) (a47,c49) x40.1.cells,UH wm (Ql Zi) (a50,c52) x40.1.notes,UH wm (Ql (ZO .i64)) (a53,c55) x40.1.freed,ow wm Z9 a56 x40.2.1.uses.length c58 x40.2.1.uses,ow wm Z9 a59 x40.2.1.ways.length c61 x40.2.1.ways] h74∧Zjw.at 3= .slice ZgD p3.length ZgC∧Zjw.at 9= .pointer (some ⟨b19,0,none⟩)∧Zjw.at 12= .pointer (some ⟨b37,0,none⟩)∧Zjw.at 13= .pointer (some ⟨b64,0,none⟩)∧Zjw.at 14= .pointer (some ⟨b66,0,none⟩)∧Zjw.at 56= .slice a71 z70.length c72∧Zjw.at 57= .int .i64 (z70.length:Int)∧Zjw.at 58= .int .i64 v83) ⟨_,_,a2,c4,a5,c7,a8,c10,a26,c28,x25.length,a32,c34,x31.length,rfl,hS.only (.c k9 (.c k8 (.c k7 (.c k11 (.c k9 (.c k8 (.c k7 (.c k1 (.c k0 (.c k0 (.c k0 (.c k0 (.c k0 (.c k0 .n)))))))))))))),(Zp rfl (Zp rfl (Zp rfl (Zp rfl (Zp rfl (Ze rfl fh)))))),(Zp rfl (Zp rfl (Zp rfl (Zp rfl fh)))),(Zp rfl (Zp rfl (ZV rfl fh))),(Zp rfl (ZB rfl (Ze rfl fh))),(Zp rfl (ZB rfl fh)),(ZB rfl fh),(Ze rfl fh),fh⟩ ?_);clear hL hS;rintro Xg ⟨v83,v85,v88,v91,v92,Kn,v99⟩ s ZuW hL ⟨Zjw,h74,a86,c87,a89,c90,a93,c94,a96,c97,n98,ZcW,ZcM,n102,rfl,hS,e76,e77,e78,e79,e80,e81,e82,e84⟩;obtain rfl:=hS.on k4;obtain rfl:=hS.on k5;dsimp only [Zf6] at hL;refine WC.seq ?_;refine WC.region ?_;refine WO.w gN rfl (ZR (Zk e84 rfl) (Zk e82 rfl) Uw) ?_;refine WO.nil ?_;refine ZX.Z4 ?_;refine WC.seq ?_;refine WC.Ut (Zk fh rfl) (fun hc=>?_) (fun hc=>?_)
   ·replace hL:=Y2 hc hL;refine WC.skip ?_;refine ZX.Z4 ?_;refine WC.Zal (r:=r) (fun(p:(List (List Za))×(List Zd)×Int×(List Int)×(List Yp)×(List Yp)) (s:Fs)=>match p with | (ZtC,v117,Zxd,ZtB,v124,ZtA)=>∃ (ZdA:Fr) (Zyc:H) (Zjf:Option Addr) (c116:Nat) (Zzm:Option Addr) (c119:Nat) (Zzl:Option Addr) (Zs0:Nat) (Zzk:Option Addr) (ZsZ:Nat) (n127:Nat) (Zzj:Option Addr) (c130:Nat) (n131:Nat),s= ⟨ZdA,[],Zyc,none⟩∧Sp wm T h [UH wm (Ql (Ql Zq)) (Zjf,c116) ZtC,UH wm (Ql Zi) (Zzm,c119) v117,UH wm (Ql (ZO .i64)) (Zzl,Zs0) ZtB,bx wm b19 [.slice Zjf ZtC.length c116,.slice Zzm v117.length c119,.int .i64 Zxd,.slice Zzl ZtB.length Zs0],ow wm Z9 Zzk n127 ZsZ v124,ow wm Z9 Zzj n131 c130 ZtA,bx wm b37 [.slice Zzk n127 ZsZ,.slice Zzj n131 c130],bx wm b64 [.slice a47 x40.1.cells.length c49,.slice a50 x40.1.notes.length c52,.int .i64 x40.1.names,.slice a53 x40.1.freed.length c55],bx wm b66 [.slice a56 x40.2.1.uses.length c58,.slice a59 x40.2.1.ways.length c61],UH wm (Ql (Ql Zq)) (a47,c49) x40.1.cells,UH wm (Ql Zi) (a50,c52) x40.1.notes,UH wm (Ql (ZO .i64)) (a53,c55) x40.1.freed,ow wm Z9 a56 x40.2.1.uses.length c58 x40.2.1.uses,ow wm Z9 a59 x40.2.1.ways.length c61 x40.2.1.ways] Zyc∧ZdA.at 3= .slice ZgD p3.length ZgC∧ZdA.at 9= .pointer (some ⟨b19,0,none⟩)∧ZdA.at 12= .pointer (some ⟨b37,0,none⟩)∧ZdA.at 13= .pointer (some ⟨b64,0,none⟩)∧ZdA.at 14= .pointer (some ⟨b66,0,none⟩)∧ZdA.at 56= .slice a71 z70.length c72∧ZdA.at 57= .int .i64 (z70.length:Int)∧ZdA.at 58= .int .i64 v83) (ZcE v83 Xg) ?_ ?_
    ·clear hL hS;rintro⟨ZtC,v117,Zxd,ZtB,v124,ZtA⟩ s hL ⟨ZdA,Zyc,Zjf,c116,Zzm,c119,Zzl,Zs0,Zzk,ZsZ,n127,Zzj,c130,n131,rfl,hS,ZKv,ZGW,e108,e109,ZKu,ZKt,ZKs,ZKr⟩;obtain rfl:=hS.on k4;obtain rfl:=hS.on k5;dsimp only [ZcE] at hL;refine WC.region ?_;refine WO.w gN rfl (ZR (Zk ZKr rfl) (XG rfl) KR) ?_;refine WO.w gN rfl (Zz (Zk fh rfl)) ?_;refine WO.nil ?_;exact Yk.Z4 (ZuW _ _ hL ⟨_,_,Zjf,c116,Zzm,c119,Zzl,Zs0,Zzk,ZsZ,v124.length,Zzj,c130,ZtA.length,rfl,hS.only (.c k0 (.c k0 (.c k0 (.c k0 (.c k0 (.c k0 (.c k0 (.c k0 (.c k0 (.c k0 (.c k0 (.c k0 (.c k0 (.c k0 .n)))))))))))))),(ZB rfl ZKv),(ZB rfl ZGW),(ZB rfl e108),(ZB rfl e109),(ZB rfl ZKu),(ZB rfl ZKt),(ZB rfl ZKs),fh⟩)
    ·skip;refine WC.block ?_;refine WC.seq ?_;refine WC.region ?_;obtain⟨Xx,ZqV,hL⟩:=bind_some hL;obtain⟨ZPT,ZMP,_,ZBX,ZCe,ZB3,ZJG⟩:=Sl.at_ ZER ZqV;refine WO.w gN rfl (Yb ZhN Zbt (Zk (Ze rfl e81) rfl) (Zk (Ze rfl e84) rfl) rfl ZBX ZqV) ?_;refine WO.w gN rfl (Yo ZrL Zbt (Zk fh rfl) (At.fz hS.fz ZB3 ZCe) (j:=0) rfl rfl (ws:= [.int .u8 Xx.ZT,.int .u8 Xx.at_,.int .u8 Xx.name,.int .u8 Xx.Zx]) rfl) ?_;refine WO.hn gN rfl (W9 hS Ztw (vs:= [.int .u8 0,.int .u8 0,.int .u8 0,.int .u8 0]) rfl) ?_;rintro _ ZJZ ⟨Zwm,ZL4,rfl,hS⟩;refine WO.hu gN (Qe hS k0 Zbt (Zk fh rfl) (Zk (Ze rfl fh) rfl) (vs:= [.int .u8 Xx.ZT,.int .u8 Xx.at_,.int .u8 Xx.name,.int .u8 Xx.Zx]) rfl rfl rfl rfl (cs':= [.int .u8 Xx.ZT,.int .u8 Xx.at_,.int .u8 Xx.name,.int .u8 Xx.Zx]) rfl) ?_;rintro ZGA hS;refine WO.nil ?_;refine ZX.Z4 ?_;refine WC.seq ?_;refine WC.region ?_;refine WO.w gN rfl (Ye Zly (Zk fh rfl)) ?_;refine WO.w gN rfl (ZL ZDd (Zk fh rfl) (hS.Xc k0) (j:=0) rfl (v:= .int .u8 Xx.ZT) rfl) ?_;obtain⟨ZkQ,ZEK,hL⟩:=bind_some hL;refine WO.w gN rfl (ZR (Zk fh rfl) (XG rfl) (QA ZEK)) ?_;refine WO.w gN rfl (ZR (XG rfl) (Zk fh rfl) Ztl) ?_;refine WO.w gN rfl (Ye Zly (Zk (ZV rfl fh) rfl)) ?_;refine WO.hu gN (Qe hS k0 ZtN (Zk fh rfl) (Zk (Ze rfl fh) rfl) (vs:= [.int .u8 (IntKind.wrap .u8 (4 + ZkQ))]) rfl rfl rfl rfl (cs':= [.int .u8 (IntKind.wrap .u8 (4 + ZkQ)),.int .u8 Xx.at_,.int .u8 Xx.name,.int .u8 Xx.Zx]) rfl) ?_;rintro ZJX hS;refine WO.nil ?_;refine ZX.Z4 ?_;refine WC.seq ?_;refine WC.region ?_;refine WO.w gN rfl (Yo ZrL Zbt (Zk (ZV rfl (Ze rfl fh)) rfl) (hS.Xc k0) (j:=0) rfl rfl (ws:= [.int .u8 (IntKind.wrap .u8 (4 + ZkQ)),.int .u8 Xx.at_,.int .u8 Xx.name,.int .u8 Xx.Zx]) rfl) ?_;refine WO.w gN rfl (Ye Zde (Zk (Zp rfl (ZB rfl e77)) rfl)) ?_;refine WO.w gN rfl (ZL Zja (Zk fh rfl) (hS.Xc k4) (j:=0) rfl (v:= .slice a86 v85.length c87) rfl) ?_;refine WO.w gN rfl (QS Za0 (Zk fh rfl) rfl) ?_;refine WO.w gN rfl (Ye Zrf (Zk (Zp rfl (ZV rfl (Ze rfl e77))) rfl)) ?_;refine WO.w gN rfl (ZL Xk (Zk fh rfl) (hS.Xc k4) (j:=2) rfl (v:= .int .i64 v91) rfl) ?_;refine WO.w gN rfl (Ye ZlB (Zk (Zp rfl (ZV rfl (ZB rfl (Ze rfl e77)))) rfl)) ?_;refine WO.w gN rfl (ZL Zi9 (Zk fh rfl) (hS.Xc k4) (j:=1) rfl (v:= .slice a89 v88.length c90) rfl) ?_;refine WO.w gN rfl (QS Ul (Zk fh rfl) rfl) ?_;obtain⟨YN,ZEH,hL⟩:=bind_some hL;refine WO.cl gN rfl (Y1.fn Zz8 (Zc (Zk (Zp rfl fh) rfl) (Zc (Zk (ZV rfl (Ze rfl fh)) rfl) (Zc (Zk (ZB rfl (Ze rfl fh)) rfl) (Zc (Zk fh rfl) Zl))))) hS .n (fun g' hz hf hO=>ZvQ (by rw [hz];exact hS.hw) ZEH) ?_;rintro _ ZJW _ ⟨rfl,rfl⟩ hS;simp only [List.cons_append,List.nil_append] at hS;refine WO.w gN rfl (Zz (Zk fh rfl)) ?_;refine WO.w gN rfl (YF (Zk fh rfl) (v:= .agg [.int .i64 YN.1.ZT,.int .i64 YN.1.at_,.int .i64 YN.1.name,.int .i64 YN.1.Zx].toArray) rfl) ?_;refine WO.w gN rfl (YF (Zk (Ze rfl fh) rfl) (v:= .bool YN.2) rfl) ?_;refine WO.hn gN rfl (W9 hS ZoG (vs:= [.int .i64 0,.int .i64 0,.int .i64 0,.int .i64 0]) rfl) ?_;rintro _ ZN6 ⟨ZjO,ZL1,rfl,hS⟩;refine WO.hu gN (Qe hS k0 ZaQ (Zk fh rfl) (Zk (ZB rfl fh) rfl) (vs:= [.int .i64 YN.1.ZT,.int .i64 YN.1.at_,.int .i64 YN.1.name,.int .i64 YN.1.Zx]) rfl rfl rfl rfl (cs':= [.int .i64 YN.1.ZT,.int .i64 YN.1.at_,.int .i64 YN.1.name,.int .i64 YN.1.Zx]) rfl) ?_;rintro ZJV hS;refine WO.w gN rfl (Zw (Zk (Ze rfl fh) rfl)) ?_;refine WO.nil ?_;refine ZX.Z4 ?_;refine WC.seq ?_;refine WC.seq ?_;refine WC.region ?_;refine WO.w gN rfl (Zz (Zk fh rfl)) ?_;refine WO.w gN rfl (Zag (Zk fh rfl)) ?_;refine WO.nil ?_;refine ZX.Z4 ?_;refine WC.Ut (Zk fh rfl) (fun hc=>?_) (fun hc=>?_)
     ·replace hL:=Y2 hc hL;refine WC.exit ?_;refine ZX.exit ?_;refine Qh.here ?_;exact YI.Z4 _ hL ⟨_,_,a86,c87,a89,c90,a93,c94,a96,c97,Kn.length,ZcW,ZcM,v99.length,rfl,hS.only (.c k2 (.c k2 (.c k2 (.c k2 (.c k2 (.c k2 (.c k2 (.c k2 (.c k2 (.c k2 (.c k2 (.c k2 (.c k2 (.c k2 .n)))))))))))))),(Zp rfl (Zp rfl (Zp rfl (ZB rfl e76)))),(Zp rfl (Zp rfl (Zp rfl (ZB rfl e77)))),(Zp rfl (Zp rfl (Zp rfl (ZB rfl e78)))),(Zp rfl (Zp rfl (Zp rfl (ZB rfl e79)))),(Zp rfl (Zp rfl (Zp rfl (ZB rfl e80)))),(Zp rfl (Zp rfl (Zp rfl (ZB rfl e81)))),(Zp rfl (Zp rfl (Zp rfl (ZB rfl e82)))),(Zp rfl (Zp rfl (Zp rfl (ZB rfl e84))))⟩
     ·replace hL:=Y3 hc hL;refine WC.skip ?_;refine ZX.Z4 ?_;refine WC.Zal (r:=r) (fun(p:Int×Int) (s:Fs)=>match p with | (v157,ZoP)=>∃ (Zcy:Fr) (ZCl:H),s= ⟨Zcy,[],ZCl,none⟩∧Sp wm T h [bx wm b19 [.slice a86 v85.length c87,.slice a89 v88.length c90,.int .i64 v91,.slice a93 v92.length c94],bx wm b37 [.slice a96 Kn.length c97,.slice ZcW v99.length ZcM],bx wm b64 [.slice a47 x40.1.cells.length c49,.slice a50 x40.1.notes.length c52,.int .i64 x40.1.names,.slice a53 x40.1.freed.length c55],bx wm b66 [.slice a56 x40.2.1.uses.length c58,.slice a59 x40.2.1.ways.length c61],bx wm ZjO [.int .i64 YN.1.ZT,.int .i64 v157,.int .i64 YN.1.name,.int .i64 ZoP],UH wm (Ql (Ql Zq)) (a86,c87) v85,UH wm (Ql Zi) (a89,c90) v88,UH wm (Ql (ZO .i64)) (a93,c94) v92,ow wm Z9 a96 Kn.length c97 Kn,ow wm Z9 ZcW v99.length ZcM v99,UH wm (Ql (Ql Zq)) (a47,c49) x40.1.cells,UH wm (Ql Zi) (a50,c52) x40.1.notes,UH wm (Ql (ZO .i64)) (a53,c55) x40.1.freed,ow wm Z9 a56 x40.2.1.uses.length c58 x40.2.1.uses,ow wm Z9 a59 x40.2.1.ways.length c61 x40.2.1.ways] ZCl∧Zcy.at 3= .slice ZgD p3.length ZgC∧Zcy.at 9= .pointer (some ⟨b19,0,none⟩)∧Zcy.at 12= .pointer (some ⟨b37,0,none⟩)∧Zcy.at 13= .pointer (some ⟨b64,0,none⟩)∧Zcy.at 14= .pointer (some ⟨b66,0,none⟩)∧Zcy.at 17= .pointer (some ⟨ZjO,0,none⟩)∧Zcy.at 56= .slice a71 z70.length c72∧Zcy.at 57= .int .i64 (z70.length:Int)∧Zcy.at 58= .int .i64 v83) (Zed F v83 v85 v88 v91 v92 Kn v99 Xg YN) ?_ ?_
      ·clear hL hS;rintro⟨v157,ZoP⟩ s hL ⟨Zcy,ZCl,rfl,hS,ZKm,ZsO,ZyU,ZGV,e152,e153,e154,ZGU,ZKl⟩;dsimp only [Zed] at hL;refine WC.seq ?_;refine WC.region ?_;refine WO.w gN rfl (Yo Uv YV (Zk ZsO rfl) (hS.Xc k0) (j:=0) rfl rfl (ws:= [.slice a86 v85.length c87,.slice a89 v88.length c90,.int .i64 v91,.slice a93 v92.length c94]) rfl) ?_;refine WO.w gN rfl (Yo Ze8 ZaQ (Zk (Ze rfl e153) rfl) (hS.Xc k4) (j:=0) rfl rfl (ws:= [.int .i64 YN.1.ZT,.int .i64 v157,.int .i64 YN.1.name,.int .i64 ZoP]) rfl) ?_;obtain⟨x159,hx159,hL⟩:=bind_some hL;refine WO.cl gN rfl (Y1.fn Zu8 (Zc (Zk (Ze rfl fh) rfl) (Zc (Zk fh rfl) Zl))) hS .n (fun g' hz hf hO=>ZpU (by rw [hz];exact hS.hw) ((hS.fsl k5).mono hf) ((hS.fsl k6).mono hf) ((hS.fsl k7).mono hf) hx159) ?_;rintro _ ZJS _ ⟨a160,n161,c162,ZIk,ZoC,n164,Zol,Zhf,n167,c168,rfl,rfl⟩ hS;simp only [List.cons_append,List.nil_append] at hS;obtain rfl:=hS.Zh8 k0;obtain rfl:=hS.on k1;obtain rfl:=hS.on k2;refine WO.Zye hS k0 ?_;rintro ZNU ⟨ZLd,hS⟩;refine WO.fzn hS k1 ?_;rintro ZNS ⟨ZLc,hS⟩;refine WO.fzn hS k2 ?_;rintro ZNR ⟨ZLb,hS⟩;refine WO.w gN rfl (Zz (Zk fh rfl)) ?_;refine WO.w gN rfl (YF (Zk fh rfl) (v:= .agg [.slice a160 x159.1.cells.length c162,.slice ZoC x159.1.notes.length Zol,.int .i64 x159.1.names,.slice Zhf x159.1.freed.length c168].toArray) rfl) ?_;refine WO.w gN rfl (YF (Zk (Ze rfl fh) rfl) (v:= .int .i64 x159.2) rfl) ?_;refine WO.hn gN rfl (W9 hS ZdH (vs:= [.slice none 0 0,.slice none 0 0,.int .i64 0,.slice none 0 0]) rfl) ?_;rintro _ ZNQ ⟨ZPK,ZLY,rfl,hS⟩;refine WO.hu gN (Qe hS k0 YV (Zk fh rfl) (Zk (ZB rfl fh) rfl) (vs:= [.slice a160 x159.1.cells.length c162,.slice ZoC x159.1.notes.length Zol,.int .i64 x159.1.names,.slice Zhf x159.1.freed.length c168]) rfl rfl rfl rfl (cs':= [.slice a160 x159.1.cells.length c162,.slice ZoC x159.1.notes.length Zol,.int .i64 x159.1.names,.slice Zhf x159.1.freed.length c168]) rfl) ?_;rintro ZNP hS;refine WO.w gN rfl (Zw (Zk (Ze rfl fh) rfl)) ?_;refine WO.nil ?_;refine ZX.Z4 ?_;refine WC.seq ?_;refine WC.seq ?_;refine WC.region ?_;refine WO.w gN rfl (Zz (Zk fh rfl)) ?_;refine WO.w gN rfl (ZR (Zk fh rfl) (XG rfl) Zbn) ?_;refine WO.w gN rfl (Zz (Zk fh rfl)) ?_;refine WO.gv (Zg.no rfl rfl rfl fh) rfl (fun hg=>(Ye Zde (Zk (ZV rfl fh) rfl))) ?_;refine WO.gv (Zg.no rfl rfl rfl (Ze rfl fh)) rfl (fun hg=>(ZL Zja (Xm fh rfl hg) (hS.Xc k0) (j:=0) rfl (v:= .slice a160 x159.1.cells.length c162) rfl)) ?_;refine WO.gv (Zg.no rfl rfl rfl (ZB rfl fh)) rfl (fun hg=>(QS Za0 (Xm fh rfl hg) rfl)) ?_;refine WO.gv (Zg.no rfl rfl rfl (ZB rfl (Ze rfl fh))) rfl (fun hg=>(Ye Zde (Zk (Zp rfl (ZV rfl (ZB rfl ZsO))) rfl))) ?_;refine WO.gv (Zg.no rfl rfl rfl (ZV rfl fh)) rfl (fun hg=>(ZL Zja (Xm fh rfl hg) (hS.Xc k4) (j:=0) rfl (v:= .slice a86 v85.length c87) rfl)) ?_;refine WO.gv (Zg.no rfl rfl rfl (ZV rfl (Ze rfl fh))) rfl (fun hg=>(QS Za0 (Xm fh rfl hg) rfl)) ?_;refine WO.gv (Zg.no rfl rfl rfl (ZV rfl (ZB rfl fh))) rfl (fun hg=>(ZR (Xm (ZB rfl (Ze rfl fh)) rfl hg) (Xm fh rfl hg) Zbn)) ?_;refine WO.w gN rfl (ZkF (Zk (ZV rfl (ZB rfl (Ze rfl fh))) rfl) (XG rfl) (Zao fh)) ?_;refine WO.nil ?_;refine ZX.Z4 ?_;refine WC.Ut (Zk fh rfl) (fun hc=>?_) (fun hc=>?_)
       ·replace hL:=Y2 hc hL;refine WC.seq ?_;refine WC.region ?_;refine WO.w gN rfl (Zw (XG rfl)) ?_;refine WO.nil ?_;refine ZX.Z4 ?_;refine WC.ret ?_;refine ZX.ret ?_;refine Qh.ret ?_;refine YI.ret ?_;refine Yk.ret ?_;refine Qh.ret ?_;refine ZX.ret ?_;have hr:=Oi0 hL;subst hr;exact ZW.XY rfl (Zy (Zk fh rfl) Zm) ⟨_,⟨rfl,rfl⟩,hT ▸ hS.only .n⟩
       ·replace hL:=Y3 hc hL;refine WC.skip ?_;refine ZX.Z4 ?_;refine WC.seq ?_;refine WC.region ?_;refine WO.w gN rfl (Yo Uu YZ (Zk (Zp rfl (Zp rfl (ZB rfl (Ze rfl ZyU)))) rfl) (hS.Xc k5) (j:=0) rfl rfl (ws:= [.slice a96 Kn.length c97,.slice ZcW v99.length ZcM]) rfl) ?_;refine WO.w gN rfl (Yo Uv YV (Zk (Zp rfl (Zp rfl (ZV rfl ZsO))) rfl) (hS.Xc k4) (j:=0) rfl rfl (ws:= [.slice a86 v85.length c87,.slice a89 v88.length c90,.int .i64 v91,.slice a93 v92.length c94]) rfl) ?_;refine WO.w gN rfl (Yo Ze8 ZaQ (Zk (Zp rfl (Zp rfl (ZV rfl (Ze rfl e153)))) rfl) (hS.Xc k8) (j:=0) rfl rfl (ws:= [.int .i64 YN.1.ZT,.int .i64 v157,.int .i64 YN.1.name,.int .i64 ZoP]) rfl) ?_;obtain⟨Zg2,ZEC,hL⟩:=bind_some hL;refine WO.cl gN rfl (Y1.fn Zu7 (Zc (Zk (ZB rfl fh) rfl) (Zc (Zk (Ze rfl fh) rfl) (Zc (Zk fh rfl) Zl)))) hS (.c k12 (.c k12 .n)) (fun g' hz hf hO=>ZpT (by rw [hz];exact hS.hw) ((hS.fsl k9).mono hf) ((hS.fsl k10).mono hf) ((hS.fsl k11).mono hf) hO ZEC) ?_;rintro _ ZNO _ ⟨Zzi,n182,c183,Zzh,n185,Zy1,rfl,rfl⟩ hS;simp only [List.cons_append,List.nil_append] at hS;obtain rfl:=hS.on k0;obtain rfl:=hS.on k1;refine WO.hu gN (Qe hS k7 YZ (Zk (Zp rfl (Zp rfl (ZV rfl (ZB rfl (Ze rfl ZyU))))) rfl) (Zk fh rfl) (vs:= [.slice Zzi Zg2.uses.length c183,.slice Zzh Zg2.ways.length Zy1]) rfl rfl rfl rfl (cs':= [.slice Zzi Zg2.uses.length c183,.slice Zzh Zg2.ways.length Zy1]) rfl) ?_;rintro ZNN hS;refine WO.nil ?_;refine ZX.Z4 ?_;refine WC.seq ?_;refine WC.region ?_;refine WO.w gN rfl (Yo Uv YV (Zk (Zp rfl (Zp rfl fh)) rfl) (hS.Xc k3) (j:=0) rfl rfl (ws:= [.slice a160 x159.1.cells.length c162,.slice ZoC x159.1.notes.length Zol,.int .i64 x159.1.names,.slice Zhf x159.1.freed.length c168]) rfl) ?_;refine WO.hu gN (Qe hS k7 YV (Zk (Zp rfl (Zp rfl (Zp rfl ZsO))) rfl) (Zk fh rfl) (vs:= [.slice a160 x159.1.cells.length c162,.slice ZoC x159.1.notes.length Zol,.int .i64 x159.1.names,.slice Zhf x159.1.freed.length c168]) rfl rfl rfl rfl (cs':= [.slice a160 x159.1.cells.length c162,.slice ZoC x159.1.notes.length Zol,.int .i64 x159.1.names,.slice Zhf x159.1.freed.length c168]) rfl) ?_;rintro ZNM hS;refine WO.nil ?_;refine ZX.Z4 ?_;refine WC.seq ?_;refine WC.region ?_;refine WO.w gN rfl (Yo Uu YZ (Zk (Zp rfl (Zp rfl (Zp rfl ZyU))) rfl) (hS.Xc k1) (j:=0) rfl rfl (ws:= [.slice Zzi Zg2.uses.length c183,.slice Zzh Zg2.ways.length Zy1]) rfl) ?_;refine WO.w gN rfl (Yo Uv YV (Zk (Zp rfl (Zp rfl (Zp rfl (Ze rfl ZsO)))) rfl) (hS.Xc k0) (j:=0) rfl rfl (ws:= [.slice a160 x159.1.cells.length c162,.slice ZoC x159.1.notes.length Zol,.int .i64 x159.1.names,.slice Zhf x159.1.freed.length c168]) rfl) ?_;obtain⟨ZDP,ZEB,hL⟩:=bind_some hL;refine WO.cp gN rfl (Y1.fn Zu5 (Zc (Zk (Ze rfl fh) rfl) (Zc (Zk fh rfl) Zl))) (WR.QO rfl (ZpP (Nat.le_refl _) (hS.ord k2) (hS.ord k3) (hS.ZnG k7) (hS.ZnG k6) (hS.ZnG k5) ZEB)) ?_;refine WO.w gN rfl (Zag (Zk fh rfl)) ?_;refine WO.nil ?_;refine ZX.Z4 ?_;refine WC.Ut (Zk fh rfl) (fun hc=>?_) (fun hc=>?_)
        ·replace hL:=Y2 hc hL;refine WC.seq ?_;refine WC.region ?_;refine WO.w gN rfl (Zw (XG rfl)) ?_;refine WO.nil ?_;refine ZX.Z4 ?_;refine WC.ret ?_;refine Qh.ret ?_;refine YI.ret ?_;refine Yk.ret ?_;refine Qh.ret ?_;refine ZX.ret ?_;have hr:=Oi0 hL;subst hr;exact ZW.XY rfl (Zy (Zk fh rfl) Zm) ⟨_,⟨rfl,rfl⟩,hT ▸ hS.only .n⟩
        ·replace hL:=Y3 hc hL;refine WC.skip ?_;refine Qh.Z4 ?_;exact YI.Z4 _ hL ⟨_,_,a160,c162,ZoC,Zol,Zhf,c168,Zzi,c183,Zg2.uses.length,Zzh,Zy1,Zg2.ways.length,rfl,hS.only (.c k7 (.c k6 (.c k5 (.c k0 (.c k1 (.c k1 (.c k0 (.c k1 (.c k1 (.c k5 (.c k5 (.c k5 (.c k5 (.c k5 .n)))))))))))))),(Zp rfl (Zp rfl (Zp rfl (ZV rfl ZKm)))),(Zp rfl (Zp rfl (Zp rfl (ZV rfl ZsO)))),(Zp rfl (Zp rfl (Zp rfl (ZV rfl ZyU)))),(Zp rfl (Zp rfl (Zp rfl (ZV rfl ZGV)))),(Zp rfl (Zp rfl (Zp rfl (ZV rfl e152)))),(Zp rfl (Zp rfl (Zp rfl (ZV rfl e154)))),(Zp rfl (Zp rfl (Zp rfl (ZV rfl ZGU)))),(Zp rfl (Zp rfl (Zp rfl (ZV rfl ZKl))))⟩
      ·skip;refine WC.seq ?_;refine WC.region ?_;refine WO.w gN rfl (Ye Zhu (Zk (ZB rfl (Ze rfl fh)) rfl)) ?_;refine WO.w gN rfl (ZL ZrM (Zk fh rfl) (hS.Xc k0) (j:=0) rfl (v:= .int .i64 YN.1.ZT) rfl) ?_;refine WO.w gN rfl (ZR (Zk fh rfl) (XG rfl) Qu) ?_;refine WO.nil ?_;refine ZX.Z4 ?_;refine WC.Ut (Zk fh rfl) (fun hc=>?_) (fun hc=>?_)
       ·replace hL:=Y2 hc hL;refine WC.seq ?_;refine WC.region ?_;refine WO.w gN rfl (Ye Zde (Zk (Zp rfl (Zp rfl (Zp rfl (ZV rfl (Ze rfl e77))))) rfl)) ?_;refine WO.w gN rfl (ZL Zja (Zk fh rfl) (hS.Xc k5) (j:=0) rfl (v:= .slice a86 v85.length c87) rfl) ?_;refine WO.w gN rfl (ZbW (Zc (Zk (Zp rfl fh) rfl) Zl)) ?_;refine WO.Znm (r:=r) (fun(v194:Int) (v:Value) (ZGy:H)=>v= .int .i64 v194∧Sp wm T h [bx wm b19 [.slice a86 v85.length c87,.slice a89 v88.length c90,.int .i64 v91,.slice a93 v92.length c94],bx wm b37 [.slice a96 Kn.length c97,.slice ZcW v99.length ZcM],bx wm b64 [.slice a47 x40.1.cells.length c49,.slice a50 x40.1.notes.length c52,.int .i64 x40.1.names,.slice a53 x40.1.freed.length c55],bx wm b66 [.slice a56 x40.2.1.uses.length c58,.slice a59 x40.2.1.ways.length c61],bx wm Zwm [.int .u8 (IntKind.wrap .u8 (4 + ZkQ)),.int .u8 Xx.at_,.int .u8 Xx.name,.int .u8 Xx.Zx],bx wm ZjO [.int .i64 YN.1.ZT,.int .i64 YN.1.at_,.int .i64 YN.1.name,.int .i64 YN.1.Zx],UH wm (Ql (Ql Zq)) (a86,c87) v85,UH wm (Ql Zi) (a89,c90) v88,UH wm (Ql (ZO .i64)) (a93,c94) v92,ow wm Z9 a96 Kn.length c97 Kn,ow wm Z9 ZcW v99.length ZcM v99,UH wm (Ql (Ql Zq)) (a47,c49) x40.1.cells,UH wm (Ql Zi) (a50,c52) x40.1.notes,UH wm (Ql (ZO .i64)) (a53,c55) x40.1.freed,ow wm Z9 a56 x40.2.1.uses.length c58 x40.2.1.uses,ow wm Z9 a59 x40.2.1.ways.length c61 x40.2.1.ways] ZGy) (Zec F v83 v85 v88 v91 v92 Kn v99 Xg YN) gN rfl (Y1.fn ZFo (Zc (Zk (Ze rfl fh) rfl) (Zc (Zk fh rfl) Zl))) ?_ (WF.begin (args:= [_,_]) (fn:=Try.f46) Kq0 (by exact rfl) Try.ntmps46 (by simp) ?_)
        ·clear hL hS;rintro v194 v ZGy hL ⟨rfl,hS⟩;dsimp only [Zec] at hL;refine WO.w gN rfl (Zw (Zk fh rfl)) ?_;refine WO.nil ?_;refine ZX.Z4 ?_;refine WC.seq ?_;refine WC.seq ?_;refine WC.region ?_;refine WO.w gN rfl (Zz (Zk fh rfl)) ?_;refine WO.w gN rfl (ZR (Zk fh rfl) (XG rfl) Uw) ?_;refine WO.w gN rfl (Zz (Zk fh rfl)) ?_;refine WO.gv (Zg.no rfl rfl rfl fh) rfl (fun hg=>(Ye ZlB (Zk (Zp rfl (Zp rfl (Zp rfl (Zp rfl (ZV rfl (Ze rfl e77)))))) rfl))) ?_;refine WO.gv (Zg.no rfl rfl rfl (Ze rfl fh)) rfl (fun hg=>(ZL Zi9 (Xm fh rfl hg) (hS.Xc k0) (j:=1) rfl (v:= .slice a89 v88.length c90) rfl)) ?_;refine WO.gv (Zg.no rfl rfl rfl (ZB rfl fh)) rfl (fun hg=>(QS Ul (Xm fh rfl hg) rfl)) ?_;refine WO.gv (Zg.no rfl rfl rfl (ZB rfl (Ze rfl fh))) rfl (fun hg=>(ZR (Xm fh rfl hg) (XG rfl) Qu)) ?_;refine WO.w gN rfl (ZkF (Zk (ZV rfl fh) rfl) (XG rfl) (Zao fh)) ?_;refine WO.nil ?_;refine ZX.Z4 ?_;refine WC.Ut (Zk fh rfl) (fun hc=>?_) (fun hc=>?_)
         ·replace hL:=Y2 hc hL;refine WC.exit ?_;refine ZX.exit ?_;refine YI.exit ?_;refine Qh.here ?_;exact YI.Z4 _ hL ⟨_,_,a86,c87,a89,c90,a93,c94,a96,c97,Kn.length,ZcW,ZcM,v99.length,rfl,hS.only (.c k6 (.c k6 (.c k6 (.c k0 (.c k5 (.c k5 (.c k0 (.c k0 (.c k0 (.c k2 (.c k2 (.c k2 (.c k2 (.c k2 .n)))))))))))))),(Zp rfl (Zp rfl (Zp rfl (Zp rfl (Zp rfl (ZB rfl e76)))))),(Zp rfl (Zp rfl (Zp rfl (Zp rfl (Zp rfl (ZB rfl e77)))))),(Zp rfl (Zp rfl (Zp rfl (Zp rfl (Zp rfl (ZB rfl e78)))))),(Zp rfl (Zp rfl (Zp rfl (Zp rfl (Zp rfl (ZB rfl e79)))))),(Zp rfl (Zp rfl (Zp rfl (Zp rfl (Zp rfl (ZB rfl e80)))))),(Zp rfl (Zp rfl (Zp rfl (Zp rfl (Zp rfl (ZB rfl e81)))))),(Zp rfl (Zp rfl (Zp rfl (Zp rfl (Zp rfl (ZB rfl e82)))))),(Zp rfl (Zp rfl (Zp rfl (Zp rfl (Zp rfl (ZB rfl e84))))))⟩
         ·replace hL:=Y3 hc hL;refine WC.skip ?_;refine ZX.Z4 ?_;refine WC.seq ?_;refine WC.region ?_;refine WO.w gN rfl (Zz (Zk (Zp rfl fh) rfl)) ?_;refine WO.w gN rfl (Ye ZaC (Zk (Zp rfl (Zp rfl (ZV rfl fh))) rfl)) ?_;refine WO.hu gN (Qe hS k5 Y4 (Zk fh rfl) (Zk (Ze rfl fh) rfl) (vs:= [.int .i64 v194]) rfl rfl rfl rfl (cs':= [.int .i64 YN.1.ZT,.int .i64 v194,.int .i64 YN.1.name,.int .i64 YN.1.Zx]) rfl) ?_;rintro ZNL hS;refine WO.nil ?_;refine ZX.Z4 ?_;refine WC.seq ?_;refine WC.region ?_;refine WO.w gN rfl (Ye KG (Zk (Zp rfl (Zp rfl (ZV rfl (Ze rfl fh)))) rfl)) ?_;refine WO.w gN rfl (ZL Xk (Zk fh rfl) (hS.Xc k0) (j:=3) rfl (v:= .int .i64 YN.1.Zx) rfl) ?_;refine WO.w gN rfl (Zz (Zk (Zp rfl (ZV rfl fh)) rfl)) ?_;refine WO.w gN rfl (ZR (Zk (Ze rfl fh) rfl) (Zk fh rfl) Qu) ?_;refine WO.nil ?_;refine ZX.Z4 ?_;refine WC.Ut (Zk fh rfl) (fun hc=>?_) (fun hc=>?_)
          ·replace hL:=Y2 hc hL;refine WC.region ?_;refine WO.w gN rfl (Zz (Zk (Zp rfl (ZV rfl (ZB rfl fh))) rfl)) ?_;refine WO.w gN rfl (ZR (Zk fh rfl) (XG rfl) KR) ?_;refine WO.w gN rfl (Ye Zde (Zk (Zp rfl (Zp rfl (Zp rfl (Zp rfl (Zp rfl (Zp rfl (ZB rfl e77))))))) rfl)) ?_;refine WO.w gN rfl (ZL Zja (Zk fh rfl) (hS.Xc k1) (j:=0) rfl (v:= .slice a86 v85.length c87) rfl) ?_;refine WO.w gN rfl (QS Za0 (Zk fh rfl) rfl) ?_;obtain⟨Zw7,ZEA,hL⟩:=bind_some hL;refine WO.w gN rfl (ZR (Zk (ZB rfl (Ze rfl fh)) rfl) (Zk fh rfl) (QA ZEA)) ?_;refine WO.w gN rfl (Ye KG (Zk (Zp rfl (Zp rfl (Zp rfl (ZV rfl (ZB rfl (Ze rfl fh)))))) rfl)) ?_;refine WO.hu gN (Qe hS k0 Y4 (Zk fh rfl) (Zk (Ze rfl fh) rfl) (vs:= [.int .i64 Zw7]) rfl rfl rfl rfl (cs':= [.int .i64 YN.1.ZT,.int .i64 v194,.int .i64 YN.1.name,.int .i64 Zw7]) rfl) ?_;rintro ZNK hS;refine WO.nil ?_;exact YI.Z4 _ hL ⟨_,_,rfl,hS.only (.c k1 (.c k1 (.c k1 (.c k1 (.c k0 (.c k1 (.c k1 (.c k1 (.c k1 (.c k1 (.c k1 (.c k1 (.c k1 (.c k1 (.c k1 .n))))))))))))))),(Zp rfl (Zp rfl (Zp rfl (Zp rfl (Zp rfl (Zp rfl (ZV rfl (ZB rfl (Ze rfl e76))))))))),(Zp rfl (Zp rfl (Zp rfl (Zp rfl (Zp rfl (Zp rfl (ZV rfl (ZB rfl (Ze rfl e77))))))))),(Zp rfl (Zp rfl (Zp rfl (Zp rfl (Zp rfl (Zp rfl (ZV rfl (ZB rfl (Ze rfl e78))))))))),(Zp rfl (Zp rfl (Zp rfl (Zp rfl (Zp rfl (Zp rfl (ZV rfl (ZB rfl (Ze rfl e79))))))))),(Zp rfl (Zp rfl (Zp rfl (Zp rfl (Zp rfl (Zp rfl (ZV rfl (ZB rfl (Ze rfl e80))))))))),(Zp rfl (Zp rfl (Zp rfl (Zp rfl fh)))),(Zp rfl (Zp rfl (Zp rfl (Zp rfl (Zp rfl (Zp rfl (ZV rfl (ZB rfl (Ze rfl e81))))))))),(Zp rfl (Zp rfl (Zp rfl (Zp rfl (Zp rfl (Zp rfl (ZV rfl (ZB rfl (Ze rfl e82))))))))),(Zp rfl (Zp rfl (Zp rfl (Zp rfl (Zp rfl (Zp rfl (ZV rfl (ZB rfl (Ze rfl e84)))))))))⟩
          ·replace hL:=Y3 hc hL;refine WC.skip ?_;exact YI.Z4 _ hL ⟨_,_,rfl,hS.only (.c k1 (.c k1 (.c k1 (.c k1 (.c k0 (.c k1 (.c k1 (.c k1 (.c k1 (.c k1 (.c k1 (.c k1 (.c k1 (.c k1 (.c k1 .n))))))))))))))),(Zp rfl (Zp rfl (Zp rfl (Zp rfl (Zp rfl (Zp rfl e76)))))),(Zp rfl (Zp rfl (Zp rfl (Zp rfl (Zp rfl (Zp rfl e77)))))),(Zp rfl (Zp rfl (Zp rfl (Zp rfl (Zp rfl (Zp rfl e78)))))),(Zp rfl (Zp rfl (Zp rfl (Zp rfl (Zp rfl (Zp rfl e79)))))),(Zp rfl (Zp rfl (Zp rfl (Zp rfl (Zp rfl (Zp rfl e80)))))),(Zp rfl (Zp rfl (Zp rfl (Ze rfl fh)))),(Zp rfl (Zp rfl (Zp rfl (Zp rfl (Zp rfl (Zp rfl e81)))))),(Zp rfl (Zp rfl (Zp rfl (Zp rfl (Zp rfl (Zp rfl e82)))))),(Zp rfl (Zp rfl (Zp rfl (Zp rfl (Zp rfl (Zp rfl e84))))))⟩
        ·skip;simp only [ZC,ZJ,Nat.reduceAdd];refine WC.seq ?_;refine WC.region ?_;refine WO.w gN rfl (Zw (XG rfl)) ?_;refine WO.nil ?_;refine ZX.Z4 ?_;refine WC.seq ?_;refine WC.seq ?_;refine WC.region ?_;refine WO.w gN rfl (Zz (Zk (ZB rfl fh) rfl)) ?_;refine WO.w gN rfl (QS Za0 (Zk fh rfl) rfl) ?_;refine WO.w gN rfl (Zz (XG rfl)) ?_;refine WO.nil ?_;refine ZX.Z4 ?_;refine WC.block ?_;refine WC.loop (WL.lift hL (fun(v203:Int) (s:Fs)=>∃ (Zko:Fr) (ZCk:H),s= ⟨Zko,[],ZCk,none⟩∧Sp wm T h [bx wm ZjO [.int .i64 YN.1.ZT,.int .i64 YN.1.at_,.int .i64 YN.1.name,.int .i64 YN.1.Zx],bx wm b19 [.slice a86 v85.length c87,.slice a89 v88.length c90,.int .i64 v91,.slice a93 v92.length c94],bx wm b37 [.slice a96 Kn.length c97,.slice ZcW v99.length ZcM],bx wm b64 [.slice a47 x40.1.cells.length c49,.slice a50 x40.1.notes.length c52,.int .i64 x40.1.names,.slice a53 x40.1.freed.length c55],bx wm b66 [.slice a56 x40.2.1.uses.length c58,.slice a59 x40.2.1.ways.length c61],bx wm Zwm [.int .u8 (IntKind.wrap .u8 (4 + ZkQ)),.int .u8 Xx.at_,.int .u8 Xx.name,.int .u8 Xx.Zx],UH wm (Ql (Ql Zq)) (a86,c87) v85,UH wm (Ql Zi) (a89,c90) v88,UH wm (Ql (ZO .i64)) (a93,c94) v92,ow wm Z9 a96 Kn.length c97 Kn,ow wm Z9 ZcW v99.length ZcM v99,UH wm (Ql (Ql Zq)) (a47,c49) x40.1.cells,UH wm (Ql Zi) (a50,c52) x40.1.notes,UH wm (Ql (ZO .i64)) (a53,c55) x40.1.freed,ow wm Z9 a56 x40.2.1.uses.length c58 x40.2.1.uses,ow wm Z9 a59 x40.2.1.ways.length c61 x40.2.1.ways] ZCk∧Zko.at 0= .slice a86 v85.length c87∧Zko.at 1= .func (.func 47) #[] [.pointer (some ⟨ZjO,0,none⟩)].toArray∧Zko.at 7= .int .i64 (v85.length:Int)∧Zko.at 8= .int .i64 v203) ⟨_,_,rfl,hS.only (.c k0 (.c k4 (.c k6 (.c k6 (.c k6 (.c k0 (.c k0 (.c k0 (.c k0 (.c k0 (.c k0 (.c k0 (.c k0 (.c k0 (.c k0 (.c k0 .n)))))))))))))))),(ZV rfl (Ze rfl fh)),(ZV rfl fh),(Ze rfl fh),fh⟩ ?_);clear hL hS;rintro Zax v203 s ZuS hL ⟨Zko,ZCk,rfl,hS,ZGT,ZGS,ZGR,e204⟩;dsimp only [Zf5] at hL;refine WC.seq ?_;refine WC.region ?_;refine WO.w gN rfl (ZR (Zk e204 rfl) (Zk ZGR rfl) Uw) ?_;refine WO.nil ?_;refine ZX.Z4 ?_;refine WC.seq ?_;refine WC.Ut (Zk fh rfl) (fun hc=>?_) (fun hc=>?_)
         ·replace hL:=Y2 hc hL;refine WC.skip ?_;refine ZX.Z4 ?_;refine WC.seq ?_;refine WC.block ?_;refine WC.seq ?_;refine WC.region ?_;refine WO.w gN rfl (Zz (Zk (Ze rfl e204) rfl)) ?_;refine WO.w gN rfl (Zw (Zk fh rfl)) ?_;refine WO.nil ?_;refine ZX.Z4 ?_;refine WC.seq ?_;refine WC.region ?_;refine WO.w gN rfl (Zz (Zk (ZB rfl (Ze rfl ZGS)) rfl)) ?_;refine WO.w gN rfl (Zz (Zk (ZV rfl ZGT) rfl)) ?_;refine WO.w gN rfl (Zz (Zk (ZB rfl fh) rfl)) ?_;obtain⟨ZhK,ZzR,hL⟩:=bind_some hL;obtain⟨ZPJ,ZMJ,⟨ZwK,c210⟩,ZBR,ZB8,ZJL,ZB1⟩:=Sl.at_ (hS.fsl k6) ZzR;refine WO.w gN rfl (Yb Za0 Zbu (Zk (Ze rfl fh) rfl) (Zk fh rfl) rfl ZBR ZzR) ?_;have hS:=hS.add (A:=UH wm (Ql Zq) (ZwK,c210) ZhK) ZB1 (fun _ z=>z);refine WO.w gN rfl (ZL ZkI (Zk fh rfl) ZB8 (j:=0) rfl (v:= .slice ZwK ZhK.length c210) rfl) ?_;refine WO.inl gN rfl (Y1.clo (first:= []) (cap:= [.pointer (some ⟨ZjO,0,none⟩)]) (Zk (ZV rfl fh) rfl) ZFn (Zc (Zk fh rfl) Zl) rfl) (WF.begin (args:= [_,_]) (fn:=Try.f47) Kq0 (by exact rfl) Try.ntmps47 (by simp) ?_);simp only [ZC,ZJ,Nat.reduceAdd];refine WC.seq ?_;refine WC.region ?_;refine WO.w gN rfl (Zw (XG rfl)) ?_;refine WO.nil ?_;refine ZX.Z4 ?_;refine WC.seq ?_;refine WC.region ?_;refine WO.w gN rfl (Zz (Zk (ZB rfl fh) rfl)) ?_;refine WO.w gN rfl (ZbW (Zc (Zk (ZB rfl fh) rfl) Zl)) ?_;refine WO.inl gN rfl (Y1.fn ZFm (Zc (Zk (Ze rfl fh) rfl) (Zc (Zk fh rfl) Zl))) (WF.begin (args:= [_,_]) (fn:=Try.f48) Kq0 (by exact rfl) Try.ntmps48 (by simp) ?_);simp only [ZC,ZJ,Nat.reduceAdd];refine WC.seq ?_;refine WC.region ?_;refine WO.w gN rfl (Zw (XG rfl)) ?_;refine WO.nil ?_;refine ZX.Z4 ?_;refine WC.seq ?_;refine WC.region ?_;refine WO.w gN rfl (Zz (Zk (ZB rfl fh) rfl)) ?_;refine WO.w gN rfl (Zz (Zk (ZB rfl fh) rfl)) ?_;refine WO.Znm (r:=r) (fun(Zxb:Int) (v:Value) (ZGx:H)=>v= .int .i64 Zxb∧Sp wm T h [bx wm ZjO [.int .i64 YN.1.ZT,.int .i64 YN.1.at_,.int .i64 YN.1.name,.int .i64 YN.1.Zx],bx wm b19 [.slice a86 v85.length c87,.slice a89 v88.length c90,.int .i64 v91,.slice a93 v92.length c94],bx wm b37 [.slice a96 Kn.length c97,.slice ZcW v99.length ZcM],bx wm b64 [.slice a47 x40.1.cells.length c49,.slice a50 x40.1.notes.length c52,.int .i64 x40.1.names,.slice a53 x40.1.freed.length c55],bx wm b66 [.slice a56 x40.2.1.uses.length c58,.slice a59 x40.2.1.ways.length c61],bx wm Zwm [.int .u8 (IntKind.wrap .u8 (4 + ZkQ)),.int .u8 Xx.at_,.int .u8 Xx.name,.int .u8 Xx.Zx],UH wm (Ql Zq) (ZwK,c210) ZhK,UH wm (Ql (Ql Zq)) (a86,c87) v85,UH wm (Ql Zi) (a89,c90) v88,UH wm (Ql (ZO .i64)) (a93,c94) v92,ow wm Z9 a96 Kn.length c97 Kn,ow wm Z9 ZcW v99.length ZcM v99,UH wm (Ql (Ql Zq)) (a47,c49) x40.1.cells,UH wm (Ql Zi) (a50,c52) x40.1.notes,UH wm (Ql (ZO .i64)) (a53,c55) x40.1.freed,ow wm Z9 a56 x40.2.1.uses.length c58 x40.2.1.uses,ow wm Z9 a59 x40.2.1.ways.length c61 x40.2.1.ways] ZGx) (K9 F v83 v85 v88 v91 v92 Kn v99 Xg YN v203 Zax) gN rfl (Y1.fn ZFd (Zc (Zk (Ze rfl fh) rfl) (Zc (Zk fh rfl) Zl))) ?_ (WF.begin (args:= [_,_]) (fn:=Try.f81) Kq0 (by exact rfl) Try.ntmps81 (by simp) ?_)
          ·clear hL hS;rintro Zxb v ZGx hL ⟨rfl,hS⟩;dsimp only [K9] at hL;refine WO.w gN rfl (ZR (Zk fh rfl) (XG rfl) Ux) ?_;refine WO.w gN rfl (Zw (Zk fh rfl)) ?_;refine WO.nil ?_;refine ZX.Z4 ?_;refine WC.ret ?_;refine ZW.XY rfl (Zy (Zk fh rfl) Zm) ?_;refine WO.w gN rfl (Zw (Zk fh rfl)) ?_;refine WO.nil ?_;refine ZX.Z4 ?_;refine WC.ret ?_;refine ZW.XY rfl (Zy (Zk fh rfl) Zm) ?_;refine WO.nil ?_;refine ZX.Z4 ?_;refine WC.Ut (Zk fh rfl) (fun hc=>?_) (fun hc=>?_)
           ·replace hL:=Y2 hc hL;refine WC.seq ?_;refine WC.region ?_;refine WO.w gN rfl (Zz (Zk (ZV rfl (ZB rfl fh)) rfl)) ?_;refine WO.w gN rfl (Zw (Zk fh rfl)) ?_;refine WO.nil ?_;refine ZX.Z4 ?_;refine WC.ret ?_;refine Qh.ret ?_;refine ZX.ret ?_;refine Yk.ret ?_;refine Qh.ret ?_;refine ZX.ret ?_;exact ZW.XY rfl (Zy (Zk fh rfl) Zm) ⟨_,hL,⟨rfl,hS.only (.c k1 (.c k1 (.c k1 (.c k1 (.c k1 (.c k0 (.c k1 (.c k1 (.c k1 (.c k1 (.c k1 (.c k1 (.c k1 (.c k1 (.c k1 (.c k1 .n))))))))))))))))⟩⟩
           ·replace hL:=Y3 hc hL;refine WC.skip ?_;refine Qh.Z4 ?_;refine ZX.Z4 ?_;refine WC.region ?_;refine WO.w gN rfl (ZR (Zk (Zp rfl (Ze rfl e204)) rfl) (XG rfl) KR) ?_;refine WO.w gN rfl (Zz (Zk fh rfl)) ?_;refine WO.nil ?_;exact Yk.Z4 (ZuS _ _ hL ⟨_,_,rfl,hS.only (.c k0 (.c k0 (.c k0 (.c k0 (.c k0 (.c k0 (.c k1 (.c k1 (.c k1 (.c k1 (.c k1 (.c k1 (.c k1 (.c k1 (.c k1 (.c k1 .n)))))))))))))))),(Zp rfl (ZB rfl (Ze rfl ZGT))),(Zp rfl (ZB rfl (Ze rfl ZGS))),(Zp rfl (ZB rfl (Ze rfl ZGR))),fh⟩)
          ·skip;simp only [ZC,ZJ,Nat.reduceAdd];refine WC.seq ?_;refine WC.region ?_;refine WO.w gN rfl (Zw (XG rfl)) ?_;refine WO.nil ?_;refine ZX.Z4 ?_;refine WC.seq ?_;refine WC.seq ?_;refine WC.region ?_;refine WO.w gN rfl (Zz (Zk (ZB rfl fh) rfl)) ?_;refine WO.w gN rfl (QS Zgv (Zk fh rfl) rfl) ?_;refine WO.w gN rfl (Zz (XG rfl)) ?_;refine WO.nil ?_;refine ZX.Z4 ?_;refine WC.block ?_;refine WC.loop (WL.lift hL (fun(ZoO:Int) (s:Fs)=>∃ (Zkn:Fr) (ZCj:H),s= ⟨Zkn,[],ZCj,none⟩∧Sp wm T h [bx wm ZjO [.int .i64 YN.1.ZT,.int .i64 YN.1.at_,.int .i64 YN.1.name,.int .i64 YN.1.Zx],bx wm b19 [.slice a86 v85.length c87,.slice a89 v88.length c90,.int .i64 v91,.slice a93 v92.length c94],bx wm b37 [.slice a96 Kn.length c97,.slice ZcW v99.length ZcM],bx wm b64 [.slice a47 x40.1.cells.length c49,.slice a50 x40.1.notes.length c52,.int .i64 x40.1.names,.slice a53 x40.1.freed.length c55],bx wm b66 [.slice a56 x40.2.1.uses.length c58,.slice a59 x40.2.1.ways.length c61],bx wm Zwm [.int .u8 (IntKind.wrap .u8 (4 + ZkQ)),.int .u8 Xx.at_,.int .u8 Xx.name,.int .u8 Xx.Zx],UH wm (Ql Zq) (ZwK,c210) ZhK,UH wm (Ql (Ql Zq)) (a86,c87) v85,UH wm (Ql Zi) (a89,c90) v88,UH wm (Ql (ZO .i64)) (a93,c94) v92,ow wm Z9 a96 Kn.length c97 Kn,ow wm Z9 ZcW v99.length ZcM v99,UH wm (Ql (Ql Zq)) (a47,c49) x40.1.cells,UH wm (Ql Zi) (a50,c52) x40.1.notes,UH wm (Ql (ZO .i64)) (a53,c55) x40.1.freed,ow wm Z9 a56 x40.2.1.uses.length c58 x40.2.1.uses,ow wm Z9 a59 x40.2.1.ways.length c61 x40.2.1.ways] ZCj∧Zkn.at 0= .slice ZwK ZhK.length c210∧Zkn.at 1= .func (.func 49) #[] [.pointer (some ⟨ZjO,0,none⟩)].toArray∧Zkn.at 7= .int .i64 (ZhK.length:Int)∧Zkn.at 8= .int .i64 ZoO) ⟨_,_,rfl,hS.only (.c k1 (.c k1 (.c k1 (.c k1 (.c k1 (.c k1 (.c k0 (.c k0 (.c k0 (.c k0 (.c k0 (.c k0 (.c k0 (.c k0 (.c k0 (.c k0 (.c k0 .n))))))))))))))))),(ZV rfl (Ze rfl fh)),(ZV rfl fh),(Ze rfl fh),fh⟩ ?_);clear hL hS;rintro ZqK ZoO s ZuR hL ⟨Zkn,ZCj,rfl,hS,e216,e217,ZGQ,e220⟩;dsimp only [Zf4] at hL;refine WC.seq ?_;refine WC.region ?_;refine WO.w gN rfl (ZR (Zk e220 rfl) (Zk ZGQ rfl) Uw) ?_;refine WO.nil ?_;refine ZX.Z4 ?_;refine WC.seq ?_;refine WC.Ut (Zk fh rfl) (fun hc=>?_) (fun hc=>?_)
           ·replace hL:=Y2 hc hL;refine WC.skip ?_;refine ZX.Z4 ?_;refine WC.seq ?_;refine WC.block ?_;refine WC.seq ?_;refine WC.region ?_;refine WO.w gN rfl (Zz (Zk (Ze rfl e220) rfl)) ?_;refine WO.w gN rfl (Zw (Zk fh rfl)) ?_;refine WO.nil ?_;refine ZX.Z4 ?_;refine WC.seq ?_;refine WC.region ?_;refine WO.w gN rfl (Zz (Zk (ZB rfl (Ze rfl e217)) rfl)) ?_;refine WO.w gN rfl (Zz (Zk (ZV rfl e216) rfl)) ?_;refine WO.w gN rfl (Zz (Zk (ZB rfl fh) rfl)) ?_;obtain⟨Zb5,ZzQ,hL⟩:=bind_some hL;obtain⟨ZPI,ZMI,_,ZBQ,ZB7,ZJK,ZJA⟩:=Sl.at_ (hS.fsl k6) ZzQ;refine WO.w gN rfl (Yb Zgv JF (Zk (Ze rfl fh) rfl) (Zk fh rfl) rfl ZBQ ZzQ) ?_;refine WO.w gN rfl (Yo Zg0 JF (Zk fh rfl) ZB7 (j:=0) rfl rfl (ws:= [.int .i64 Zb5.name,.bool Zb5.root,.int .i64 Zb5.from_,.int .i64 Zb5.has,.int .i64 Zb5.out,.bool Zb5.use]) rfl) ?_;refine WO.inl gN rfl (Y1.clo (first:= []) (cap:= [.pointer (some ⟨ZjO,0,none⟩)]) (Zk (ZV rfl fh) rfl) ZFl (Zc (Zk fh rfl) Zl) rfl) (WF.begin (args:= [_,_]) (fn:=Try.f49) Kq0 (by exact rfl) Try.ntmps49 (by simp) ?_);simp only [ZC,ZJ,Nat.reduceAdd];refine WC.seq ?_;refine WC.region ?_;refine WO.hn gN rfl (Zm0 hS (Zk (Ze rfl fh) rfl) (vs:= [.int .i64 Zb5.name,.bool Zb5.root,.int .i64 Zb5.from_,.int .i64 Zb5.has,.int .i64 Zb5.out,.bool Zb5.use]) rfl) ?_;rintro _ ZNJ ⟨ZPH,ZLX,rfl,hS⟩;refine WO.w gN rfl (Zw (XG rfl)) ?_;refine WO.nil ?_;refine ZX.Z4 ?_;refine WC.seq ?_;refine WC.region ?_;refine WO.w gN rfl (Ye Zrd (Zk (Ze rfl fh) rfl)) ?_;refine WO.w gN rfl (ZL Xk (Zk fh rfl) (hS.Xc k0) (j:=0) rfl (v:= .int .i64 Zb5.name) rfl) ?_;refine WO.w gN rfl (Ye ZbO (Zk (ZV rfl fh) rfl)) ?_;refine WO.w gN rfl (ZL Xk (Zk fh rfl) (hS.Xc k1) (j:=2) rfl (v:= .int .i64 YN.1.name) rfl) ?_;refine WO.w gN rfl (ZR (Zk (ZB rfl fh) rfl) (Zk fh rfl) Qu) ?_;refine WO.w gN rfl (Zz (Zk fh rfl)) ?_;refine WO.gv (Zg.yes rfl rfl rfl fh) rfl (fun hg=>(Ye Zrc (Zk (ZV rfl (ZB rfl (Ze rfl fh))) rfl))) ?_;refine WO.gv (Zg.yes rfl rfl rfl (Ze rfl fh)) rfl (fun hg=>(ZL ZHi (Xm fh rfl hg) (hS.Xc k0) (j:=1) rfl (v:= .bool Zb5.root) rfl)) ?_;refine WO.w gN rfl (QM (Zk (ZB rfl fh) rfl) (Zao fh) (XG rfl)) ?_;refine WO.w gN rfl (Zw (Zk fh rfl)) ?_;refine WO.nil ?_;refine ZX.Z4 ?_;refine WC.ret ?_;refine ZW.XY rfl (Zy (Zk fh rfl) Zm) ?_;refine WO.nil ?_;refine ZX.Z4 ?_;refine WC.Ut (Zk fh rfl) (fun hc=>?_) (fun hc=>?_)
            ·replace hL:=Y2 hc hL;refine WC.seq ?_;refine WC.region ?_;refine WO.w gN rfl (Zz (Zk (ZV rfl (ZB rfl fh)) rfl)) ?_;refine WO.w gN rfl (Zw (Zk fh rfl)) ?_;refine WO.nil ?_;refine ZX.Z4 ?_;refine WC.ret ?_;refine Qh.ret ?_;refine ZX.ret ?_;refine Yk.ret ?_;refine Qh.ret ?_;refine ZX.ret ?_;exact ZW.XY rfl (Zy (Zk fh rfl) Zm) ⟨_,hL,⟨rfl,hS.only (.c k1 (.c k1 (.c k1 (.c k1 (.c k1 (.c k1 (.c k1 (.c k1 (.c k1 (.c k1 (.c k1 (.c k1 (.c k1 (.c k1 (.c k1 (.c k1 (.c k1 .n)))))))))))))))))⟩⟩
            ·replace hL:=Y3 hc hL;refine WC.skip ?_;refine Qh.Z4 ?_;refine ZX.Z4 ?_;refine WC.region ?_;refine WO.w gN rfl (ZR (Zk (Zp rfl (Ze rfl e220)) rfl) (XG rfl) KR) ?_;refine WO.w gN rfl (Zz (Zk fh rfl)) ?_;refine WO.nil ?_;exact Yk.Z4 (ZuR _ _ hL ⟨_,_,rfl,hS.only (.c k1 (.c k1 (.c k1 (.c k1 (.c k1 (.c k1 (.c k1 (.c k1 (.c k1 (.c k1 (.c k1 (.c k1 (.c k1 (.c k1 (.c k1 (.c k1 (.c k1 .n))))))))))))))))),(Zp rfl (ZB rfl (Ze rfl e216))),(Zp rfl (ZB rfl (Ze rfl e217))),(Zp rfl (ZB rfl (Ze rfl ZGQ))),fh⟩)
           ·replace hL:=Y3 hc hL;refine WC.exit ?_;refine ZX.exit ?_;refine Yk.exit ?_;refine Qh.here ?_;refine ZX.Z4 ?_;refine WC.seq ?_;refine WC.region ?_;refine WO.w gN rfl (Zw (XG rfl)) ?_;refine WO.nil ?_;refine ZX.Z4 ?_;refine WC.ret ?_;exact ZW.XY rfl (Zy (Zk fh rfl) Zm) ⟨_,hL,⟨rfl,hS.only (.c k0 (.c k0 (.c k0 (.c k0 (.c k0 (.c k0 (.c k0 (.c k0 (.c k0 (.c k0 (.c k0 (.c k0 (.c k0 (.c k0 (.c k0 (.c k0 (.c k0 .n)))))))))))))))))⟩⟩
         ·replace hL:=Y3 hc hL;refine WC.exit ?_;refine ZX.exit ?_;refine Yk.exit ?_;refine Qh.here ?_;refine ZX.Z4 ?_;refine WC.seq ?_;refine WC.region ?_;refine WO.w gN rfl (Zw (XG rfl)) ?_;refine WO.nil ?_;refine ZX.Z4 ?_;refine WC.ret ?_;exact ZW.XY rfl (Zy (Zk fh rfl) Zm) ⟨_,hL,⟨rfl,hS.only (.c k1 (.c k1 (.c k1 (.c k1 (.c k1 (.c k0 (.c k0 (.c k0 (.c k0 (.c k0 (.c k0 (.c k0 (.c k0 (.c k0 (.c k0 (.c k0 .n))))))))))))))))⟩⟩
       ·replace hL:=Y3 hc hL;refine WC.skip ?_;exact YI.Z4 _ hL ⟨_,_,rfl,hS.only (.c k5 (.c k7 (.c k7 (.c k7 (.c k0 (.c k1 (.c k1 (.c k1 (.c k1 (.c k1 (.c k1 (.c k1 (.c k1 (.c k1 (.c k1 .n))))))))))))))),(Zp rfl (Zp rfl (Zp rfl (ZV rfl (Ze rfl e76))))),(Zp rfl (Zp rfl (Zp rfl (ZV rfl (Ze rfl e77))))),(Zp rfl (Zp rfl (Zp rfl (ZV rfl (Ze rfl e78))))),(Zp rfl (Zp rfl (Zp rfl (ZV rfl (Ze rfl e79))))),(Zp rfl (Zp rfl (Zp rfl (ZV rfl (Ze rfl e80))))),(ZV rfl (ZB rfl fh)),(Zp rfl (Zp rfl (Zp rfl (ZV rfl (Ze rfl e81))))),(Zp rfl (Zp rfl (Zp rfl (ZV rfl (Ze rfl e82))))),(Zp rfl (Zp rfl (Zp rfl (ZV rfl (Ze rfl e84)))))⟩
   ·replace hL:=Y3 hc hL;refine WC.exit ?_;refine ZX.exit ?_;refine Yk.exit ?_;refine Qh.here ?_;refine ZX.Z4 ?_;refine WC.seq ?_;refine WC.region ?_;refine WO.w gN rfl (Yo Uv YV (Zk (Ze rfl e77) rfl) (hS.Xc k3) (j:=0) rfl rfl (ws:= [.slice a86 v85.length c87,.slice a89 v88.length c90,.int .i64 v91,.slice a93 v92.length c94]) rfl) ?_;refine WO.w gN rfl (Yo Uu YZ (Zk (ZB rfl e78) rfl) (hS.Xc k6) (j:=0) rfl rfl (ws:= [.slice a96 Kn.length c97,.slice ZcW v99.length ZcM]) rfl) ?_;refine WO.w gN rfl (Zz (Zk (ZB rfl (Ze rfl e76)) rfl)) ?_;obtain⟨JB,ZEz,hL⟩:=bind_some hL;refine WO.cl gN rfl (Y1.fn Zz9 (Zc (Zk (ZB rfl fh) rfl) (Zc (Zk (Ze rfl fh) rfl) (Zc (Zk fh rfl) Zl)))) hS (.c k4 (.c k4 .n)) (fun g' hz hf hO=>ZvR (by rw [hz];exact hS.hw) ((hS.fsl k0).mono hf) ((hS.fsl k1).mono hf) ((hS.fsl k2).mono hf) ((hS.sl Zlg).mono hf) hO ZEz) ?_;rintro _ ZNI _ ⟨a228,ZC3,ZDg,c233,a234,c236,Zqp,n238,Zp9,ZwJ,n241,Zwh,rfl,rfl⟩ hS;simp only [List.cons_append,List.nil_append] at hS;obtain rfl:=hS.on k3;obtain rfl:=hS.on k4;refine WO.w gN rfl (Zz (Zk fh rfl)) ?_;refine WO.w gN rfl (YF (Zk fh rfl) (v:= .agg [.slice a228 JB.1.cells.length ZC3,.slice ZDg JB.1.notes.length c233,.int .i64 JB.1.names,.slice a234 JB.1.freed.length c236].toArray) rfl) ?_;refine WO.w gN rfl (YF (Zk (Ze rfl fh) rfl) (v:= .agg [.slice Zqp JB.2.1.uses.length Zp9,.slice ZwJ JB.2.1.ways.length Zwh].toArray) rfl) ?_;refine WO.w gN rfl (YF (Zk (ZB rfl fh) rfl) (v:= .bool JB.2.2) rfl) ?_;refine WO.hn gN rfl (W9 hS ZdH (vs:= [.slice none 0 0,.slice none 0 0,.int .i64 0,.slice none 0 0]) rfl) ?_;rintro _ ZNH ⟨ZPG,ZLW,rfl,hS⟩;refine WO.hn gN rfl (W9 hS Zfh (vs:= [.slice none 0 0,.slice none 0 0]) rfl) ?_;rintro _ ZNG ⟨ZG9,ZLV,rfl,hS⟩;refine WO.hu gN (Qe hS k1 YV (Zk (Ze rfl fh) rfl) (Zk (ZV rfl fh) rfl) (vs:= [.slice a228 JB.1.cells.length ZC3,.slice ZDg JB.1.notes.length c233,.int .i64 JB.1.names,.slice a234 JB.1.freed.length c236]) rfl rfl rfl rfl (cs':= [.slice a228 JB.1.cells.length ZC3,.slice ZDg JB.1.notes.length c233,.int .i64 JB.1.names,.slice a234 JB.1.freed.length c236]) rfl) ?_;rintro ZNF hS;refine WO.hu gN (Qe hS k1 YZ (Zk fh rfl) (Zk (ZB rfl (Ze rfl fh)) rfl) (vs:= [.slice Zqp JB.2.1.uses.length Zp9,.slice ZwJ JB.2.1.ways.length Zwh]) rfl rfl rfl rfl (cs':= [.slice Zqp JB.2.1.uses.length Zp9,.slice ZwJ JB.2.1.ways.length Zwh]) rfl) ?_;rintro ZNE hS;refine WO.w gN rfl (Zw (Zk (ZB rfl fh) rfl)) ?_;refine WO.nil ?_;refine ZX.Z4 ?_;refine WC.seq ?_;refine WC.seq ?_;refine WC.region ?_;refine WO.w gN rfl (Zz (Zk fh rfl)) ?_;refine WO.w gN rfl (Zag (Zk fh rfl)) ?_;refine WO.w gN rfl (Zz (Zk fh rfl)) ?_;refine WO.gv (Zg.no rfl rfl rfl fh) rfl (fun hg=>(Ye ZlA (Zk (Zp rfl (ZV rfl (ZB rfl (Ze rfl e79)))) rfl))) ?_;refine WO.gv (Zg.no rfl rfl rfl (Ze rfl fh)) rfl (fun hg=>(ZL Zoy (Xm fh rfl hg) (hS.Xc k12) (j:=3) rfl (v:= .slice a53 x40.1.freed.length c55) rfl)) ?_;refine WO.gv (Zg.no rfl rfl rfl (ZB rfl fh)) rfl (fun hg=>(Ye ZlA (Zk (ZV rfl (ZB rfl (Ze rfl fh))) rfl))) ?_;refine WO.gv (Zg.no rfl rfl rfl (ZB rfl (Ze rfl fh))) rfl (fun hg=>(ZL Zoy (Xm fh rfl hg) (hS.Xc k1) (j:=3) rfl (v:= .slice a234 JB.1.freed.length c236) rfl)) ?_;obtain⟨ZDO,ZEy,hL⟩:=X7 hL;refine WO.gcp (Zg.no rfl rfl rfl (ZV rfl fh)) rfl (fun hg=>(Y1.fn ZFq (Zc (Xm (ZB rfl fh) rfl hg) (Zc (Xm fh rfl hg) Zl)))) (fun hg=>ZCJ (hS.ZnG (.s k15)) (hS.ZnG k4) (ZEy hg)) ?_;refine WO.gv (Zg.no rfl rfl rfl (ZV rfl (Ze rfl fh))) rfl (fun hg=>(Zag (Xm fh rfl hg))) ?_;refine WO.w gN rfl (ZkF (Zk (ZV rfl (ZB rfl fh)) rfl) (XG rfl) (Zao fh)) ?_;refine WO.w gN rfl (Zz (Zk fh rfl)) ?_;refine WO.gv (Zg.no rfl rfl rfl fh) rfl (fun hg=>(Ye ZbN (Zk (Zp rfl (Zp rfl (ZV rfl (ZB rfl (Ze rfl e80))))) rfl))) ?_;refine WO.gv (Zg.no rfl rfl rfl (Ze rfl fh)) rfl (fun hg=>(ZL Zi8 (Xm fh rfl hg) (hS.Xc k13) (j:=0) rfl (v:= .slice a56 x40.2.1.uses.length c58) rfl)) ?_;refine WO.gv (Zg.no rfl rfl rfl (ZB rfl fh)) rfl (fun hg=>(QS Qj (Xm fh rfl hg) rfl)) ?_;refine WO.gv (Zg.no rfl rfl rfl (ZB rfl (Ze rfl fh))) rfl (fun hg=>(Ye ZbN (Zk (Zp rfl (ZV rfl (ZB rfl (Ze rfl fh)))) rfl))) ?_;refine WO.gv (Zg.no rfl rfl rfl (ZV rfl fh)) rfl (fun hg=>(ZL Zi8 (Xm fh rfl hg) (hS.Xc k0) (j:=0) rfl (v:= .slice Zqp JB.2.1.uses.length Zp9) rfl)) ?_;refine WO.gv (Zg.no rfl rfl rfl (ZV rfl (Ze rfl fh))) rfl (fun hg=>(QS Qj (Xm fh rfl hg) rfl)) ?_;refine WO.gv (Zg.no rfl rfl rfl (ZV rfl (ZB rfl fh))) rfl (fun hg=>(ZR (Xm (ZB rfl (Ze rfl fh)) rfl hg) (Xm fh rfl hg) Zbn)) ?_;refine WO.w gN rfl (ZkF (Zk (ZV rfl (ZB rfl (Ze rfl fh))) rfl) (XG rfl) (Zao fh)) ?_;refine WO.nil ?_;refine ZX.Z4 ?_;refine WC.Ut (Zk fh rfl) (fun hc=>?_) (fun hc=>?_)
    ·replace hL:=Y2 hc hL;refine WC.seq ?_;refine WC.region ?_;refine WO.w gN rfl (Zw (XG rfl)) ?_;refine WO.nil ?_;refine ZX.Z4 ?_;refine WC.ret ?_;refine ZX.ret ?_;have hr:=Oi0 hL;subst hr;exact ZW.XY rfl (Zy (Zk fh rfl) Zm) ⟨_,⟨rfl,rfl⟩,hT ▸ hS.only .n⟩
    ·replace hL:=Y3 hc hL;refine WC.skip ?_;refine ZX.Z4 ?_;refine WC.seq ?_;refine WC.seq ?_;refine WC.region ?_;refine WO.w gN rfl (Ye ZbN (Zk (Zp rfl (Zp rfl (Zp rfl (ZV rfl (ZB rfl (Ze rfl e80)))))) rfl)) ?_;refine WO.w gN rfl (ZL Zi8 (Zk fh rfl) (hS.Xc k13) (j:=0) rfl (v:= .slice a56 x40.2.1.uses.length c58) rfl) ?_;refine WO.w gN rfl (QS Qj (Zk fh rfl) rfl) ?_;refine WO.w gN rfl (Zz (XG rfl)) ?_;refine WO.nil ?_;refine ZX.Z4 ?_;refine WC.block ?_;refine WC.loop (WL.lift hL (fun(ZrW:Int) (s:Fs)=>∃ (Zkm:Fr) (ZCi:H),s= ⟨Zkm,[],ZCi,none⟩∧Sp wm T h [bx wm ZG9 [.slice Zqp JB.2.1.uses.length Zp9,.slice ZwJ JB.2.1.ways.length Zwh],ow wm Z9 a56 x40.2.1.uses.length c58 x40.2.1.uses,ow wm Z9 Zqp JB.2.1.uses.length Zp9 JB.2.1.uses,ow wm Z9 ZwJ JB.2.1.ways.length Zwh JB.2.1.ways] ZCi∧Zkm.at 23= .pointer (some ⟨ZG9,0,none⟩)∧Zkm.at 165= .slice a56 x40.2.1.uses.length c58∧Zkm.at 166= .int .i64 (x40.2.1.uses.length:Int)∧Zkm.at 167= .int .i64 ZrW) ⟨_,_,rfl,hS.only (.c k0 (.c (.s k15) (.c k4 (.c k4 .n)))),(Zp rfl (Zp rfl (Zp rfl fh))),(ZB rfl fh),(Ze rfl fh),fh⟩ ?_);clear hL hS;rintro ZqJ ZrW s ZuQ hL ⟨Zkm,ZCi,rfl,hS,e254,ZGP,ZGO,e258⟩;dsimp only [ZlX] at hL;refine WC.seq ?_;refine WC.region ?_;refine WO.w gN rfl (ZR (Zk e258 rfl) (Zk ZGO rfl) Uw) ?_;refine WO.nil ?_;refine ZX.Z4 ?_;refine WC.seq ?_;refine WC.Ut (Zk fh rfl) (fun hc=>?_) (fun hc=>?_)
     ·replace hL:=Y2 hc hL;refine WC.skip ?_;refine ZX.Z4 ?_;refine WC.seq ?_;refine WC.block ?_;refine WC.seq ?_;refine WC.region ?_;obtain⟨Zjn,ZzP,hL⟩:=bind_some hL;obtain⟨ZPE,ZMH,_,ZBP,ZB6,ZJz⟩:=Src.at_ (hS.Jv k1) ZzP;refine WO.w gN rfl (Yb Qj YU (Zk (Ze rfl ZGP) rfl) (Zk (Ze rfl e258) rfl) rfl ZBP ZzP) ?_;refine WO.w gN rfl (Yo ZcR YU (Zk fh rfl) ZB6 (j:=0) rfl rfl (ws:= [.int .i64 Zjn.at_,.int .i64 Zjn.name]) rfl) ?_;refine WO.hn gN rfl (W9 hS ZaM (vs:= [.int .i64 0,.int .i64 0]) rfl) ?_;rintro _ ZND ⟨ZPD,ZLU,rfl,hS⟩;refine WO.hu gN (Qe hS k0 YU (Zk fh rfl) (Zk (Ze rfl fh) rfl) (vs:= [.int .i64 Zjn.at_,.int .i64 Zjn.name]) rfl rfl rfl rfl (cs':= [.int .i64 Zjn.at_,.int .i64 Zjn.name]) rfl) ?_;rintro ZNC hS;refine WO.nil ?_;refine ZX.Z4 ?_;refine WC.seq ?_;refine WC.region ?_;refine WO.w gN rfl (Ye ZbN (Zk (ZV rfl e254) rfl)) ?_;refine WO.w gN rfl (ZL Zi8 (Zk fh rfl) (hS.Xc k1) (j:=0) rfl (v:= .slice Zqp JB.2.1.uses.length Zp9) rfl) ?_;refine WO.w gN rfl (Yo ZcR YU (Zk (ZB rfl fh) rfl) (hS.Xc k0) (j:=0) rfl rfl (ws:= [.int .i64 Zjn.at_,.int .i64 Zjn.name]) rfl) ?_;obtain⟨ZDM,ZEx,hL⟩:=bind_some hL;refine WO.cp gN rfl (Y1.fn Zq1 (Zc (Zk (Ze rfl fh) rfl) (Zc (Zk fh rfl) Zl))) (ZlQ (hS.ord k3) ZEx) ?_;refine WO.w gN rfl (Zag (Zk fh rfl)) ?_;refine WO.nil ?_;refine ZX.Z4 ?_;refine WC.Ut (Zk fh rfl) (fun hc=>?_) (fun hc=>?_)
      ·replace hL:=Y2 hc hL;refine WC.seq ?_;refine WC.region ?_;refine WO.w gN rfl (Zw (XG rfl)) ?_;refine WO.nil ?_;refine ZX.Z4 ?_;refine WC.ret ?_;refine Qh.ret ?_;refine ZX.ret ?_;refine Yk.ret ?_;refine Qh.ret ?_;refine ZX.ret ?_;have hr:=Oi0 hL;subst hr;exact ZW.XY rfl (Zy (Zk fh rfl) Zm) ⟨_,⟨rfl,rfl⟩,hT ▸ hS.only .n⟩
      ·replace hL:=Y3 hc hL;refine WC.skip ?_;refine Qh.Z4 ?_;refine ZX.Z4 ?_;refine WC.region ?_;refine WO.w gN rfl (ZR (Zk (Zp rfl (Ze rfl e258)) rfl) (XG rfl) KR) ?_;refine WO.w gN rfl (Zz (Zk fh rfl)) ?_;refine WO.nil ?_;exact Yk.Z4 (ZuQ _ _ hL ⟨_,_,rfl,hS.only (.c k1 (.c k1 (.c k1 (.c k1 .n)))),(Zp rfl (ZB rfl (Ze rfl e254))),(Zp rfl (ZB rfl (Ze rfl ZGP))),(Zp rfl (ZB rfl (Ze rfl ZGO))),fh⟩)
     ·replace hL:=Y3 hc hL;refine WC.exit ?_;refine ZX.exit ?_;refine Yk.exit ?_;refine Qh.here ?_;refine ZX.Z4 ?_;refine WC.seq ?_;refine WC.region ?_;obtain⟨ZDL,ZEw,hL⟩:=bind_some hL;refine WO.cp gN rfl (Y1.fn ZFs Zl) (ZCL ZEw) ?_;refine WO.w gN rfl (Zw (Zk fh rfl)) ?_;refine WO.nil ?_;refine ZX.Z4 ?_;refine WC.ret ?_;have hr:=Oi0 hL;subst hr;exact ZW.XY rfl (Zy (Zk fh rfl) Zm) ⟨_,⟨rfl,rfl⟩,hT ▸ hS.only .n⟩
theorem ZCO {F:Nat} {h:H} {p0:Int} {p1 p2:(List Uz)} {p3:(List Int)} {Yz:Option Addr} {Yy:Nat} {Zdz:Option Addr} {Zdy:Nat} {ZgD:Option Addr} {ZgC:Nat} {r:Bool} (Jd:Sl Zo3 h.size h Yz Yy p1) (ZfH:Sl Zo3 h.size h Zdz Zdy p2) (Zlg:Sl (ZO .u8) h.size h ZgD ZgC p3) (hL:ZsL F p0 p1 p2 p3=some r):Pure XX 10 #[.int .u8 p0,.slice Yz p1.length Yy,.slice Zdz p2.length Zdy,.slice ZgD p3.length ZgC] h (.bool r):=
 WR.QO rfl (ZCN (Nat.le_refl _) Jd ZfH Zlg hL)
end Go.Proofs.Ytekpjgmhkkjhgaa
end
end
section
end
section
namespace Go.Proofs.Ytekpjgmhkkjhgaa
abbrev CV:=Int ->Option Za
def YB (cv:CV) (m:Int) (o:Option Za):CV:=fun a=>if a=m then o else cv a
def Qf:Option Za ->Int | some c=>c.out | none=>0
def Jy:Option Za ->Nat | some c=>if c.root=true then 1 else 0 | none=>0
def Wu (a:Int):Option Za ->Int | some c=>if c.from_=a then c.has else 0 | none=>0
def Wm (a:Int) (x:Zd):Int:=if(x.kind=1∧x.via=a)∨(x.kind=2∧x.Zx=a) then x.w else 0
def YT (a:Int) (x:Zd):Int:=if x.kind=3∧x.Zx=a then 16 else 0
def YQ (f:Zd ->Int):List Zd ->Int | []=>0 | x::l=>f x + YQ f l
def Ko (f:Nat ->Int):Nat ->Int | 0=>0 | k + 1=>Ko f k + f k
def J6:List Zd ->Nat | []=>0 | x::l=>(if x.kind=3 then 1 else 0) + J6 l
def Jl (M:Nat) (cv:CV) (ns:List Zd) (a:Int):Int:=Ko (fun m=>Wu a (cv m)) M + YQ (Wm a) ns
def Uf (cv:CV) (ns:List Zd) (a:Int):Int:=Qf (cv a) + YQ (YT a) ns
theorem Xy (f:Zd ->Int) (l r:List Zd):YQ f (l ++ r)=YQ f l + YQ f r:=by
 induction l with
 | nil=>simp [YQ]
 | cons x l ih=>simp only [List.cons_append,YQ,ih];omega
theorem Zbi (l r:List Zd):J6 (l ++ r)=J6 l + J6 r:=by
 induction l with
 | nil=>simp [J6]
 | cons x l ih=>simp only [List.cons_append,J6,ih];omega
theorem QB (f:Zd ->Int) (x:Zd):YQ f [x]=f x:=by simp [YQ]
theorem ZeZ (x:Zd):J6 [x]=if x.kind=3 then 1 else 0:=by simp [J6]
theorem Zaq {f:Zd ->Int} {l:List Zd} (h:∀ x ∈ l,0 <=f x):0 <=YQ f l:=by
 induction l with
 | nil=>simp [YQ]
 | cons x l ih=>
   have:=h x (by simp);have:=ih fun y hy=>h y (by simp [hy])
   simp only [YQ];omega
theorem Zxh {f:Zd ->Int} {l:List Zd} (h:∀ x ∈ l,0 <=f x) {x:Zd} (hx:x ∈ l):f x <=YQ f l:=by
 induction l with
 | nil=>simp at hx
 | cons y l ih=>
   have h1:=h y (by simp);have h2:=Zaq fun z hz=>h z (List.mem_cons_of_mem _ hz)
   simp only [YQ];rcases List.mem_cons.1 hx with rfl | hx
   ·omega
   ·have:=ih (fun z hz=>h z (List.mem_cons_of_mem _ hz)) hx;omega
theorem Zfk {f:Zd ->Int} {l r:List Zd} (h:l.Perm r):YQ f l=YQ f r:=by
 induction h with
 | nil=>rfl
 | cons x _ ih=>simp only [YQ,ih]
 | swap x y l=>simp only [YQ];omega
 | trans _ _ i1 i2=>exact i1.trans i2
theorem ZsT {l r:List Zd} (h:l.Perm r):J6 l=J6 r:=by
 induction h with
 | nil=>rfl
 | cons x _ ih=>simp only [J6,ih]
 | swap x y l=>simp only [J6];omega
 | trans _ _ i1 i2=>exact i1.trans i2
theorem Zb7 {f:Nat ->Int} {M:Nat} (h:∀ m,m < M ->0 <=f m):0 <=Ko f M:=by
 induction M with
 | zero=>simp [Ko]
 | succ M ih=>
   have:=h M (by omega);have:=ih fun m hm=>h m (by omega)
   simp only [Ko];omega
theorem Zxg {f:Nat ->Int} {M:Nat} (h:∀ m,m < M ->0 <=f m) {m:Nat} (hm:m < M):f m <=Ko f M:=by
 induction M with
 | zero=>omega
 | succ M ih=>
   have h1:=h M (by omega);have h2:=Zb7 fun m (hm:m < M)=>h m (by omega)
   simp only [Ko];by_cases e:m=M
   ·subst e;omega
   ·have:=ih (fun m hm=>h m (by omega)) (by omega);omega
theorem ZoS {f g:Nat ->Int} {M:Nat} (h:∀ m,m < M ->f m=g m):Ko f M=Ko g M:=by
 induction M with
 | zero=>rfl
 | succ M ih=>simp only [Ko];rw [ih fun m hm=>h m (by omega),h M (by omega)]
theorem ZtG {f g:Nat ->Int} {M k:Nat} (hk:k < M) (h:∀ m,m < M ->m ≠ k ->f m=g m):Ko f M=Ko g M - g k + f k:=by
 induction M with
 | zero=>omega
 | succ M ih=>
   simp only [Ko];by_cases e:k=M
   ·subst e;rw [ZoS fun m hm=>h m (by omega) (by omega)];omega
   ·rw [ih (by omega) (fun m hm hn=>h m (by omega) hn),h M (by omega) (fun z=>e z.symm)];omega
theorem ZeJ {M:Nat} {cv:CV} {ns:List Zd} {m:Int} (h0:0 <=m) (h1:m < M) (o:Option Za) (a:Int):
 Jl M (YB cv m o) ns a=Jl M cv ns a - Wu a (cv m) + Wu a o:=by
 unfold Jl;have hm:((m.toNat:Nat):Int)=m:=by omega
 rw [ZtG (k:=m.toNat) (g:=fun k=>Wu a (cv k)) (by omega) (fun k hk hne=>by
  unfold YB;rw [if_neg (by omega)])]
 have:YB cv m o ((m.toNat:Nat):Int)=o:=by unfold YB;rw [if_pos hm]
 rw [this,hm];omega
theorem WA (cv:CV) (m:Int) (o:Option Za):YB cv m o m=o:=by simp [YB]
theorem Zau {cv:CV} {m a:Int} {o:Option Za} (h:a ≠ m):YB cv m o a=cv a:=by simp [YB,h]
structure Nm (M:Nat) (n:Int) (cv:CV) (ns:List Zd) (h:Int):Prop where
 rng:∀ m c,cv m=some c ->0 <=m∧m < M
 nam:∀ m c,cv m=some c ->c.name=n
 cel:∀ m c,cv m=some c ->(c.root=false∧0 <=c.from_∧c.from_ < M∧c.from_ ≠ m∧1 <=c.has)∨(c.from_=-1∧c.has=0)
 KA:∀ x ∈ ns,(0 <=x.Zx∧x.Zx < M)∧x.name=n∧1 <=x.w∧((x.kind=1∧0 <=x.via∧x.via < M)∨(x.kind=2∧x.via=0)∨(x.kind=3∧x.via=0∧x.w=16∧x.Zx=h))
 hM:0 <=h∧h < M
 rt:∀ m c,cv m=some c ->c.root=true ->m=h
 one:Jy (cv h) + J6 ns=1
 acc:∀ a:Int,0 <=a ->a < M ->Uf cv ns a=Jl M cv ns a
 lead:∃ dep:Int ->Nat,∀ m c,cv m=some c ->m ≠ h ->0 <=c.from_∧(cv c.from_ ≠ none∨c.from_=h)∧dep c.from_ < dep m
theorem Nm.perm {M:Nat} {n:Int} {cv:CV} {ns ns':List Zd} {h:Int} (H:Nm M n cv ns h) (p:ns.Perm ns'):Nm M n cv ns' h:=
 {H with
  KA:=fun x hx=>H.KA x (p.mem_iff.2 hx)
  one:=by rw [← ZsT p];exact H.one
  acc:=fun a h0 h1=>by
   have:=H.acc a h0 h1;unfold Uf Jl at this ⊢;rw [← Zfk p,← Zfk p];exact this}
section
variable {M:Nat} {n:Int} {cv:CV} {ns:List Zd} {h:Int}
theorem Nm.Zcw (H:Nm M n cv ns h) {a:Int} (h0:0 <=a) (m:Int):0 <=Wu a (cv m):=by
 unfold Wu;cases e:cv m with
 | none=>simp
 | some c=>
   dsimp only;split
   ·rcases H.cel m c e with⟨_,_,_,_,h5⟩ | ⟨h1,h2⟩ <;> omega
   ·omega
theorem Nm.ZbE (H:Nm M n cv ns h) (a:Int):∀ x ∈ ns,0 <=Wm a x:=by
 intro x hx;have:= (H.KA x hx).2.2.1;unfold Wm;split <;> omega
theorem KC (a:Int) (x:Zd):0 <=YT a x:=by unfold YT;split <;> omega
theorem Nm.Zdc (H:Nm M n cv ns h) {m:Int} {c:Za} (e:cv m=some c) (hf:0 <=c.from_):1 <=c.has∧c.has <=Jl M cv ns c.from_:=by
 have hr:=H.rng m c e;have hh:1 <=c.has:=by rcases H.cel m c e with⟨_,_,_,_,h5⟩ | ⟨h1,h2⟩ <;> omega
 refine⟨hh,?_⟩;have h1:=Zxg (f:=fun k=>Wu c.from_ (cv k)) (M:=M) (fun k _=>H.Zcw hf k) (m:=m.toNat) (by omega);have h2:=Zaq (H.ZbE c.from_);have hm:((m.toNat:Nat):Int)=m:=by omega
 have h3:Wu c.from_ (cv ((m.toNat:Nat):Int))=c.has:=by rw [hm,e];simp [Wu]
 rw [h3] at h1;unfold Jl;omega
theorem Nm.UY (H:Nm M n cv ns h) {a:Int} (h0:0 <=a) {x:Zd} (hx:x ∈ ns):Wm a x <=Jl M cv ns a:=by
 have h1:=Zb7 (f:=fun k=>Wu a (cv k)) (M:=M) (fun k _=>H.Zcw h0 k);have h2:=Zxh (H.ZbE a) hx;unfold Jl;omega
theorem ZhP (H:∀ x ∈ ns,x.kind=3 ->x.Zx=h) (a:Int):YQ (YT a) ns=if a=h then 16 * (J6 ns:Int) else 0:=by
 induction ns with
 | nil=>simp [YQ,J6]
 | cons x l ih=>
   have i:=ih fun y hy=>H y (by simp [hy])
   have hx:=H x (by simp);simp only [YQ,J6];rw [i];unfold YT;by_cases h3:x.kind=3
   ·have:=hx h3;by_cases ha:a=h
    ·rw [if_pos ⟨h3,by omega⟩,if_pos ha,if_pos ha,if_pos h3];omega
    ·rw [if_neg (by omega),if_neg ha,if_neg ha];omega
   ·rw [if_neg (fun z=>h3 z.1),if_neg h3];split <;> omega
theorem Nm.giv (H:Nm M n cv ns h) (a:Int):Uf cv ns a=Qf (cv a) + if a=h then 16 * (J6 ns:Int) else 0:=by
 unfold Uf;rw [ZhP (h:=h) (fun x hx h3=>by rcases(H.KA x hx).2.2.2 with z | z | z <;> omega)]
theorem Nm.Znt (H:Nm M n cv ns h) {a:Int} (h0:0 <=a):0 <=Jl M cv ns a:=by
 have h1:=Zb7 (f:=fun k=>Wu a (cv k)) (M:=M) (fun k _=>H.Zcw h0 k);have h2:=Zaq (H.ZbE a);unfold Jl;omega
theorem Nm.there (H:Nm M n cv ns h) {a:Int} (h0:0 <=a) (h1:a < M) (hp:1 <=Jl M cv ns a):cv a ≠ none∨a=h:=by
 have:=H.acc a h0 h1;rw [H.giv] at this;by_cases e:a=h
 ·exact .inr e
 ·rw [if_neg e] at this;refine .inl fun z=>?_
  rw [z] at this;simp [Qf] at this;omega
theorem Nm.Zh5 (H:Nm M n cv ns h) {m:Int} {c:Za} (e:cv m=some c):-16 <=c.out∧(m ≠ h ->0 <=c.out)∧(J6 ns=0 ->0 <=c.out):=by
 have hr:=H.rng m c e;have h1:=H.acc m hr.1 hr.2;have h2:=H.Znt hr.1;have h3:=H.one;rw [H.giv,e] at h1;simp only [Qf] at h1;refine⟨?_,fun hm=>?_,fun hc=>?_⟩
 ·split at h1 <;> omega
 ·rw [if_neg hm] at h1;omega
 ·rw [hc] at h1;split at h1 <;> omega
theorem Nm.ZCY (H:Nm M n cv ns h):J6 ns <=1:=by have:=H.one;omega
theorem Nm.WH (H:Nm M n cv ns h) {m:Int} {c:Za} (h0:m=h∨∃ d,cv m=some d∧d.from_=c.from_):
 ∃ dep:Int ->Nat,∀ a d,YB cv m (some c) a=some d ->a ≠ h ->0 <=d.from_∧(YB cv m (some c) d.from_ ≠ none∨d.from_=h)∧dep d.from_ < dep a:=by
 obtain⟨dep,L⟩:=H.lead;refine⟨dep,fun a d hd ha=>?_⟩
 have key:∀ f:Int,(cv f ≠ none∨f=h) ->(YB cv m (some c) f ≠ none∨f=h):=by
  intro f hf;unfold YB;split
  ·exact .inl (by simp)
  ·exact hf
 unfold YB at hd;split at hd
 ·rename_i e;cases hd;rcases h0 with z | ⟨d,z1,z2⟩
  ·exact absurd (e.trans z) ha
  ·obtain⟨l1,l2,l3⟩:=L m d z1 (by rw [← e];exact ha);rw [z2] at l1 l2 l3;exact⟨l1,key _ l2,by rw [e];exact l3⟩
 ·obtain⟨l1,l2,l3⟩:=L a d hd ha;exact⟨l1,key _ l2,l3⟩
end
end Go.Proofs.Ytekpjgmhkkjhgaa
end
section
namespace Go.Proofs.Ytekpjgmhkkjhgaa
def Zwj (n:Int):Za:= ⟨n,false,-1,0,0,false⟩
section
variable {M:Nat} {n:Int} {cv:CV} {ns ns':List Zd} {h m:Int}
def ZaA (n:Int) (cv:CV) (m:Int):Za:= (cv m).getD (Zwj n)
structure Lk (M:Nat) (n:Int) (cv:CV) (h m:Int) (c:Za):Prop where
 nam:c.name=n
 cel:(c.root=false∧0 <=c.from_∧c.from_ < M∧c.from_ ≠ m∧1 <=c.has)∨(c.from_=-1∧c.has=0)
 out:Qf (cv m)=c.out
 has:∀ a,0 <=a ->Wu a (cv m)=Wu a (some c)
 root:Jy (cv m)=Jy (some c)
 rt:c.root=true ->m=h
 or:cv m=some c∨(cv m=none∧c.root=false∧c.from_=-1∧c.out=0∧c.use=false)
theorem Nm.look (H:Nm M n cv ns h) (m:Int):Lk M n cv h m (ZaA n cv m):=by
 unfold ZaA;cases e:cv m with
 | none=>
   refine⟨rfl,.inr ⟨rfl,rfl⟩,by rw [e];rfl,fun a ha=>?_,by rw [e];rfl,(fun z=>Bool.noConfusion z),.inr ⟨e,rfl,rfl,rfl,rfl⟩⟩;rw [e];show 0=if(-1:Int)=a then(0:Int) else 0
   split <;> rfl
 | some c=>
   refine⟨H.nam m c e,H.cel m c e,by rw [e];rfl,fun a ha=>by rw [e];rfl,by rw [e];rfl,H.rt m c e,.inl e⟩
theorem Nm.put (H:Nm M n cv ns h) (h0:0 <=m) (h1:m < M) {c:Za} (hn:c.name=n)
 (hc:(c.root=false∧0 <=c.from_∧c.from_ < M∧c.from_ ≠ m∧1 <=c.has)∨(c.from_=-1∧c.has=0))
 (hns:∀ x ∈ ns',(0 <=x.Zx∧x.Zx < M)∧x.name=n∧1 <=x.w∧((x.kind=1∧0 <=x.via∧x.via < M)∨(x.kind=2∧x.via=0)∨(x.kind=3∧x.via=0∧x.w=16∧x.Zx=h)))
 (hrt:c.root=true ->m=h) (hone:(if h=m then Jy (some c) else Jy (cv h)) + J6 ns'=1)
 (hacc:∀ a:Int,0 <=a ->a < M ->(if a=m then c.out else Qf (cv a)) + YQ (YT a) ns' + Wu a (cv m) + YQ (Wm a) ns=Qf (cv a) + YQ (YT a) ns + Wu a (some c) + YQ (Wm a) ns')
 (hl:∃ dep:Int ->Nat,∀ a d,YB cv m (some c) a=some d ->a ≠ h ->0 <=d.from_∧(YB cv m (some c) d.from_ ≠ none∨d.from_=h)∧dep d.from_ < dep a):
 Nm M n (YB cv m (some c)) ns' h where
 rng a d hd:=by
  unfold YB at hd;split at hd
  ·subst_vars;omega
  ·exact H.rng a d hd
 nam a d hd:=by
  unfold YB at hd;split at hd
  ·cases hd;exact hn
  ·exact H.nam a d hd
 cel a d hd:=by
  unfold YB at hd;split at hd
  ·subst_vars;cases hd;exact hc
  ·exact H.cel a d hd
 KA:=hns
 hM:=H.hM
 rt a d hd hr:=by
  unfold YB at hd;split at hd
  ·subst_vars;cases hd;exact hrt hr
  ·exact H.rt a d hd hr
 one:=by
  rw [← hone];unfold YB;split <;> rfl
 acc a a0 a1:=by
  have q:=H.acc a a0 a1;have p:=hacc a a0 a1;rw [ZeJ h0 h1];unfold Uf at q ⊢;unfold Jl at q ⊢;have:Qf (YB cv m (some c) a)=if a=m then c.out else Qf (cv a):=by unfold YB;split <;> rfl
  rw [this];omega
 lead:=hl
theorem Nm.tail (H:∀ x ∈ ns,(0 <=x.Zx∧x.Zx < M)∧x.name=n∧1 <=x.w∧((x.kind=1∧0 <=x.via∧x.via < M)∨(x.kind=2∧x.via=0)∨(x.kind=3∧x.via=0∧x.w=16∧x.Zx=h))) (hs:∀ x ∈ ns',x ∈ ns):∀ x ∈ ns',(0 <=x.Zx∧x.Zx < M)∧x.name=n∧1 <=x.w∧((x.kind=1∧0 <=x.via∧x.via < M)∨(x.kind=2∧x.via=0)∨(x.kind=3∧x.via=0∧x.w=16∧x.Zx=h)):=fun x hx=>H x (hs x hx)
theorem WT {x:Zd} (k:x.kind=1) (a:Int):YT a x=0:=by unfold YT;rw [if_neg (by omega)]
theorem Zc7 {x:Zd} (k:x.kind=2) (a:Int):YT a x=0:=by unfold YT;rw [if_neg (by omega)]
theorem Zhl {x:Zd} (k:x.kind=3) (a:Int):YT a x=if x.Zx=a then 16 else 0:=by
 unfold YT;by_cases e:x.Zx=a
 ·rw [if_pos ⟨k,e⟩,if_pos e]
 ·rw [if_neg (fun z=>e z.2),if_neg e]
theorem WS {x:Zd} (k:x.kind=1) (a:Int):Wm a x=if x.via=a then x.w else 0:=by
 unfold Wm;by_cases e:x.via=a
 ·rw [if_pos (.inl ⟨k,e⟩),if_pos e]
 ·rw [if_neg (by rintro(z | z) <;> omega),if_neg e]
theorem ZbF {x:Zd} (k:x.kind=2) (a:Int):Wm a x=if x.Zx=a then x.w else 0:=by
 unfold Wm;by_cases e:x.Zx=a
 ·rw [if_pos (.inr ⟨k,e⟩),if_pos e]
 ·rw [if_neg (by rintro(z | z) <;> omega),if_neg e]
theorem ZqH {x:Zd} (k:x.kind=3) (a:Int):Wm a x=0:=by
 unfold Wm;rw [if_neg (by rintro(z | z) <;> omega)]
theorem cnt1 {x:Zd} {l:List Zd} (k:¬ x.kind=3):J6 (x::l)=J6 l:=by simp only [J6,if_neg k];omega
theorem Qg (a:Int) (c:Za):Wu a (some c)=if c.from_=a then c.has else 0:=rfl
theorem Nm.use (H:Nm M n cv ns h) {c:Za} (e:cv m=some c) (u:Bool):Nm M n (YB cv m (some ⟨c.name,c.root,c.from_,c.has,c.out,u⟩)) ns h:=by
 have hr:=H.rng m c e;refine H.put hr.1 hr.2 (by exact H.nam m c e) (by exact H.cel m c e) H.KA (by exact H.rt m c e) ?_ (fun a a0 a1=>?_) (H.WH (.inr ⟨c,e,rfl⟩))
 ·rw [← H.one];by_cases z:h=m
  ·rw [if_pos z,z,e];rfl
  ·rw [if_neg z]
 ·rw [e];by_cases z:a=m
  ·rw [if_pos z,z,e];simp only [Qf,Qg]
  ·rw [if_neg z];simp only [Qg]
theorem Nm.Zvu {x:Zd} (H:Nm M n cv (x::ns) h) (k:x.kind=1) {c:Za} (L:Lk M n cv h x.Zx c) (hr:c.root=false) (hf:c.from_=-1) (hv:x.via ≠ x.Zx) (u:Bool):
 Nm M n (YB cv x.Zx (some ⟨c.name,c.root,x.via,x.w,c.out,u⟩)) ns h:=by
 have hx:=H.KA x (by simp);have hvr:0 <=x.via∧x.via < M:=by rcases hx.2.2.2 with z | z | z <;> omega
 have hh:=H.UY hvr.1 (x:=x) (by simp);rw [WS k,if_pos rfl] at hh;have ht:=H.there hvr.1 hvr.2 (by omega);refine H.put hx.1.1 hx.1.2 L.nam (.inl ⟨hr,hvr.1,hvr.2,hv,hx.2.2.1⟩) (Nm.tail H.KA (by simp_all)) (by rw [hr];simp) ?_ (fun a a0 a1=>?_) ?_
 ·have o:=H.one;rw [cnt1 (by omega)] at o;have:Jy (some (Za.mk c.name c.root x.via x.w c.out u))=Jy (some c):=rfl;rw [this];by_cases z:h=x.Zx
  ·rw [if_pos z,← L.root,← z];omega
  ·rw [if_neg z];omega
 ·rw [L.has a a0];simp only [YQ,WT k,WS k,Qg,hf];rw [if_neg (by omega:¬ (-1:Int)=a)];by_cases z:a=x.Zx
  ·rw [if_pos z,z,L.out];omega
  ·rw [if_neg z];omega
 ·by_cases z:x.Zx=h
  ·exact H.WH (.inl z)
  ·obtain⟨dep,l⟩:=H.lead;rcases L.or with e | ⟨e,_⟩
   ·obtain⟨l1,_⟩:=l _ c e z;omega
   refine⟨fun a=>if a=x.Zx then dep x.via + 1 else dep a,fun a d hd ha=>?_⟩;dsimp only;unfold YB at hd;split at hd
   ·rename_i ea;cases hd;refine⟨hvr.1,?_,?_⟩
    ·show YB cv x.Zx _ x.via ≠ none∨x.via=h;rw [Zau hv];exact ht
    ·show(if x.via=x.Zx then _ else dep x.via) < _;rw [if_pos ea,if_neg hv];omega
   ·rename_i ea;obtain⟨l1,l2,l3⟩:=l a d hd ha
    have hne:d.from_ ≠ x.Zx:=by
     intro w;rw [w] at l2;rcases l2 with q | q
     ·exact q e
     ·exact z q
    rw [if_neg hne,if_neg ea,Zau hne];exact⟨l1,l2,l3⟩
theorem Nm.Zst {x:Zd} (H:Nm M n cv (x::ns) h) (k:x.kind=1) {c:Za} (L:Lk M n cv h x.Zx c) (hf:0 <=c.from_) (hv:c.from_=x.via) (u:Bool):
 Nm M n (YB cv x.Zx (some ⟨c.name,c.root,c.from_,c.has + x.w,c.out,u⟩)) ns h:=by
 have hx:=H.KA x (by simp);have hce:cv x.Zx=some c:=by rcases L.or with e | ⟨_,_,e,_⟩;exact e;omega
 have Zsq:c.root=false∧0 <=c.from_∧c.from_ < M∧c.from_ ≠ x.Zx∧1 <=c.has:=by rcases L.cel with z | z;exact z;omega
 refine H.put hx.1.1 hx.1.2 L.nam (.inl ⟨Zsq.1,Zsq.2.1,Zsq.2.2.1,Zsq.2.2.2.1,?_⟩) (Nm.tail H.KA (by simp_all)) L.rt ?_ (fun a a0 a1=>?_) (H.WH (.inr ⟨c,hce,rfl⟩))
 ·show 1 <=c.has + x.w;omega
 ·have o:=H.one;rw [cnt1 (by omega)] at o;have:Jy (some (Za.mk c.name c.root c.from_ (c.has + x.w) c.out u))=Jy (some c):=rfl;rw [this];by_cases z:h=x.Zx
  ·rw [if_pos z,← L.root,← z];omega
  ·rw [if_neg z];omega
 ·rw [L.has a a0];simp only [YQ,WT k,WS k,Qg,hv];by_cases z:a=x.Zx
  ·rw [if_pos z,z,L.out];split <;> omega
  ·rw [if_neg z];split <;> omega
theorem Nm.Zsu {x y:Zd} (H:Nm M n cv (x::ns) h) (k:x.kind=1) (hy:y= ⟨2,x.via,n,0,x.w⟩):Nm M n cv (ns ++ [y]) h:=by
 have hx:=H.KA x (by simp);have hvr:0 <=x.via∧x.via < M:=by rcases hx.2.2.2 with z | z | z <;> omega
 refine{H with KA:=fun z hz=>?_,one:= ?_,acc:=fun a a0 a1=>?_}
 ·rcases List.mem_append.1 hz with q | q
  ·exact H.KA z (by simp [q])
  ·rw [List.mem_singleton.1 q,hy];exact⟨hvr,rfl,hx.2.2.1,.inr (.inl ⟨rfl,rfl⟩)⟩
 ·have o:=H.one;rw [cnt1 (by omega)] at o;rw [Zbi,ZeZ,hy];simp;omega
 ·have q:=H.acc a a0 a1;unfold Uf Jl at q ⊢;simp only [YQ,WT k,WS k] at q;have h2:y.kind=2:=by rw [hy]
  rw [Xy,Xy,QB,QB,Zc7 h2,ZbF h2,hy];dsimp only;omega
theorem Nm.Zkg {x:Zd} (H:Nm M n cv (x::ns) h) (k:(x.kind=1∧x.via=x.Zx)∨x.kind=2) {c:Za} (L:Lk M n cv h x.Zx c) (u:Bool):
 Nm M n (YB cv x.Zx (some ⟨c.name,c.root,c.from_,c.has,c.out - x.w,u⟩)) ns h:=by
 have hx:=H.KA x (by simp);have hh:=H.UY hx.1.1 (x:=x) (by simp)
 have hH:∀ a,Wm a x=if x.Zx=a then x.w else 0:=by
  intro a;rcases k with⟨k,v⟩ | k
  ·rw [WS k,v]
  ·exact ZbF k a
 have hG:∀ a,YT a x=0:=by
  intro a;rcases k with⟨k,v⟩ | k
  ·exact WT k a
  ·exact Zc7 k a
 have hk3:¬ x.kind=3:=by omega
 rw [hH,if_pos rfl] at hh;have ht:=H.there hx.1.1 hx.1.2 (by omega);refine H.put hx.1.1 hx.1.2 L.nam (by exact L.cel) (Nm.tail H.KA (by simp_all)) (by exact L.rt) ?_ (fun a a0 a1=>?_) ?_
 ·have o:=H.one;rw [cnt1 hk3] at o;have:Jy (some (Za.mk c.name c.root c.from_ c.has (c.out - x.w) u))=Jy (some c):=rfl;rw [this];by_cases z:h=x.Zx
  ·rw [if_pos z,← L.root,← z];omega
  ·rw [if_neg z];omega
 ·rw [L.has a a0];simp only [YQ,hG,hH,Qg];by_cases z:a=x.Zx
  ·rw [if_pos z,z,L.out,if_pos rfl];omega
  ·rw [if_neg z,if_neg (by omega:¬ x.Zx=a)];omega
 ·refine H.WH ?_;rcases L.or with e | ⟨e,_⟩
  ·exact .inr ⟨c,e,rfl⟩
  ·rcases ht with z | z
   ·exact absurd e z
   ·exact .inl z
theorem Nm.home {x:Zd} (H:Nm M n cv (x::ns) h) (k:x.kind=3) {c:Za} (L:Lk M n cv h x.Zx c) (u:Bool) {ys:List Zd}
 (hy:ys=if 0 <=c.from_ then [⟨2,c.from_,n,0,c.has⟩] else []):
 Nm M n (YB cv x.Zx (some ⟨c.name,true,-1,0,c.out + 16,u⟩)) (ns ++ ys) h:=by
 have hx:=H.KA x (by simp);have hh:x.Zx=h:=by rcases hx.2.2.2 with z | z | z <;> omega
 have o:=H.one;simp only [J6,k,if_true] at o;refine H.put hx.1.1 hx.1.2 L.nam (.inr ⟨rfl,rfl⟩) ?_ (fun _=>hh) ?_ (fun a a0 a1=>?_) (H.WH (.inl hh))
 ·intro z hz;rcases List.mem_append.1 hz with q | q
  ·exact H.KA z (by simp [q])
  ·rw [hy] at q;split at q
   ·rename_i hf;rw [List.mem_singleton.1 q];rcases L.cel with w | w
    ·exact⟨⟨w.2.1,w.2.2.1⟩,rfl,w.2.2.2.2,.inr (.inl ⟨rfl,rfl⟩)⟩
    ·omega
   ·simp at q
 ·rw [if_pos hh.symm,Zbi,show Jy (some (Za.mk c.name true (-1) 0 (c.out + 16) u))=1 from rfl];have:J6 ys=0:=by rw [hy];split <;> simp [J6]
  omega
 ·rw [L.has a a0];have hG:YQ (YT a) ys=0:=by rw [hy];split <;> simp [YQ,YT]
  have hH:YQ (Wm a) ys=if c.from_=a then c.has else 0:=by
   rw [hy];by_cases hf:0 <=c.from_
   ·rw [if_pos hf,QB,ZbF rfl]
   ·rw [if_neg hf,if_neg (by omega)];rfl
  rw [Xy,Xy,hG,hH];simp only [YQ,Zhl k,ZqH k,Qg];rw [if_neg (by omega:¬ (-1:Int)=a)];by_cases z:a=x.Zx
  ·rw [if_pos z,z,L.out,if_pos rfl];omega
  ·rw [if_neg z,if_neg (by omega:¬ x.Zx=a)];omega
theorem Nm.gone (H:Nm M n cv ns h) {c:Za} (e:cv m=some c) (ho:c.out=0) (hr:c.root=false) {ys:List Zd}
 (hy:ys=if 0 <=c.from_ then [⟨2,c.from_,n,0,c.has⟩] else []):Nm M n (YB cv m none) (ns ++ ys) h:=by
 have hm:=H.rng m c e;have Zsq:=H.cel m c e;have hG:∀ a,YQ (YT a) ys=0:=by intro a;rw [hy];split <;> simp [YQ,YT]
 have hH:∀ a,0 <=a ->YQ (Wm a) ys=Wu a (some c):=by
  intro a a0;rw [hy,Qg];by_cases hf:0 <=c.from_
  ·rw [if_pos hf,QB,ZbF rfl]
  ·rw [if_neg hf,if_neg (by omega)];rfl
 refine⟨?_,?_,?_,?_,H.hM,?_,?_,?_,?_⟩
 ·intro a d hd;unfold YB at hd;split at hd
  ·cases hd
  ·exact H.rng a d hd
 ·intro a d hd;unfold YB at hd;split at hd
  ·cases hd
  ·exact H.nam a d hd
 ·intro a d hd;unfold YB at hd;split at hd
  ·cases hd
  ·exact H.cel a d hd
 ·intro z hz;rcases List.mem_append.1 hz with q | q
  ·exact H.KA z q
  ·rw [hy] at q;split at q
   ·rename_i hf;rw [List.mem_singleton.1 q];rcases Zsq with w | w
    ·exact⟨⟨w.2.1,w.2.2.1⟩,rfl,w.2.2.2.2,.inr (.inl ⟨rfl,rfl⟩)⟩
    ·omega
   ·simp at q
 ·intro a d hd;unfold YB at hd;split at hd
  ·cases hd
  ·exact H.rt a d hd
 ·have o:=H.one;have:J6 ys=0:=by rw [hy];split <;> simp [J6]
  rw [Zbi,this]
  have:Jy (YB cv m none h)=Jy (cv h):=by
   unfold YB;split
   ·rename_i z;rw [z,e];simp [Jy,hr]
   ·rfl
  rw [this];omega
 ·intro a a0 a1;have q:=H.acc a a0 a1;rw [ZeJ hm.1 hm.2,e];unfold Uf Jl at *;rw [Xy,Xy,hG,hH a a0]
  have:Qf (YB cv m none a)=Qf (cv a):=by
   unfold YB;split
   ·rename_i z;rw [z,e];simp [Qf,ho]
   ·rfl
  rw [this];simp only [Qg] at *;have:Wu a none=0:=rfl;omega
 ·obtain⟨dep,l⟩:=H.lead;refine⟨dep,fun a d hd ha=>?_⟩;unfold YB at hd;split at hd
  ·cases hd
  ·obtain⟨l1,l2,l3⟩:=l a d hd ha;refine⟨l1,?_,l3⟩;by_cases z:d.from_=m
   ·by_cases zh:m=h
    ·exact .inr (z.trans zh)
    ·exfalso;have q:=H.Zdc hd l1;rw [z] at q;have p:=H.acc m hm.1 hm.2;rw [H.giv,if_neg zh,e] at p;simp only [Qf] at p;omega
   ·rw [Zau z];exact l2
theorem Nm.last (H:Nm M n cv ns h) {c:Za} (e:cv m=some c) (ho:c.out=0) (hr:c.root=true):(∀ a,a ≠ m ->cv a=none)∧ns= []:=by
 have hmh:=H.rt m c e hr;subst hmh;have o:=H.one;rw [e] at o;have h0:J6 ns=0:=by simp only [Jy,hr,if_true] at o;omega
 have hz:Jl M cv ns m=0:=by
  rw [← H.acc m H.hM.1 H.hM.2,H.giv,if_pos rfl,e,h0];simp [Qf,ho]
 obtain⟨dep,l⟩:=H.lead
 have key:∀ k a,dep a <=k ->a ≠ m ->cv a=none:=by
  intro k
  induction k with
  | zero=>
    intro a hk ha;cases ec:cv a with
    | none=>rfl
    | some d=>have:=l a d ec ha;omega
  | succ k ih=>
    intro a hk ha;cases ec:cv a with
    | none=>rfl
    | some d=>
      exfalso;obtain⟨l1,l2,l3⟩:=l a d ec ha;by_cases z:d.from_=m
      ·have:=H.Zdc ec l1;rw [z] at this;omega
      ·rcases l2 with l2 | l2
       ·exact l2 (ih _ (by omega) z)
       ·exact z l2
 have k1:∀ a,a ≠ m ->cv a=none:=fun a ha=>key (dep a) a (Nat.le_refl _) ha
 refine⟨k1,?_⟩;cases ns with
 | nil=>rfl
 | cons x l'=>
   exfalso;have hx:=H.KA x (by simp)
   have hk3:¬ x.kind=3:=by
    intro z;simp only [J6,z,if_true] at h0;omega
   have hbad:∀ a:Int,0 <=a ->a < M ->1 <=Jl M cv (x::l') a ->False:=by
    intro a a0 a1 hp;by_cases z:a=m
    ·rw [z] at hp;omega
    ·have:=H.acc a a0 a1;rw [H.giv,if_neg z,k1 a z] at this;simp only [Qf] at this;omega
   rcases hx.2.2.2 with z | z | z
   ·have:=H.UY z.2.1 (x:=x) (by simp);rw [WS z.1,if_pos rfl] at this;exact hbad _ z.2.1 z.2.2 (by omega)
   ·have:=H.UY hx.1.1 (x:=x) (by simp);rw [ZbF z.1,if_pos rfl] at this;exact hbad _ hx.1.1 hx.1.2 (by omega)
   ·exact hk3 z.1
theorem Nm.Zxn (H:Nm M n cv ns h) {c:Za} (e:cv m=some c) (hf:0 <=c.from_) {t w:Int} (ht:0 <=t∧t < M) (h1:1 <=w) (h2:w < c.has) {y:Zd} (hy:y= ⟨1,t,n,c.from_,w⟩):
 Nm M n (YB cv m (some ⟨c.name,c.root,c.from_,c.has - w,c.out,c.use⟩)) (ns ++ [y]) h:=by
 have hm:=H.rng m c e;have hc:c.root=false∧0 <=c.from_∧c.from_ < M∧c.from_ ≠ m∧1 <=c.has:=by rcases H.cel m c e with z | z;exact z;omega
 have ky:y.kind=1:=by rw [hy]
 refine H.put hm.1 hm.2 (by exact H.nam m c e) (.inl ⟨hc.1,hc.2.1,hc.2.2.1,hc.2.2.2.1,by show 1 <=c.has - w;omega⟩) ?_ (by exact H.rt m c e) ?_ (fun a a0 a1=>?_) (H.WH (.inr ⟨c,e,rfl⟩))
 ·intro z hz;rcases List.mem_append.1 hz with q | q
  ·exact H.KA z q
  ·rw [List.mem_singleton.1 q,hy];exact⟨ht,rfl,h1,.inl ⟨rfl,hc.2.1,hc.2.2.1⟩⟩
 ·have o:=H.one;rw [Zbi,ZeZ,ky,← o];by_cases z:h=m
  ·rw [if_pos z,z,e];rfl
  ·rw [if_neg z];simp
 ·rw [e,Xy,Xy,QB,QB,WT ky,WS ky,hy];simp only [Qg];by_cases z:a=m
  ·rw [if_pos z,z,e];simp only [Qf];split <;> omega
  ·rw [if_neg z];split <;> omega
theorem Nm.Zxp (H:Nm M n cv ns h) {c:Za} (e:cv m=some c) {t w:Int} (ht:0 <=t∧t < M) (h1:1 <=w) {y:Zd} (hy:y= ⟨1,t,n,m,w⟩):
 Nm M n (YB cv m (some ⟨c.name,c.root,c.from_,c.has,c.out + w,c.use⟩)) (ns ++ [y]) h:=by
 have hm:=H.rng m c e;have ky:y.kind=1:=by rw [hy]
 refine H.put hm.1 hm.2 (by exact H.nam m c e) (by exact H.cel m c e) ?_ (by exact H.rt m c e) ?_ (fun a a0 a1=>?_) (H.WH (.inr ⟨c,e,rfl⟩))
 ·intro z hz;rcases List.mem_append.1 hz with q | q
  ·exact H.KA z q
  ·rw [List.mem_singleton.1 q,hy];exact⟨ht,rfl,h1,.inl ⟨rfl,hm⟩⟩
 ·have o:=H.one;rw [Zbi,ZeZ,ky,← o];by_cases z:h=m
  ·rw [if_pos z,z,e];rfl
  ·rw [if_neg z];simp
 ·rw [e,Xy,Xy,QB,QB,WT ky,WS ky,hy];simp only [Qg];by_cases z:a=m
  ·rw [if_pos z,z,e,if_pos rfl];simp only [Qf];omega
  ·rw [if_neg z,if_neg (by omega:¬ m=a)];omega
theorem Nm.go (H:Nm M n cv ns h) {c:Za} (e:cv m=some c) (hr:c.root=true) {t:Int} (ht:0 <=t∧t < M) (hne:t ≠ m) {y:Zd} (hy:y= ⟨3,t,n,0,16⟩):
 Nm M n (YB cv m (some ⟨c.name,false,t,16,c.out,c.use⟩)) (ns ++ [y]) t:=by
 have hm:=H.rng m c e;have hmh:=H.rt m c e hr;subst hmh;have hc:c.from_=-1∧c.has=0:=by rcases H.cel m c e with z | z;exact absurd hr (by simp [z.1]);exact z
 have ky:y.kind=3:=by rw [hy]
 have o:=H.one;rw [e] at o;have h0:J6 ns=0:=by simp only [Jy,hr,if_true] at o;omega
 have no3:∀ x ∈ ns,¬ x.kind=3:=by
  intro x hx z
  have:∀ l:List Zd,x ∈ l ->1 <=J6 l:=by
   intro l
   induction l with
   | nil=>simp
   | cons w l ih=>
     intro q;simp only [J6];rcases List.mem_cons.1 q with rfl | q
     ·rw [if_pos z];omega
     ·have:=ih q;omega
  have:=this ns hx;omega
 refine⟨?_,?_,?_,?_,ht,?_,?_,?_,?_⟩
 ·intro a d hd;unfold YB at hd;split at hd
  ·subst_vars;exact hm
  ·exact H.rng a d hd
 ·intro a d hd;unfold YB at hd;split at hd
  ·cases hd;exact H.nam m c e
  ·exact H.nam a d hd
 ·intro a d hd;unfold YB at hd;split at hd
  ·subst_vars;cases hd;exact .inl ⟨rfl,ht.1,ht.2,hne,by show(1:Int) <=16;omega⟩
  ·exact H.cel a d hd
 ·intro z hz;rcases List.mem_append.1 hz with q | q
  ·have:=H.KA z q;refine⟨this.1,this.2.1,this.2.2.1,?_⟩;rcases this.2.2.2 with w | w | w
   ·exact .inl w
   ·exact .inr (.inl w)
   ·exact absurd w.1 (no3 z q)
  ·rw [List.mem_singleton.1 q,hy];exact⟨ht,rfl,by show(1:Int) <=16;omega,.inr (.inr ⟨rfl,rfl,rfl,rfl⟩)⟩
 ·intro a d hd hrd;unfold YB at hd;split at hd
  ·cases hd;cases hrd
  ·rename_i z;exact absurd (H.rt a d hd hrd) z
 ·rw [Zbi,ZeZ,if_pos ky,Zau hne,h0]
  have:Jy (cv t)=0:=by
   cases ec:cv t with
   | none=>rfl
   | some d=>
     show(if d.root=true then 1 else 0)=0;by_cases z:d.root=true
     ·exact absurd (H.rt t d ec z) hne
     ·rw [if_neg z]
  omega
 ·intro a a0 a1;have q:=H.acc a a0 a1;rw [ZeJ hm.1 hm.2,e];unfold Uf Jl at *;rw [Xy,Xy,QB,QB,Zhl ky,ZqH ky,hy];simp only [Qg,hc.1,hc.2] at *
  have:Qf (YB cv m (some ⟨c.name,false,t,16,c.out,c.use⟩) a)=Qf (cv a):=by
   unfold YB;split
   ·rename_i z;rw [z,e];rfl
   ·rfl
  rw [this];rw [if_neg (by omega:¬ (-1:Int)=a)];omega
 ·obtain⟨dep,l⟩:=H.lead;refine⟨fun a=>if a=t then 0 else dep a + 1,fun a d hd ha=>?_⟩;dsimp only;rw [if_neg ha];unfold YB at hd;split at hd
  ·cases hd;dsimp only;rw [if_pos rfl];exact⟨ht.1,.inr rfl,by omega⟩
  ·rename_i z;obtain⟨l1,l2,l3⟩:=l a d hd z;refine⟨l1,?_,?_⟩
   ·by_cases q:d.from_=m
    ·rw [q,WA];exact .inl (by simp)
    ·rw [Zau q];rcases l2 with l2 | l2
     ·exact .inl l2
     ·exact absurd l2 q
   ·split <;> omega
theorem Nm.fresh (hm:0 <=m∧m < M):Nm M n (YB (fun _=>none) m (some ⟨n,true,-1,0,0,true⟩)) [] m where
 rng a d hd:=by
  unfold YB at hd;split at hd
  ·subst_vars;exact hm
  ·cases hd
 nam a d hd:=by
  unfold YB at hd;split at hd
  ·cases hd;rfl
  ·cases hd
 cel a d hd:=by
  unfold YB at hd;split at hd
  ·cases hd;exact .inr ⟨rfl,rfl⟩
  ·cases hd
 KA x hx:=by simp at hx
 hM:=hm
 rt a d hd _:=by
  unfold YB at hd;split at hd
  ·assumption
  ·cases hd
 one:=by rw [WA];rfl
 acc a a0 a1:=by
  rw [ZeJ hm.1 hm.2];unfold Uf Jl
  have:Ko (fun m=>Wu a none) M=0:=by
   have:∀ k,Ko (fun m=>Wu a none) k=0:=by
    intro k;induction k with
    | zero=>rfl
    | succ k ih=>simp only [Ko,ih];rfl
   exact this M
  rw [this]
  have:Qf (YB (fun _=>none) m (some ⟨n,true,-1,0,0,true⟩) a)=0:=by
   unfold YB;split <;> rfl
  rw [this,Qg];simp [YQ,Wu]
 lead:= ⟨fun _=>0,fun a d hd ha=>by
  unfold YB at hd;split at hd
  ·rename_i z;exact absurd z ha
  ·cases hd⟩
end
end Go.Proofs.Ytekpjgmhkkjhgaa
end
section
namespace Go.Lf
theorem ZhL (n:Int):ZP n=Int.bmod n 18446744073709551616:=by
 unfold ZP Go.IntKind.wrap;have e1:(2 ^ IntKind.i64.bits:Int)=18446744073709551616:=by decide
 have e2:(2 ^ (IntKind.i64.bits - 1):Int)=9223372036854775808:=by decide
 have e3:IntKind.i64.signed=true:=rfl;rw [e1,e2,e3];dsimp only;unfold Int.bmod;have:=Int.emod_nonneg n (b:=18446744073709551616) (by decide);have:=Int.emod_lt_of_pos n (b:=18446744073709551616) (by decide);simp;split <;> split <;> omega
theorem ZkR (a b:Int):ZP (ZP a + b)=ZP (a + b):=by
 rw [ZhL,ZhL,ZhL];simp
theorem Xd {k:Nat} (h:k < 4611686018427387904):ZP ((k:Int) + 1)= ((k + 1:Nat):Int):=by
 rw [YP (by omega) (by omega)];rfl
theorem ZmK {k:Nat} (h:k < 4611686018427387904) (h0:0 < k):ZP ((k:Int) - 1)= ((k - 1:Nat):Int):=by
 rw [YP (by omega) (by omega)];omega
theorem XK {α:Type} {Uc:Nat} {xs ys:List α} (h:xs.length + ys.length <=1000000) (hb:Uc <=1000):app Uc xs ys=some (xs ++ ys):=
 Zwu (Nat.le_trans (Nat.mul_le_mul (show 2 * (xs.length + ys.length) + 1000 <=2001000 by omega) hb) (by decide))
def iter {α β σ:Type} (g:Nat ->α ->σ ->(σ ->Option β) ->Option β) (d:σ ->Option β):Nat ->List α ->σ ->Option β
 | _,[],s=>d s
 | i,x::l,s=>g i x s (fun s'=>iter g d (i + 1) l s')
theorem Xf {α β σ γ:Type} (l:List α) (mk:Int ->σ ->γ) (body:γ ->(γ ->Option β) ->Option β) (g:Nat ->α ->σ ->(σ ->Option β) ->Option β) (d:σ ->Option β)
 (hl:l.length < 4611686018427387904)
 (hb:∀ (k:Nat) x s next,l[k]? =some x ->((k:Int) < (l.length:Int)) ->body (mk k s) next=g k x s (fun s'=>next (mk (ZP (k + 1)) s')))
 (he:∀ s next,body (mk l.length s) next=d s) {F:Nat} (hF:l.length < F) (s:σ):loop F body (mk 0 s)=iter g d 0 l s:=by
 have key:∀ (m k F:Nat) s,k + m=l.length ->m < F ->loop F body (mk k s)=iter g d k (l.drop k) s:=by
  intro m
  induction m with
  | zero=>
    intro k F s hk hF;obtain⟨F,rfl⟩:=Ne0 (n:=F) (by omega);have:k=l.length:=by omega
    subst this;rw [Yi,he,List.drop_length];rfl
  | succ m ih=>
    intro k F s hk hF;obtain⟨F,rfl⟩:=Ne0 (n:=F) (by omega);have hlt:k < l.length:=by omega
    rw [Yi,hb k l[k] s _ (by simp [hlt]) (by omega),List.drop_eq_getElem_cons hlt,iter];congr 1;funext s';rw [Xd (by omega)];exact ih (k + 1) F s' (by omega) (by omega)
 have:=key l.length 0 F s (by omega) (by omega)
 simpa using this
theorem ZbJ {β σ γ:Type} (n:Nat) (mk:Int ->σ ->γ) (body:γ ->(γ ->Option β) ->Option β) (g:Nat ->σ ->(σ ->Option β) ->Option β) (d:σ ->Option β)
 (hl:n < 4611686018427387904)
 (hb:∀ (k:Nat) s next,k < n ->body (mk k s) next=g k s (fun s'=>next (mk (ZP (k + 1)) s')))
 (he:∀ s next,body (mk n s) next=d s) {F:Nat} (hF:n < F) (s:σ):loop F body (mk 0 s)=iter (fun _ k s next=>g k s next) d 0 (List.range n) s:=by
 refine Xf (List.range n) mk body (fun _ k s next=>g k s next) d (by simpa using hl) (fun k x s next hx hk=>?_) (by simpa using he) (by simpa using hF) s;rw [List.length_range] at hk
 have:x=k:=by
  rw [List.getElem?_range (by omega)] at hx
  simpa using hx.symm
 subst this;exact hb _ s next (by omega)
def anyI {α:Type} (c:Nat ->α ->Bool):Nat ->List α ->Bool
 | _,[]=>false
 | i,x::l=>c i x || anyI c (i + 1) l
theorem ZcQ {α:Type} {c:Nat ->α ->Bool}:∀ {l:List α} {i:Nat},anyI c i l=true↔∃ j x,l[j]? =some x∧c (i + j) x=true
 | [],i=>by simp [anyI]
 | y::l,i=>by
   unfold anyI;rw [Bool.or_eq_true,ZcQ (l:=l)]
   constructor
   ·rintro(h | ⟨j,x,h1,h2⟩)
    ·exact⟨0,y,rfl,h⟩
    ·exact⟨j + 1,x,h1,by rw [← h2];congr 1;omega⟩
   ·rintro⟨j,x,h1,h2⟩;cases j with
    | zero=>simp at h1;subst h1;exact .inl h2
    | succ j=>exact .inr ⟨j,x,by simpa using h1,by rw [← h2];congr 1;omega⟩
theorem Ze6 {α:Type} (c:α ->Bool) (l:List α) (i:Nat):anyI (fun _ x=>c x) i l=l.any c:=by
 induction l generalizing i with
 | nil=>rfl
 | cons x l ih=>unfold anyI;rw [ih];rfl
theorem K4 {α β σ:Type} {g:Nat ->α ->σ ->(σ ->Option β) ->Option β} {d:σ ->Option β} {r:Option β} (c:Nat ->α ->Bool) {l:List α} {i:Nat} {s:σ}
 (hg:∀ k x next,l[k]? =some x ->g (i + k) x s next=bif c (i + k) x then r else next s):iter g d i l s=bif anyI c i l then r else d s:=by
 induction l generalizing i with
 | nil=>rfl
 | cons x l ih=>
   unfold iter anyI;have:=hg 0 x (fun s'=>iter g d (i + 1) l s') rfl;rw [Nat.add_zero] at this;rw [this];cases c i x
   ·rw [Cq0,Bool.false_or];exact ih (fun k y next hy=>by rw [show i + 1 + k=i + (k + 1) by omega];exact hg (k + 1) y next (by simpa using hy))
   ·rfl
def foldI {α σ:Type} (f:Nat ->α ->σ ->σ):Nat ->List α ->σ ->σ
 | _,[],s=>s
 | i,x::l,s=>foldI f (i + 1) l (f i x s)
theorem J3 {α β σ:Type} {g:Nat ->α ->σ ->(σ ->Option β) ->Option β} {d:σ ->Option β} (f:Nat ->α ->σ ->σ) (I:Nat ->σ ->Prop) {l:List α} {i:Nat} {s:σ} (h0:I i s)
 (hg:∀ k x s next,l[k]? =some x ->I (i + k) s ->g (i + k) x s next=next (f (i + k) x s)∧I (i + k + 1) (f (i + k) x s)):iter g d i l s=d (foldI f i l s)∧I (i + l.length) (foldI f i l s):=by
 induction l generalizing i s with
 | nil=>exact⟨rfl,h0⟩
 | cons x l ih=>
   unfold iter foldI;have:=hg 0 x s (fun s'=>iter g d (i + 1) l s') rfl h0;rw [Nat.add_zero] at this;rw [this.1]
   have:=ih this.2 (fun k y s next hy hI=>by
    rw [show i + 1 + k=i + (k + 1) by omega] at hI ⊢;exact hg (k + 1) y s next (by simpa using hy) hI)
   rwa [show i + 1 + l.length=i + (x::l).length by simp;omega] at this
theorem U1 {α σ:Type} (f:α ->σ ->σ) (l:List α) (i:Nat) (s:σ):foldI (fun _=>f) i l s=l.foldl (fun s x=>f x s) s:=by
 induction l generalizing i s with
 | nil=>rfl
 | cons x l ih=>exact ih _ _
theorem ZeN {σ τ:Type} (V:σ ->τ) (f:Nat ->σ ->σ) (h:τ ->τ) {n N:Nat} (hn:n < N) (h1:∀ i s,i < N ->i ≠ n ->V (f i s)=V s) (h2:∀ s,V (f n s)=h (V s)) (s:σ):
 V ((List.range N).foldl (fun s i=>f i s) s)=h (V s):=by
 have key:∀ M,M <=N ->V ((List.range M).foldl (fun s i=>f i s) s)=if n < M then h (V s) else V s:=by
  intro M
  induction M with
  | zero=>intro _;simp
  | succ M ih=>
    intro hM;rw [List.range_succ,List.foldl_append];simp only [List.foldl_cons,List.foldl_nil];by_cases e:M=n
    ·subst e;rw [h2,ih (by omega),if_neg (by omega),if_pos (by omega)]
    ·rw [h1 _ _ (by omega) e,ih (by omega)];by_cases hm:n < M
     ·rw [if_pos hm,if_pos (by omega)]
     ·rw [if_neg hm,if_neg (by omega)]
 rw [key N (Nat.le_refl _),if_pos hn]
end Go.Lf
end
section
end
section
namespace Go.Proofs.Ytekpjgmhkkjhgaa
open Go.Lf
structure Small (w:Zb):Prop where
 cells:w.cells.length < 1000
 rows:∀ r ∈ w.cells,r.length < 1000
 notes:w.notes.length < 1000
 freed:w.freed.length < 1000
def rowOf (w:Zb) (m:Nat):List Za:=w.cells[m]?.getD []
def cellOf (w:Zb) (m:Nat) (n:Int):Option Za:= (rowOf w m).find? (fun c=>c.name==n)
theorem QJ {w:Zb} {m:Nat} (h:m < w.cells.length):w.cells[m]? =some (rowOf w m):=by
 unfold rowOf;simp [h]
theorem Zdb {α β σ:Type} {g:Nat ->α ->σ ->(σ ->Option β) ->Option β} {d:σ ->Option β} (r:Nat ->Option β) (c:α ->Bool) {l:List α} {i:Nat} {s:σ}
 (hg:∀ k x next,l[k]? =some x ->g (i + k) x s next=bif c x then r (i + k) else next s):
 (∃ j x,l.find? c=some x∧l[j]? =some x∧iter g d i l s=r (i + j))∨(l.find? c=none∧iter g d i l s=d s):=by
 induction l generalizing i with
 | nil=>exact .inr ⟨rfl,rfl⟩
 | cons x l ih=>
   unfold iter;have:=hg 0 x (fun s'=>iter g d (i + 1) l s') rfl;rw [Nat.add_zero] at this;rw [this];cases hc:c x
   ·rw [Cq0,List.find?_cons,hc];rcases ih (i:=i + 1) (fun k y next hy=>by rw [show i + 1 + k=i + (k + 1) by omega];exact hg (k + 1) y next (by simpa using hy)) with⟨j,y,h1,h2,h3⟩ | ⟨h1,h2⟩
    ·exact .inl ⟨j + 1,y,h1,by simpa using h2,by rw [h3];congr 1;omega⟩
    ·exact .inr ⟨h1,h2⟩
   ·exact .inl ⟨0,x,by rw [List.find?_cons,hc],rfl,rfl⟩
def Zcu (w:Zb) (m n:Int):Nat:=w.notes.countP fun x=>(x.kind==3 && x.Zx==m) && x.name==n
theorem ZiV {α:Type} (c:α ->Bool) (l:List α) (a:Nat) (h:a + l.length < 4611686018427387904):
 l.foldl (fun(s:Int) x=>bif c x then ZP (s + 1) else s) (a:Int)= ((a + l.countP c:Nat):Int):=by
 induction l generalizing a with
 | nil=>rfl
 | cons x l ih=>
   rw [List.foldl_cons,List.countP_cons];simp only [List.length_cons] at h;cases hc:c x
   ·simp only [Cq0];rw [ih a (by omega)];simp
   ·simp only [Cq1,if_true];rw [Xd (by omega),ih (a + 1) (by omega)];congr 1;omega
def ZqE (w:Zb) (m:Nat) (n:Int):Int:=match cellOf w m n with | some c=>c.out | none=>0
def J4 (w:Zb) (m:Nat) (n:Int):Int:=ZP (16 * (Zcu w m n:Int) + ZqE w m n)
def Znu (w:Zb) (m n:Int) (k:Nat) (s:Int):Int:=match cellOf w k n with | some c=>bif c.from_==m then ZP (s + c.has) else s | none=>s
def ZgN (m n:Int) (x:Zd) (s:Int):Int:=bif(x.name==n) && (((x.kind==1) && (x.via==m)) || ((x.kind==2) && (x.Zx==m))) then ZP (s + x.w) else s
def Zd5 (w:Zb) (m n:Int):Int:=w.notes.foldl (fun s x=>ZgN m n x s) ((List.range w.cells.length).foldl (fun s k=>Znu w m n k s) 0)
theorem ZnD {α:Type} (g:Bool) (a d:α):gd g (some a) d=some (bif g then a else d):=by cases g <;> rfl
theorem contains_eq {F:Nat} (hF:1000 <=F) {l:List Int} (hl:l.length < 1000) (x:Int):ZlK F l x=some (l.any fun y=>y==x):=by
 unfold ZlK Zrq
 have e:=Xf l (fun v (_:Unit)=>v) (Zdh l x) (fun k y s next=>bif x==y then some (k:Int) else next ()) (fun _=>some (-1)) (by omega) (fun k y s next hy hk=>by
  simp only [Zdh,Z5,hy,hk,decide_true,Bq0,Cq1]) (fun s next=>by simp [Zdh]) (by omega:l.length < F) ()
 rw [show loop F (Zdh l x) 0=_ from e];rcases Zdb (l:=l) (i:=0) (s:= ()) (d:=fun _=>some (-1)) (g:=fun k (y:Int) (_:Unit) next=>bif x==y then some (k:Int) else next ()) (fun k=>some (k:Int)) (fun c=>x==c) (fun _ _ _ _=>rfl) with⟨j,y,h1,h2,h3⟩ | ⟨h1,h2⟩
 ·rw [h3]
  have:(l.any fun y=>y==x)=true:=by
   rw [List.any_eq_true];have:=List.find?_some h1;exact⟨y,List.mem_of_find?_eq_some h1,by simpa using (by simpa using this:x=y).symm⟩
  rw [this];simp
 ·rw [h2]
  have:(l.any fun y=>y==x)=false:=by
   rw [List.any_eq_false];rw [List.find?_eq_none] at h1;intro y hy;have:=h1 y hy;simp at this ⊢;exact fun e=>this e.symm
  rw [this];rfl
def Yr (w:Zb) (n:Int):Bool:= (decide (0 <=n) && decide (n < w.names)) && !(w.freed.any fun y=>y==n)
def Zaz (w:Zb) (m:Int):Bool:=decide (0 <=m) && decide (m < (w.cells.length:Int))
def Kk (w:Zb) (m:Int) (c:Za):Bool:=
 (Yr w c.name && (decide (-16 <=c.out) && decide (c.out <=1000000)) && (c.use || !(c.out==0))) &&
 (bif c.root || c.from_==-1 then c.from_==-1 && c.has==0 else Zaz w c.from_ && !(c.from_==m) && (decide (1 <=c.has) && decide (c.has <=1000000)))
def Ke (w:Zb) (x:Zd):Bool:=
 (Zaz w x.Zx && Yr w x.name && (decide (1 <=x.w) && decide (x.w <=1000000))) &&
 (bif x.kind==1 then Zaz w x.via else bif x.kind==2 then x.via==0 else x.kind==3 && x.via==0 && x.w==16)
section
theorem ZfA {F:Nat} (hF:1000 <=F) {w:Zb} (sm:Small w) (st:Store) (e1:st.names=w.names) (e2:st.freed=w.freed) (n:Int):ZnO F st n=some (Yr w n):=by
 unfold ZnO Yr;rw [e1,e2,contains_eq hF sm.freed];simp only [ZnD,Bq0];simp only [ge_iff_le];cases decide (0 <=n) <;> cases decide (n < w.names) <;> cases (w.freed.any fun y=>y==n) <;> rfl
theorem ZfE {w:Zb} (sm:Small w) (st:Store) (e1:st.machines= (w.cells.length:Int)) (n:Int):ZiN st n=some (Zaz w n):=by
 unfold ZiN Zaz;rw [e1]
theorem ZsV {F:Nat} (hF:1000 <=F) {w:Zb} (sm:Small w) (st:Store) (e0:st.machines= (w.cells.length:Int)) (e1:st.names=w.names) (e2:st.freed=w.freed) (m:Int) (c:Za):ZnX F st m c=some (Kk w m c):=by
 unfold ZnX;rw [ZfA hF sm st e1 e2,ZfE sm st e0];simp only [Bq0];unfold Kk;have a1:decide (c.out < -16)= !decide (-16 <=c.out):=by rw [← decide_not];exact decide_eq_decide.2 (by omega)
 have a2:decide (c.out > 1000000)= !decide (c.out <=1000000):=by rw [← decide_not];exact decide_eq_decide.2 (by omega)
 have a3:(c.from_ !=m)= !(c.from_==m):=rfl;rw [a1,a2,a3];simp only [ge_iff_le];generalize Yr w c.name=nm;generalize decide (-16 <=c.out)=oa;generalize decide (c.out <=1000000)=ob;generalize Zaz w c.from_=fm;generalize decide (1 <=c.has)=ha;generalize decide (c.has <=1000000)=hb;generalize (c.out==0)=o0;generalize (c.from_==m)=f1;generalize (c.from_==-1)=f2;generalize (c.has==0)=hz;generalize c.use=us;generalize c.root=ro;cases nm <;> cases oa <;> cases ob <;> cases us <;> cases o0 <;> cases ro <;> cases f2 <;> cases fm <;> cases f1 <;> cases ha <;> cases hb <;> rfl
theorem Zsc {F:Nat} (hF:1000 <=F) {w:Zb} (sm:Small w) (st:Store) (e0:st.machines= (w.cells.length:Int)) (e1:st.names=w.names) (e2:st.freed=w.freed) (x:Zd):ZnW F st x=some (Ke w x):=by
 unfold ZnW;rw [ZfA hF sm st e1 e2,ZfE sm st e0,ZfE sm st e0];simp only [ZnD,Bq0];unfold Ke;have a1:decide (x.w < 1)= !decide (1 <=x.w):=by rw [← decide_not];exact decide_eq_decide.2 (by omega)
 have a2:decide (x.w > 1000000)= !decide (x.w <=1000000):=by rw [← decide_not];exact decide_eq_decide.2 (by omega)
 rw [a1,a2];generalize Yr w x.name=nm;generalize Zaz w x.Zx=tm;generalize Zaz w x.via=vm;generalize decide (1 <=x.w)=ha;generalize decide (x.w <=1000000)=hb;generalize (x.kind==1)=k1;generalize (x.kind==2)=k2;generalize (x.kind==3)=k3;generalize (x.via==0)=v0;generalize (x.w==16)=w16;cases nm <;> cases tm <;> cases vm <;> cases ha <;> cases hb <;> cases k1 <;> cases k2 <;> cases k3 <;> cases v0 <;> cases w16 <;> rfl
end
end Go.Proofs.Ytekpjgmhkkjhgaa
end
section
namespace Go.Proofs.Ytekpjgmhkkjhgaa
open Go.Lf
def QV {α:Type} [Inhabited α] (l:List α) (k:Nat):α:=l[k-1]?.getD default
theorem Zq8 {α:Type} [Inhabited α] (g:Bool) {l:List α} {k:Nat} (hk:k < l.length) (hl:l.length < 4611686018427387904):
 gd (g && decide ((k:Int) > 0)) (Ym l (ZP ((k:Int) - 1))) default=some (bif g && decide ((k:Int) > 0) then QV l k else default):=by
 cases g
 ·rfl
 ·by_cases h:0 < k
  ·have:decide ((k:Int) > 0)=true:=by simp;omega
   rw [this,Bool.true_and,ZeL,ZmK (by omega) h,Z5,Cq1];unfold QV;have:k - 1 < l.length:=by omega
   simp [this]
  ·have:decide ((k:Int) > 0)=false:=by simp;omega
   rw [this];rfl
def K6 (w:Zb) (k:Nat) (x:Int):Bool:= !(decide (0 <=x) && decide (x < w.names)) || (decide ((k:Int) > 0) && decide (x <=QV w.freed k))
def KW (w:Zb) (m:Nat) (row:List Za) (k:Nat) (c:Za):Bool:= !(Kk w m c) || (decide ((k:Int) > 0) && decide (c.name <= (QV row k).name))
def Zb8 (w:Zb):Bool:= (decide (1 <= (w.cells.length:Int)) && decide ((w.cells.length:Int) <=6)) && (decide (0 <=w.names) && decide (w.names <=12)) && (decide ((w.notes.length:Int) <=80) && decide ((w.freed.length:Int) <=w.names))
def Zdw (w:Zb):Bool:= !(anyI (fun m row=>anyI (KW w m row) 0 row) 0 w.cells)
def KX (w:Zb):Bool:= !(w.notes.any fun x=>!(Ke w x))
section
theorem ZsB {F:Nat} (hF:1000 <=F) {w:Zb} (sm:Small w) (st:Store) (e0:st.machines= (w.cells.length:Int)) (e1:st.names=w.names) (e2:st.freed=w.freed):ZvI F st w=some (Zdw w && KX w):=by
 have hc:=sm.cells;have hn:=sm.notes
 have l2:loop F (ZfS F st w) 0=some (KX w):=by
  refine(Xf w.notes (fun v (_:Unit)=>v) (ZfS F st w) (fun _ x s next=>bif !(Ke w x) then some false else next ()) (fun _=>some true) (by omega) (fun k y s next hy hk=>?_) (fun s next=>?_) (by omega) ()).trans ?_
  ·simp only [ZfS,Z5,hy,hk,decide_true,Cq1,Bq0,Zsc hF sm st e0 e1 e2]
  ·simp [ZfS]
  ·rw [K4 (r:=some false) (fun _ x=>!(Ke w x)) (fun _ _ _ _=>rfl),Ze6];unfold KX;cases w.notes.any fun x=>!(Ke w x) <;> rfl
 have l1:∀ (m:Nat) (row:List Za) (next:Int ->Option Bool),row.length < 1000 ->loop F (ZfT F st m next row) 0=bif anyI (KW w m row) 0 row then some false else next (ZP ((m:Int) + 1)):=by
  intro m row next hr;refine(Xf row (fun v (_:Unit)=>v) (ZfT F st m next row) (fun k c s nx=>bif KW w m row k c then some false else nx ()) (fun _=>next (ZP ((m:Int) + 1))) (by omega) (fun k y s nx hy hk=>?_) (fun s nx=>?_) (by omega) ()).trans ?_
  ·have hk':k < row.length:=by omega
   simp only [ZfT,Z5,hy,hk,decide_true,Cq1,Bq0,ZsV hF sm st e0 e1 e2,Zq8 _ hk' (by omega),ZnD];unfold KW;cases Kk w m y <;> cases decide ((k:Int) > 0) <;> rfl
  ·simp [ZfT]
  ·rw [K4 (r:=some false) (KW w m row) (fun k _ _ _=>by rw [Nat.zero_add])]
 unfold ZvI;refine(Xf w.cells (fun v (_:Unit)=>v) (ZiB F st w) (fun m row s next=>bif anyI (KW w m row) 0 row then some false else next ()) (fun _=>some (KX w)) (by omega) (fun k y s next hy hk=>?_) (fun s next=>?_) (by omega) ()).trans ?_
 ·have hr:=sm.rows y (List.mem_of_getElem? hy);simp only [ZiB,Z5,hy,hk,decide_true,Cq1,Bq0];exact l1 k y next hr
 ·simp only [ZiB];rw [decide_eq_false (by omega),Cq0,l2]
 ·rw [K4 (r:=some false) (fun m row=>anyI (KW w m row) 0 row) (fun k _ _ _=>by rw [Nat.zero_add])];unfold Zdw;cases anyI (fun m (row:List Za)=>anyI (KW w m row) 0 row) 0 w.cells <;> rfl
end
end Go.Proofs.Ytekpjgmhkkjhgaa
end
section
namespace Go.Proofs.Ytekpjgmhkkjhgaa
open Go.Lf
structure Shp (w:Zb):Prop where
 c1:1 <=w.cells.length
 c6:w.cells.length <=6
 n0:0 <=w.names
 n12:w.names <=12
 notes:w.notes.length <=80
 cell:∀ (m:Nat) (row:List Za) (k:Nat) (c:Za),w.cells[m]? =some row ->row[k]? =some c ->Kk w m c=true∧(0 < k ->(QV row k).name < c.name)
 note:∀ x ∈ w.notes,Ke w x=true
theorem rows_ok {w:Zb} (h:Zdw w=true) (m:Nat) (row:List Za) (k:Nat) (c:Za) (hm:w.cells[m]? =some row) (hk:row[k]? =some c):Kk w m c=true∧(0 < k ->(QV row k).name < c.name):=by
 unfold Zdw at h;rw [Bool.not_eq_true',← Bool.not_eq_true] at h;have h1:¬ KW w m row k c=true:=fun hb=>h (ZcQ.2 ⟨m,row,hm,by rw [Nat.zero_add];exact ZcQ.2 ⟨k,c,hk,by rw [Nat.zero_add];exact hb⟩⟩)
 unfold KW at h1;rw [Bool.or_eq_true,Ba0,decide_eq_true_eq,decide_eq_true_eq,Bool.not_eq_true'] at h1;refine⟨?_,fun h0=>?_⟩
 ·cases hc:Kk w m c
  ·exact absurd (.inl hc) h1
  ·rfl
 ·by_cases hl:(QV row k).name < c.name
  ·exact hl
  ·exact absurd (.inr ⟨by omega,by omega⟩) h1
theorem asc {row:List Za} (h:∀ k c,row[k]? =some c ->0 < k ->(QV row k).name < c.name):∀ (k j:Nat) (c d:Za),j < k ->row[k]? =some c ->row[j]? =some d ->d.name < c.name:=by
 intro k
 induction k with
 | zero=>intro j c d h0;omega
 | succ k ih=>
   intro j c d hj hc hd;have hlt:k + 1 < row.length:= (Li0 hc).1;have hp:=h (k + 1) c hc (by omega)
   have e:row[k]? =some (QV row (k + 1)):=by
    unfold QV;have:k < row.length:=by omega
    simp [this]
   by_cases hjk:j=k
   ·subst hjk;rw [e] at hd;cases hd;exact hp
   ·have:=ih j _ d (by omega) e hd;omega
theorem ZtO {w:Zb} (h1:Zb8 w=true) (h2:Zdw w=true) (h3:KX w=true):Shp w:=by
 unfold Zb8 at h1;simp only [Ba0,decide_eq_true_eq] at h1;obtain⟨⟨⟨b1,b2⟩,b3,b4⟩,b5,b6⟩:=h1;refine⟨by omega,by omega,b3,b4,by omega,rows_ok h2,fun x hx=>?_⟩;unfold KX at h3;rw [Bool.not_eq_true',List.any_eq_false] at h3;have:=h3 x hx
 simpa using this
theorem ZrZ {row:List Za} (h:∀ k c,row[k]? =some c ->0 < k ->(QV row k).name < c.name) {k:Nat} {c:Za} (hc:row[k]? =some c) (n:Int):
 (row.take (k + 1)).find? (fun x=>x.name==n)=if n=c.name then some c else(row.take k).find? (fun x=>x.name==n):=by
 have hlt:k < row.length:= (Li0 hc).1
 have e:row.take (k + 1)=row.take k ++ [c]:=by
  rw [List.take_add_one,hc];rfl
 rw [e,List.find?_append];by_cases hn:n=c.name
 ·subst hn;rw [if_pos rfl]
  have:(row.take k).find? (fun x=>x.name==c.name)=none:=by
   rw [List.find?_eq_none];intro x hx;obtain⟨j,hj⟩:=List.mem_iff_getElem?.1 hx;have hjk:j < k:=by have:= (Li0 hj).1;rw [List.length_take] at this;omega
   rw [List.getElem?_take_of_lt hjk] at hj;have:=asc h k j c x hjk hc hj;simp;omega
  rw [this];simp
 ·rw [if_neg hn];have: [c].find? (fun x=>x.name==n)=none:=by simp;exact fun e=>hn e.symm
  rw [this];cases (row.take k).find? (fun x=>x.name==n) <;> rfl
def MapOf (w:Zb) (l:List (Zf×Za)):Prop:=∀ a b:Int,XC l ⟨a,b⟩=if 0 <=a∧a < (w.cells.length:Int) then cellOf w a.toNat b else none
theorem ZqF {F:Nat} (hF:1000 <=F) {w:Zb} (sm:Small w) (sh:Shp w):∃ cs,ZjC F w=some ⟨(w.cells.length:Int),w.names,cs,w.notes,w.freed⟩∧MapOf w cs:=by
 have hc:=sm.cells;have hn:=sm.notes;have hf:=sm.freed;unfold ZjC ZpK ZpJ;rw [XK (by simp only [List.length_nil];omega) (by decide),XK (by simp only [List.length_nil];omega) (by decide)];simp only [Bq0,List.nil_append]
 let I:Nat ->List (Zf×Za) ->Prop:=fun m l=>∀ a b:Int,XC l ⟨a,b⟩=if 0 <=a∧a < (m:Int) then cellOf w a.toNat b else none
 have inner:∀ (m:Nat) (row:List Za) (next:Int×(List (Zf×Za)) ->Option Store) (l:List (Zf×Za)),w.cells[m]? =some row ->I m l ->∃ l',I (m + 1) l'∧loop F (ZaV m next row) (0,l)=next (ZP ((m:Int) + 1),l'):=by
  intro m row next l hm hI;have hr:=sm.rows row (List.mem_of_getElem? hm);have hro:rowOf w m=row:=by unfold rowOf;rw [hm];rfl
  have hasc:∀ k c,row[k]? =some c ->0 < k ->(QV row k).name < c.name:=fun k c hk=>(sh.cell m row k c hm hk).2
  let J:Nat ->List (Zf×Za) ->Prop:=fun k l'=>∀ a b:Int,XC l' ⟨a,b⟩=if a= (m:Int) then(row.take k).find? (fun x=>x.name==b) else XC l ⟨a,b⟩
  have e:=Xf row (fun v s=>(v,s)) (ZaV m next row) (fun _ c s nx=>nx (Y9 s (Zf.mk m c.name) c)) (fun s=>next (ZP ((m:Int) + 1),s)) (by omega) (fun k y s nx hy hk=>by
   simp only [ZaV,Z5,hy,hk,decide_true,Cq1,Bq0]) (fun s nx=>by simp only [ZaV];rw [decide_eq_false (by omega),Cq0]) (by omega:row.length < F) l
  obtain⟨e2,hJ⟩:=J3 (d:=fun s=>next (ZP ((m:Int) + 1),s)) (g:=fun(_:Nat) (c:Za) s nx=>nx (Y9 s (Zf.mk m c.name) c)) (fun _ c s=>Y9 s (Zf.mk m c.name) c) J (l:=row) (i:=0) (s:=l) (fun a b=>by
   by_cases ha:a= (m:Int)
   ·rw [if_pos ha,hI a b,if_neg (by omega)];simp
   ·rw [if_neg ha]) (fun k c s nx hk hJ=>⟨rfl,fun a b=>by
    rw [Nat.zero_add] at hJ ⊢;rw [ZfC];by_cases ha:a= (m:Int)
    ·subst ha;rw [if_pos rfl,ZrZ hasc hk];by_cases hb:b=c.name
     ·rw [if_pos hb,hb,if_pos rfl]
     ·rw [if_neg hb,if_neg (fun q=>hb (by injection q)),hJ,if_pos rfl]
    ·rw [if_neg ha,if_neg (fun q=>ha (by injection q)),hJ,if_neg ha]⟩)
  refine⟨_,fun a b=>?_,e.trans e2⟩;rw [Nat.zero_add] at hJ;rw [hJ a b];by_cases ha:a= (m:Int)
  ·subst ha;rw [if_pos rfl,if_pos (by omega),List.take_length];unfold cellOf;rw [Int.toNat_natCast,hro]
  ·rw [if_neg ha,hI a b];by_cases hz:0 <=a∧a < (m:Int)
   ·rw [if_pos hz,if_pos (by omega)]
   ·rw [if_neg hz,if_neg (by omega)]
 have key:∀ (d m:Nat) (F':Nat) (l:List (Zf×Za)),m + d=w.cells.length ->d < F' ->I m l ->∃ cs,loop F' (ZaW F w w.notes w.freed) ((m:Int),l)=some ⟨(w.cells.length:Int),w.names,cs,w.notes,w.freed⟩∧MapOf w cs:=by
  intro d
  induction d with
  | zero=>
    intro m F' l hm hF' hI;obtain⟨F',rfl⟩:=Ne0 (n:=F') (by omega);have:m=w.cells.length:=by omega
    subst this;refine⟨l,?_,hI⟩;rw [Yi];simp only [ZaW];rw [decide_eq_false (by omega),Cq0]
  | succ d ih=>
    intro m F' l hm hF' hI;obtain⟨F',rfl⟩:=Ne0 (n:=F') (by omega);have hlt:m < w.cells.length:=by omega
    obtain⟨l',h1,h2⟩:=inner m w.cells[m] (loop F' (ZaW F w w.notes w.freed)) l (by simp [hlt]) hI;obtain⟨cs,h3,h4⟩:=ih (m + 1) F' l' (by omega) (by omega) h1;refine⟨cs,?_,h4⟩;rw [Yi];have hg:w.cells[m]? =some w.cells[m]:=by simp [hlt]
    simp only [ZaW,Z5,hg,Bq0];rw [decide_eq_true (by omega),Cq1,h2,Xd (by omega),h3]
 exact key w.cells.length 0 F [] (by omega) (by omega) (fun a b=>by rw [if_neg (by omega)];rfl)
def Jw {σ:Type} (w:Zb) (y:Int ->Za ->σ ->σ) (m:Nat) (n:Nat) (s:σ):σ:=match cellOf w m n with | some c=>y m c s | none=>s
theorem QG {w:Zb} {m:Nat} {n:Int} {c:Za} (h:cellOf w m n=some c):c.name=n:=by
 unfold cellOf at h;have:=List.find?_some h
 simpa using this
theorem Zae {w:Zb} {m:Nat} {n:Int} {c:Za} (h:cellOf w m n=some c):∃ (row:List Za) (k:Nat),w.cells[m]? =some row∧row[k]? =some c:=by
 unfold cellOf rowOf at h;have:=List.mem_of_find?_eq_some h;cases e:w.cells[m]? with
 | none=>rw [e] at this;simp at this
 | some row=>
   rw [e] at this;obtain⟨k,hk⟩:=List.mem_iff_getElem?.1 this;exact⟨row,k,rfl,hk⟩
structure Qx (w:Zb) (st:Store):Prop where
 m:st.machines= (w.cells.length:Int)
 n:st.names=w.names
 notes:st.notes=w.notes
 freed:st.freed=w.freed
 cells:MapOf w st.cells
structure Szd (w:Zb):Prop where
 c6:w.cells.length <=6
 n0:0 <=w.names
 n12:w.names <=12
 kind:∀ x ∈ w.notes,x.kind=1∨x.kind=2∨x.kind=3
theorem Shp.szd {w:Zb} (sh:Shp w):Szd w:= ⟨sh.c6,sh.n0,sh.n12,fun x hx=>by
 have hx:=sh.note x hx;by_cases k1:x.kind=1
 ·exact .inl k1
 ·by_cases k2:x.kind=2
  ·exact .inr (.inl k2)
  ·have q1:(x.kind==1)=false:=by simp [k1]
   have q2:(x.kind==2)=false:=by simp [k2]
   unfold Ke at hx;rw [q1,q2] at hx;simp at hx;exact .inr (.inr hx.2.1.1)⟩
section
theorem Zmr {F:Nat} (hF:1000 <=F) {w:Zb} (sm:Small w) (sh:Szd w) {st:Store} (so:Qx w st) {σ β:Type} (I:Nat ->σ ->Prop) (hI:∀ i s,I i s ->I (i + 1) s) {z:Za} {E:σ ->Option β} {B1:Int×σ ->(Int×σ ->Option β) ->Option β} {B2:Int ->(Int×σ ->Option β) ->Int×σ ->(Int×σ ->Option β) ->Option β} {Y:Int ->Za ->σ ->(σ ->Option β) ->Option β} (y':Int ->Za ->σ ->σ)
 (hB1:∀ v s next,B1 (v,s) next=bif decide (v < st.machines) then loop F (B2 v next) (0,s) else E s)
 (hB2:∀ v0 next v s nx,B2 v0 next (v,s) nx=bif decide (v < st.names) then(Zav st.cells (Zf.mk v0 v) z).bind fun x=>bif x.2 then Y v0 x.1 s (fun s'=>nx (ZP (v + 1),s')) else nx (ZP (v + 1),s) else next (ZP (v0 + 1),s))
 (hy:∀ i (a:Nat) c s k,a < w.cells.length ->i < 100 ->I i s ->Y a c s k=k (y' a c s)∧I (i + 1) (y' a c s)) (s0:σ) (h0:I 0 s0):
 loop F B1 (0,s0)=E ((List.range w.cells.length).foldl (fun s m=>(List.range w.names.toNat).foldl (fun s n=>Jw w y' m n s) s) s0)∧
 I (w.cells.length * w.names.toNat) ((List.range w.cells.length).foldl (fun s m=>(List.range w.names.toNat).foldl (fun s n=>Jw w y' m n s) s) s0):=by
 have hc:=sh.c6;have hn:=sh.n0;have hn2:=sh.n12;have en:((w.names.toNat:Nat):Int)=w.names:=by omega
 have inner:∀ (m:Nat) (next:Int×σ ->Option β) (s:σ),m < w.cells.length ->I (m * w.names.toNat) s ->
  loop F (B2 m next) (0,s)=next (ZP ((m:Int) + 1),(List.range w.names.toNat).foldl (fun s n=>Jw w y' m n s) s)∧I ((m + 1) * w.names.toNat) ((List.range w.names.toNat).foldl (fun s n=>Jw w y' m n s) s):=by
  intro m next s hm hs
  have e:=ZbJ w.names.toNat (fun v s=>(v,s)) (B2 m next) (fun k s nx=>match cellOf w m k with | some c=>Y m c s nx | none=>nx s) (fun s=>next (ZP ((m:Int) + 1),s)) (by omega) (fun k s nx hk=>by
   rw [hB2,so.n];rw [decide_eq_true (by omega),Cq1];unfold Zav;rw [so.cells,if_pos (by omega),Int.toNat_natCast];cases cellOf w m k with
   | some c=>rfl
   | none=>rfl) (fun s nx=>by rw [hB2,so.n];rw [decide_eq_false (by omega),Cq0]) (by omega:w.names.toNat < F) s
  obtain⟨e2,h2⟩:=J3 (d:=fun s=>next (ZP ((m:Int) + 1),s)) (g:=fun(_:Nat) (k:Nat) s nx=>match cellOf w m k with | some c=>Y m c s nx | none=>nx s) (fun _ k s=>Jw w y' m k s) (fun k s=>I (m * w.names.toNat + k) s) (l:=List.range w.names.toNat) (i:=0) (s:=s) hs (fun k x s nx hx hs=>by
   have hk:k < w.names.toNat:=by
    have:= (Li0 hx).1
    simpa using this
   have:x=k:=by
    rw [List.getElem?_range hk] at hx
    simpa using hx.symm
   subst this;rw [Nat.zero_add] at hs ⊢
   have hb:m * w.names.toNat + x < 100:=by
    have:=Nat.mul_le_mul (show m <=5 by omega) (show w.names.toNat <=12 by omega);omega
   unfold Jw;cases cellOf w m x with
   | some c=>
     obtain⟨q1,q2⟩:=hy _ m c s nx hm hb hs;dsimp only;rw [q1];exact⟨rfl,q2⟩
   | none=>exact⟨rfl,hI _ _ hs⟩)
  rw [U1] at e2 h2;refine⟨e.trans e2,?_⟩;rw [List.length_range,Nat.zero_add] at h2;rw [Nat.add_mul,Nat.one_mul];exact h2
 have key:∀ (d m F':Nat) (s:σ),m + d=w.cells.length ->d < F' ->I (m * w.names.toNat) s ->
  loop F' B1 ((m:Int),s)=E ((List.range' m d).foldl (fun s m=>(List.range w.names.toNat).foldl (fun s n=>Jw w y' m n s) s) s)∧I (w.cells.length * w.names.toNat) ((List.range' m d).foldl (fun s m=>(List.range w.names.toNat).foldl (fun s n=>Jw w y' m n s) s) s):=by
  intro d
  induction d with
  | zero=>
    intro m F' s hm hF' hs;obtain⟨F',rfl⟩:=Ne0 (n:=F') (by omega);have:m=w.cells.length:=by omega
    subst this;rw [Yi,hB1,so.m];rw [decide_eq_false (by omega),Cq0];exact⟨rfl,hs⟩
  | succ d ih=>
    intro m F' s hm hF' hs;obtain⟨F',rfl⟩:=Ne0 (n:=F') (by omega);obtain⟨h1,h2⟩:=inner m (loop F' B1) s (by omega) hs;obtain⟨h3,h4⟩:=ih (m + 1) F' _ (by omega) (by omega) h2;rw [Yi,List.range'_succ,List.foldl_cons];refine⟨?_,h4⟩;rw [hB1,so.m];rw [decide_eq_true (by omega),Cq1,h1,Xd (by omega)];exact h3
 have:=key w.cells.length 0 F s0 (by omega) (by omega) (by rw [Nat.zero_mul];exact h0);rw [← List.range_eq_range'] at this;exact this
end
theorem fold_congr {σ:Type} {f g:σ ->Nat ->σ} {N:Nat} (h:∀ s m,m < N ->f s m=g s m) (s:σ):(List.range N).foldl f s= (List.range N).foldl g s:=by
 have:∀ M,M <=N ->(List.range M).foldl f s= (List.range M).foldl g s:=by
  intro M
  induction M with
  | zero=>intro _;rfl
  | succ M ih=>
    intro hM;rw [List.range_succ,List.foldl_append,List.foldl_append,ih (by omega)];simp only [List.foldl_cons,List.foldl_nil];exact h _ _ (by omega)
 exact this N (Nat.le_refl _)
theorem U0 {σ τ α:Type} (V:σ ->τ) {f:σ ->α ->σ} {g:τ ->α ->τ} {l:List α} (h:∀ s x,x ∈ l ->V (f s x)=g (V s) x) (s:σ):V (l.foldl f s)=l.foldl g (V s):=by
 induction l generalizing s with
 | nil=>rfl
 | cons x l ih=>
   rw [List.foldl_cons,List.foldl_cons,ih (fun s y hy=>h s y (by simp [hy])),h s x (by simp)]
def Y0 (w:Zb) (n:Int):List Int:=
 w.notes.foldl (fun(s:List Int) (x:Zd)=>bif(x.kind==3) && (x.name==n) then s ++ [x.Zx] else s)
   ((List.range w.cells.length).foldl (fun(s:List Int) (m:Nat)=>match cellOf w m n with | some c=>bif c.root then s ++ [(m:Int)] else s | none=>s) [])
theorem Zkf {α:Type} (f:List Int ->α ->List Int) (hf:∀ s x,(f s x).length <=s.length + 1) (l:List α) (s:List Int):(l.foldl f s).length <=s.length + l.length:=by
 induction l generalizing s with
 | nil=>simp
 | cons x l ih=>
   rw [List.foldl_cons];have:=ih (f s x);have:=hf s x;simp only [List.length_cons];omega
section
theorem Zpn {F:Nat} (hF:1000 <=F) {w:Zb} (sm:Small w) (sh:Shp w) {st:Store} (so:Qx w st) {n:Nat} (hn:(n:Int) < w.names):ZvH F st n=some (Y0 w n):=by
 unfold ZvH
 let y':Int ->Za ->List Int ->List Int:=fun a c s=>bif(c.name== (n:Int)) && c.root then s ++ [a] else s
 obtain⟨h1,h2⟩:=Zmr hF sm sh.szd so (z:=Za.mk 0 false 0 0 0 false) (fun i (s:List Int)=>s.length <=i) (fun i s h=>Nat.le_succ_of_le h) (E:=ZfR F st n) (B1:=ZpH F st n) (B2:=ZpG F st n) (Y:=fun a c s k=>bif(c.name== (n:Int)) && c.root then(app 8 s [a]).bind k else k s) y' (fun v s next=>rfl) (fun v0 next v s nx=>rfl) (fun i a c s k _ hi hs=>by
  simp only [y'];cases ((c.name== (n:Int)) && c.root)
  ·exact⟨rfl,Nat.le_succ_of_le hs⟩
  ·simp only [Cq1];rw [XK (by simp;omega) (by decide)];exact⟨rfl,by simp;omega⟩) [] (Nat.le_refl _)
 rw [h1]
 have e:(List.range w.cells.length).foldl (fun s (m:Nat)=>(List.range w.names.toNat).foldl (fun s n=>Jw w y' m n s) s) []= (List.range w.cells.length).foldl (fun s (m:Nat)=>match cellOf w m n with | some c=>bif c.root then s ++ [(m:Int)] else s | none=>s) []:=by
  refine fold_congr (fun s m hm=>?_) _;refine ZeN (V:=id) (fun i s=>Jw w y' m i s) (fun s=>match cellOf w m n with | some c=>bif c.root then s ++ [(m:Int)] else s | none=>s) (n:=n) (N:=w.names.toNat) (by omega) (fun i s hi hne=>?_) (fun s=>?_) s
  ·simp only [id,Jw];cases hc:cellOf w m i with
   | none=>rfl
   | some c=>
     have:=QG hc;have hb:(c.name== (n:Int))=false:=by rw [this];simp;omega
     simp only [y',hb];rfl
  ·simp only [id,Jw];cases hc:cellOf w m n with
   | none=>rfl
   | some c=>
     have:=QG hc;have hb:(c.name== (n:Int))=true:=by rw [this];simp
     simp only [y',hb];rfl
 rw [e];rw [e] at h2;unfold ZfR;have hlen:=Nat.mul_le_mul sh.c6 (show w.names.toNat <=12 by have:=sh.n12;have:=sh.n0;omega);have hno:=sm.notes;refine(Xf w.notes (fun v (s:List Int)=>(v,s)) (ZiA st n) (fun _ x s next=>bif(x.kind==3) && (x.name== (n:Int)) then(app 8 s [x.Zx]).bind next else next s) (fun s=>some s) (by omega) (fun k y s next hy hk=>?_) (fun s next=>?_) (by omega) _).trans ?_
 ·simp only [ZiA,so.notes,Z5,hy,hk,decide_true,Cq1,Bq0,Ziz]
 ·simp only [ZiA,so.notes];rw [decide_eq_false (by omega),Cq0]
 ·rw [(J3 (fun _ (x:Zd) s=>bif(x.kind==3) && (x.name== (n:Int)) then s ++ [x.Zx] else s) (fun k (s:List Int)=>s.length <=72 + k) (by simp at h2 ⊢;omega) (fun k x s next hx hs=>by
   have:= (Li0 hx).1;cases ((x.kind==3) && (x.name== (n:Int)))
   ·exact⟨rfl,by simp;omega⟩
   ·simp only [Cq1];rw [XK (by simp;omega) (by decide)];exact⟨rfl,by simp;omega⟩)).1,U1]
  rfl
end
end Go.Proofs.Ytekpjgmhkkjhgaa
end
section
namespace Go.Proofs.Ytekpjgmhkkjhgaa
open Go.Lf
abbrev Acc:=List (Zf×Int)
def val (v:Acc) (k:Zf):Int:= (XC v k).getD 0
def upd (v:Acc) (k:Zf) (x:Int):Acc:=Y9 (Kg v k 0) k (ZP (val v k + x))
theorem WM (v:Acc) (k k':Zf) (x:Int):val (upd v k x) k'=if k'=k then ZP (val v k + x) else val v k':=by
 unfold val upd;rw [ZfC,Zj8];by_cases h:k'=k
 ·rw [if_pos h,if_pos h];rfl
 ·rw [if_neg h,if_neg h,if_neg h]
theorem Zty:ZP 0=0:=YP (by decide) (by decide)
def Zqm (a:Int) (c:Za) (q:Acc×Acc):Acc×Acc:= (upd q.1 ⟨a,c.name⟩ c.out,bif decide (c.from_ >=0) then upd q.2 ⟨c.from_,c.name⟩ c.has else q.2)
def Zql (x:Zd) (q:Acc×Acc):Acc×Acc:=bif x.kind==1 then(q.1,upd q.2 ⟨x.via,x.name⟩ x.w) else bif x.kind==2 then(q.1,upd q.2 ⟨x.Zx,x.name⟩ x.w) else(upd q.1 ⟨x.Zx,x.name⟩ 16,q.2)
def Wq (w:Zb):Acc×Acc:= (List.range w.cells.length).foldl (fun s m=>(List.range w.names.toNat).foldl (fun s n=>Jw w Zqm m n s) s) ([],[])
def ZcV (w:Zb):Acc×Acc:=w.notes.foldl (fun q x=>Zql x q) (Wq w)
def view (a n:Int) (q:Acc×Acc):Int×Int:= (val q.1 ⟨a,n⟩,val q.2 ⟨a,n⟩)
theorem ZrN {F:Nat} (hF:1000 <=F) {w:Zb} (sm:Small w) (sh:Szd w) {st:Store} (so:Qx w st):ZsG F st=some (ZcV w):=by
 unfold ZsG;have hno:=sm.notes
 obtain⟨h1,_⟩:=Zmr hF sm sh so (z:=Za.mk 0 false 0 0 0 false) (fun _ (_:Acc×Acc)=>True) (fun _ _ _=>trivial) (E:=ZfW F st) (B1:=ZpM F st) (B2:=ZpL F st) (Y:=fun a c s k=>bif decide (c.from_ >=0) then k (upd s.1 ⟨a,c.name⟩ c.out,upd s.2 ⟨c.from_,c.name⟩ c.has) else k (upd s.1 ⟨a,c.name⟩ c.out,s.2)) Zqm (fun v s next=>rfl) (fun v0 next v s nx=>by obtain⟨a,b⟩:=s;rfl) (fun i a c s k _ _ _=>⟨by
  unfold Zqm;cases decide (c.from_ >=0) <;> rfl,trivial⟩) ([],[]) trivial
 rw [h1];unfold ZfW;refine(Xf w.notes (fun v (s:Acc×Acc)=>(v,s.1,s.2)) (ZiC st) (fun _ x s next=>next (Zql x s)) (fun s=>some s) (by omega) (fun k y s next hy hk=>?_) (fun s next=>?_) (by omega) (Wq w)).trans ?_
 ·simp only [ZiC,so.notes,Z5,hy,hk,decide_true,Cq1,Bq0,ZfV,ZaT,Zql];cases y.kind==1
  ·cases y.kind==2 <;> rfl
  ·rfl
 ·simp only [ZiC,so.notes];rw [decide_eq_false (by omega),Cq0]
 ·rw [(J3 (fun _ (x:Zd) s=>Zql x s) (fun _ _=>True) trivial (fun _ _ _ _ _ _=>⟨rfl,trivial⟩)).1,U1]
  rfl
def hm (w:Zb) (a n:Nat) (q:Int×Int) (m:Nat):Int×Int:=match cellOf w m n with
 | some c=>(if m=a then ZP (q.1 + c.out) else q.1,if c.from_= (a:Int) then ZP (q.2 + c.has) else q.2)
 | none=>q
theorem ZoN {w:Zb} {a n m:Nat} (hn:n < w.names.toNat) (q:Acc×Acc):
 view a n ((List.range w.names.toNat).foldl (fun s n=>Jw w Zqm m n s) q)=hm w a n (view a n q) m:=by
 refine ZeN (view a n) (fun i s=>Jw w Zqm m i s) (fun q=>hm w a n q m) hn (fun i s hi hne=>?_) (fun s=>?_) q
 ·unfold Jw;cases hc:cellOf w m i with
  | none=>rfl
  | some c=>
    have hnm:=QG hc;dsimp only;unfold view Zqm;have k1:¬ (Zf.mk (a:Int) (n:Int))=Zf.mk (m:Int) c.name:=fun e=>by injection e with _ e2;omega
    have k2:¬ (Zf.mk (a:Int) (n:Int))=Zf.mk c.from_ c.name:=fun e=>by injection e with _ e2;omega
    rw [WM,if_neg k1];cases decide (c.from_ >=0)
    ·rfl
    ·simp only [Cq1];rw [WM,if_neg k2]
 ·unfold Jw hm;cases hc:cellOf w m n with
  | none=>rfl
  | some c=>
    have hnm:=QG hc;dsimp only;unfold view Zqm;dsimp only;rw [hnm];congr 1
    ·rw [WM];by_cases e:m=a
     ·subst e;rw [if_pos rfl,if_pos rfl]
     ·rw [if_neg e,if_neg (fun q=>by injection q with q1 _;omega)]
    ·by_cases e:c.from_= (a:Int)
     ·rw [if_pos e,decide_eq_true (by omega),Cq1,WM,e,if_pos rfl]
     ·rw [if_neg e];cases decide (c.from_ >=0)
      ·rfl
      ·simp only [Cq1];rw [WM,if_neg (fun q=>by injection q with q1 _;omega)]
theorem ZwE (c:Zd ->Bool) (l:List Zd) (g:Int):l.foldl (fun(g:Int) x=>bif c x then ZP (g + 16) else g) (ZP g)=ZP (g + 16 * (l.countP c:Int)):=by
 induction l generalizing g with
 | nil=>simp
 | cons x l ih=>
   rw [List.foldl_cons,List.countP_cons];cases hc:c x
   ·simp only [Cq0];rw [ih];simp
   ·simp only [Cq1,if_true];rw [ZkR,ih];congr 1;omega
theorem Zmv {w:Zb} (sh:Szd w) {a n:Nat} (ha:a < w.cells.length) (hn:(n:Int) < w.names):val (ZcV w).1 ⟨a,n⟩=J4 w a n∧val (ZcV w).2 ⟨a,n⟩=Zd5 w a n:=by
 have e1:view a n (Wq w)= (List.range w.cells.length).foldl (fun q m=>hm w a n q m) (0,0):=
  U0 (view a n) (fun s m _=>ZoN (by omega) s) ([],[])
 have e2:((List.range w.cells.length).foldl (fun q m=>hm w a n q m) (0,0)).2= (List.range w.cells.length).foldl (fun s k=>Znu w a n k s) 0:=by
  refine U0 (fun q:Int×Int=>q.2) (fun s m _=>?_) (0,0);unfold hm Znu;cases cellOf w m n with
  | none=>rfl
  | some c=>
    dsimp only;by_cases e:c.from_= (a:Int)
    ·rw [if_pos e];have:(c.from_== (a:Int))=true:=by simp [e]
     rw [this];rfl
    ·rw [if_neg e];have:(c.from_== (a:Int))=false:=by simp [e]
     rw [this];rfl
 have e3:((List.range w.cells.length).foldl (fun q m=>hm w a n q m) (0,0)).1=ZP (ZqE w a n):=by
  have f1:((List.range w.cells.length).foldl (fun q m=>hm w a n q m) (0,0)).1= (List.range w.cells.length).foldl (fun(g:Int) m=>match cellOf w m n with | some c=>if m=a then ZP (g + c.out) else g | none=>g) 0:=by
   refine U0 (fun q:Int×Int=>q.1) (fun s m _=>?_) (0,0);unfold hm;cases cellOf w m n with
   | none=>rfl
   | some c=>rfl
  rw [f1]
  have:=ZeN (V:=id) (fun m (g:Int)=>match cellOf w m n with | some c=>if m=a then ZP (g + c.out) else g | none=>g) (fun g=>match cellOf w a n with | some c=>ZP (g + c.out) | none=>g) ha (fun i s hi hne=>by
   simp only [id];cases cellOf w i n with
   | none=>rfl
   | some c=>dsimp only;rw [if_neg hne]) (fun s=>by
   simp only [id];cases cellOf w a n with
   | none=>rfl
   | some c=>simp) 0
  simp only [id] at this;rw [this];unfold ZqE;cases cellOf w a n with
  | none=>exact Zty.symm
  | some c=>dsimp only;rw [Int.zero_add]
 have e4:view a n (ZcV w)=w.notes.foldl (fun q x=>(bif((x.kind==3) && (x.Zx== (a:Int))) && (x.name== (n:Int)) then ZP (q.1 + 16) else q.1,ZgN a n x q.2)) (view a n (Wq w)):=by
  refine U0 (view a n) (fun s x hx=>?_) (Wq w);have hx:=sh.kind x hx;unfold view Zql ZgN;by_cases k1:x.kind=1
  ·simp only [k1,beq_self_eq_true,Cq1,Bool.true_and];rw [WM];have r1:((1:Int)==2)=false:=rfl;have r2:((1:Int)==3)=false:=rfl;simp only [r1,r2,Bool.false_and,Bool.or_false,Cq0];congr 1;by_cases e:Zf.mk (a:Int) (n:Int)=Zf.mk x.via x.name
   ·rw [if_pos e];injection e with z1 z2
    have b:((x.name== (n:Int)) && (x.via== (a:Int)))=true:=by simp [z1,z2]
    rw [b,Cq1,z1,z2]
   ·rw [if_neg e]
    have b:((x.name== (n:Int)) && (x.via== (a:Int)))=false:=by
     rw [Bool.and_eq_false_iff];by_cases z:x.name= (n:Int)
     ·right;simp;intro z2;exact e (by rw [z,z2])
     ·left;simp [z]
    rw [b,Cq0]
  ·by_cases k2:x.kind=2
   ·have r1:((2:Int)==1)=false:=rfl;have r2:((2:Int)==3)=false:=rfl;simp only [k2,r1,r2,beq_self_eq_true,Cq1,Cq0,Bool.true_and,Bool.false_and,Bool.false_or];rw [WM];congr 1;by_cases e:Zf.mk (a:Int) (n:Int)=Zf.mk x.Zx x.name
    ·rw [if_pos e];injection e with z1 z2
     have b:((x.name== (n:Int)) && (x.Zx== (a:Int)))=true:=by simp [z1,z2]
     rw [b,Cq1,z1,z2]
    ·rw [if_neg e]
     have b:((x.name== (n:Int)) && (x.Zx== (a:Int)))=false:=by
      rw [Bool.and_eq_false_iff];by_cases z:x.name= (n:Int)
      ·right;simp;intro z2;exact e (by rw [z,z2])
      ·left;simp [z]
     rw [b,Cq0]
   ·have q1:(x.kind==1)=false:=by simp [k1]
    have q2:(x.kind==2)=false:=by simp [k2]
    have q3:(x.kind==3)=true:=by
     rcases hx with z | z | z
     ·exact absurd z k1
     ·exact absurd z k2
     ·simp [z]
    simp only [q1,q2,q3,Cq0,Bool.true_and,Bool.false_and,Bool.or_false,Bool.and_false];rw [WM];congr 1;by_cases e:Zf.mk (a:Int) (n:Int)=Zf.mk x.Zx x.name
    ·rw [if_pos e];injection e with z1 z2
     have b:((x.Zx== (a:Int)) && (x.name== (n:Int)))=true:=by simp [z1,z2]
     rw [b,Cq1,z1,z2]
    ·rw [if_neg e]
     have b:((x.Zx== (a:Int)) && (x.name== (n:Int)))=false:=by
      rw [Bool.and_eq_false_iff];by_cases z:x.name= (n:Int)
      ·left;simp;intro z2;exact e (by rw [z,z2])
      ·right;simp [z]
     rw [b,Cq0]
 constructor
 ·show(view a n (ZcV w)).1=_;rw [e4,U0 (fun q:Int×Int=>q.1) (g:=fun(g:Int) (x:Zd)=>bif((x.kind==3) && (x.Zx== (a:Int))) && (x.name== (n:Int)) then ZP (g + 16) else g) (fun s x _=>rfl),e1,e3,ZwE];unfold J4 Zcu;congr 1;omega
 ·show(view a n (ZcV w)).2=_;rw [e4,U0 (fun q:Int×Int=>q.2) (g:=fun(g:Int) (x:Zd)=>ZgN a n x g) (fun s x _=>rfl),e1,e2]
  rfl
end Go.Proofs.Ytekpjgmhkkjhgaa
end
