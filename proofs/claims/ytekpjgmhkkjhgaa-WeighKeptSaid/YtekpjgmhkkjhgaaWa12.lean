/- Kept Part 12 of the proof. -/
import Derived.Test.YtekpjgmhkkjhgaaWa11
set_option linter.all false
set_option maxHeartbeats 2000000
theorem Go.Ne0{n:Nat}(h:n ≠ 0):∃k,n=Nat.succ k:=Nat.exists_eq_succ_of_ne_zero h
section
noncomputable section
namespace Go.Proofs.Ytekpjgmhkkjhgaa
open Go.Yw Go.Lf
theorem ZCV {h:H} {r:Bool} (hL:ZCW=some r):Pure XX 14 #[] h (.bool r):=by
 cases hL;intro wm;have e:ev (cfg XW fun _=>false) 1 (.call 14 #[] wm h)=some (.fin (.ret (.bool true)) h):=rfl;exact Zfv (X:=XW) mixed 1 _ _ e
end Go.Proofs.Ytekpjgmhkkjhgaa
end
end
section
namespace Go.Proofs.Ytekpjgmhkkjhgaa
open Go.Lf
def Zg5 (F:Nat) (p0:Store) (p1:Int) (p2:Int):Option Store:=
 (Zg7 p0 p1 p2).bind fun x1=>(bif(x1.use || (x1.out !=0)) then some p0 else(bif x1.root then(app 8 p0.freed [p2]).bind fun z8=>(ZnH F z8).bind fun x13=>some (Store.mk p0.machines p0.names (Zbf p0.cells (Ze.mk p1 p2)) p0.notes x13) else(ZnI p2).bind fun x16=>(bif(!(ZaQ x1 x16)) then(ZaP (Store.mk p0.machines p0.names (Zbf p0.cells (Ze.mk p1 p2)) p0.notes p0.freed) (Zd.mk 2 x1.from_ p2 0 x1.has)).bind fun x17=>some x17 else some (Store.mk p0.machines p0.names (Zbf p0.cells (Ze.mk p1 p2)) p0.notes p0.freed))))
end Go.Proofs.Ytekpjgmhkkjhgaa
end
section
set_option maxRecDepth 20000
noncomputable section
namespace Go.Proofs.Ytekpjgmhkkjhgaa
open Go.Yw Go.Lf
theorem Zl5 {F wm:Nat} {h:H} {p0:Store} {p1 p2:Int} {ZJ:Nat} {Zp:Option Addr} {Zo Xz:Nat} {ZE:Option Addr} {ZC X0 Xx:Nat} {r:Store} (ZG:wm <=h.size) (hO:ZQ (wm:=wm) [bx wm Xx [.int .i64 p0.machines,.int .i64 p0.names,.map (some ZJ),.slice Zp Xz Zo,.slice ZE X0 ZC],mp wm Zh Zk (some ZJ) p0.cells,ow wm Zj Zp Xz Zo p0.notes,ow wm (ZW .i64) ZE X0 ZC p0.freed] h) (hL:Zg5 F p0 p1 p2=some r):
 WR XX 106 #[.pointer (some ⟨Xx,0,none⟩),.int .i64 p1,.int .i64 p2] wm h (CP (fun(v:Value) (Gb:List (Ast wm))=>∃ (JI:Nat) (JN:Option Addr) (JG:Nat) (JK:Nat) (JM:Option Addr) (JF:Nat) (JJ:Nat),v= .tuple [].toArray∧Gb= [bx wm Xx [.int .i64 r.machines,.int .i64 r.names,.map (some JI),.slice JN JG JK,.slice JM JF JJ],mp wm Zh Zk (some JI) r.cells,ow wm Zj JN JG JK r.notes,ow wm (ZW .i64) JM JF JJ r.freed]) [bx wm Xx [.int .i64 p0.machines,.int .i64 p0.names,.map (some ZJ),.slice Zp Xz Zo,.slice ZE X0 ZC],mp wm Zh Zk (some ZJ) p0.cells,ow wm Zj Zp Xz Zo p0.notes,ow wm (ZW .i64) ZE X0 ZC p0.freed] h):=by
 refine bg Try.ntmps106 ZG hO ?_;intro T hT hS;unfold Zg5 at hL;obtain rfl:=hS.on k2;obtain rfl:=hS.on k3;refine r4 ?_;refine r1 ?_;obtain⟨x1,hx1,hL⟩:=bind_some hL;refine WO.cp gN rfl (Xj.fn ZlB (Zc lk (Zc lk (Zc lk Zl)))) (WR.QV rfl (ZhF (Nat.le_refl _) (hS.QF k0) (.inl (hS.lt k0)) (hS.mrd k1) (hS.ord k2) (hS.ord k3) hx1)) ?_;refine r1 ?_;rintro _ h3 ⟨b2,eb2,rfl,hS⟩;refine r1 ?_;rintro h4 hS;refine JP ?_;refine r2 ?_;refine cn hL ?_ ?_
 ·intro hc hL;refine r2 ?_;have hr:=Oi0 hL;subst hr;exact ZR.gen (vs:= []) rfl Zm rfl ⟨_,⟨ZJ,Zp,p0.notes.length,Zo,ZE,p0.freed.length,ZC,rfl,rfl⟩,hT ▸ hS.only (.c k1 (.c k1 (.c k1 (.c k1 .n))))⟩
 ·intro hc hL;refine r8 ?_;refine r2 ?_;refine WO.w gN rfl (Y8 XY (Zg lk (Zg lk Zx)) rfl (cs':= [.int .i64 p1,.int .i64 p2]) rfl) ?_;refine WO.hw gN (ZA7 (kv:=Zh) (vv:=Zk) (k:= (Ze.mk p1 p2)) hS k2 YF rfl Uq (Zq (ZL rfl (Zf rfl fh)) rfl) (Zq fh rfl)) ?_;rintro h5 hS;refine r8 ?_;refine r2 ?_;refine cn hL ?_ ?_
  ·intro hc hL;refine r8 ?_;refine WO.hn gN rfl (Zfu (e:= (ZW .i64)) hS Qr Xl XF rfl rfl rfl (Zg lk Zx) rfl [((),p2)] rfl (xs:= [p2]) rfl (by intro q hq;simp only [List.mem_cons,List.not_mem_nil,or_false] at hq;subst hq;exact trivial) rfl) ?_;rintro _ h7 ⟨b6,eb6,rfl,hS⟩;obtain⟨z8,hz8,hL⟩:=bind_some hL;refine WO.hv gN rfl (Zd3 (e:= (ZW .i64)) hS k5 Zfa lk lk (hS.QH k0) (hS.on k0) hz8) ?_;rintro _ h11 ⟨a9,c10,rfl,hS⟩;refine r3 ?_;rintro h12 hS;refine r6 ?_;refine r1 ?_;obtain⟨x13,Zuz,hL⟩:=bind_some hL;refine WO.cl gN rfl (Xj.fn ZBS (Zc lk Zl)) hS (.c k1 .n) (fun g' hz hf hO=>ZyQ (by rw [hz];exact hS.hw) hO Zuz) ?_;rintro _ h14 _ ⟨rfl,rfl⟩ hS;refine r2 ?_;refine ZR.Yt ?_;have hr:=Oi0 hL;subst hr;exact ZR.gen (vs:= []) rfl Zm rfl ⟨_,⟨ZJ,Zp,p0.notes.length,Zo,a9,z8.length,c10,rfl,rfl⟩,hT ▸ hS.only (.c k1 (.c k2 (.c k3 (.c k0 .n))))⟩
  ·intro hc hL;refine r1 ?_;refine WC.Yk mixed Kq0 ?_;refine r2 ?_;obtain⟨x16,hx16,hL⟩:=bind_some hL;refine WX.cp gN rfl (Xj.fn ZuT (Zc lk Zl)) (WR.QV rfl (Zq9 (Nat.le_refl _) hx16)) ?_ rfl rfl;refine WX.w gN rfl (Yi (Zq (ZL rfl fh) rfl) (Zq fh rfl) (Zoq (xs:= [.int .i64 x1.name,.bool x1.root,.int .i64 x1.from_,.int .i64 x1.has,.int .i64 x1.out,.bool x1.use]) (ys:= [.int .i64 x16.name,.bool x16.root,.int .i64 x16.from_,.int .i64 x16.has,.int .i64 x16.out,.bool x16.use]) (ZHi x1 x16) rfl rfl)) ?_ rfl;refine r3 ?_;refine cn hL ?_ ?_
   ·intro hc hL;refine r6 ?_;refine r1 ?_;refine WO.w gN rfl (YP Zrl (Zg lk (Zg lk (Zg lk (Zg lk Zx)))) rfl (cs':= [.int .i64 2,.int .i64 x1.from_,.int .i64 p2,.int .i64 0,.int .i64 x1.has]) rfl) ?_;obtain⟨x17,ZBu,hL⟩:=bind_some hL;refine WO.cl gN rfl (Xj.fn ZlA (Zc lk (Zc lk Zl))) hS (.c k2 (.c k0 (.c k1 (.c k1 .n)))) (fun g' hz hf hO=>ZhE (by rw [hz];exact hS.hw) hO ZBu) ?_;rintro _ h25 _ ⟨m18,a19,n20,c21,a22,n23,c24,rfl,rfl⟩ hS;obtain rfl:=hS.on k2;obtain rfl:=hS.on k3;refine r2 ?_;refine ZR.Yt ?_;have hr:=Oi0 hL;subst hr;exact ZR.gen (vs:= []) rfl Zm rfl ⟨_,⟨m18,a19,x17.notes.length,c21,a22,x17.freed.length,c24,rfl,rfl⟩,hT ▸ hS.only (.c k0 (.c k0 (.c k0 (.c k0 .n))))⟩
   ·intro hc hL;refine r2 ?_;refine ZR.Yt ?_;have hr:=Oi0 hL;subst hr;exact ZR.gen (vs:= []) rfl Zm rfl ⟨_,⟨ZJ,Zp,p0.notes.length,Zo,ZE,p0.freed.length,ZC,rfl,rfl⟩,hT ▸ hS.only (.c k2 (.c k0 (.c k1 (.c k1 .n))))⟩
end Go.Proofs.Ytekpjgmhkkjhgaa
end
end
section
namespace Go.Proofs.Ytekpjgmhkkjhgaa
open Go.Lf
def Zf5 (F:Nat) (p1:Zd):Int×Int×(List (Ze×Zb))×(List Zd)×(List Int) ->Option Store:=fun(v49,v50,v51,v53,v57)=>
 (Zg5 F (Store.mk v49 v50 v51 v53 v57) p1.Zv p1.name).bind fun x61=>some x61
def ZvC (F:Nat) (p0:Store) (p1:Zd):Option Store:=
 (Zg7 p0 p1.Zv p1.name).bind fun x5=>(bif(p1.kind==1) then(bif(((!x5.root) && (decide (x5.from_ < 0))) && (p1.via !=p1.Zv)) then some (Store.mk p0.machines p0.names (YL p0.cells (Ze.mk p1.Zv p1.name) (Zb.mk x5.name x5.root p1.via p1.w x5.out true)) p0.notes p0.freed) else(bif((decide (x5.from_ >=0)) && (x5.from_==p1.via)) then some (Store.mk p0.machines p0.names (YL p0.cells (Ze.mk p1.Zv p1.name) (Zb.mk x5.name x5.root x5.from_ (ZF (x5.has + p1.w)) x5.out true)) p0.notes p0.freed) else(Zg6 (Store.mk p0.machines p0.names (YL p0.cells (Ze.mk p1.Zv p1.name) (Zb.mk x5.name x5.root x5.from_ x5.has x5.out true)) p0.notes p0.freed) p1.Zv p1.name p1.via p1.w).bind fun x18=>some x18)) else(bif(p1.kind==2) then(Zg5 F (Store.mk p0.machines p0.names (YL p0.cells (Ze.mk p1.Zv p1.name) (Zb.mk x5.name x5.root x5.from_ x5.has (ZF (x5.out - p1.w)) x5.use)) p0.notes p0.freed) p1.Zv p1.name).bind fun x30=>some x30 else(bif decide (x5.from_ >=0) then(Zg6 (Store.mk p0.machines p0.names (YL p0.cells (Ze.mk p1.Zv p1.name) (Zb.mk x5.name true (-1) 0 (ZF (x5.out + 16)) x5.use)) p0.notes p0.freed) p1.Zv p1.name x5.from_ x5.has).bind fun x71=>(Zf5 F p1) (x71.machines,x71.names,x71.cells,x71.notes,x71.freed) else(Zf5 F p1) (p0.machines,p0.names,YL p0.cells (Ze.mk p1.Zv p1.name) (Zb.mk x5.name true (-1) 0 (ZF (x5.out + 16)) x5.use),p0.notes,p0.freed))))
def ZfY:Ze ->Int ->Option Bool:=fun ZIC ZDX=>
 (bif decide (ZDX > 1000000) then some true else some false)
def Za2 (F:Nat):Int×Int×(List (Ze×Zb))×(List Zd)×(List Int) ->Option (PR Store):=fun(v14,v15,v16,v18,v22)=>
 (bif decide ((v18.length:Int) > 80) then some (.Jq 3) else(ZpF F (Store.mk v14 v15 v16 v18 v22)).bind fun x26=>(Zkp (ZfY) x26.1).bind fun q37=>(bif q37 then some (.Jq 3) else some (.ok (Store.mk v14 v15 v16 v18 v22))))
def Zvv (F:Nat) (p0:Store) (p1:Zn):Option (PR Store):=
 (ZnL p0 p1).bind fun x3=>prC x3 (fun e5=>some (.Jq e5)) (fun y4=>(bif(p1.Z6==1) then(Za2 F) (p0.machines,ZF (p0.names + 1),YL p0.cells (Ze.mk p1.at_ p0.names) (Zb.mk p0.names true (-1) 0 0 true),p0.notes,p0.freed) else(bif(p1.Z6==2) then(ZnK p0 p1).bind fun x103=>(Za2 F) (x103.machines,x103.names,x103.cells,x103.notes,x103.freed) else(bif(p1.Z6==3) then(QG p0.cells (Ze.mk p1.at_ p1.name) (Zb.mk 0 false 0 0 0 false)).bind fun x113=>(Zg5 F (Store.mk p0.machines p0.names (YL p0.cells (Ze.mk p1.at_ p1.name) (Zb.mk x113.name x113.root x113.from_ x113.has x113.out false)) p0.notes p0.freed) p1.at_ p1.name).bind fun ZmO=>(Za2 F) (ZmO.machines,ZmO.names,ZmO.cells,ZmO.notes,ZmO.freed) else(bif(p1.Z6==4) then(QG p0.cells (Ze.mk p1.at_ p1.name) (Zb.mk 0 false 0 0 0 false)).bind fun Jm=>(ZaP (Store.mk p0.machines p0.names (YL p0.cells (Ze.mk p1.at_ p1.name) (Zb.mk Jm.name false p1.Zv 16 Jm.out Jm.use)) p0.notes p0.freed) (Zd.mk 3 p1.Zv p1.name 0 16)).bind fun ZmN=>(Za2 F) (ZmN.machines,ZmN.names,ZmN.cells,ZmN.notes,ZmN.freed) else(Ye p0.notes p1.at_).bind fun KA=>(ZnJ p0.notes p1.at_ (ZF (p1.at_ + 1))).bind fun Zw3=>(ZvC F (Store.mk p0.machines p0.names p0.cells Zw3 p0.freed) KA).bind fun ZmM=>(Za2 F) (ZmM.machines,ZmM.names,ZmM.cells,ZmM.notes,ZmM.freed))))))
end Go.Proofs.Ytekpjgmhkkjhgaa
end
section
set_option maxRecDepth 20000
noncomputable section
namespace Go.Proofs.Ytekpjgmhkkjhgaa
open Go.Yw Go.Lf
theorem ZCJ {F wm:Nat} {h:H} {p0:Store} {p1:Zd} {ZJ:Nat} {Zp:Option Addr} {Zo Xz:Nat} {ZE:Option Addr} {ZC X0 Xx:Nat} {r:Store} (ZG:wm <=h.size) (hO:ZQ (wm:=wm) [bx wm Xx [.int .i64 p0.machines,.int .i64 p0.names,.map (some ZJ),.slice Zp Xz Zo,.slice ZE X0 ZC],mp wm Zh Zk (some ZJ) p0.cells,ow wm Zj Zp Xz Zo p0.notes,ow wm (ZW .i64) ZE X0 ZC p0.freed] h) (hL:ZvC F p0 p1=some r):
 WR XX 66 #[.pointer (some ⟨Xx,0,none⟩),.agg [.int .i64 p1.kind,.int .i64 p1.Zv,.int .i64 p1.name,.int .i64 p1.via,.int .i64 p1.w].toArray] wm h (CP (fun(v:Value) (Gb:List (Ast wm))=>∃ (JI:Nat) (JN:Option Addr) (JG:Nat) (JK:Nat) (JM:Option Addr) (JF:Nat) (JJ:Nat),v= .tuple [].toArray∧Gb= [bx wm Xx [.int .i64 r.machines,.int .i64 r.names,.map (some JI),.slice JN JG JK,.slice JM JF JJ],mp wm Zh Zk (some JI) r.cells,ow wm Zj JN JG JK r.notes,ow wm (ZW .i64) JM JF JJ r.freed]) [bx wm Xx [.int .i64 p0.machines,.int .i64 p0.names,.map (some ZJ),.slice Zp Xz Zo,.slice ZE X0 ZC],mp wm Zh Zk (some ZJ) p0.cells,ow wm Zj Zp Xz Zo p0.notes,ow wm (ZW .i64) ZE X0 ZC p0.freed] h):=by
 refine bg Try.ntmps66 ZG hO ?_;intro T hT hS;unfold ZvC at hL;obtain rfl:=hS.on k2;obtain rfl:=hS.on k3;refine r3 ?_;rintro _ h2 ⟨b1,eb1,rfl,hS⟩;refine r1 ?_;rintro _ h4 ⟨b3,eb3,rfl,hS⟩;refine r8 ?_;refine r1 ?_;obtain⟨x5,hx5,hL⟩:=bind_some hL;refine WO.cp gN rfl (Xj.fn ZlB (Zc lk (Zc lk (Zc lk Zl)))) (WR.QV rfl (ZhF (Nat.le_refl _) (hS.QF k2) (.inl (hS.lt k2)) (hS.mrd k3) (hS.ord k4) (hS.ord k5) hx5)) ?_;refine r1 ?_;rintro _ h7 ⟨b6,eb6,rfl,hS⟩;refine r1 ?_;rintro h8 hS;refine r4 ?_;refine WO.w gN rfl (Zeq (Zc lk (Zc lk (Zc lk Zl)))) ?_;refine r16 ?_;refine cn hL ?_ ?_
 ·intro hc hL;refine r4 ?_;rintro h9 hS;refine r16 ?_;refine r6 ?_;refine r1 ?_;refine cn hL ?_ ?_
  ·intro hc hL;refine r1 ?_;refine WC.Yk mixed Kq0 ?_;refine r3 ?_;refine WX.wr (fun x=>x=b3) hS gN rfl (fun _ _ hR=>ZU Xu (Zq fh rfl) (At.eqv (hR b3 rfl) (hS.QF k1)) (j:=4) rfl (v:= .int .i64 p1.w) rfl) ?_ rfl rfl;rintro h10 e11 hS;refine r1 ?_;refine WX.hu gN (Wu hS k0 Xl lk lk (vs:= [.int .i64 p1.via]) rfl rfl rfl rfl (cs':= [.int .i64 x5.name,.bool x5.root,.int .i64 p1.via,.int .i64 x5.has,.int .i64 x5.out,.bool true]) rfl) ?_ rfl rfl [3] Kq0 (.c .z (hS.dj (.c k0 (.c k0 .n))) Z8.e);rintro h12 hS;refine WX.w gN rfl (XB ZlJ lk) ?_ Kq0;refine WX.hu gN (Wu hS k0 Xl lk lk (vs:= [.int .i64 p1.w]) rfl rfl rfl rfl (cs':= [.int .i64 x5.name,.bool x5.root,.int .i64 p1.via,.int .i64 p1.w,.int .i64 x5.out,.bool true]) rfl) ?_ rfl Kq0 [] Kq0 Z8.e;rintro h13 hS;refine r4 ?_;refine WO.inl gN rfl (Xj.clo (first:= []) (cap:= [.pointer (some ⟨b6,0,none⟩),.pointer (some ⟨b1,0,none⟩),.pointer (some ⟨b3,0,none⟩)]) lk ZiC Zl rfl) (WF.begin (args:= [_,_,_]) (fn:=Try.f104) Kq0 (by exact rfl) Try.ntmps104 (by simp) ?_);simp only [ZI,ZN,Nat.reduceAdd];refine WC.Yk mixed Kq0 ?_;refine r8 ?_;refine WX.w gN rfl (Y8 XY (Zg lk (Zg lk Zx)) rfl (cs':= [.int .i64 p1.Zv,.int .i64 p1.name]) rfl) ?_ rfl;refine r1 ?_;refine WX.hu gN (Zb7 (kv:=Zh) (vv:=Zk) (k:= (Ze.mk p1.Zv p1.name)) (v:= (Zb.mk x5.name x5.root p1.via p1.w x5.out true)) hS k4 YF Uq (Zq (ZO rfl (ZL rfl fh)) rfl) (Zq (Zf rfl fh) rfl) (Zq fh rfl)) ?_ rfl rfl [] Kq0 Z8.e;rintro h14 hS;refine r1 ?_;refine ZR.Yt ?_;refine ZR.gen (vs:= []) rfl Zm rfl ?_;refine r3 ?_;refine ZR.Yt ?_;have hr:=Oi0 hL;subst hr;exact ZR.gen (vs:= []) rfl Zm rfl ⟨_,⟨ZJ,Zp,p0.notes.length,Zo,ZE,p0.freed.length,ZC,rfl,rfl⟩,hT ▸ hS.only (.c k4 (.c k0 (.c k3 (.c k3 .n))))⟩
  ·intro hc hL;refine JP ?_;refine r3 ?_;refine cn hL ?_ ?_
   ·intro hc hL;refine r8 ?_;refine r1 ?_;rintro h15 hS;refine r4 ?_;refine WO.inl gN rfl (Xj.clo (first:= []) (cap:= [.pointer (some ⟨b6,0,none⟩),.pointer (some ⟨b1,0,none⟩),.pointer (some ⟨b3,0,none⟩)]) lk ZiC Zl rfl) (WF.begin (args:= [_,_,_]) (fn:=Try.f104) Kq0 (by exact rfl) Try.ntmps104 (by simp) ?_);simp only [ZI,ZN,Nat.reduceAdd];refine WC.Yk mixed Kq0 ?_;refine r8 ?_;refine WX.w gN rfl (Y8 XY (Zg lk (Zg lk Zx)) rfl (cs':= [.int .i64 p1.Zv,.int .i64 p1.name]) rfl) ?_ rfl;refine r1 ?_;refine WX.hu gN (Zb7 (kv:=Zh) (vv:=Zk) (k:= (Ze.mk p1.Zv p1.name)) (v:= (Zb.mk x5.name x5.root x5.from_ (ZF (x5.has + p1.w)) x5.out true)) hS k4 YF Uq (Zq (ZO rfl (ZL rfl fh)) rfl) (Zq (Zf rfl fh) rfl) (Zq fh rfl)) ?_ rfl rfl [] Kq0 Z8.e;rintro h16 hS;refine r1 ?_;refine ZR.Yt ?_;refine ZR.gen (vs:= []) rfl Zm rfl ?_;refine r3 ?_;refine ZR.Yt ?_;have hr:=Oi0 hL;subst hr;exact ZR.gen (vs:= []) rfl Zm rfl ⟨_,⟨ZJ,Zp,p0.notes.length,Zo,ZE,p0.freed.length,ZC,rfl,rfl⟩,hT ▸ hS.only (.c k4 (.c k0 (.c k3 (.c k3 .n))))⟩
   ·intro hc hL;refine r3 ?_;refine WO.inl gN rfl (Xj.clo (first:= []) (cap:= [.pointer (some ⟨b6,0,none⟩),.pointer (some ⟨b1,0,none⟩),.pointer (some ⟨b3,0,none⟩)]) lk ZiC Zl rfl) (WF.begin (args:= [_,_,_]) (fn:=Try.f104) Kq0 (by exact rfl) Try.ntmps104 (by simp) ?_);simp only [ZI,ZN,Nat.reduceAdd];refine WC.Yk mixed Kq0 ?_;refine r8 ?_;refine WX.w gN rfl (Y8 XY (Zg lk (Zg lk Zx)) rfl (cs':= [.int .i64 p1.Zv,.int .i64 p1.name]) rfl) ?_ rfl;refine r1 ?_;refine WX.hu gN (Zb7 (kv:=Zh) (vv:=Zk) (k:= (Ze.mk p1.Zv p1.name)) (v:= (Zb.mk x5.name x5.root x5.from_ x5.has x5.out true)) hS k4 YF Uq (Zq (ZO rfl (ZL rfl fh)) rfl) (Zq (Zf rfl fh) rfl) (Zq fh rfl)) ?_ rfl rfl [] Kq0 Z8.e;rintro h17 hS;refine r1 ?_;refine ZR.Yt ?_;refine ZR.gen (vs:= []) rfl Zm rfl ?_;refine JP ?_;obtain⟨x18,Zr9,hL⟩:=bind_some hL;refine WO.cl gN rfl (Xj.fn ZuV (Zc lk (Zc lk (Zc lk (Zc lk (Zc lk Zl)))))) hS (.c k4 (.c k0 (.c k3 (.c k3 .n)))) (fun g' hz hf hO=>Zrc (by rw [hz];exact hS.hw) hO Zr9) ?_;rintro _ h26 _ ⟨m19,a20,n21,c22,a23,n24,c25,rfl,rfl⟩ hS;obtain rfl:=hS.on k2;obtain rfl:=hS.on k3;refine r3 ?_;refine ZR.Yt ?_;have hr:=Oi0 hL;subst hr;exact ZR.gen (vs:= []) rfl Zm rfl ⟨_,⟨m19,a20,x18.notes.length,c22,a23,x18.freed.length,c25,rfl,rfl⟩,hT ▸ hS.only (.c k0 (.c k0 (.c k0 (.c k0 .n))))⟩
 ·intro hc hL;refine r6 ?_;refine cn hL ?_ ?_
  ·intro hc hL;refine r8 ?_;refine r1 ?_;rintro h28 hS;refine r4 ?_;refine r1 ?_;refine WO.inl gN rfl (Xj.clo (first:= []) (cap:= [.pointer (some ⟨b6,0,none⟩),.pointer (some ⟨b1,0,none⟩),.pointer (some ⟨b3,0,none⟩)]) lk ZiC Zl rfl) (WF.begin (args:= [_,_,_]) (fn:=Try.f104) Kq0 (by exact rfl) Try.ntmps104 (by simp) ?_);simp only [ZI,ZN,Nat.reduceAdd];refine WC.Yk mixed Kq0 ?_;refine r8 ?_;refine WX.w gN rfl (Y8 XY (Zg lk (Zg lk Zx)) rfl (cs':= [.int .i64 p1.Zv,.int .i64 p1.name]) rfl) ?_ rfl;refine r1 ?_;refine WX.hu gN (Zb7 (kv:=Zh) (vv:=Zk) (k:= (Ze.mk p1.Zv p1.name)) (v:= (Zb.mk x5.name x5.root x5.from_ x5.has (ZF (x5.out - p1.w)) x5.use)) hS k4 YF Uq (Zq (ZO rfl (ZL rfl fh)) rfl) (Zq (Zf rfl fh) rfl) (Zq fh rfl)) ?_ rfl rfl [] Kq0 Z8.e;rintro h29 hS;refine r1 ?_;refine ZR.Yt ?_;refine ZR.gen (vs:= []) rfl Zm rfl ?_;refine r8 ?_;obtain⟨x30,Znj,hL⟩:=bind_some hL;refine WO.cl gN rfl (Xj.fn Zpo (Zc lk (Zc lk (Zc lk Zl)))) hS (.c k4 (.c k0 (.c k3 (.c k3 .n)))) (fun g' hz hf hO=>Zl5 (by rw [hz];exact hS.hw) hO Znj) ?_;rintro _ h38 _ ⟨m31,a32,n33,c34,a35,n36,c37,rfl,rfl⟩ hS;obtain rfl:=hS.on k2;obtain rfl:=hS.on k3;refine r2 ?_;refine ZR.Yt ?_;have hr:=Oi0 hL;subst hr;exact ZR.gen (vs:= []) rfl Zm rfl ⟨_,⟨m31,a32,x30.notes.length,c34,a35,x30.freed.length,c37,rfl,rfl⟩,hT ▸ hS.only (.c k0 (.c k0 (.c k0 (.c k0 .n))))⟩
  ·intro hc hL;refine r1 ?_;refine WC.Yk mixed Kq0 ?_;refine JP ?_;rintro h40 hS;refine r2 ?_;rintro h41 hS;refine r2 ?_;rintro h42 hS;refine r8 ?_;refine r1 ?_;rintro h43 hS;refine r4 ?_;refine r1 ?_;refine WO.inl gN rfl (Xj.clo (first:= []) (cap:= [.pointer (some ⟨b6,0,none⟩),.pointer (some ⟨b1,0,none⟩),.pointer (some ⟨b3,0,none⟩)]) lk ZiC Zl rfl) (WF.begin (args:= [_,_,_]) (fn:=Try.f104) Kq0 (by exact rfl) Try.ntmps104 (by simp) ?_);simp only [ZI,ZN,Nat.reduceAdd];refine WC.Yk mixed Kq0 ?_;refine r8 ?_;refine WX.w gN rfl (Y8 XY (Zg lk (Zg lk Zx)) rfl (cs':= [.int .i64 p1.Zv,.int .i64 p1.name]) rfl) ?_ rfl;refine r1 ?_;refine WX.hu gN (Zb7 (kv:=Zh) (vv:=Zk) (k:= (Ze.mk p1.Zv p1.name)) (v:= (Zb.mk x5.name true (-1) 0 (ZF (x5.out + 16)) x5.use)) hS k4 YF Uq (Zq (ZO rfl (ZL rfl fh)) rfl) (Zq (Zf rfl fh) rfl) (Zq fh rfl)) ?_ rfl rfl [] Kq0 Z8.e;rintro h44 hS;refine r1 ?_;refine ZR.Yt ?_;refine ZR.gen (vs:= []) rfl Zm rfl ?_;refine r2 ?_;refine WC.Zav (r:=r) (fun(p:Int×Int×(List (Ze×Zb))×(List Zd)×(List Int)) (s:Fs)=>match p with | (v49,v50,v51,v53,v57)=>∃ (ZbU:Fr) (h45:H) (m52:Nat) (a54:Option Addr) (c55:Nat) (n56:Nat) (a58:Option Addr) (c59:Nat) (n60:Nat),s= ⟨ZbU,[],h45,none⟩∧Sp wm T h [bx wm b1 [.pointer (some ⟨Xx,0,none⟩)],mp wm Zh Zk (some m52) v51,ow wm Zj a54 n56 c55 v53,ow wm (ZW .i64) a58 n60 c59 v57,bx wm Xx [.int .i64 v49,.int .i64 v50,.map (some m52),.slice a54 n56 c55,.slice a58 n60 c59],bx wm b3 [.int .i64 p1.kind,.int .i64 p1.Zv,.int .i64 p1.name,.int .i64 p1.via,.int .i64 p1.w]] h45∧ZbU.at 2= .pointer (some ⟨b1,0,none⟩)∧ZbU.at 3= .pointer (some ⟨b3,0,none⟩)) (Zf5 F p1) ?_ ?_
   ·clear hL hS;rintro⟨v49,v50,v51,v53,v57⟩ s hL ⟨ZbU,h45,m52,a54,c55,n56,a58,c59,n60,rfl,hS,e47,e48⟩;obtain rfl:=hS.on k2;obtain rfl:=hS.on k3;dsimp only [Zf5] at hL;refine r6 ?_;obtain⟨x61,ZJk,hL⟩:=bind_some hL;refine WO.cl gN rfl (Xj.fn Zpo (Zc lk (Zc lk (Zc lk Zl)))) hS (.c k4 (.c k1 (.c k1 (.c k1 .n)))) (fun g' hz hf hO=>Zl5 (by rw [hz];exact hS.hw) hO ZJk) ?_;rintro _ h69 _ ⟨m62,a63,n64,c65,a66,n67,c68,rfl,rfl⟩ hS;obtain rfl:=hS.on k2;obtain rfl:=hS.on k3;refine r2 ?_;refine ZR.Yt ?_;have hr:=Oi0 hL;subst hr;exact ZR.gen (vs:= []) rfl Zm rfl ⟨_,⟨m62,a63,x61.notes.length,c65,a66,x61.freed.length,c68,rfl,rfl⟩,hT ▸ hS.only (.c k0 (.c k0 (.c k0 (.c k0 .n))))⟩
   ·skip;refine r6 ?_;refine cn hL ?_ ?_
    ·intro hc hL;refine r8 ?_;obtain⟨x71,Zuw,hL⟩:=bind_some hL;refine WO.cl gN rfl (Xj.fn ZuV (Zc lk (Zc lk (Zc lk (Zc lk (Zc lk Zl)))))) hS (.c k4 (.c k0 (.c k3 (.c k3 .n)))) (fun g' hz hf hO=>Zrc (by rw [hz];exact hS.hw) hO Zuw) ?_;rintro _ h79 _ ⟨m72,a73,n74,c75,a76,n77,c78,rfl,rfl⟩ hS;obtain rfl:=hS.on k2;obtain rfl:=hS.on k3;refine r1 ?_;exact YO.Yt _ hL ⟨_,_,m72,a73,c75,x71.notes.length,a76,c78,x71.freed.length,rfl,hS.only (.c k6 (.c k1 (.c k1 (.c k1 (.c k0 (.c k1 .n)))))),YR⟩
    ·intro hc hL;refine r1 ?_;exact YO.Yt _ hL ⟨_,_,ZJ,Zp,Zo,p0.notes.length,ZE,ZC,p0.freed.length,rfl,hS.only (.c k3 (.c k0 (.c k3 (.c k3 (.c k2 (.c k1 .n)))))),YR⟩
theorem Zvu {F wm:Nat} {h:H} {p0:Store} {p1:Zn} {ZJ:Nat} {Zp:Option Addr} {Zo Xz:Nat} {ZE:Option Addr} {ZC X0 Xx:Nat} {r:(PR Store)} (ZG:wm <=h.size) (hO:ZQ (wm:=wm) [bx wm Xx [.int .i64 p0.machines,.int .i64 p0.names,.map (some ZJ),.slice Zp Xz Zo,.slice ZE X0 ZC],mp wm Zh Zk (some ZJ) p0.cells,ow wm Zj Zp Xz Zo p0.notes,ow wm (ZW .i64) ZE X0 ZC p0.freed] h) (hL:Zvv F p0 p1=some r):
 WF XX 95 #[.pointer (some ⟨Xx,0,none⟩),.agg [.int .i64 p1.Z6,.int .i64 p1.at_,.int .i64 p1.name,.int .i64 p1.Zv].toArray] wm h (PQ 32 (fun(r:Store) (v:Value) (Gb:List (Ast wm))=>∃ (JI:Nat) (JN:Option Addr) (JG:Nat) (JK:Nat) (JM:Option Addr) (JF:Nat) (JJ:Nat),v= .tuple [].toArray∧Gb= [bx wm Xx [.int .i64 r.machines,.int .i64 r.names,.map (some JI),.slice JN JG JK,.slice JM JF JJ],mp wm Zh Zk (some JI) r.cells,ow wm Zj JN JG JK r.notes,ow wm (ZW .i64) JM JF JJ r.freed]) [bx wm Xx [.int .i64 p0.machines,.int .i64 p0.names,.map (some ZJ),.slice Zp Xz Zo,.slice ZE X0 ZC],mp wm Zh Zk (some ZJ) p0.cells,ow wm Zj Zp Xz Zo p0.notes,ow wm (ZW .i64) ZE X0 ZC p0.freed] h r):=by
 refine WF.Zgy (args:= [_,_]) (fn:=Try.f95) Kq0 (by exact rfl) Try.ntmps95 (by simp) ?_;simp only [ZI,ZN,Nat.reduceAdd];obtain⟨T,hT,hS⟩:∃ T,T=XM (wm:=wm) [bx wm Xx [.int .i64 p0.machines,.int .i64 p0.names,.map (some ZJ),.slice Zp Xz Zo,.slice ZE X0 ZC],mp wm Zh Zk (some ZJ) p0.cells,ow wm Zj Zp Xz Zo p0.notes,ow wm (ZW .i64) ZE X0 ZC p0.freed]∧Sp wm T h [bx wm Xx [.int .i64 p0.machines,.int .i64 p0.names,.map (some ZJ),.slice Zp Xz Zo,.slice ZE X0 ZC],mp wm Zh Zk (some ZJ) p0.cells,ow wm Zj Zp Xz Zo p0.notes,ow wm (ZW .i64) ZE X0 ZC p0.freed] h:= ⟨_,rfl,Sp.start ZG hO⟩
 unfold Zvv at hL;obtain rfl:=hS.on k2;obtain rfl:=hS.on k3;refine r3 ?_;rintro _ h2 ⟨b1,eb1,rfl,hS⟩;refine r6 ?_;obtain⟨x3,hx3,hL⟩:=bind_some hL;rcases x3 with y4 | e5
 ·skip;replace hL:=ZtX hL;refine WO.clR gN rfl (Xj.fn ZuU (Zc lk (Zc lk Zl))) hS.hw (PQ.ok (Zra (Nat.le_refl _) (hS.QF k1) (.inl (hS.lt k1)) (hS.mrd k2) (hS.ord k3) (hS.ord k4) hx3)) ?_;rintro _ h6 _ ⟨rfl,rfl⟩ hR7;have hS:=hS.clR hR7 .n;refine r8 ?_;refine WO.w gN rfl (Y8 XY (Zg lk (Zg lk Zx)) rfl (cs':= [.int .i64 p1.at_,.int .i64 p1.name]) rfl) ?_;refine r1 ?_;rintro _ h9 ⟨b8,eb8,rfl,hS⟩;refine r1 ?_;rintro h10 hS;refine r2 ?_;refine WC.Zav (r:=r) (fun(p:Int×Int×(List (Ze×Zb))×(List Zd)×(List Int)) (s:Fs)=>match p with | (v14,v15,v16,v18,v22)=>∃ (ZCx:Fr) (h11:H) (m17:Nat) (a19:Option Addr) (c20:Nat) (n21:Nat) (a23:Option Addr) (c24:Nat) (n25:Nat),s= ⟨ZCx,[],h11,none⟩∧Sp wm T h [mp wm Zh Zk (some m17) v16,ow wm Zj a19 n21 c20 v18,ow wm (ZW .i64) a23 n25 c24 v22,bx wm Xx [.int .i64 v14,.int .i64 v15,.map (some m17),.slice a19 n21 c20,.slice a23 n25 c24]] h11∧ZCx.at 0= .pointer (some ⟨Xx,0,none⟩)) (Za2 F) ?_ ?_
  ·clear hL hS;rintro⟨v14,v15,v16,v18,v22⟩ s hL ⟨ZCx,h11,m17,a19,c20,n21,a23,c24,n25,rfl,hS,e13⟩;obtain rfl:=hS.on k1;obtain rfl:=hS.on k2;dsimp only [Za2] at hL;refine r8 ?_;refine r3 ?_;refine cn hL ?_ ?_
   ·intro hc hL;refine r1 ?_;refine WO.w gN rfl (Zgz lk Kq0) ?_;refine WO.pnc gN lk ?_;refine Qy.panic ?_;refine Qb.ofX ?_;refine Zbx.Jq ?_;have hr:=Oi0 hL;subst hr;exact⟨rfl,hT ▸ hS.only .n⟩
   ·intro hc hL;refine r4 ?_;refine r1 ?_;obtain⟨x26,ZBt,hL⟩:=bind_some hL;refine WO.clR gN rfl (Xj.fn ZuO (Zc lk Zl)) hS.hw (ZpC (Nat.le_refl _) (hS.QF k3) (.inl (hS.lt k3)) (hS.mrd k0) (hS.ord k1) (hS.ord k2) ZBt) ?_;rintro _ h29 _ ⟨m27,m28,rfl,rfl⟩ ZCb;have hS:=hS.clR ZCb (.c (cvM hS.hw) (.c (cvM hS.hw) .n));refine r8 ?_;refine r2 ?_;refine WO.rng gN rfl hS Jo lk (hS.get k0).at_ ?_;rintro h36 b31 ZQz ZM1 hS ZJB ZJR;refine r3 ?_;obtain⟨q37,ZJx,hL⟩:=bind_some hL;refine WC.loop (WL.ZIW [11,137,138,139,140,141,142,143] (pv 32 3) ZJx hS k0 fh ZJB ZJR rfl rfl rfl rfl rfl rfl rfl rfl ?_ ?_ ?_)
    ·clear hL hS;rintro⟨ZIC,ZDX⟩ p40 hL h41 Zps ZdA hS ZKe;dsimp only [ZfY] at hL;have e45:=ZdA.at (t:=0) rfl (ZM rfl (ZO rfl (ZL rfl (Zf rfl e13))));have e46:=ZdA.at (t:=123) rfl (ZM rfl (ZO rfl (ZL rfl fh)));have e47:=ZdA.at (t:=124) rfl (ZM rfl (ZO rfl (Zf rfl fh)));have e48:=ZdA.at (t:=125) rfl (ZM rfl (ZO rfl fh));have e49:=ZdA.at (t:=126) rfl (ZM rfl (ZL rfl (Zf rfl fh)));have e50:=ZdA.at (t:=127) rfl (ZM rfl (ZL rfl fh));have e51:=ZdA.at (t:=128) rfl (ZM rfl (Zf rfl fh));have e52:=ZdA.at (t:=131) rfl (ZM rfl fh);have e53:=ZdA.at (t:=132) rfl (ZO rfl (ZL rfl (Zf rfl fh)));have e54:=ZdA.at (t:=130) rfl (ZO rfl (ZL rfl fh));have e55:=ZdA.at (t:=133) rfl (ZO rfl (Zf rfl fh));have e56:=ZdA.at (t:=134) rfl (ZO rfl fh);have e57:=ZdA.at (t:=8) rfl (ZL rfl (Zf rfl fh));have e58:=ZdA.at (t:=9) rfl (ZL rfl fh);have e59:=ZdA.at (t:=135) rfl (Zf rfl fh);have e60:=ZdA.at (t:=136) rfl fh;refine r4 ?_;refine WC.Zgq lk rfl ?_;refine r4 ?_;refine r1 ?_;refine WO.w gN rfl (Zjf lk ZKe) ?_;refine r8 ?_;refine r2 ?_;refine cn hL ?_ ?_
     ·intro hc hL;refine r1 ?_;refine WO.w gN rfl (Zgz lk Kq0) ?_;refine WO.pnc gN lk ?_;refine Wv.panic ?_;have hp:=Oi0 hL;subst hp;exact Zqj.panic (.s rfl (.s rfl (.s rfl (.s rfl (.s rfl (.s rfl (.s rfl (.s rfl .z))))))))
     ·intro hc hL;refine r2 ?_;have hp:=Oi0 hL;subst hp;exact Zqj.Yt (.s rfl (.s rfl (.s rfl (.s rfl (.s rfl (.s rfl (.s rfl .z)))))))
    ·intro ZJw h62 ZO9 Zdz hS;replace hL:=W9 ZJw hL;have e65:=Zdz.at (t:=0) rfl (ZM rfl (ZO rfl (ZL rfl (Zf rfl e13))));have e66:=Zdz.at (t:=123) rfl (ZM rfl (ZO rfl (ZL rfl fh)));have e67:=Zdz.at (t:=124) rfl (ZM rfl (ZO rfl (Zf rfl fh)));have e68:=Zdz.at (t:=125) rfl (ZM rfl (ZO rfl fh));have e69:=Zdz.at (t:=126) rfl (ZM rfl (ZL rfl (Zf rfl fh)));have e70:=Zdz.at (t:=127) rfl (ZM rfl (ZL rfl fh));have e71:=Zdz.at (t:=128) rfl (ZM rfl (Zf rfl fh));have e72:=Zdz.at (t:=131) rfl (ZM rfl fh);have e73:=Zdz.at (t:=132) rfl (ZO rfl (ZL rfl (Zf rfl fh)));have e74:=Zdz.at (t:=130) rfl (ZO rfl (ZL rfl fh));have e75:=Zdz.at (t:=133) rfl (ZO rfl (Zf rfl fh));have e76:=Zdz.at (t:=134) rfl (ZO rfl fh);have e77:=Zdz.at (t:=8) rfl (ZL rfl (Zf rfl fh));have e78:=Zdz.at (t:=9) rfl (ZL rfl fh);have e79:=Zdz.at (t:=135) rfl (Zf rfl fh);have e80:=Zdz.at (t:=136) rfl fh;refine r4 ?_;refine WC.Zb3 lk rfl ?_;refine r2 ?_;refine Zqh.exit ?_;refine r1 ?_;refine Qb.Yt ?_;have hr:=Oi0 hL;subst hr;exact Qb.Zvn rfl Zm rfl ⟨_,⟨m17,a19,v18.length,c20,a23,v22.length,c24,rfl,rfl⟩,hT ▸ hS.only (.c k5 (.c k2 (.c k2 (.c k2 .n))))⟩
    ·intro ZJv h82 ZO8 Zdy hS;replace hL:=WZ ZJv hL;have e85:=Zdy.at (t:=0) rfl (ZM rfl (ZO rfl (ZL rfl (Zf rfl e13))));have e86:=Zdy.at (t:=123) rfl (ZM rfl (ZO rfl (ZL rfl fh)));have e87:=Zdy.at (t:=124) rfl (ZM rfl (ZO rfl (Zf rfl fh)));have e88:=Zdy.at (t:=125) rfl (ZM rfl (ZO rfl fh));have e89:=Zdy.at (t:=126) rfl (ZM rfl (ZL rfl (Zf rfl fh)));have e90:=Zdy.at (t:=127) rfl (ZM rfl (ZL rfl fh));have e91:=Zdy.at (t:=128) rfl (ZM rfl (Zf rfl fh));have e92:=Zdy.at (t:=131) rfl (ZM rfl fh);have e93:=Zdy.at (t:=132) rfl (ZO rfl (ZL rfl (Zf rfl fh)));have e94:=Zdy.at (t:=130) rfl (ZO rfl (ZL rfl fh));have e95:=Zdy.at (t:=133) rfl (ZO rfl (Zf rfl fh));have e96:=Zdy.at (t:=134) rfl (ZO rfl fh);have e97:=Zdy.at (t:=8) rfl (ZL rfl (Zf rfl fh));have e98:=Zdy.at (t:=9) rfl (ZL rfl fh);have e99:=Zdy.at (t:=135) rfl (Zf rfl fh);have e100:=Zdy.at (t:=136) rfl fh;refine Wv.panic ?_;refine Qb.ofX ?_;refine Zbx.Jq ?_;have hr:=Oi0 hL;subst hr;exact⟨rfl,hT ▸ hS.only .n⟩
  ·skip;refine JP ?_;refine r1 ?_;refine cn hL ?_ ?_
   ·intro hc hL;refine r1 ?_;refine WC.Yk mixed Kq0 ?_;refine r8 ?_;refine r2 ?_;refine WX.w gN rfl (Y8 XY (Zg lk (Zg lk Zx)) rfl (cs':= [.int .i64 p1.at_,.int .i64 p0.names]) rfl) ?_ rfl;refine r4 ?_;refine WX.w gN rfl (YP ZAC (Zg lk (Zg lk (Zg lk (Zg lk Zx)))) rfl (cs':= [.int .i64 p0.names,.bool true,.int .i64 (-1),.int .i64 0,.int .i64 0,.bool true]) rfl) ?_ rfl;refine WX.hu gN (Zb7 (kv:=Zh) (vv:=Zk) (k:= (Ze.mk p1.at_ p0.names)) (v:= (Zb.mk p0.names true (-1) 0 0 true)) hS k3 YF Uq (Zq (ZM rfl (ZO rfl fh)) rfl) (Zq (ZO rfl (Zf rfl fh)) rfl) (Zq fh rfl)) ?_ rfl rfl [] Kq0 Z8.e;rintro ZG8 hS;refine r8 ?_;refine r3 ?_;rintro ZCu hS;refine r2 ?_;exact YO.Yt _ hL ⟨_,_,ZJ,Zp,Zo,p0.notes.length,ZE,ZC,p0.freed.length,rfl,hS.only (.c k1 (.c k3 (.c k3 (.c k0 .n)))),YR⟩
   ·intro hc hL;refine r6 ?_;refine cn hL ?_ ?_
    ·intro hc hL;refine r3 ?_;obtain⟨x103,Zkw,hL⟩:=bind_some hL;refine WO.cl gN rfl (Xj.fn ZBU (Zc lk (Zc lk Zl))) hS (.c k2 (.c k2 (.c k2 (.c k2 .n)))) (fun g' hz hf hO=>ZyS (by rw [hz];exact hS.hw) hO Zkw) ?_;rintro _ ZO0 _ ⟨ZI1,a105,n106,c107,ZLp,n109,ZK9,rfl,rfl⟩ hS;obtain rfl:=hS.on k2;obtain rfl:=hS.on k3;refine r2 ?_;exact YO.Yt _ hL ⟨_,_,ZI1,a105,c107,x103.notes.length,ZLp,ZK9,x103.freed.length,rfl,hS.only (.c k1 (.c k1 (.c k1 (.c k0 .n)))),YR⟩
    ·intro hc hL;refine r6 ?_;refine cn hL ?_ ?_
     ·intro hc hL;refine r1 ?_;refine WC.Yk mixed Kq0 ?_;refine r4 ?_;refine r1 ?_;obtain⟨x113,hx113,hL⟩:=bind_some hL;refine WX.w gN rfl (Jw (kv:=Zh) (vv:=Zk) (k:= (Ze.mk p1.at_ p1.name)) (z:= (Zb.mk 0 false 0 0 0 false)) YF Uq Uy (Zq (Zf rfl fh) rfl) (Zq fh rfl) (hS.get k3).at_ hx113 (w:= .agg [.int .i64 x113.name,.bool x113.root,.int .i64 x113.from_,.int .i64 x113.has,.int .i64 x113.out,.bool x113.use].toArray) rfl) ?_ rfl;refine WX.hn gN rfl (Zkk hS Uy (vs:= [.int .i64 0,.bool false,.int .i64 0,.int .i64 0,.int .i64 0,.bool false]) rfl) ?_ rfl;rintro _ ZOY ⟨ZRb,ZMP,rfl,hS⟩;refine WX.hu gN (Wu hS k0 JC lk lk (vs:= [.int .i64 x113.name,.bool x113.root,.int .i64 x113.from_,.int .i64 x113.has,.int .i64 x113.out,.bool x113.use]) rfl rfl rfl rfl (cs':= [.int .i64 x113.name,.bool x113.root,.int .i64 x113.from_,.int .i64 x113.has,.int .i64 x113.out,.bool x113.use]) rfl) ?_ rfl rfl [] Kq0 Z8.e;rintro h116 hS;refine r6 ?_;rintro ZOX hS;refine r3 ?_;refine WC.Yk mixed Kq0 ?_;refine r6 ?_;refine WX.hu gN (Zb7 (kv:=Zh) (vv:=Zk) (k:= (Ze.mk p1.at_ p1.name)) (v:= (Zb.mk x113.name x113.root x113.from_ x113.has x113.out false)) hS k4 YF Uq (Zq (ZL rfl fh) rfl) (Zq (Zf rfl fh) rfl) (Zq fh rfl)) ?_ rfl rfl [] Kq0 Z8.e;rintro ZKv hS;refine r8 ?_;obtain⟨ZmO,ZE9,hL⟩:=bind_some hL;refine WO.cl gN rfl (Xj.fn Zpo (Zc lk (Zc lk (Zc lk Zl)))) hS (.c k4 (.c k0 (.c k3 (.c k3 .n)))) (fun g' hz hf hO=>Zl5 (by rw [hz];exact hS.hw) hO ZE9) ?_;rintro _ h127 _ ⟨ZI0,ZLo,n122,ZK8,a124,n125,ZK7,rfl,rfl⟩ hS;obtain rfl:=hS.on k2;obtain rfl:=hS.on k3;refine r2 ?_;exact YO.Yt _ hL ⟨_,_,ZI0,ZLo,ZK8,ZmO.notes.length,a124,ZK7,ZmO.freed.length,rfl,hS.only (.c k1 (.c k1 (.c k1 (.c k0 .n)))),YR⟩
     ·intro hc hL;refine r6 ?_;refine cn hL ?_ ?_
      ·intro hc hL;refine r1 ?_;refine WC.Yk mixed Kq0 ?_;refine r4 ?_;refine r1 ?_;obtain⟨Jm,ZE6,hL⟩:=bind_some hL;refine WX.w gN rfl (Jw (kv:=Zh) (vv:=Zk) (k:= (Ze.mk p1.at_ p1.name)) (z:= (Zb.mk 0 false 0 0 0 false)) YF Uq Uy (Zq (Zf rfl fh) rfl) (Zq fh rfl) (hS.get k3).at_ ZE6 (w:= .agg [.int .i64 Jm.name,.bool Jm.root,.int .i64 Jm.from_,.int .i64 Jm.has,.int .i64 Jm.out,.bool Jm.use].toArray) rfl) ?_ rfl;refine WX.hn gN rfl (Zkk hS Uy (vs:= [.int .i64 0,.bool false,.int .i64 0,.int .i64 0,.int .i64 0,.bool false]) rfl) ?_ rfl;rintro _ ZKt ⟨ZQ8,ZMM,rfl,hS⟩;refine WX.hu gN (Wu hS k0 JC lk lk (vs:= [.int .i64 Jm.name,.bool Jm.root,.int .i64 Jm.from_,.int .i64 Jm.has,.int .i64 Jm.out,.bool Jm.use]) rfl rfl rfl rfl (cs':= [.int .i64 Jm.name,.bool Jm.root,.int .i64 Jm.from_,.int .i64 Jm.has,.int .i64 Jm.out,.bool Jm.use]) rfl) ?_ rfl rfl [] Kq0 Z8.e;rintro ZOT hS;refine r3 ?_;refine WC.Yk mixed Kq0 ?_;refine r1 ?_;refine WX.wr (fun x=>x=b1) hS gN rfl (fun _ _ hR=>ZU Xu (Zq fh rfl) (At.eqv (hR b1 rfl) (hS.QF k2)) (j:=3) rfl (v:= .int .i64 p1.Zv) rfl) ?_ rfl rfl;rintro ZKs ZKT hS;refine r1 ?_;refine WX.hu gN (Wu hS k0 ZzC lk lk (vs:= [.bool false]) rfl rfl rfl rfl (cs':= [.int .i64 Jm.name,.bool false,.int .i64 Jm.from_,.int .i64 Jm.has,.int .i64 Jm.out,.bool Jm.use]) rfl) ?_ rfl rfl [1] Kq0 (.c .z (hS.dj (.c k0 (.c k1 .n))) Z8.e);rintro ZKr hS;refine WX.w gN rfl (XB ZqY lk) ?_ Kq0;refine WX.hu gN (Wu hS k0 Xl lk lk (vs:= [.int .i64 p1.Zv]) rfl rfl rfl rfl (cs':= [.int .i64 Jm.name,.bool false,.int .i64 p1.Zv,.int .i64 Jm.has,.int .i64 Jm.out,.bool Jm.use]) rfl) ?_ rfl Kq0 [] Kq0 Z8.e;rintro ZOS hS;refine WX.w gN rfl (XB ZlJ lk) ?_ Kq0;refine WX.hu gN (Wu hS k0 Xl lk lk (vs:= [.int .i64 16]) rfl rfl rfl rfl (cs':= [.int .i64 Jm.name,.bool false,.int .i64 p1.Zv,.int .i64 16,.int .i64 Jm.out,.bool Jm.use]) rfl) ?_ rfl Kq0 [] Kq0 Z8.e;rintro ZKq hS;refine r3 ?_;refine WC.Yk mixed Kq0 ?_;refine r6 ?_;refine WX.hu gN (Zb7 (kv:=Zh) (vv:=Zk) (k:= (Ze.mk p1.at_ p1.name)) (v:= (Zb.mk Jm.name false p1.Zv 16 Jm.out Jm.use)) hS k4 YF Uq (Zq (ZL rfl fh) rfl) (Zq (Zf rfl fh) rfl) (Zq fh rfl)) ?_ rfl rfl [] Kq0 Z8.e;rintro ZKp hS;refine r8 ?_;refine WO.w gN rfl (YP Zrl (Zg lk (Zg lk (Zg lk (Zg lk Zx)))) rfl (cs':= [.int .i64 3,.int .i64 p1.Zv,.int .i64 p1.name,.int .i64 0,.int .i64 16]) rfl) ?_;obtain⟨ZmN,ZE4,hL⟩:=bind_some hL;refine WO.cl gN rfl (Xj.fn ZlA (Zc lk (Zc lk Zl))) hS (.c k4 (.c k0 (.c k3 (.c k3 .n)))) (fun g' hz hf hO=>ZhE (by rw [hz];exact hS.hw) hO ZE4) ?_;rintro _ ZG7 _ ⟨ZIZ,a141,n142,c143,ZLn,n145,c146,rfl,rfl⟩ hS;obtain rfl:=hS.on k2;obtain rfl:=hS.on k3;refine r2 ?_;exact YO.Yt _ hL ⟨_,_,ZIZ,a141,c143,ZmN.notes.length,ZLn,c146,ZmN.freed.length,rfl,hS.only (.c k1 (.c k1 (.c k1 (.c k0 .n)))),YR⟩
      ·intro hc hL;refine r1 ?_;refine WC.Yk mixed Kq0 ?_;refine r6 ?_;obtain⟨KA,Zkv,hL⟩:=bind_some hL;obtain⟨ZLf,ZNA,_,ZB5,ZCl,ZJ8⟩:=Src.at_ (hS.QH k4) Zkv;refine WX.w gN rfl (Z5 UE XA lk lk rfl ZB5 Zkv) ?_ rfl;refine WX.w gN rfl (Xq ZdU XA (Zq fh rfl) ZCl (j:=0) rfl rfl (ws:= [.int .i64 KA.kind,.int .i64 KA.Zv,.int .i64 KA.name,.int .i64 KA.via,.int .i64 KA.w]) rfl) ?_ rfl;refine WX.hn gN rfl (Zkk hS Zfo (vs:= [.int .i64 0,.int .i64 0,.int .i64 0,.int .i64 0,.int .i64 0]) rfl) ?_ rfl;rintro _ ZG6 ⟨ZQ3,ZMJ,rfl,hS⟩;refine WX.hu gN (Wu hS k0 XA lk lk (vs:= [.int .i64 KA.kind,.int .i64 KA.Zv,.int .i64 KA.name,.int .i64 KA.via,.int .i64 KA.w]) rfl rfl rfl rfl (cs':= [.int .i64 KA.kind,.int .i64 KA.Zv,.int .i64 KA.name,.int .i64 KA.via,.int .i64 KA.w]) rfl) ?_ rfl rfl [] Kq0 Z8.e;rintro ZKo hS;refine r3 ?_;refine WC.Yk mixed Kq0 ?_;refine r8 ?_;refine r2 ?_;obtain⟨Zw3,ZEY,hL⟩:=bind_some hL;refine WX.cl gN rfl (Xj.fn ZBT (Zc lk (Zc lk (Zc lk Zl)))) hS (.c k5 .n) (fun g' hz hf hO=>ZyR (by rw [hz];exact hS.hw) hO ZEY) ?_ rfl rfl [] Kq0 Z8.e;rintro _ ZOH _ ⟨a156,n157,ZHw,rfl,rfl⟩ hS;obtain rfl:=hS.on k0;refine WX.w gN rfl (Zp1 lk) ?_ Kq0;refine WX.w gN rfl (XB ZlI lk) ?_ Kq0;refine WX.hu gN (Wu hS k4 ZoK lk lk (vs:= [.slice a156 Zw3.length ZHw]) rfl rfl rfl rfl (cs':= [.int .i64 p0.machines,.int .i64 p0.names,.map (some ZJ),.slice a156 Zw3.length ZHw,.slice ZE p0.freed.length ZC]) rfl) ?_ rfl Kq0 [] Kq0 Z8.e;rintro ZOG hS;refine r4 ?_;refine r1 ?_;obtain⟨ZmM,ZEX,hL⟩:=bind_some hL;refine WO.cl gN rfl (Xj.fn ZFN (Zc lk (Zc lk Zl))) hS (.c k0 (.c k4 (.c k0 (.c k3 .n)))) (fun g' hz hf hO=>ZCJ (by rw [hz];exact hS.hw) hO ZEX) ?_;rintro _ ZOB _ ⟨ZIY,a164,n165,ZK6,a167,n168,ZK5,rfl,rfl⟩ hS;obtain rfl:=hS.on k2;obtain rfl:=hS.on k3;refine r2 ?_;exact YO.Yt _ hL ⟨_,_,ZIY,a164,ZK6,ZmM.notes.length,a167,ZK5,ZmM.freed.length,rfl,hS.only (.c k1 (.c k1 (.c k1 (.c k0 .n)))),YR⟩
 ·skip;replace hL:=Zqt hL;refine WO.ZK1 gN (Xj.fn ZuU (Zc lk (Zc lk Zl))) hS.hw hS (Zra (Nat.le_refl _) (hS.QF k1) (.inl (hS.lt k1)) (hS.mrd k2) (hS.ord k3) (hS.ord k4) hx3) ?_;rintro ZOA hS;refine Qy.panic ?_;refine Qb.ofX ?_;refine Zbx.Jq ?_;have hr:=Oi0 hL;subst hr;exact⟨rfl,hT ▸ hS.only .n⟩
end Go.Proofs.Ytekpjgmhkkjhgaa
end
end
section
namespace Go.Proofs.Ytekpjgmhkkjhgaa
open Go.Lf
def Zsv (F:Nat) (p0:Store) (p1:Zn):Option ((Option Store)×Int):=
 (Zvw F p0).bind fun x7=>(Zvv F x7 p1).bind fun x19=>prC x19 (fun e21=>some (none,e21)) (fun y20=>some ((some y20),0))
end Go.Proofs.Ytekpjgmhkkjhgaa
end
section
set_option maxRecDepth 20000
noncomputable section
namespace Go.Proofs.Ytekpjgmhkkjhgaa
open Go.Yw Go.Lf
theorem ZvD {F wm:Nat} {h:H} {p0:Store} {p1:Zn} {ZJ:Option Nat} {Zp:Option Addr} {Zo:Nat} {ZE:Option Addr} {ZC Xx U4:Nat} {r:((Option Store)×Int)} (ZG:wm <=h.size) (Y6:At h Xx U4 [.int .i64 p0.machines,.int .i64 p0.names,.map ZJ,.slice Zp p0.notes.length Zo,.slice ZE p0.freed.length ZC]) (Y5:Stb wm h Xx) (ZK:Ud Zh Zk wm h ZJ p0.cells) (Yr:Sl Zj wm h Zp Zo p0.notes) (Yv:Sl (ZW .i64) wm h ZE ZC p0.freed) (hL:Zsv F p0 p1=some r):
 WR XX 57 #[.pointer (some ⟨Xx,U4,none⟩),.agg [.int .i64 p1.Z6,.int .i64 p1.at_,.int .i64 p1.name,.int .i64 p1.Zv].toArray] wm h (CP (fun(v:Value) (Gb:List (Ast wm))=>match r.1 with | some y=>∃ (rb0:Nat) (Zco:Nat) (JO:Option Addr) (JH:Nat) (JL:Nat) (UL:Option Addr) (UI:Nat) (UJ:Nat),v= .tuple [.pointer (some ⟨rb0,0,none⟩),.int .i64 r.2].toArray∧Gb= [bx wm rb0 [.int .i64 y.machines,.int .i64 y.names,.map (some Zco),.slice JO JH JL,.slice UL UI UJ],mp wm Zh Zk (some Zco) y.cells,ow wm Zj JO JH JL y.notes,ow wm (ZW .i64) UL UI UJ y.freed] | none=>v= .tuple [.pointer none,.int .i64 r.2].toArray∧Gb= []) [] h):=by
 refine WF.Zgy (args:= [_,_]) (fn:=Try.f57) Kq0 (by exact rfl) Try.ntmps57 (by simp) ?_;simp only [ZI,ZN,Nat.reduceAdd];obtain⟨T,hT,hS⟩:∃ T,T=XM (wm:=wm) []∧Sp wm T h [] h:= ⟨_,rfl,Sp.start ZG ZQ.nil⟩
 unfold Zsv at hL;refine r3 ?_;rintro _ h2 ⟨b1,eb1,rfl,hS⟩;refine r1 ?_;rintro _ h4 ⟨b3,eb3,rfl,hS⟩;refine r1 ?_;rintro _ h6 ⟨b5,eb5,rfl,hS⟩;refine r4 ?_;refine WO.w gN rfl (Zeq (Zc lk (Zc lk Zl))) ?_;refine WO.dfr gN lk ?_;refine r4 ?_;refine r1 ?_;obtain⟨x7,hx7,hL⟩:=bind_some hL;refine WO.cl gN rfl (Xj.fn ZFF (Zc lk Zl)) hS .n (fun g' hz hf hO=>ZCy (by rw [hz];exact hS.hw) (At.fz hf (Stb.fz hS.fz Y6 Y5) (At.fz hS.fz Y5 Y6)) (Stb.fz hf (At.fz hS.fz Y5 Y6) (Stb.fz hS.fz Y6 Y5)) ((hS.ms ZK).fz hf) ((hS.sl Yr).mono hf) ((hS.sl Yv).mono hf) hx7) ?_;rintro _ h16 _ ⟨b8,m9,a10,n11,c12,a13,n14,c15,rfl,rfl⟩ hS;obtain rfl:=hS.on k2;obtain rfl:=hS.on k3;refine r1 ?_;rintro h18 hS;refine r6 ?_;obtain⟨x19,ZxG,hL⟩:=bind_some hL;rcases x19 with y20 | e21
 ·skip;replace hL:=ZtX hL;refine WO.cl gN rfl (Xj.fn ZAd (Zc lk (Zc lk Zl))) hS (.c k1 (.c k1 (.c k1 (.c k1 .n)))) (fun g' hz hf hO=>(PQ.ok (Zvu (by rw [hz];exact hS.hw) hO ZxG))) ?_;rintro _ h29 _ ⟨m22,a23,n24,c25,a26,n27,c28,rfl,rfl⟩ hS;obtain rfl:=hS.on k2;obtain rfl:=hS.on k3;refine r6 ?_;rintro h31 hS;refine r1 ?_;rintro h32 hS;refine r3 ?_;refine Qb.ofP ?_;refine Zbx.dfn (cap:= [.pointer (some ⟨b3,0,none⟩),.pointer (some ⟨b5,0,none⟩)]) (fn2:=Try.f93) Kq0 (by exact rfl) Try.ntmps93 (by simp) rfl ?_;simp only [ZI,ZN,Nat.reduceAdd];refine DC.seq ?_;refine DC.rec .ret (Tr.set (Tr.set (Tr.set (Tr.set (Tr.set (Tr.set (Tr.set (Tr.set (Tr.set .nil 0 (.pointer (some ⟨b3,0,none⟩))) 1 (.pointer (some ⟨b5,0,none⟩))) 5 (.nilIface)) 6 (.tuple [.int .i64 0,.bool false].toArray)) 4 (.tuple [.int .i64 0,.bool false].toArray)) 7 (.int .i64 0)) 8 (.bool false)) 2 (.int .i64 0)) 3 (.bool false)) (by exact rfl) rfl ?_;refine⟨rfl,?_⟩;refine DC.seq ?_;refine DC.rgn rfl ?_;refine r3 ?_;refine⟨rfl,?_⟩;refine DC.ZvV lk rfl ?_;refine DC.skip ?_;refine⟨rfl,rfl,?_⟩;refine Zbx.ofL ?_ rfl;have hr:=Oi0 hL;subst hr;exact Qb.gen rfl (ZT (ZM rfl fh) (KS Zwo (hS.QF k1) (j:=0) rfl (v:= .pointer (some ⟨b8,0,none⟩)) rfl) (ZT (ZO rfl (ZL rfl (Zf rfl fh))) (KS Zwp (hS.QF k0) (j:=0) rfl (v:= .int .i64 0) rfl) Zm)) rfl ⟨_,⟨b8,m22,a23,y20.notes.length,c25,a26,y20.freed.length,c28,rfl,rfl⟩,hT ▸ hS.only (.c k2 (.c k2 (.c k2 (.c k2 .n))))⟩
 ·skip;replace hL:=Zqt hL;refine WO.clX gN (Xj.fn ZAd (Zc lk (Zc lk Zl))) hS (.c k1 (.c k1 (.c k1 (.c k1 .n)))) (fun g' hz hf hO=>Zvu (by rw [hz];exact hS.hw) hO ZxG) ?_;rintro h33 hS;refine Qy.panic ?_;refine Qb.ofX ?_;refine Zbx.dfn (cap:= [.pointer (some ⟨b3,0,none⟩),.pointer (some ⟨b5,0,none⟩)]) (fn2:=Try.f93) Kq0 (by exact rfl) Try.ntmps93 (by simp) rfl ?_;simp only [ZI,ZN,Nat.reduceAdd];refine DC.seq ?_;refine DC.rec (.rcv (pv 32 e21)) (Tr.set (Tr.set (Tr.set (Tr.set (Tr.set (Tr.set (Tr.set (Tr.set (Tr.set .nil 0 (.pointer (some ⟨b3,0,none⟩))) 1 (.pointer (some ⟨b5,0,none⟩))) 5 (.iface 32 (.int .i64 e21))) 6 (.tuple [.int .i64 e21,.bool true].toArray)) 4 (.tuple [.int .i64 e21,.bool true].toArray)) 7 (.int .i64 e21)) 8 (.bool true)) 2 (.int .i64 e21)) 3 (.bool true)) (by exact rfl) rfl ?_;refine⟨rfl,?_⟩;refine DC.seq ?_;refine DC.rgn rfl ?_;refine r3 ?_;refine⟨rfl,?_⟩;refine DC.ZvU lk rfl ?_;refine DC.rgn rfl ?_;refine r3 ?_;rintro h34 hS;refine r1 ?_;rintro h35 hS;refine r1 ?_;refine⟨rfl,rfl,?_⟩;refine Zbx.ofL ?_ rfl;have hr:=Oi0 hL;subst hr;exact Qb.gen rfl (ZT (ZO rfl (ZL rfl fh)) (KS Zwo (hS.QF k1) (j:=0) rfl (v:= .pointer none) rfl) (ZT (ZO rfl (Zf rfl fh)) (KS Zwp (hS.QF k0) (j:=0) rfl (v:= .int .i64 e21) rfl) Zm)) rfl ⟨_,⟨rfl,rfl⟩,hT ▸ hS.only .n⟩
end Go.Proofs.Ytekpjgmhkkjhgaa
end
end
section
namespace Go.Proofs.Ytekpjgmhkkjhgaa
open Go.Lf
def ZvI (F:Nat) (p0:Za) (p1:Zn):Option (Za×Int):=
 (Zsx F p0).bind fun x7=>(gd (!(!x7)) (Zsw p1 (p0.cells.length:Int)) default).bind fun x8=>(bif((!x7) || (!x8)) then some ((Za.mk [] [] 0 []),2) else(ZiP F p0).bind fun x10=>(Zsv F x10 p1).bind fun x21=>opt x21.1 ((bif(x21.2 !=0) then some ((Za.mk [] [] 0 []),x21.2) else none)) (fun y22=>(bif(x21.2 !=0) then some ((Za.mk [] [] 0 []),x21.2) else(ZnG F y22).bind fun x44=>some (x44,0))))
def Zb0 (v40:Int) (Zcw:(Int×(List ZV)×(List ZV)×(List (List Zb))×(List Zd)×Int×(List Int) ->Option (Za×Model×Bool))):(List ZV)×(List ZV)×(List (List Zb))×(List Zd)×Int×(List Int) ->Option (Za×Model×Bool):=fun(v74,v78,v82,v87,v91,v92)=>
 Zcw (ZF (v40 + 1),v74,v78,v82,v87,v91,v92)
def Zek (F:Nat) (z28:(List Za8)):Int×(List ZV)×(List ZV)×(List (List Zb))×(List Zd)×Int×(List Int) ->(Int×(List ZV)×(List ZV)×(List (List Zb))×(List Zd)×Int×(List Int) ->Option (Za×Model×Bool)) ->Option (Za×Model×Bool):=fun(v40,v42,v46,v50,v55,v59,v60) Zcw=>
 (bif decide (v40 < (z28.length:Int)) then(Ye z28 v40).bind fun x96=>(ZvF x96 (v50.length:Int) v59 (v55.length:Int)).bind fun x102=>(bif(!x102.2) then(Zb0 v40 Zcw) (v42,v46,v50,v55,v59,v60) else(ZvI F (Za.mk v50 v55 v59 v60) x102.1).bind fun Uk=>(bif(Uk.2==7) then(gd ((x102.1.Z6 !=4) && (!((x102.1.Z6 !=2) && (x102.1.Z6 !=3)))) (ZlZ F v42 (ZV.mk x102.1.at_ x102.1.name)) default).bind fun ZD3=>(bif((x102.1.Z6 !=4) && (((x102.1.Z6 !=2) && (x102.1.Z6 !=3)) || ZD3)) then some ((Za.mk v50 v55 v59 v60),(Model.mk v42 v46),false) else(Zb0 v40 Zcw) (v42,v46,v50,v55,v59,v60)) else(bif(((Uk.2==3) && (x102.1.Z6 !=5)) && ((v55.length:Int)==80)) then(Zb0 v40 Zcw) (v42,v46,v50,v55,v59,v60) else(bif((Uk.2 !=0) || ((Uk.1.cells.length:Int) != (v50.length:Int))) then some ((Za.mk v50 v55 v59 v60),(Model.mk v42 v46),false) else(Zsy F (Model.mk v42 v46) (Za.mk v50 v55 v59 v60) x102.1).bind fun ZbA=>(ZvG F ZbA Uk.1).bind fun KA=>(bif(!KA) then some (Uk.1,ZbA,false) else(Zb0 v40 Zcw) (ZbA.uses,ZbA.ways,Uk.1.cells,Uk.1.notes,Uk.1.names,Uk.1.freed)))))) else some ((Za.mk v50 v55 v59 v60),(Model.mk v42 v46),true))
def Zsz (F:Nat) (p0:Int) (p1:(List Za8)):Option (Za×Model×Bool):=
 (ZfA (ZF p0) 6).bind fun x7=>(ZvJ F (ZF (1 + x7))).bind fun x8=>(gd (!(x8.2 !=0)) (ZfA (ZF p0) 6) default).bind fun x23=>(bif((x8.2 !=0) || ((x8.1.cells.length:Int) != (ZF (1 + x23)))) then some (x8.1,(Model.mk [] []),false) else(slL p1 0 (if 120 < (p1.length:Int) then 120 else(p1.length:Int))).bind fun z28=>loop F (Zek F z28) (0,[],[],x8.1.cells,x8.1.notes,x8.1.names,x8.1.freed))
end Go.Proofs.Ytekpjgmhkkjhgaa
end
section
set_option maxRecDepth 20000
noncomputable section
namespace Go.Proofs.Ytekpjgmhkkjhgaa
open Go.Yw Go.Lf
theorem ZCT {F wm:Nat} {h:H} {p0:Za} {p1:Zn} {Zt:Option Addr} {Zr:Nat} {Zp:Option Addr} {Zo:Nat} {ZE:Option Addr} {ZC:Nat} {r:(Za×Int)} (ZG:wm <=h.size) (ZK:Sl (rSl ZA) wm h Zt Zr p0.cells) (Yr:Sl Zj wm h Zp Zo p0.notes) (Yv:Sl (ZW .i64) wm h ZE ZC p0.freed) (hL:ZvI F p0 p1=some r):
 WR XX 17 #[.agg [.slice Zt p0.cells.length Zr,.slice Zp p0.notes.length Zo,.int .i64 p0.names,.slice ZE p0.freed.length ZC].toArray,.agg [.int .i64 p1.Z6,.int .i64 p1.at_,.int .i64 p1.name,.int .i64 p1.Zv].toArray] wm h (CP (fun(v:Value) (Gb:List (Ast wm))=>∃ (XI:Option Addr) (XG:Nat) (XH:Nat) (ZbI:Nat ->Option Addr×Nat×Nat) (JO:Option Addr) (JH:Nat) (JL:Nat) (UL:Option Addr) (UI:Nat) (UJ:Nat),v= .tuple [.agg [.slice XI XG XH,.slice JO JH JL,.int .i64 r.1.names,.slice UL UI UJ].toArray,.int .i64 r.2].toArray∧Gb= [nst wm (Xf ZA) XI XG XH ZbI r.1.cells,ow wm Zj JO JH JL r.1.notes,ow wm (ZW .i64) UL UI UJ r.1.freed]) [] h):=by
 refine bg Try.ntmps17 ZG ZQ.nil ?_;intro T hT hS;unfold ZvI at hL;refine r3 ?_;rintro _ h2 ⟨b1,eb1,rfl,hS⟩;refine r1 ?_;rintro _ h4 ⟨b3,eb3,rfl,hS⟩;refine r1 ?_;rintro _ h6 ⟨b5,eb5,rfl,hS⟩;refine r6 ?_;refine r1 ?_;obtain⟨x7,hx7,hL⟩:=bind_some hL;refine WO.cp gN rfl (Xj.fn ZAi (Zc lk Zl)) (WR.QV rfl (ZvE (Nat.le_refl _) (hS.slu ZK) (hS.slu Yr) (hS.slu Yv) hx7)) ?_;refine r6 ?_;obtain⟨x8,hx8,hL⟩:=Y7 hL;refine WO.gcp (Zi.no rfl rfl rfl (ZO rfl fh)) rfl (fun hg=>(Xj.fn ZFO (Zc (Xi (ZL rfl (Zf rfl fh)) rfl hg) (Zc (Xi fh rfl hg) Zl)))) (fun hg=>ZCL (hx8 hg)) ?_;refine r4 ?_;refine cn hL ?_ ?_
 ·intro hc hL;refine r2 ?_;refine WO.w gN rfl (YP Zoc Zx rfl (cs':= [.slice none 0 0,.slice none 0 0,.int .i64 0,.slice none 0 0]) rfl) ?_;refine r1 ?_;rintro h9 hS;refine r4 ?_;refine r1 ?_;have hS:=hS.Zxu (e:= (Xf ZA)) (ps:=fun _=>(Xf ZA).dflt);have hS:=hS.nil (e:=Zj);have hS:=hS.nil (e:= (ZW .i64));have hr:=Oi0 hL;subst hr;exact ZR.gen (vs:= [.agg [.slice none 0 0,.slice none 0 0,.int .i64 0,.slice none 0 0].toArray,.int .i64 2]) rfl (ZT (ZM rfl (ZO rfl (ZL rfl fh))) (Yd Zbv Q8 (hS.QF k3) (j:=0) rfl rfl (ws:= [.slice none 0 0,.slice none 0 0,.int .i64 0,.slice none 0 0]) rfl) (ZB lk Zm)) rfl ⟨_,⟨none,0,0,(fun _=>(Xf ZA).dflt),none,0,0,none,0,0,rfl,rfl⟩,hT ▸ hS.only (.c k2 (.c k1 (.c k0 .n)))⟩
 ·intro hc hL;refine r3 ?_;refine WC.Yk mixed Kq0 ?_;refine r1 ?_;obtain⟨x10,ZJr,hL⟩:=bind_some hL;refine WX.cl0 gN rfl (Xj.fn ZqN (Zc lk Zl)) hS .n (fun g' hz hf hO=>ZlU (by rw [hz];exact hS.hw) ((hS.sl ZK).mono hf) ((hS.sl Yr).mono hf) ((hS.sl Yv).mono hf) ZJr) ?_ rfl rfl;rintro _ h19 _ ⟨b11,m12,a13,n14,c15,a16,n17,c18,rfl,rfl⟩ hS;obtain rfl:=hS.on k2;obtain rfl:=hS.on k3;refine r1 ?_;obtain⟨x21,Zpa,hL⟩:=bind_some hL;rcases Zx2:x21.1 with _ | y22
  ·skip;rw [Zx2] at hL;replace hL:=Zt3 hL;refine WX.clR gN rfl (Xj.fn ZAh (Zc lk (Zc lk Zl))) hS.hw (ZvD (Nat.le_refl _) (hS.QF k0) (.inl (hS.lt k0)) (hS.mrd k1) (hS.ord k2) (hS.ord k3) Zpa) ?_ rfl rfl;rintro v26 h24 ZRk ZGl ZJY;rw [Zx2] at ZGl;obtain⟨rfl,rfl⟩:=ZGl;have hS:=hS.clR ZJY .n;refine JP ?_;refine r2 ?_;refine cn hL ?_ ?_
   ·intro hc hL;refine r2 ?_;refine WO.w gN rfl (YP Zoc Zx rfl (cs':= [.slice none 0 0,.slice none 0 0,.int .i64 0,.slice none 0 0]) rfl) ?_;refine r2 ?_;rintro h29 hS;refine r4 ?_;refine r1 ?_;have hS:=hS.Zxu (e:= (Xf ZA)) (ps:=fun _=>(Xf ZA).dflt);have hS:=hS.nil (e:=Zj);have hS:=hS.nil (e:= (ZW .i64));have hr:=Oi0 hL;subst hr;exact ZR.gen (vs:= [.agg [.slice none 0 0,.slice none 0 0,.int .i64 0,.slice none 0 0].toArray,.int .i64 x21.2]) rfl (ZT (ZM rfl (ZM rfl (ZM rfl (ZL rfl fh)))) (Yd Zbv Q8 (hS.QF k3) (j:=0) rfl rfl (ws:= [.slice none 0 0,.slice none 0 0,.int .i64 0,.slice none 0 0]) rfl) (ZB lk Zm)) rfl ⟨_,⟨none,0,0,(fun _=>(Xf ZA).dflt),none,0,0,none,0,0,rfl,rfl⟩,hT ▸ hS.only (.c k2 (.c k1 (.c k0 .n)))⟩
   ·intro hc hL;cases hL
  ·skip;rw [Zx2] at hL;replace hL:=Zt2 hL;refine WX.clR gN rfl (Xj.fn ZAh (Zc lk (Zc lk Zl))) hS.hw (ZvD (Nat.le_refl _) (hS.QF k0) (.inl (hS.lt k0)) (hS.mrd k1) (hS.ord k2) (hS.ord k3) Zpa) ?_ rfl rfl;rintro v40 h38 ZRj ZGk ZJW;rw [Zx2] at ZGk;obtain⟨b30,m31,a32,n33,c34,a35,n36,c37,rfl,rfl⟩:=ZGk;have hS:=hS.clR ZJW (.c (cvB hS.hw) (.c (cvM hS.hw) (.c (cvO (fun _ _ _ _=>trivial) hS.hw) (.c (cvO (fun _ _ _ _=>trivial) hS.hw) .n))));obtain rfl:=hS.on k2;obtain rfl:=hS.on k3;refine JP ?_;refine r2 ?_;refine cn hL ?_ ?_
   ·intro hc hL;refine r2 ?_;refine WO.w gN rfl (YP Zoc Zx rfl (cs':= [.slice none 0 0,.slice none 0 0,.int .i64 0,.slice none 0 0]) rfl) ?_;refine r2 ?_;rintro h43 hS;refine r4 ?_;refine r1 ?_;have hS:=hS.Zxu (e:= (Xf ZA)) (ps:=fun _=>(Xf ZA).dflt);have hS:=hS.nil (e:=Zj);have hS:=hS.nil (e:= (ZW .i64));have hr:=Oi0 hL;subst hr;exact ZR.gen (vs:= [.agg [.slice none 0 0,.slice none 0 0,.int .i64 0,.slice none 0 0].toArray,.int .i64 x21.2]) rfl (ZT (ZM rfl (ZM rfl (ZM rfl (ZL rfl fh)))) (Yd Zbv Q8 (hS.QF k3) (j:=0) rfl rfl (ws:= [.slice none 0 0,.slice none 0 0,.int .i64 0,.slice none 0 0]) rfl) (ZB lk Zm)) rfl ⟨_,⟨none,0,0,(fun _=>(Xf ZA).dflt),none,0,0,none,0,0,rfl,rfl⟩,hT ▸ hS.only (.c k2 (.c k1 (.c k0 .n)))⟩
   ·intro hc hL;refine r4 ?_;refine r1 ?_;obtain⟨x44,ZxD,hL⟩:=bind_some hL;refine WO.clR gN rfl (Xj.fn ZuP (Zc lk Zl)) hS.hw (ZpG (Nat.le_refl _) (hS.QF k0) (.inl (hS.lt k0)) (hS.mrd k1) (hS.ord k2) (hS.ord k3) ZxD) ?_;rintro _ h54 _ ⟨a45,n46,c47,ZEo,a48,n49,c50,a51,n52,c53,rfl,rfl⟩ ZJV;have hS:=hS.clR ZJV (.c (cvN (fun _ _ _ _=>trivial) hS.hw) (.c (cvO (fun _ _ _ _=>trivial) hS.hw) (.c (cvO (fun _ _ _ _=>trivial) hS.hw) .n)));obtain rfl:=hS.Zlh k0;obtain rfl:=hS.on k1;obtain rfl:=hS.on k2;refine r1 ?_;rintro h56 hS;refine r4 ?_;have hr:=Oi0 hL;subst hr;exact ZR.gen (vs:= [.agg [.slice a45 x44.cells.length c47,.slice a48 x44.notes.length c50,.int .i64 x44.names,.slice a51 x44.freed.length c53].toArray,.int .i64 0]) rfl (ZT (ZM rfl (ZM rfl (ZM rfl (ZL rfl fh)))) (Yd Zbv Q8 (hS.QF k0) (j:=0) rfl rfl (ws:= [.slice a45 x44.cells.length c47,.slice a48 x44.notes.length c50,.int .i64 x44.names,.slice a51 x44.freed.length c53]) rfl) (ZB lk Zm)) rfl ⟨_,⟨a45,x44.cells.length,c47,ZEo,a48,x44.notes.length,c50,a51,x44.freed.length,c53,rfl,rfl⟩,hT ▸ hS.only (.c k1 (.c k1 (.c k1 .n)))⟩
theorem ZCR {F wm:Nat} {h:H} {p0:Int} {p1:(List Za8)} {Y3:Option Addr} {Y2:Nat} {r:(Za×Model×Bool)} (ZG:wm <=h.size) (UB:Sl ZtU wm h Y3 Y2 p1) (hL:Zsz F p0 p1=some r):
 WR XX 38 #[.int .u8 p0,.slice Y3 p1.length Y2] wm h (CP (fun(v:Value) (Gb:List (Ast wm))=>∃ (XI:Option Addr) (XG:Nat) (XH:Nat) (ZbI:Nat ->Option Addr×Nat×Nat) (JO:Option Addr) (JH:Nat) (JL:Nat) (UL:Option Addr) (UI:Nat) (UJ:Nat) (ZzN:Option Addr) (ZzH:Nat) (ZzK:Nat) (ZzM:Option Addr) (ZzG:Nat) (ZzJ:Nat),v= .tuple [.agg [.slice XI XG XH,.slice JO JH JL,.int .i64 r.1.names,.slice UL UI UJ].toArray,.agg [.slice ZzN ZzH ZzK,.slice ZzM ZzG ZzJ].toArray,.bool r.2.2].toArray∧Gb= [nst wm (Xf ZA) XI XG XH ZbI r.1.cells,ow wm Zj JO JH JL r.1.notes,ow wm (ZW .i64) UL UI UJ r.1.freed,ow wm YK ZzN ZzH ZzK r.2.1.uses,ow wm YK ZzM ZzG ZzJ r.2.1.ways]) [] h):=by
 refine bg Try.ntmps38 ZG ZQ.nil ?_;intro T hT hS;unfold Zsz at hL;refine r3 ?_;rintro _ h2 ⟨b1,eb1,rfl,hS⟩;refine r1 ?_;rintro _ h4 ⟨b3,eb3,rfl,hS⟩;refine r6 ?_;rintro _ h6 ⟨b5,eb5,rfl,hS⟩;refine r4 ?_;refine r1 ?_;refine WO.w gN rfl (Zer ZrC ZoC lk) ?_;obtain⟨x7,hx7,hL⟩:=bind_some hL;refine WO.w gN rfl (Yi (Zq fh rfl) (Jy rfl) (U0 hx7)) ?_;refine r1 ?_;obtain⟨x8,hx8,hL⟩:=bind_some hL;refine WO.cl gN rfl (Xj.fn ZFW (Zc lk Zl)) hS .n (fun g' hz hf hO=>ZCU (by rw [hz];exact hS.hw) hx8) ?_;rintro _ h18 _ ⟨a9,n10,c11,ZEn,a12,n13,c14,a15,n16,c17,rfl,rfl⟩ hS;obtain rfl:=hS.Zlh k0;obtain rfl:=hS.on k1;obtain rfl:=hS.on k2;refine r4 ?_;rintro _ h21 ⟨b20,ZPx,rfl,hS⟩;refine r1 ?_;rintro h22 hS;refine JP ?_;refine r1 ?_;refine WO.gv (Zi.no rfl rfl rfl (ZO rfl fh)) rfl (fun hg=>(Zer ZrC ZoC (Xi fh rfl hg))) ?_;obtain⟨x23,ZxE,hL⟩:=Y7 hL;refine WO.gv (Zi.no rfl rfl rfl (ZO rfl (Zf rfl fh))) rfl (fun hg=>(Yi (Xi fh rfl hg) (Jy rfl) (U0 (ZxE hg)))) ?_;refine r4 ?_;refine r1 ?_;refine cn hL ?_ ?_
 ·intro hc hL;refine r1 ?_;refine WC.Yk mixed Kq0 ?_;refine r1 ?_;refine WX.wr (fun x=>x=b5) hS gN rfl (fun _ _ hR=>Xq Zbu Jp (Zq (ZM rfl (ZM rfl (ZO rfl (ZL rfl (Zf rfl fh))))) rfl) (At.eqv (hR b5 rfl) (hS.QF k4)) (j:=0) rfl rfl (ws:= [.slice none 0 0,.slice none 0 0]) rfl) ?_ rfl rfl;rintro h24 e25 hS;refine WX.hu gN (Wu hS k6 Q8 lk lk (vs:= [.slice a9 x8.1.cells.length c11,.slice a12 x8.1.notes.length c14,.int .i64 x8.1.names,.slice a15 x8.1.freed.length c17]) rfl rfl rfl rfl (cs':= [.slice a9 x8.1.cells.length c11,.slice a12 x8.1.notes.length c14,.int .i64 x8.1.names,.slice a15 x8.1.freed.length c17]) rfl) ?_ rfl rfl [1] Kq0 (.c .z (hS.dj (.c k6 (.c k4 .n))) Z8.e);rintro h26 hS;refine WX.hu gN (Wu hS k6 Jp lk lk (vs:= [.slice none 0 0,.slice none 0 0]) rfl rfl rfl rfl (cs':= [.slice none 0 0,.slice none 0 0]) rfl) ?_ rfl Kq0 [] Kq0 Z8.e;rintro h27 hS;refine WX.w gN rfl (Yb lk) ?_ Kq0;refine r4 ?_;have hS:=hS.nil (e:=YK);have hS:=hS.nil (e:=YK);have hr:=Oi0 hL;subst hr;exact ZR.gen (vs:= [.agg [.slice a9 x8.1.cells.length c11,.slice a12 x8.1.notes.length c14,.int .i64 x8.1.names,.slice a15 x8.1.freed.length c17].toArray,.agg [.slice none 0 0,.slice none 0 0].toArray,.bool false]) rfl (ZT (ZM rfl (ZM rfl (ZM rfl (ZO rfl fh)))) (Yd Zbv Q8 (hS.QF k3) (j:=0) rfl rfl (ws:= [.slice a9 x8.1.cells.length c11,.slice a12 x8.1.notes.length c14,.int .i64 x8.1.names,.slice a15 x8.1.freed.length c17]) rfl) (ZT (ZM rfl (ZM rfl (ZM rfl (ZL rfl (Zf rfl fh))))) (Yd Zbu Jp (hS.QF k2) (j:=0) rfl rfl (ws:= [.slice none 0 0,.slice none 0 0]) rfl) (ZB lk Zm))) rfl ⟨_,⟨a9,x8.1.cells.length,c11,ZEn,a12,x8.1.notes.length,c14,a15,x8.1.freed.length,c17,none,0,0,none,0,0,rfl,rfl⟩,hT ▸ hS.only (.c k5 (.c k5 (.c k5 (.c k1 (.c k0 .n)))))⟩
 ·intro hc hL;refine r8 ?_;refine WO.w gN rfl (ZDl lk lk) ?_;obtain⟨z28,ZJb,hL⟩:=bind_some hL;refine WO.he gN rfl (ZtM (hS.sl UB) rfl Ztx Zk7 (Zq (ZL rfl (Zf rfl fh)) rfl) (Zq fh rfl) ZJb) ?_;rintro _ ⟨a29,c30,rfl,hv31⟩;have ZFg:=hv31.sl UB;refine r4 ?_;refine r1 ?_;have hS:=hS.nil (e:=YK);have hS:=hS.nil (e:=YK);refine WC.loop (WL.lift hL (fun(p:Int×(List ZV)×(List ZV)×(List (List Zb))×(List Zd)×Int×(List Int)) (s:Fs)=>match p with | (v40,v42,v46,v50,v55,v59,v60)=>∃ (ZcK:Fr) (h32:H) (a43:Option Addr) (c44:Nat) (n45:Nat) (a47:Option Addr) (c48:Nat) (n49:Nat) (a51:Option Addr) (c52:Nat) (n53:Nat) (Zm8:Nat ->Option Addr×Nat×Nat) (a56:Option Addr) (c57:Nat) (n58:Nat) (a61:Option Addr) (c62:Nat) (n63:Nat),s= ⟨ZcK,[],h32,none⟩∧Sp wm T h [bx wm b1 [.slice none 0 0,.slice none 0 0,.int .i64 0,.slice none 0 0],bx wm b3 [.slice none 0 0,.slice none 0 0],ow wm YK a43 n45 c44 v42,ow wm YK a47 n49 c48 v46,bx wm b5 [.slice a43 n45 c44,.slice a47 n49 c48],nst wm (Xf ZA) a51 n53 c52 Zm8 v50,ow wm Zj a56 n58 c57 v55,ow wm (ZW .i64) a61 n63 c62 v60,bx wm b20 [.slice a51 n53 c52,.slice a56 n58 c57,.int .i64 v59,.slice a61 n63 c62]] h32∧ZcK.at 4= .pointer (some ⟨b1,0,none⟩)∧ZcK.at 5= .pointer (some ⟨b3,0,none⟩)∧ZcK.at 7= .pointer (some ⟨b5,0,none⟩)∧ZcK.at 8= .pointer (some ⟨b20,0,none⟩)∧ZcK.at 42= .slice a29 z28.length c30∧ZcK.at 43= .int .i64 (z28.length:Int)∧ZcK.at 44= .int .i64 v40) ⟨_,_,none,0,0,none,0,0,a9,c11,x8.1.cells.length,ZEn,a12,c14,x8.1.notes.length,a15,c17,x8.1.freed.length,rfl,hS.only (.c k8 (.c k7 (.c k0 (.c k0 (.c k4 (.c k1 (.c k1 (.c k1 (.c k0 .n))))))))),YR⟩ ?_);clear hL hS;rintro Zcw ⟨v40,v42,v46,v50,v55,v59,v60⟩ s ZxP hL ⟨ZcK,h32,a43,c44,n45,a47,c48,n49,a51,c52,n53,Zm8,a56,c57,n58,a61,c62,n63,rfl,hS,e34,e35,e36,e37,e38,e39,e41⟩;obtain rfl:=hS.on k2;obtain rfl:=hS.on k3;obtain rfl:=hS.Zlh k5;obtain rfl:=hS.on k6;obtain rfl:=hS.on k7;dsimp only [Zek] at hL;refine r6 ?_;refine cn hL ?_ ?_
  ·intro hc hL;refine r2 ?_;refine WC.Zav (r:=r) (fun(p:(List ZV)×(List ZV)×(List (List Zb))×(List Zd)×Int×(List Int)) (s:Fs)=>match p with | (v74,v78,v82,v87,v91,v92)=>∃ (ZlF:Fr) (h65:H) (a75:Option Addr) (c76:Nat) (n77:Nat) (a79:Option Addr) (c80:Nat) (n81:Nat) (a83:Option Addr) (c84:Nat) (n85:Nat) (ZBa:Nat ->Option Addr×Nat×Nat) (a88:Option Addr) (c89:Nat) (n90:Nat) (a93:Option Addr) (c94:Nat) (n95:Nat),s= ⟨ZlF,[],h65,none⟩∧Sp wm T h [bx wm b1 [.slice none 0 0,.slice none 0 0,.int .i64 0,.slice none 0 0],bx wm b3 [.slice none 0 0,.slice none 0 0],ow wm YK a75 n77 c76 v74,ow wm YK a79 n81 c80 v78,bx wm b5 [.slice a75 n77 c76,.slice a79 n81 c80],nst wm (Xf ZA) a83 n85 c84 ZBa v82,ow wm Zj a88 n90 c89 v87,ow wm (ZW .i64) a93 n95 c94 v92,bx wm b20 [.slice a83 n85 c84,.slice a88 n90 c89,.int .i64 v91,.slice a93 n95 c94]] h65∧ZlF.at 4= .pointer (some ⟨b1,0,none⟩)∧ZlF.at 5= .pointer (some ⟨b3,0,none⟩)∧ZlF.at 7= .pointer (some ⟨b5,0,none⟩)∧ZlF.at 8= .pointer (some ⟨b20,0,none⟩)∧ZlF.at 42= .slice a29 z28.length c30∧ZlF.at 43= .int .i64 (z28.length:Int)∧ZlF.at 44= .int .i64 v40) (Zb0 v40 Zcw) ?_ ?_
   ·clear hL hS;rintro⟨v74,v78,v82,v87,v91,v92⟩ s hL ⟨ZlF,h65,a75,c76,n77,a79,c80,n81,a83,c84,n85,ZBa,a88,c89,n90,a93,c94,n95,rfl,hS,e67,e68,e69,e70,e71,e72,e73⟩;obtain rfl:=hS.on k2;obtain rfl:=hS.on k3;obtain rfl:=hS.Zlh k5;obtain rfl:=hS.on k6;obtain rfl:=hS.on k7;dsimp only [Zb0] at hL;refine r4 ?_;exact Yy.Yt (ZxP _ _ hL ⟨_,_,a75,c76,v74.length,a79,c80,v78.length,a83,c84,v82.length,ZBa,a88,c89,v87.length,a93,c94,v92.length,rfl,hS.only (.c k0 (.c k0 (.c k0 (.c k0 (.c k0 (.c k0 (.c k0 (.c k0 (.c k0 .n))))))))),YR⟩)
   ·skip;refine r3 ?_;obtain⟨x96,hx96,hL⟩:=bind_some hL;obtain⟨b97,o98,_,ZF0,ZGH,ZGx,ZLW⟩:=Sl.at_ ZFg hx96;refine WO.w gN rfl (Z5 Ztx Zk7 lk lk rfl ZF0 hx96) ?_;refine WO.w gN rfl (Xq ZAF Zk7 (Zq fh rfl) (At.fz hS.fz ZGx ZGH) (j:=0) rfl rfl (ws:= [.int .u8 x96.Z6,.int .u8 x96.at_,.int .u8 x96.name,.int .u8 x96.Zv]) rfl) ?_;refine r1 ?_;rintro _ ZKy ⟨b99,ZPb,rfl,hS⟩;refine r1 ?_;rintro ZG8 hS;refine JP ?_;refine r1 ?_;obtain⟨x102,hx102,hL⟩:=bind_some hL;refine WO.cl gN rfl (Xj.fn ZFP (Zc lk (Zc lk (Zc lk (Zc lk Zl))))) hS .n (fun g' hz hf hO=>ZCM (by rw [hz];exact hS.hw) hx102) ?_;rintro _ Zx9 _ ⟨rfl,rfl⟩ hS;refine r4 ?_;rintro _ ZKx ⟨ZHH,ZMS,rfl,hS⟩;refine r1 ?_;rintro ZKw hS;refine r8 ?_;refine r2 ?_;refine cn hL ?_ ?_
    ·intro hc hL;refine r3 ?_;exact YO.Yt _ hL ⟨_,_,a43,c44,v42.length,a47,c48,v46.length,a51,c52,v50.length,Zm8,a56,c57,v55.length,a61,c62,v60.length,rfl,hS.only (.c k2 (.c k2 (.c k2 (.c k2 (.c k2 (.c k2 (.c k2 (.c k2 (.c k2 .n))))))))),YR⟩
    ·intro hc hL;refine r6 ?_;obtain⟨Uk,ZFb,hL⟩:=bind_some hL;refine WO.clR gN rfl (Xj.fn ZFV (Zc lk (Zc lk Zl))) hS.hw (ZCT (Nat.le_refl _) (hS.nrd k7 Zll) (hS.ord k8) (hS.ord k9) ZFb) ?_;rintro _ ZKv _ ⟨a109,n110,ZsO,ZtW,Zs9,n113,ZsN,Zs8,n116,c117,rfl,rfl⟩ ZGj;have hS:=hS.clR ZGj (.c (cvN (fun _ _ _ _=>trivial) hS.hw) (.c (cvO (fun _ _ _ _=>trivial) hS.hw) (.c (cvO (fun _ _ _ _=>trivial) hS.hw) .n)));obtain rfl:=hS.Zlh k0;obtain rfl:=hS.on k1;obtain rfl:=hS.on k2;refine r4 ?_;rintro _ ZOV ⟨ZRa,ZMO,rfl,hS⟩;refine r1 ?_;rintro h122 hS;refine r8 ?_;refine r2 ?_;refine cn hL ?_ ?_
     ·intro hc hL;refine JP ?_;refine r2 ?_;refine WO.gv (Zi.yes rfl rfl rfl (ZO rfl (ZL rfl (Zf rfl fh)))) rfl (fun hg=>(Qi (Xi (ZL rfl (Zf rfl fh)) rfl hg) (Ze0 fh hg) lk)) ?_;refine r6 ?_;refine r1 ?_;refine WO.gv (Zi.no2 rfl rfl rfl (ZO rfl (ZL rfl fh))) rfl (fun hg=>(YP ZaS (Zg (Xi (ZL rfl fh) rfl hg) (Zg (Xi fh rfl hg) Zx)) rfl (cs':= [.int .i64 x102.1.at_,.int .i64 x102.1.name]) rfl)) ?_;obtain⟨ZD3,ZE8,hL⟩:=Y7 hL;refine WO.gcp (Zi.no2 rfl rfl rfl (ZO rfl (ZL rfl (Zf rfl fh)))) rfl (fun hg=>(Xj.fn ZuQ (Zc (Xi (ZO rfl (Zf rfl fh)) rfl hg) (Zc (Xi fh rfl hg) Zl)))) (fun hg=>ZpH (hS.ord k8) (ZE8 hg)) ?_;refine WO.gv (Zi.yes rfl rfl rfl (ZM rfl (ZM rfl (Zf rfl fh)))) rfl (fun hg=>(Zwa (Xi (ZM rfl fh) rfl hg) lk (Ze0 fh hg))) ?_;refine r3 ?_;refine cn hL ?_ ?_
      ·intro hc hL;refine r1 ?_;refine WC.Yk mixed Kq0 ?_;refine r1 ?_;refine WX.wr (fun x=>x=b5) hS gN rfl (fun _ _ hR=>Xq Zbu Jp (Zq (ZM rfl (ZM rfl (ZM rfl (ZM rfl (ZM rfl (ZM rfl (ZO rfl (ZL rfl (Zf rfl e36))))))))) rfl) (At.eqv (hR b5 rfl) (hS.QF k10)) (j:=0) rfl rfl (ws:= [.slice a43 v42.length c44,.slice a47 v46.length c48]) rfl) ?_ rfl rfl;rintro ZKu e125 hS;refine WX.hu gN (Wu hS k6 Q8 lk lk (vs:= [.slice a51 v50.length c52,.slice a56 v55.length c57,.int .i64 v59,.slice a61 v60.length c62]) rfl rfl rfl rfl (cs':= [.slice a51 v50.length c52,.slice a56 v55.length c57,.int .i64 v59,.slice a61 v60.length c62]) rfl) ?_ rfl rfl [1] Kq0 (.c .z (hS.dj (.c k6 (.c k9 .n))) Z8.e);rintro Zx7 hS;refine WX.hu gN (Wu hS k7 Jp lk lk (vs:= [.slice a43 v42.length c44,.slice a47 v46.length c48]) rfl rfl rfl rfl (cs':= [.slice a43 v42.length c44,.slice a47 v46.length c48]) rfl) ?_ rfl Kq0 [] Kq0 Z8.e;rintro h127 hS;refine WX.w gN rfl (Yb lk) ?_ Kq0;refine r6 ?_;refine YO.ret ?_;refine r3 ?_;have hr:=Oi0 hL;subst hr;exact ZR.gen (vs:= [.agg [.slice a51 v50.length c52,.slice a56 v55.length c57,.int .i64 v59,.slice a61 v60.length c62].toArray,.agg [.slice a43 v42.length c44,.slice a47 v46.length c48].toArray,.bool false]) rfl (ZT (ZM rfl (ZM rfl (ZM rfl (ZM rfl (ZM rfl (ZM rfl (ZM rfl (Zf rfl e34)))))))) (Yd Zbv Q8 (hS.QF k1) (j:=0) rfl rfl (ws:= [.slice a51 v50.length c52,.slice a56 v55.length c57,.int .i64 v59,.slice a61 v60.length c62]) rfl) (ZT (ZM rfl (ZM rfl (ZM rfl (ZM rfl (ZM rfl (ZM rfl (ZM rfl (Zf rfl e35)))))))) (Yd Zbu Jp (hS.QF k0) (j:=0) rfl rfl (ws:= [.slice a43 v42.length c44,.slice a47 v46.length c48]) rfl) (ZB lk Zm))) rfl ⟨_,⟨a51,v50.length,c52,Zm8,a56,v55.length,c57,a61,v60.length,c62,a43,v42.length,c44,a47,v46.length,c48,rfl,rfl⟩,hT ▸ hS.only (.c k11 (.c k11 (.c k11 (.c k8 (.c k8 .n)))))⟩
      ·intro hc hL;refine r4 ?_;refine r1 ?_;exact YO.Yt _ hL ⟨_,_,a43,c44,v42.length,a47,c48,v46.length,a51,c52,v50.length,Zm8,a56,c57,v55.length,a61,c62,v60.length,rfl,hS.only (.c k6 (.c k6 (.c k6 (.c k6 (.c k6 (.c k6 (.c k6 (.c k6 (.c k6 .n))))))))),YR⟩
     ·intro hc hL;refine r16 ?_;refine r4 ?_;refine cn hL ?_ ?_
      ·intro hc hL;refine r3 ?_;exact YO.Yt _ hL ⟨_,_,a43,c44,v42.length,a47,c48,v46.length,a51,c52,v50.length,Zm8,a56,c57,v55.length,a61,c62,v60.length,rfl,hS.only (.c k6 (.c k6 (.c k6 (.c k6 (.c k6 (.c k6 (.c k6 (.c k6 (.c k6 .n))))))))),YR⟩
      ·intro hc hL;refine r16 ?_;refine r2 ?_;refine cn hL ?_ ?_
       ·intro hc hL;refine r1 ?_;refine WC.Yk mixed Kq0 ?_;refine r1 ?_;refine WX.wr (fun x=>x=b5) hS gN rfl (fun _ _ hR=>Xq Zbu Jp (Zq (ZM rfl (ZM rfl (ZM rfl (ZM rfl (ZM rfl (ZM rfl (ZM rfl e36))))))) rfl) (At.eqv (hR b5 rfl) (hS.QF k10)) (j:=0) rfl rfl (ws:= [.slice a43 v42.length c44,.slice a47 v46.length c48]) rfl) ?_ rfl rfl;rintro h128 e129 hS;refine WX.hu gN (Wu hS k6 Q8 (Zq (ZM rfl (ZM rfl (ZM rfl (ZM rfl (ZM rfl (ZM rfl (ZM rfl (Zf rfl e34)))))))) rfl) lk (vs:= [.slice a51 v50.length c52,.slice a56 v55.length c57,.int .i64 v59,.slice a61 v60.length c62]) rfl rfl rfl rfl (cs':= [.slice a51 v50.length c52,.slice a56 v55.length c57,.int .i64 v59,.slice a61 v60.length c62]) rfl) ?_ rfl rfl [1] Kq0 (.c .z (hS.dj (.c k6 (.c k9 .n))) Z8.e);rintro Zx6 hS;refine WX.hu gN (Wu hS k7 Jp (Zq (ZM rfl (ZM rfl (ZM rfl (ZM rfl (ZM rfl (ZM rfl (ZM rfl (Zf rfl e35)))))))) rfl) lk (vs:= [.slice a43 v42.length c44,.slice a47 v46.length c48]) rfl rfl rfl rfl (cs':= [.slice a43 v42.length c44,.slice a47 v46.length c48]) rfl) ?_ rfl Kq0 [] Kq0 Z8.e;rintro ZKt hS;refine WX.w gN rfl (Yb lk) ?_ Kq0;refine r4 ?_;refine r1 ?_;refine YO.ret ?_;refine r3 ?_;have hr:=Oi0 hL;subst hr;exact ZR.gen (vs:= [.agg [.slice a51 v50.length c52,.slice a56 v55.length c57,.int .i64 v59,.slice a61 v60.length c62].toArray,.agg [.slice a43 v42.length c44,.slice a47 v46.length c48].toArray,.bool false]) rfl (ZT (ZM rfl (ZM rfl (ZM rfl (ZM rfl (ZM rfl (ZM rfl (ZM rfl (ZL rfl e34)))))))) (Yd Zbv Q8 (hS.QF k1) (j:=0) rfl rfl (ws:= [.slice a51 v50.length c52,.slice a56 v55.length c57,.int .i64 v59,.slice a61 v60.length c62]) rfl) (ZT (ZM rfl (ZM rfl (ZM rfl (ZM rfl (ZM rfl (ZM rfl (ZM rfl (ZL rfl e35)))))))) (Yd Zbu Jp (hS.QF k0) (j:=0) rfl rfl (ws:= [.slice a43 v42.length c44,.slice a47 v46.length c48]) rfl) (ZB lk Zm))) rfl ⟨_,⟨a51,v50.length,c52,Zm8,a56,v55.length,c57,a61,v60.length,c62,a43,v42.length,c44,a47,v46.length,c48,rfl,rfl⟩,hT ▸ hS.only (.c k11 (.c k11 (.c k11 (.c k8 (.c k8 .n)))))⟩
       ·intro hc hL;refine r6 ?_;refine r1 ?_;obtain⟨ZbA,ZE5,hL⟩:=bind_some hL;refine WO.ZKA hS k11 ?_;rintro ZKs ⟨ZLR,hS⟩;refine WO.fzn hS k12 ?_;rintro ZKr ⟨ZLQ,hS⟩;refine WO.fzn hS k13 ?_;rintro ZKq ⟨ZLP,hS⟩;refine WO.cl gN rfl (Xj.fn ZFS (Zc lk (Zc lk (Zc lk Zl)))) hS (.c k11 (.c k11 .n)) (fun g' hz hf hO=>ZCQ (by rw [hz];exact hS.hw) ((hS.fsl k2).mono hf) ((hS.fsl k1).mono hf) ((hS.fsl k0).mono hf) hO ZE5) ?_;rintro _ ZOO _ ⟨a139,n140,c141,Zqg,n143,ZpZ,rfl,rfl⟩ hS;simp only [List.cons_append,List.nil_append] at hS;obtain rfl:=hS.on k0;obtain rfl:=hS.on k1;refine r1 ?_;rintro ZG7 hS;refine r6 ?_;rintro ZON hS;refine r6 ?_;obtain⟨KA,Zkv,hL⟩:=bind_some hL;refine WO.cp gN rfl (Xj.fn ZFQ (Zc lk (Zc lk Zl))) (WR.QV rfl (ZCN (Nat.le_refl _) (hS.ord k2) (hS.ord k3) (hS.nrd k8 Zll) (hS.ord k9) (hS.ord k10) Zkv)) ?_;refine r3 ?_;refine cn hL ?_ ?_
        ·intro hc hL;refine r1 ?_;refine WC.Yk mixed Kq0 ?_;refine r1 ?_;refine WX.wr (fun x=>x=b5) hS gN rfl (fun _ _ hR=>Xq Zbu Jp (Zq (ZM rfl (ZM rfl (ZM rfl (ZM rfl (ZM rfl (ZM rfl (ZM rfl (ZM rfl (Zf rfl e36))))))))) rfl) (At.eqv (hR b5 rfl) (hS.QF k1)) (j:=0) rfl rfl (ws:= [.slice a139 ZbA.uses.length c141,.slice Zqg ZbA.ways.length ZpZ]) rfl) ?_ rfl rfl;rintro ZOL ZP6 hS;refine WX.hu gN (Wu hS k13 Q8 (Zq (ZM rfl (ZM rfl (ZM rfl (ZM rfl (ZM rfl (ZM rfl (ZM rfl (ZM rfl (ZL rfl e34))))))))) rfl) lk (vs:= [.slice a109 Uk.1.cells.length ZsO,.slice Zs9 Uk.1.notes.length ZsN,.int .i64 Uk.1.names,.slice Zs8 Uk.1.freed.length c117]) rfl rfl rfl rfl (cs':= [.slice a109 Uk.1.cells.length ZsO,.slice Zs9 Uk.1.notes.length ZsN,.int .i64 Uk.1.names,.slice Zs8 Uk.1.freed.length c117]) rfl) ?_ rfl rfl [1] Kq0 (.c .z (hS.dj (.c k13 (.c k1 .n))) Z8.e);rintro ZOK hS;refine WX.hu gN (Wu hS k14 Jp (Zq (ZM rfl (ZM rfl (ZM rfl (ZM rfl (ZM rfl (ZM rfl (ZM rfl (ZM rfl (ZL rfl e35))))))))) rfl) lk (vs:= [.slice a139 ZbA.uses.length c141,.slice Zqg ZbA.ways.length ZpZ]) rfl rfl rfl rfl (cs':= [.slice a139 ZbA.uses.length c141,.slice Zqg ZbA.ways.length ZpZ]) rfl) ?_ rfl Kq0 [] Kq0 Z8.e;rintro ZG6 hS;refine WX.w gN rfl (Yb lk) ?_ Kq0;refine r4 ?_;refine YO.ret ?_;refine r3 ?_;have hr:=Oi0 hL;subst hr;exact ZR.gen (vs:= [.agg [.slice a109 Uk.1.cells.length ZsO,.slice Zs9 Uk.1.notes.length ZsN,.int .i64 Uk.1.names,.slice Zs8 Uk.1.freed.length c117].toArray,.agg [.slice a139 ZbA.uses.length c141,.slice Zqg ZbA.ways.length ZpZ].toArray,.bool false]) rfl (ZT (ZM rfl (ZM rfl (ZM rfl (ZM rfl (ZM rfl (ZM rfl (ZM rfl (ZM rfl (ZL rfl (Zf rfl e34)))))))))) (Yd Zbv Q8 (hS.QF k1) (j:=0) rfl rfl (ws:= [.slice a109 Uk.1.cells.length ZsO,.slice Zs9 Uk.1.notes.length ZsN,.int .i64 Uk.1.names,.slice Zs8 Uk.1.freed.length c117]) rfl) (ZT (ZM rfl (ZM rfl (ZM rfl (ZM rfl (ZM rfl (ZM rfl (ZM rfl (ZM rfl (ZL rfl (Zf rfl e35)))))))))) (Yd Zbu Jp (hS.QF k0) (j:=0) rfl rfl (ws:= [.slice a139 ZbA.uses.length c141,.slice Zqg ZbA.ways.length ZpZ]) rfl) (ZB lk Zm))) rfl ⟨_,⟨a109,Uk.1.cells.length,ZsO,ZtW,Zs9,Uk.1.notes.length,ZsN,Zs8,Uk.1.freed.length,c117,a139,ZbA.uses.length,c141,Zqg,ZbA.ways.length,ZpZ,rfl,rfl⟩,hT ▸ hS.only (.c k10 (.c k10 (.c k10 (.c k4 (.c k4 .n)))))⟩
        ·intro hc hL;refine r2 ?_;exact YO.Yt _ hL ⟨_,_,a139,c141,ZbA.uses.length,Zqg,ZpZ,ZbA.ways.length,a109,ZsO,Uk.1.cells.length,ZtW,Zs9,ZsN,Uk.1.notes.length,Zs8,c117,Uk.1.freed.length,rfl,hS.only (.c k13 (.c k13 (.c k2 (.c k2 (.c k1 (.c k5 (.c k5 (.c k5 (.c k0 .n))))))))),YR⟩
  ·intro hc hL;refine r6 ?_;refine WC.Yk mixed Kq0 ?_;refine r1 ?_;refine WX.wr (fun x=>x=b5) hS gN rfl (fun _ _ hR=>Xq Zbu Jp (Zq (ZL rfl e36) rfl) (At.eqv (hR b5 rfl) (hS.QF k4)) (j:=0) rfl rfl (ws:= [.slice a43 v42.length c44,.slice a47 v46.length c48]) rfl) ?_ rfl rfl;rintro ZKo ZP5 hS;refine WX.hu gN (Wu hS k0 Q8 lk lk (vs:= [.slice a51 v50.length c52,.slice a56 v55.length c57,.int .i64 v59,.slice a61 v60.length c62]) rfl rfl rfl rfl (cs':= [.slice a51 v50.length c52,.slice a56 v55.length c57,.int .i64 v59,.slice a61 v60.length c62]) rfl) ?_ rfl rfl [1] Kq0 (.c .z (hS.dj (.c k0 (.c k3 .n))) Z8.e);rintro ZOJ hS;refine WX.hu gN (Wu hS k1 Jp lk lk (vs:= [.slice a43 v42.length c44,.slice a47 v46.length c48]) rfl rfl rfl rfl (cs':= [.slice a43 v42.length c44,.slice a47 v46.length c48]) rfl) ?_ rfl Kq0 [] Kq0 Z8.e;rintro ZOI hS;refine WX.w gN rfl (Yb lk) ?_ Kq0;refine r3 ?_;have hr:=Oi0 hL;subst hr;exact ZR.gen (vs:= [.agg [.slice a51 v50.length c52,.slice a56 v55.length c57,.int .i64 v59,.slice a61 v60.length c62].toArray,.agg [.slice a43 v42.length c44,.slice a47 v46.length c48].toArray,.bool true]) rfl (ZT (ZO rfl e34) (Yd Zbv Q8 (hS.QF k1) (j:=0) rfl rfl (ws:= [.slice a51 v50.length c52,.slice a56 v55.length c57,.int .i64 v59,.slice a61 v60.length c62]) rfl) (ZT (ZO rfl e35) (Yd Zbu Jp (hS.QF k0) (j:=0) rfl rfl (ws:= [.slice a43 v42.length c44,.slice a47 v46.length c48]) rfl) (ZB lk Zm))) rfl ⟨_,⟨a51,v50.length,c52,Zm8,a56,v55.length,c57,a61,v60.length,c62,a43,v42.length,c44,a47,v46.length,c48,rfl,rfl⟩,hT ▸ hS.only (.c k5 (.c k5 (.c k5 (.c k2 (.c k2 .n)))))⟩
end Go.Proofs.Ytekpjgmhkkjhgaa
end
end
section
namespace Go.Proofs.Ytekpjgmhkkjhgaa
open Go.Lf
def Zel (v46:Int) (Zcy:(Int×(List (ZV×Int))×(List (ZV×Int))×(List (ZV×Bool)) ->Option Bool)):(List (ZV×Int))×(List (ZV×Int))×(List (ZV×Bool)) ->Option Bool:=fun(v62,v63,v64)=>
 Zcy (ZF (v46 + 1),v62,v63,v64)
def Zgg (v50:(List (ZV×Bool))) (v92:Int) (ZhW:Int) (WB:(List (ZV×Int))) (Zdf:(Int×(List (ZV×Int))×(List (ZV×Int)) ->Option Bool)) (XO:Zb) (Zk4:Int):(List (ZV×Int)) ->Option Bool:=fun Zw6=>
 (gd ((decide (XO.out < 0)) || ((decide (XO.from_ < 0)) && (!XO.root))) (QG v50 (ZV.mk v92 XO.name) false) default).bind fun ZAW=>(bif(((decide (XO.out < 0)) || ((decide (XO.from_ < 0)) && (!XO.root))) && (!ZAW)) then some false else Zdf (ZF (ZhW + 1),Zw6,YL (JS WB (ZV.mk v92 XO.name) 0) (ZV.mk v92 XO.name) (ZF (Zk4 + XO.out))))
def Zgh (v50:(List (ZV×Bool))) (v92:Int) (Zli:(Int×(List (ZV×Int))×(List (ZV×Int)) ->Option Bool)) (x97:(List Zb)):Int×(List (ZV×Int))×(List (ZV×Int)) ->(Int×(List (ZV×Int))×(List (ZV×Int)) ->Option Bool) ->Option Bool:=fun(ZhW,v117,WB) Zdf=>
 (bif decide (ZhW < (x97.length:Int)) then(Ye x97 ZhW).bind fun XO=>(QG WB (ZV.mk v92 XO.name) 0).bind fun Zk4=>(bif decide (XO.from_ >=0) then(QG v117 (ZV.mk XO.from_ XO.name) 0).bind fun Zw4=>(Zgg v50 v92 ZhW WB Zdf XO Zk4) (YL (JS v117 (ZV.mk XO.from_ XO.name) 0) (ZV.mk XO.from_ XO.name) (ZF (Zw4 + XO.has))) else(Zgg v50 v92 ZhW WB Zdf XO Zk4) v117) else Zli (ZF (v92 + 1),v117,WB))
def Zgf (v94:(List (ZV×Int))):ZV ->Int ->Option (Option Bool):=fun Ztq Zto=>
 (QG v94 Ztq 0).bind fun ZAV=>(bif(Zto !=ZAV) then some none else(bif(Zto !=0) then some (some true) else some (some false)))
def Zge (v95:(List (ZV×Int))):ZV ->Int ->Option (Option Bool):=fun Ztp Zzv=>
 (QG v95 Ztp 0).bind fun ZAU=>(bif(Zzv !=ZAU) then some none else some (some false))
def Zem (x25:((List ZY)×Int)) (v95:(List (ZV×Int))) (Zr5:Nat):Int ->(Int ->Option Bool) ->Option Bool:=fun Zfp Zqz=>
 (bif decide (Zfp < (x25.1.length:Int)) then(Ye x25.1 Zfp).bind fun Jz=>(gd (!(Jz.out !=Jz.held)) (QG v95 (ZV.mk Jz.at_ Jz.name) 0) default).bind fun Zrx=>(gd ((!(((Jz.out !=Jz.held) || (Jz.out !=Zrx)) || (Jz.out==0))) && (decide (Zfp > 0))) (Ye x25.1 (ZF (Zfp - 1))) default).bind fun Ztr=>(gd (((!(((Jz.out !=Jz.held) || (Jz.out !=Zrx)) || (Jz.out==0))) && (decide (Zfp > 0))) && (!(decide (Jz.at_ < Ztr.at_)))) (Ye x25.1 (ZF (Zfp - 1))) default).bind fun Zw1=>(gd ((((!(((Jz.out !=Jz.held) || (Jz.out !=Zrx)) || (Jz.out==0))) && (decide (Zfp > 0))) && (!(decide (Jz.at_ < Ztr.at_)))) && (Jz.at_==Zw1.at_)) (Ye x25.1 (ZF (Zfp - 1))) default).bind fun ZAT=>(bif((((Jz.out !=Jz.held) || (Jz.out !=Zrx)) || (Jz.out==0)) || ((decide (Zfp > 0)) && ((decide (Jz.at_ < Ztr.at_)) || ((Jz.at_==Zw1.at_) && (decide (Jz.name <=ZAT.name)))))) then some false else Zqz (ZF (Zfp + 1))) else(gd ((Zca (fun Zc3=>ZF (Zc3 + 1)) Zr5 0)== (x25.1.length:Int)) (ZCW) default).bind fun ZDZ=>some (((Zca (fun Zc3=>ZF (Zc3 + 1)) Zr5 0)== (x25.1.length:Int)) && ZDZ))
def ZcM (F:Nat) (x1:(Za×Model×Bool)) (x25:((List ZY)×Int)) (v50:(List (ZV×Bool))):Int×(List (ZV×Int))×(List (ZV×Int)) ->(Int×(List (ZV×Int))×(List (ZV×Int)) ->Option Bool) ->Option Bool:=fun(v92,v94,v95) Zli=>
 (bif decide (v92 < (x1.1.cells.length:Int)) then(Ye x1.1.cells v92).bind fun x97=>loop F (Zgh v50 v92 Zli x97) (0,v94,v95) else(ZfM (Zgf v94) v95).bind fun ZEl=>(Option.elim ZEl (some false) fun Zr5=>(ZfM (Zge v95) v94).bind fun ZEk=>(Option.elim ZEk (some false) fun ZI2=>loop F (Zem x25 v95 Zr5) 0)))
def Zgi (F:Nat) (x1:(Za×Model×Bool)) (x25:((List ZY)×Int)):Int×(List (ZV×Int))×(List (ZV×Int))×(List (ZV×Bool)) ->(Int×(List (ZV×Int))×(List (ZV×Int))×(List (ZV×Bool)) ->Option Bool) ->Option Bool:=fun(v46,v48,v49,v50) Zcy=>
 (bif decide (v46 < (x1.1.notes.length:Int)) then(Ye x1.1.notes v46).bind fun WA=>(bif(WA.kind==1) then(QG v48 (ZV.mk WA.via WA.name) 0).bind fun x71=>(Zel v46 Zcy) (YL (JS v48 (ZV.mk WA.via WA.name) 0) (ZV.mk WA.via WA.name) (ZF (x71 + WA.w)),v49,v50) else(bif(WA.kind==2) then(QG v48 (ZV.mk WA.Zv WA.name) 0).bind fun x75=>(Zel v46 Zcy) (YL (JS v48 (ZV.mk WA.Zv WA.name) 0) (ZV.mk WA.Zv WA.name) (ZF (x75 + WA.w)),v49,v50) else(bif(WA.kind==3) then(QG v49 (ZV.mk WA.Zv WA.name) 0).bind fun x79=>(Zel v46 Zcy) (v48,YL (JS v49 (ZV.mk WA.Zv WA.name) 0) (ZV.mk WA.Zv WA.name) (ZF (x79 + 16)),YL v50 (ZV.mk WA.Zv WA.name) true) else(Zel v46 Zcy) (v48,v49,v50)))) else loop F (ZcM F x1 x25 v50) (0,v48,v49))
def ZsA (F:Nat) (p0:Int) (p1:(List Za8)):Option Bool:=
 (Zsz F p0 p1).bind fun x1=>(bif(!x1.2.2) then some false else(ZvH F x1.1).bind fun x25=>(bif(x25.2 !=0) then some false else loop F (Zgi F x1 x25) (0,[],[],[])))
end Go.Proofs.Ytekpjgmhkkjhgaa
end
section
set_option maxRecDepth 20000
noncomputable section
namespace Go.Proofs.Ytekpjgmhkkjhgaa
open Go.Yw Go.Lf
theorem ZCX {F wm:Nat} {h:H} {p0:Int} {p1:(List Za8)} {Y3:Option Addr} {Y2:Nat} {r:Bool} (ZG:wm <=h.size) (UB:Sl ZtU wm h Y3 Y2 p1) (hL:ZsA F p0 p1=some r):
 WR XX 11 #[.int .u8 p0,.slice Y3 p1.length Y2] wm h (CP (fun(v:Value) (Gb:List (Ast wm))=>v= .bool r∧Gb= []) [] h):=by
 refine bg Try.ntmps11 ZG ZQ.nil ?_;intro T hT hS;unfold ZsA at hL;refine r8 ?_;refine r1 ?_;obtain⟨x1,hx1,hL⟩:=bind_some hL;refine WO.cl gN rfl (Xj.fn ZFT (Zc lk (Zc lk Zl))) hS .n (fun g' hz hf hO=>ZCR (by rw [hz];exact hS.hw) ((hS.sl UB).mono hf) hx1) ?_;rintro _ h17 _ ⟨a2,n3,c4,ZrS,a5,n6,c7,a8,n9,c10,a11,n12,c13,a14,n15,c16,rfl,rfl⟩ hS;obtain rfl:=hS.Zlh k0;obtain rfl:=hS.on k1;obtain rfl:=hS.on k2;obtain rfl:=hS.on k3;obtain rfl:=hS.on k4;refine r4 ?_;refine r1 ?_;rintro _ h20 ⟨b19,ZKM,rfl,hS⟩;refine r1 ?_;rintro _ h22 ⟨b21,ZPw,rfl,hS⟩;refine r1 ?_;rintro h23 hS;refine r1 ?_;rintro h24 hS;refine r8 ?_;refine r2 ?_;refine cn hL ?_ ?_
 ·intro hc hL;refine r6 ?_;refine r1 ?_;exact rt hL hT hS
 ·intro hc hL;refine r4 ?_;refine r1 ?_;obtain⟨x25,hx25,hL⟩:=bind_some hL;refine WO.clR gN rfl (Xj.fn ZFU (Zc lk Zl)) hS.hw (ZCS (Nat.le_refl _) (hS.nrd k2 Zll) (hS.ord k3) (hS.ord k4) hx25) ?_;rintro _ h29 _ ⟨a26,n27,c28,rfl,rfl⟩ ZCb;have hS:=hS.clR ZCb (.c (cvO (fun _ _ _ _=>trivial) hS.hw) .n);obtain rfl:=hS.on k0;refine JP ?_;refine r2 ?_;refine cn hL ?_ ?_
  ·intro hc hL;refine r6 ?_;refine r1 ?_;exact rt hL hT hS
  ·intro hc hL;refine r4 ?_;refine WO.hn gN rfl (Zkj Xa (Value.int .i64) hS) ?_;rintro _ h31 ⟨b32,ZKL,rfl,hS⟩;refine WO.hn gN rfl (Zkj Xa (Value.int .i64) hS) ?_;rintro _ h33 ⟨b34,ZHk,rfl,hS⟩;refine r6 ?_;refine WO.hn gN rfl (Zkj Xa Value.bool hS) ?_;rintro _ h35 ⟨b36,ZPt,rfl,hS⟩;refine JP ?_;refine r1 ?_;refine WC.loop (WL.lift hL (fun(p:Int×(List (ZV×Int))×(List (ZV×Int))×(List (ZV×Bool))) (s:Fs)=>match p with | (v46,v48,v49,v50)=>∃ (ZjI:Fr) (h37:H),s= ⟨ZjI,[],h37,none⟩∧Sp wm T h [bx wm b19 [.slice a2 x1.1.cells.length c4,.slice a5 x1.1.notes.length c7,.int .i64 x1.1.names,.slice a8 x1.1.freed.length c10],ow wm XQ a26 x25.1.length c28 x25.1,mp wm Xa (Value.int .i64) (some b32) v48,mp wm Xa (Value.int .i64) (some b34) v49,mp wm Xa Value.bool (some b36) v50,ow wm Zj a5 x1.1.notes.length c7 x1.1.notes,nst wm (Xf ZA) a2 x1.1.cells.length c4 ZrS x1.1.cells,ow wm (ZW .i64) a8 x1.1.freed.length c10 x1.1.freed] h37∧ZjI.at 5= .pointer (some ⟨b19,0,none⟩)∧ZjI.at 8= .slice a26 x25.1.length c28∧ZjI.at 10= .map (some b32)∧ZjI.at 11= .map (some b34)∧ZjI.at 12= .map (some b36)∧ZjI.at 46= .slice a5 x1.1.notes.length c7∧ZjI.at 47= .int .i64 (x1.1.notes.length:Int)∧ZjI.at 48= .int .i64 v46) ⟨_,_,rfl,hS.only (.c k5 (.c k3 (.c k2 (.c k1 (.c k0 (.c k2 (.c k1 (.c k1 .n)))))))),YR⟩ ?_);clear hL hS;rintro Zcy ⟨v46,v48,v49,v50⟩ s ZxR hL ⟨ZjI,h37,rfl,hS,e39,e40,e41,e42,e43,e44,e45,e47⟩;dsimp only [Zgi] at hL;refine r6 ?_;refine cn hL ?_ ?_
   ·intro hc hL;refine r2 ?_;refine WC.Zav (r:=r) (fun(p:(List (ZV×Int))×(List (ZV×Int))×(List (ZV×Bool))) (s:Fs)=>match p with | (v62,v63,v64)=>∃ (ZjG:Fr) (h52:H),s= ⟨ZjG,[],h52,none⟩∧Sp wm T h [bx wm b19 [.slice a2 x1.1.cells.length c4,.slice a5 x1.1.notes.length c7,.int .i64 x1.1.names,.slice a8 x1.1.freed.length c10],ow wm XQ a26 x25.1.length c28 x25.1,mp wm Xa (Value.int .i64) (some b32) v62,mp wm Xa (Value.int .i64) (some b34) v63,mp wm Xa Value.bool (some b36) v64,ow wm Zj a5 x1.1.notes.length c7 x1.1.notes,nst wm (Xf ZA) a2 x1.1.cells.length c4 ZrS x1.1.cells,ow wm (ZW .i64) a8 x1.1.freed.length c10 x1.1.freed] h52∧ZjG.at 5= .pointer (some ⟨b19,0,none⟩)∧ZjG.at 8= .slice a26 x25.1.length c28∧ZjG.at 10= .map (some b32)∧ZjG.at 11= .map (some b34)∧ZjG.at 12= .map (some b36)∧ZjG.at 46= .slice a5 x1.1.notes.length c7∧ZjG.at 47= .int .i64 (x1.1.notes.length:Int)∧ZjG.at 48= .int .i64 v46) (Zel v46 Zcy) ?_ ?_
    ·clear hL hS;rintro⟨v62,v63,v64⟩ s hL ⟨ZjG,h52,rfl,hS,e54,e55,e56,e57,e58,e59,e60,e61⟩;dsimp only [Zel] at hL;refine r4 ?_;exact Yy.Yt (ZxR _ _ hL ⟨_,_,rfl,hS.only (.c k0 (.c k0 (.c k0 (.c k0 (.c k0 (.c k0 (.c k0 (.c k0 .n)))))))),YR⟩)
    ·skip;refine r3 ?_;obtain⟨WA,ZEP,hL⟩:=bind_some hL;obtain⟨b66,o67,_,ZF3,ZGM,ZL0⟩:=Src.at_ (hS.QH k5) ZEP;refine WO.w gN rfl (Z5 UE XA lk lk rfl ZF3 ZEP) ?_;refine WO.w gN rfl (Xq ZdU XA (Zq fh rfl) ZGM (j:=0) rfl rfl (ws:= [.int .i64 WA.kind,.int .i64 WA.Zv,.int .i64 WA.name,.int .i64 WA.via,.int .i64 WA.w]) rfl) ?_;refine r1 ?_;rintro _ h69 ⟨b68,ZPn,rfl,hS⟩;refine r1 ?_;rintro h70 hS;refine JP ?_;refine r3 ?_;refine cn hL ?_ ?_
     ·intro hc hL;refine WC.Yk mixed Kq0 ?_;refine r4 ?_;refine r1 ?_;refine WX.w gN rfl (YP ZaS (Zg lk (Zg lk Zx)) rfl (cs':= [.int .i64 WA.via,.int .i64 WA.name]) rfl) ?_ rfl;obtain⟨x71,Zuw,hL⟩:=bind_some hL;refine WX.ZjC (kv:=Xa) (vv:= (Value.int .i64)) (k:= (ZV.mk WA.via WA.name)) (z:=0) gN rfl Zab KX XF (Zq (ZO rfl (Zf rfl fh)) rfl) (Zq fh rfl) (hS.get k3).at_ Zuw 10 (w:= .int .i64 x71) rfl (fun _=>rfl) ?_ rfl;refine r3 ?_;refine WX.ZjR (kv:=Xa) (vv:= (Value.int .i64)) (k:= (ZV.mk WA.via WA.name)) (z:=0) gN rfl hS k3 Zab KX XF (Zq (ZM rfl (Zf rfl fh)) rfl) (Zq (ZO rfl fh) rfl) ?_ rfl 6 Kq0 Kq0 (by simp);rintro _ h72 ⟨b73,rfl,hS⟩;refine WX.w gN rfl (Qh lk (v:= .int .i64 (b73:Nat)) rfl) ?_ Kq0;refine WX.hu gN (ZdI (kv:=Xa) (vv:= (Value.int .i64)) (v:=ZF (x71 + WA.w)) hS k0 (Zq (ZM rfl (ZL rfl (Zf rfl fh))) rfl) (Zq fh rfl) (Zq (ZL rfl fh) rfl)) ?_ rfl Kq0 [] Kq0 Z8.e;rintro h74 hS;refine r3 ?_;exact YO.Yt _ hL ⟨_,_,rfl,hS.only (.c k2 (.c k2 (.c k0 (.c k1 (.c k1 (.c k1 (.c k1 (.c k1 .n)))))))),YR⟩
     ·intro hc hL;refine r6 ?_;refine cn hL ?_ ?_
      ·intro hc hL;refine WC.Yk mixed Kq0 ?_;refine r4 ?_;refine r1 ?_;refine WX.w gN rfl (YP ZaS (Zg lk (Zg lk Zx)) rfl (cs':= [.int .i64 WA.Zv,.int .i64 WA.name]) rfl) ?_ rfl;obtain⟨x75,Zuv,hL⟩:=bind_some hL;refine WX.ZjC (kv:=Xa) (vv:= (Value.int .i64)) (k:= (ZV.mk WA.Zv WA.name)) (z:=0) gN rfl Zab KX XF (Zq (ZO rfl (Zf rfl fh)) rfl) (Zq fh rfl) (hS.get k3).at_ Zuv 10 (w:= .int .i64 x75) rfl (fun _=>rfl) ?_ rfl;refine r3 ?_;refine WX.ZjR (kv:=Xa) (vv:= (Value.int .i64)) (k:= (ZV.mk WA.Zv WA.name)) (z:=0) gN rfl hS k3 Zab KX XF (Zq (ZM rfl (Zf rfl fh)) rfl) (Zq (ZO rfl fh) rfl) ?_ rfl 6 Kq0 Kq0 (by simp);rintro _ h76 ⟨b77,rfl,hS⟩;refine WX.w gN rfl (Qh lk (v:= .int .i64 (b77:Nat)) rfl) ?_ Kq0;refine WX.hu gN (ZdI (kv:=Xa) (vv:= (Value.int .i64)) (v:=ZF (x75 + WA.w)) hS k0 (Zq (ZM rfl (ZL rfl (Zf rfl fh))) rfl) (Zq fh rfl) (Zq (ZL rfl fh) rfl)) ?_ rfl Kq0 [] Kq0 Z8.e;rintro h78 hS;refine r3 ?_;exact YO.Yt _ hL ⟨_,_,rfl,hS.only (.c k2 (.c k2 (.c k0 (.c k1 (.c k1 (.c k1 (.c k1 (.c k1 .n)))))))),YR⟩
      ·intro hc hL;refine r6 ?_;refine cn hL ?_ ?_
       ·intro hc hL;refine r1 ?_;refine WC.Yk mixed Kq0 ?_;refine r4 ?_;refine r1 ?_;refine WX.w gN rfl (YP ZaS (Zg lk (Zg lk Zx)) rfl (cs':= [.int .i64 WA.Zv,.int .i64 WA.name]) rfl) ?_ rfl;obtain⟨x79,ZBn,hL⟩:=bind_some hL;refine WX.ZjC (kv:=Xa) (vv:= (Value.int .i64)) (k:= (ZV.mk WA.Zv WA.name)) (z:=0) gN rfl Zab KX XF (Zq (ZO rfl (Zf rfl fh)) rfl) (Zq fh rfl) (hS.get k4).at_ ZBn 8 (w:= .int .i64 x79) rfl (fun _=>rfl) ?_ rfl;refine r1 ?_;refine WX.ZjR (kv:=Xa) (vv:= (Value.int .i64)) (k:= (ZV.mk WA.Zv WA.name)) (z:=0) gN rfl hS k4 Zab KX XF (Zq (ZO rfl (ZL rfl (Zf rfl fh))) rfl) (Zq (ZL rfl fh) rfl) ?_ rfl 6 Kq0 Kq0 (by simp);rintro _ h80 ⟨b81,rfl,hS⟩;refine WX.w gN rfl (Qh lk (v:= .int .i64 (b81:Nat)) rfl) ?_ Kq0;refine WX.hu gN (ZdI (kv:=Xa) (vv:= (Value.int .i64)) (v:=ZF (x79 + 16)) hS k0 (Zq (ZM rfl (Zf rfl fh)) rfl) (Zq fh rfl) (Zq (ZL rfl fh) rfl)) ?_ rfl Kq0 [] Kq0 Z8.e;rintro h82 hS;refine r8 ?_;refine WO.w gN rfl (YP ZaS (Zg lk (Zg lk Zx)) rfl (cs':= [.int .i64 WA.Zv,.int .i64 WA.name]) rfl) ?_;refine WO.hu gN (Zb7 (kv:=Xa) (vv:=Value.bool) (k:= (ZV.mk WA.Zv WA.name)) (v:=true) hS k5 Zab Zzy (Zq (ZO rfl (Zf rfl fh)) rfl) (Zq fh rfl) (Jy rfl)) ?_;rintro h83 hS;refine r3 ?_;exact YO.Yt _ hL ⟨_,_,rfl,hS.only (.c k3 (.c k3 (.c k3 (.c k1 (.c k0 (.c k1 (.c k1 (.c k1 .n)))))))),YR⟩
       ·intro hc hL;refine r3 ?_;exact YO.Yt _ hL ⟨_,_,rfl,hS.only (.c k1 (.c k1 (.c k1 (.c k1 (.c k1 (.c k1 (.c k1 (.c k1 .n)))))))),YR⟩
   ·intro hc hL;refine JP ?_;refine r3 ?_;refine WC.loop (WL.lift hL (fun(p:Int×(List (ZV×Int))×(List (ZV×Int))) (s:Fs)=>match p with | (v92,v94,v95)=>∃ (ZlE:Fr) (h84:H),s= ⟨ZlE,[],h84,none⟩∧Sp wm T h [ow wm XQ a26 x25.1.length c28 x25.1,mp wm Xa (Value.int .i64) (some b32) v94,mp wm Xa (Value.int .i64) (some b34) v95,mp wm Xa Value.bool (some b36) v50,nst wm (Xf ZA) a2 x1.1.cells.length c4 ZrS x1.1.cells] h84∧ZlE.at 8= .slice a26 x25.1.length c28∧ZlE.at 10= .map (some b32)∧ZlE.at 11= .map (some b34)∧ZlE.at 12= .map (some b36)∧ZlE.at 102= .slice a2 x1.1.cells.length c4∧ZlE.at 103= .int .i64 (x1.1.cells.length:Int)∧ZlE.at 104= .int .i64 v92) ⟨_,_,rfl,hS.only (.c k1 (.c k1 (.c k1 (.c k1 (.c k2 .n))))),YR⟩ ?_);clear hL hS;rintro Zli ⟨v92,v94,v95⟩ s ZxM hL ⟨ZlE,h84,rfl,hS,e86,e87,e88,e89,e90,e91,e93⟩;dsimp only [ZcM] at hL;refine r6 ?_;refine cn hL ?_ ?_
    ·intro hc hL;refine r6 ?_;refine r1 ?_;obtain⟨x97,Zo8,hL⟩:=bind_some hL;obtain⟨b98,o99,ZDv,n101,ZDh,ZuD,ZFZ,ZGG⟩:=hS.atS k4 Zo8;refine WO.w gN rfl (Z5 ZgI ZbC lk lk rfl ZFZ Zo8) ?_;refine WO.w gN rfl (ZU ZkW (Zq fh rfl) ZGG (j:=0) rfl (v:= .slice ZDv n101 ZDh) rfl) ?_;refine r6 ?_;refine r1 ?_;refine WO.w gN rfl (ZhM ZgH lk (congrArg Nat.cast (hS.inS k4 Zo8 ZuD).1)) ?_;refine r4 ?_;refine WC.loop (WL.lift hL (fun(p:Int×(List (ZV×Int))×(List (ZV×Int))) (s:Fs)=>match p with | (ZhW,v117,WB)=>∃ (Zbl:Fr) (Zx9:H),s= ⟨Zbl,[],Zx9,none⟩∧Sp wm T h [ow wm XQ a26 x25.1.length c28 x25.1,mp wm Xa (Value.int .i64) (some b32) v117,mp wm Xa (Value.int .i64) (some b34) WB,mp wm Xa Value.bool (some b36) v50,nst wm (Xf ZA) a2 x1.1.cells.length c4 ZrS x1.1.cells] Zx9∧Zbl.at 8= .slice a26 x25.1.length c28∧Zbl.at 10= .map (some b32)∧Zbl.at 11= .map (some b34)∧Zbl.at 12= .map (some b36)∧Zbl.at 15= .int .i64 v92∧Zbl.at 102= .slice a2 x1.1.cells.length c4∧Zbl.at 103= .int .i64 (x1.1.cells.length:Int)∧Zbl.at 104= .int .i64 v92∧Zbl.at 109= .slice ZDv n101 ZDh∧Zbl.at 110= .int .i64 (x97.length:Int)∧Zbl.at 111= .int .i64 ZhW) ⟨_,_,rfl,hS.only (.c k0 (.c k0 (.c k0 (.c k0 (.c k0 .n))))),YR⟩ ?_);clear hL hS;rintro Zdf ⟨ZhW,v117,WB⟩ s ZuI hL ⟨Zbl,Zx9,rfl,hS,ZKX,ZQj,ZKW,e108,e109,ZQi,ZQh,ZQg,ZQf,ZQe,e116⟩;dsimp only [Zgh] at hL;refine r6 ?_;refine cn hL ?_ ?_
     ·intro hc hL;refine r6 ?_;obtain⟨XO,Zz3,hL⟩:=bind_some hL;obtain⟨ZQ9,ZNF,_,ZB8,ZCo,ZKb⟩:=Src.at_ (hS.inS k4 Zo8 ZuD).2.1 Zz3;refine WO.w gN rfl (Z5 ZgH JC lk lk (hS.inS k4 Zo8 ZuD).1 ZB8 Zz3) ?_;refine WO.w gN rfl (Xq Zhd JC (Zq fh rfl) ZCo (j:=0) rfl rfl (ws:= [.int .i64 XO.name,.bool XO.root,.int .i64 XO.from_,.int .i64 XO.has,.int .i64 XO.out,.bool XO.use]) rfl) ?_;refine r1 ?_;rintro _ ZKu ⟨ZHG,ZMN,rfl,hS⟩;refine r1 ?_;rintro Zvi hS;refine r3 ?_;refine WC.Yk mixed Kq0 ?_;refine r4 ?_;refine WX.w gN rfl (YP ZaS (Zg lk (Zg lk Zx)) rfl (cs':= [.int .i64 v92,.int .i64 XO.name]) rfl) ?_ rfl;obtain⟨Zk4,ZE7,hL⟩:=bind_some hL;refine WX.ZjC (kv:=Xa) (vv:= (Value.int .i64)) (k:= (ZV.mk v92 XO.name)) (z:=0) gN rfl Zab KX XF (Zq (ZO rfl fh) rfl) (Zq fh rfl) (hS.get k3).at_ ZE7 9 (w:= .int .i64 Zk4) rfl (fun _=>rfl) ?_ rfl;refine r3 ?_;refine WX.ZjR (kv:=Xa) (vv:= (Value.int .i64)) (k:= (ZV.mk v92 XO.name)) (z:=0) gN rfl hS k3 Zab KX XF (Zq (ZM rfl fh) rfl) (Zq (ZO rfl fh) rfl) ?_ rfl 5 Kq0 Kq0 (by simp);rintro _ h127 ⟨ZLh,rfl,hS⟩;refine WX.w gN rfl (Qh lk (v:= .int .i64 (ZLh:Nat)) rfl) ?_ Kq0;refine WX.hu gN (ZdI (kv:=Xa) (vv:= (Value.int .i64)) (v:=ZF (Zk4 + XO.out)) hS k0 (Zq (ZM rfl (ZL rfl fh)) rfl) (Zq fh rfl) (Zq (ZL rfl fh) rfl)) ?_ rfl Kq0 [] Kq0 Z8.e;rintro ZOU hS;refine r2 ?_;refine WC.Zav (r:=r) (fun(Zw6:(List (ZV×Int))) (s:Fs)=>∃ (ZaL:Fr) (Zx6:H),s= ⟨ZaL,[],Zx6,none⟩∧Sp wm T h [bx wm ZHG [.int .i64 XO.name,.bool XO.root,.int .i64 XO.from_,.int .i64 XO.has,.int .i64 XO.out,.bool XO.use],ow wm XQ a26 x25.1.length c28 x25.1,mp wm Xa (Value.int .i64) (some b32) Zw6,mp wm Xa (Value.int .i64) (some b34) (YL (JS WB (ZV.mk v92 XO.name) 0) (ZV.mk v92 XO.name) (ZF (Zk4 + XO.out))),mp wm Xa Value.bool (some b36) v50,nst wm (Xf ZA) a2 x1.1.cells.length c4 ZrS x1.1.cells] Zx6∧ZaL.at 8= .slice a26 x25.1.length c28∧ZaL.at 10= .map (some b32)∧ZaL.at 11= .map (some b34)∧ZaL.at 12= .map (some b36)∧ZaL.at 15= .int .i64 v92∧ZaL.at 18= .pointer (some ⟨ZHG,0,none⟩)∧ZaL.at 102= .slice a2 x1.1.cells.length c4∧ZaL.at 103= .int .i64 (x1.1.cells.length:Int)∧ZaL.at 104= .int .i64 v92∧ZaL.at 109= .slice ZDv n101 ZDh∧ZaL.at 110= .int .i64 (x97.length:Int)∧ZaL.at 111= .int .i64 ZhW) (Zgg v50 v92 ZhW WB Zdf XO Zk4) ?_ ?_
      ·clear hL hS;rintro Zw6 s hL ⟨ZaL,Zx6,rfl,hS,ZHs,ZHr,ZKT,ZKS,ZQb,e137,e138,ZQa,ZP9,ZP8,ZKR,e143⟩;dsimp only [Zgg] at hL;refine JP ?_;refine r1 ?_;refine WO.gv (Zi.no rfl rfl rfl (ZO rfl (ZL rfl (Zf rfl fh)))) rfl (fun hg=>(Qi (Xi (ZL rfl (Zf rfl fh)) rfl hg) (Ze0 fh hg) lk)) ?_;refine r6 ?_;refine WO.gv (Zi.yes rfl rfl rfl (ZO rfl fh)) rfl (fun hg=>(YP ZaS (Zg (Xi (ZL rfl fh) rfl hg) (Zg (Xi fh rfl hg) Zx)) rfl (cs':= [.int .i64 v92,.int .i64 XO.name]) rfl)) ?_;obtain⟨ZAW,ZE0,hL⟩:=Y7 hL;refine WO.gv (Zi.yes rfl rfl rfl (ZO rfl (Zf rfl fh))) rfl (fun hg=>(Jw (kv:=Xa) (vv:=Value.bool) (k:= (ZV.mk v92 XO.name)) (z:=false) Zab Zzy Zzu (Xi (ZO rfl fh) rfl hg) (Xi fh rfl hg) (hS.get k4).at_ (ZE0 hg) (w:= .bool ZAW) rfl)) ?_;refine r4 ?_;refine cn hL ?_ ?_
       ·intro hc hL;refine JP ?_;refine r3 ?_;exact rt hL hT hS
       ·intro hc hL;refine r6 ?_;refine r1 ?_;exact Yy.Yt (ZuI _ _ hL ⟨_,_,rfl,hS.only (.c k1 (.c k1 (.c k1 (.c k1 (.c k1 .n))))),YR⟩)
      ·skip;refine r6 ?_;refine r1 ?_;refine cn hL ?_ ?_
       ·intro hc hL;refine WC.Yk mixed Kq0 ?_;refine r4 ?_;refine r1 ?_;refine WX.w gN rfl (YP ZaS (Zg lk (Zg lk Zx)) rfl (cs':= [.int .i64 XO.from_,.int .i64 XO.name]) rfl) ?_ rfl;obtain⟨Zw4,ZEZ,hL⟩:=bind_some hL;refine WX.ZjC (kv:=Xa) (vv:= (Value.int .i64)) (k:= (ZV.mk XO.from_ XO.name)) (z:=0) gN rfl Zab KX XF (Zq (ZO rfl (Zf rfl fh)) rfl) (Zq fh rfl) (hS.get k3).at_ ZEZ 10 (w:= .int .i64 Zw4) rfl (fun _=>rfl) ?_ rfl;refine r3 ?_;refine WX.ZjR (kv:=Xa) (vv:= (Value.int .i64)) (k:= (ZV.mk XO.from_ XO.name)) (z:=0) gN rfl hS k3 Zab KX XF (Zq (ZM rfl (Zf rfl fh)) rfl) (Zq (ZO rfl fh) rfl) ?_ rfl 6 Kq0 Kq0 (by simp);rintro _ ZG7 ⟨ZLg,rfl,hS⟩;refine WX.w gN rfl (Qh lk (v:= .int .i64 (ZLg:Nat)) rfl) ?_ Kq0;refine WX.hu gN (ZdI (kv:=Xa) (vv:= (Value.int .i64)) (v:=ZF (Zw4 + XO.has)) hS k0 (Zq (ZM rfl (ZL rfl (Zf rfl fh))) rfl) (Zq fh rfl) (Zq (ZL rfl fh) rfl)) ?_ rfl Kq0 [] Kq0 Z8.e;rintro ZOM hS;refine r1 ?_;exact YO.Yt _ hL ⟨_,_,rfl,hS.only (.c k2 (.c k2 (.c k0 (.c k0 (.c k0 (.c k0 .n)))))),YR⟩
       ·intro hc hL;refine r1 ?_;exact YO.Yt _ hL ⟨_,_,rfl,hS.only (.c k1 (.c k1 (.c k1 (.c k0 (.c k0 (.c k0 .n)))))),YR⟩
     ·intro hc hL;refine r8 ?_;refine r2 ?_;exact Yy.Yt (ZxM _ _ hL ⟨_,_,rfl,hS.only (.c k0 (.c k0 (.c k0 (.c k0 (.c k0 .n))))),YR⟩)
    ·intro hc hL;refine JP ?_;refine r2 ?_;refine WO.rng gN rfl hS KX lk (hS.get k2).at_ ?_;rintro ZKn ZLf ZM5 ZK0 hS ZFt ZFE;refine r3 ?_;have ZED:= (hS.mrd k2)
     have ZEC:= (hS.mrd k3)
     have ZEB:= (hS.mrd k4)
     obtain⟨ZEl,ZFm,hL⟩:=bind_some hL;refine WC.loop (WL.ZEE [4,19,20,21,167,168,169,170,171,172,173,174,175,176,177,178,179,180] (some 19) .i64 (fun Zc3=>ZF (Zc3 + 1)) 0 4 (.bool false) ZFm hS k0 fh (ZL rfl fh) ZFt ZFE rfl rfl rfl rfl rfl rfl rfl rfl rfl rfl ?_ ?_ ?_)
     ·clear hL hS;rintro⟨Ztq,Zto⟩ ZNn hL Zc3 ZOF ZMA ZdN ZGw Zu4 hS ZGu;dsimp only [Zgf] at hL;have e170:=ZdN.at (t:=8) rfl (ZO rfl e86);have ZP4:=ZdN.at (t:=10) rfl (ZO rfl e87);have ZP3:=ZdN.at (t:=11) rfl (ZO rfl e88);have ZP2:=ZdN.at (t:=12) rfl (ZO rfl e89);have ZP1:=ZdN.at (t:=102) rfl (ZO rfl e90);have ZP0:=ZdN.at (t:=103) rfl (ZO rfl e91);have ZPZ:=ZdN.at (t:=104) rfl (ZO rfl e93);have ZPY:=ZdN.at (t:=105) rfl (ZL rfl (Zf rfl fh));have ZPX:=ZdN.at (t:=165) rfl (Zf rfl fh);have ZPW:=ZdN.at (t:=166) rfl fh;have ZEA:=ZED.rk Zu4;have ZLH:=ZEC.rk Zu4;have ZLG:=ZEB.rk Zu4;have ZKQ:=ZGw.sm;refine r4 ?_;refine WC.Zgq lk rfl ?_;refine r4 ?_;refine r1 ?_;refine WO.w gN rfl (Zjf lk ZGu) ?_;refine r3 ?_;rintro _ ZOz ⟨ZQZ,ZMH,rfl,hS⟩;refine r1 ?_;rintro ZOy hS;refine r8 ?_;refine r1 ?_;obtain⟨ZAV,ZEW,hL⟩:=bind_some hL;refine WO.w gN rfl (Jw (kv:=Xa) (vv:= (Value.int .i64)) (k:=Ztq) (z:=0) Zab KX XF (Zq (Zf rfl fh) rfl) (Zq fh rfl) (hS.ms ZEA).at_ ZEW (w:= .int .i64 ZAV) rfl) ?_;refine r3 ?_;refine cn hL ?_ ?_
      ·intro hc hL;refine r8 ?_;have hp:=Oi0 hL;subst hp;exact Zcd.ret (.s rfl (.s rfl (.s rfl (.s rfl (.s rfl (.s rfl (.s rfl (.s rfl (.s rfl (.s rfl (.s rfl (.s rfl (.s rfl .z))))))))))))) fh
      ·intro hc hL;refine r8 ?_;refine cn hL ?_ ?_
       ·intro hc hL;refine r6 ?_;have hp:=Oi0 hL;subst hp;exact Zcd.cnt (.s rfl (.s rfl (.s rfl (.s rfl (.s rfl (.s rfl (.s rfl (.s rfl (.s rfl (.s rfl (.s rfl (.s rfl (.s rfl (.s rfl (.s rfl (.s rfl (.s rfl .z))))))))))))))))) fh
       ·intro hc hL;refine r2 ?_;have hp:=Oi0 hL;subst hp;exact Zcd.Yt (.s rfl (.s rfl (.s rfl (.s rfl (.s rfl (.s rfl (.s rfl (.s rfl (.s rfl (.s rfl (.s rfl (.s rfl (.s rfl (.s rfl .z)))))))))))))) (ZM rfl (ZO rfl (ZL rfl ZKQ)))
     ·intro Zr5 ZFl ZOx ZMz ZdM ZGv hS;subst ZFl;replace hL:=Zrh hL;have e195:=ZdM.at (t:=8) rfl (ZO rfl e86);have ZC7:=ZdM.at (t:=10) rfl (ZO rfl e87);have e197:=ZdM.at (t:=11) rfl (ZO rfl e88);have ZC6:=ZdM.at (t:=12) rfl (ZO rfl e89);have e199:=ZdM.at (t:=102) rfl (ZO rfl e90);have ZC5:=ZdM.at (t:=103) rfl (ZO rfl e91);have ZC4:=ZdM.at (t:=104) rfl (ZO rfl e93);have ZC3:=ZdM.at (t:=105) rfl (ZL rfl (Zf rfl fh));have e203:=ZdM.at (t:=165) rfl (Zf rfl fh);have e204:=ZdM.at (t:=166) rfl fh;have ZC2:=ZGv.sm;refine r4 ?_;refine WC.Zb3 lk rfl ?_;refine r2 ?_;refine Zqh.exit ?_;refine r6 ?_;refine WO.rng gN rfl hS KX lk (hS.get k1).at_ ?_;rintro ZOv ZQY ZM4 ZKZ hS ZFs ZFD;refine r3 ?_;have ZEz:= (hS.mrd k2)
      have ZEy:= (hS.mrd k3)
      have ZEx:= (hS.mrd k4)
      obtain⟨ZEk,ZFk,hL⟩:=bind_some hL;refine WC.loop (WL.ZEE [4,22,23,183,184,185,186,187,188,189,190,191,192] none .i64 (fun a=>a) 0 4 (.bool false) ZFk hS k0 fh trivial ZFs ZFD rfl rfl rfl rfl rfl rfl rfl rfl rfl rfl ?_ ?_ ?_)
      ·clear hL hS;rintro⟨Ztp,Zzv⟩ ZNm hL ZLl ZOu ZMy Zai ZMh Zu3 hS ZGt;dsimp only [Zge] at hL;have e226:=Zai.at (t:=8) rfl (ZO rfl e195);have e227:=Zai.at (t:=10) rfl (ZO rfl ZC7);have e228:=Zai.at (t:=11) rfl (ZO rfl e197);have e229:=Zai.at (t:=12) rfl (ZO rfl ZC6);have e230:=Zai.at (t:=102) rfl (ZO rfl e199);have e231:=Zai.at (t:=103) rfl (ZO rfl ZC5);have e232:=Zai.at (t:=104) rfl (ZO rfl ZC4);have e233:=Zai.at (t:=105) rfl (ZO rfl ZC3);have e234:=Zai.at (t:=165) rfl (ZO rfl e203);have ZPV:=Zai.at (t:=166) rfl (ZO rfl e204);have ZPU:=Zai.at (t:=19) rfl (ZO rfl ZC2);have e237:=Zai.at (t:=167) rfl (ZL rfl (Zf rfl fh));have e238:=Zai.at (t:=168) rfl (ZL rfl fh);have ZPT:=Zai.at (t:=181) rfl (Zf rfl fh);have e240:=Zai.at (t:=182) rfl fh;have ZLF:=ZEz.rk Zu3;have ZEw:=ZEy.rk Zu3;have ZLE:=ZEx.rk Zu3;refine r4 ?_;refine WC.Zgq lk rfl ?_;refine r4 ?_;refine r1 ?_;refine WO.w gN rfl (Zjf lk ZGt) ?_;refine r3 ?_;rintro _ ZOt ⟨ZQX,ZMG,rfl,hS⟩;refine r1 ?_;rintro ZOs hS;refine r8 ?_;obtain⟨ZAU,ZEV,hL⟩:=bind_some hL;refine WO.w gN rfl (Jw (kv:=Xa) (vv:= (Value.int .i64)) (k:=Ztp) (z:=0) Zab KX XF (Zq (Zf rfl fh) rfl) (Zq fh rfl) (hS.ms ZEw).at_ ZEV (w:= .int .i64 ZAU) rfl) ?_;refine r3 ?_;refine cn hL ?_ ?_
       ·intro hc hL;refine r6 ?_;refine r1 ?_;have hp:=Oi0 hL;subst hp;exact Zcd.ret (.s rfl (.s rfl (.s rfl (.s rfl (.s rfl (.s rfl (.s rfl (.s rfl (.s rfl (.s rfl (.s rfl (.s rfl (.s rfl .z))))))))))))) fh
       ·intro hc hL;refine r2 ?_;have hp:=Oi0 hL;subst hp;exact Zcd.Yt (.s rfl (.s rfl (.s rfl (.s rfl (.s rfl (.s rfl (.s rfl (.s rfl (.s rfl (.s rfl (.s rfl (.s rfl .z)))))))))))) trivial
      ·intro ZI2 ZFj ZOr ZMx Zah ZMg hS;subst ZFj;replace hL:=Zrh hL;have ZPS:=Zah.at (t:=8) rfl (ZO rfl e195);have ZPR:=Zah.at (t:=10) rfl (ZO rfl ZC7);have e257:=Zah.at (t:=11) rfl (ZO rfl e197);have e258:=Zah.at (t:=12) rfl (ZO rfl ZC6);have e259:=Zah.at (t:=102) rfl (ZO rfl e199);have e260:=Zah.at (t:=103) rfl (ZO rfl ZC5);have e261:=Zah.at (t:=104) rfl (ZO rfl ZC4);have e262:=Zah.at (t:=105) rfl (ZO rfl ZC3);have ZPQ:=Zah.at (t:=165) rfl (ZO rfl e203);have e264:=Zah.at (t:=166) rfl (ZO rfl e204);have ZPP:=Zah.at (t:=19) rfl (ZO rfl ZC2);have ZPO:=Zah.at (t:=167) rfl (ZL rfl (Zf rfl fh));have e267:=Zah.at (t:=168) rfl (ZL rfl fh);have e268:=Zah.at (t:=181) rfl (Zf rfl fh);have e269:=Zah.at (t:=182) rfl fh;refine r4 ?_;refine WC.Zb3 lk rfl ?_;refine r2 ?_;refine Zqh.exit ?_;refine r8 ?_;refine r3 ?_;refine WC.loop (WL.lift hL (fun(Zfp:Int) (s:Fs)=>∃ (Zg0:Fr) (ZCs:H),s= ⟨Zg0,[],ZCs,none⟩∧Sp wm T h [ow wm XQ a26 x25.1.length c28 x25.1,mp wm Xa (Value.int .i64) (some b34) v95] ZCs∧Zg0.at 8= .slice a26 x25.1.length c28∧Zg0.at 11= .map (some b34)∧Zg0.at 19= .int .i64 (Zca (fun Zc3=>ZF (Zc3 + 1)) Zr5 0)∧Zg0.at 193= .slice a26 x25.1.length c28∧Zg0.at 194= .int .i64 (x25.1.length:Int)∧Zg0.at 195= .int .i64 Zfp) ⟨_,_,rfl,hS.only (.c k0 (.c k1 .n)),YR⟩ ?_);clear hL hS;rintro Zqz Zfp s ZuF hL ⟨Zg0,ZCs,rfl,hS,e272,e273,e274,e275,ZPN,e278⟩;dsimp only [Zem] at hL;refine r6 ?_;refine cn hL ?_ ?_
       ·intro hc hL;refine r6 ?_;refine r1 ?_;obtain⟨Jz,ZzZ,hL⟩:=bind_some hL;obtain⟨ZQU,ZNx,_,ZB2,ZCi,ZJ5⟩:=Src.at_ (hS.QH k0) ZzZ;refine WO.w gN rfl (Z5 Zkg ZdZ lk lk rfl ZB2 ZzZ) ?_;refine WO.w gN rfl (Xq ZAE ZdZ (Zq fh rfl) ZCi (j:=0) rfl rfl (ws:= [.int .i64 Jz.at_,.int .i64 Jz.name,.int .i64 Jz.out,.int .i64 Jz.held]) rfl) ?_;refine r1 ?_;rintro _ ZOq ⟨ZQT,ZMF,rfl,hS⟩;refine r2 ?_;rintro ZOp hS;refine r3 ?_;refine WC.Yk mixed Kq0 ?_;refine JP ?_;refine r1 ?_;refine WX.gv (Zi.no rfl rfl rfl (ZO rfl (ZL rfl (Zf rfl fh)))) rfl (fun hg=>(YP ZaS (Zg (Xi (ZL rfl fh) rfl hg) (Zg (Xi fh rfl hg) Zx)) rfl (cs':= [.int .i64 Jz.at_,.int .i64 Jz.name]) rfl)) ?_ rfl;obtain⟨Zrx,ZEU,hL⟩:=Y7 hL;refine WX.gv (Zi.no rfl rfl rfl (ZM rfl fh)) rfl (fun hg=>(Jw (kv:=Xa) (vv:= (Value.int .i64)) (k:= (ZV.mk Jz.at_ Jz.name)) (z:=0) Zab KX XF (Xi (ZO rfl (Zf rfl fh)) rfl hg) (Xi fh rfl hg) (hS.get k2).at_ (ZEU hg) (w:= .int .i64 Zrx) rfl)) ?_ rfl;refine r16 ?_;obtain⟨Ztr,ZzY,hL⟩:=Y7 hL;obtain⟨ZQS,ZNw,_,hQ⟩:=Src.atG (fun hg=>(hS.QH k1)) ZzY;have ZB1:=fun hg=>(hQ hg).1
        have ZCh:=fun hg=>(hQ hg).2.1
        have ZJ4:=fun hg=>(hQ hg).2.2
        refine WX.gv (Zi.ZhS rfl rfl rfl (ZO rfl (Zf rfl fh))) rfl (fun hg=>(Z5 Zkg ZdZ (Xi (ZL rfl fh) rfl hg) (Xi fh rfl hg) rfl (ZB1 hg) (ZzY hg))) ?_ rfl;refine r1 ?_;refine WX.gv (Zi.ZhS rfl rfl rfl (ZO rfl (ZL rfl (Zf rfl fh)))) rfl (fun hg=>(ZU Xu (Xi fh rfl hg) (ZCh hg) (j:=0) rfl (v:= .int .i64 Ztr.at_) rfl)) ?_ rfl;refine r6 ?_;refine r1 ?_;obtain⟨Zw1,ZzX,hL⟩:=Y7 hL;obtain⟨ZQQ,ZNu,_,hQ⟩:=Src.atG (fun hg=>(hS.QH k1)) ZzX;have ZB0:=fun hg=>(hQ hg).1
        have ZCg:=fun hg=>(hQ hg).2.1
        have ZJ3:=fun hg=>(hQ hg).2.2
        refine WX.gv (Zi.no2 rfl rfl rfl (ZO rfl (Zf rfl fh))) rfl (fun hg=>(Z5 Zkg ZdZ (Xi (ZL rfl fh) rfl hg) (Xi fh rfl hg) rfl (ZB0 hg) (ZzX hg))) ?_ rfl;refine r1 ?_;refine WX.gv (Zi.no2 rfl rfl rfl (ZO rfl (ZL rfl (Zf rfl fh)))) rfl (fun hg=>(ZU Xu (Xi fh rfl hg) (ZCg hg) (j:=0) rfl (v:= .int .i64 Zw1.at_) rfl)) ?_ rfl;refine r6 ?_;refine r1 ?_;obtain⟨ZAT,ZzW,hL⟩:=Y7 hL;obtain⟨ZQP,ZNt,_,hQ⟩:=Src.atG (fun hg=>(hS.QH k1)) ZzW;have ZBZ:=fun hg=>(hQ hg).1
        have ZCf:=fun hg=>(hQ hg).2.1
        have ZJ2:=fun hg=>(hQ hg).2.2
        refine WX.gv (Zi.ZhS rfl rfl rfl (ZO rfl (Zf rfl fh))) rfl (fun hg=>(Z5 Zkg ZdZ (Xi (ZL rfl fh) rfl hg) (Xi fh rfl hg) rfl (ZBZ hg) (ZzW hg))) ?_ rfl;refine r1 ?_;refine WX.gv (Zi.ZhS rfl rfl rfl (ZO rfl (ZL rfl (Zf rfl fh)))) rfl (fun hg=>(ZU Xu (Xi fh rfl hg) (ZCf hg) (j:=1) rfl (v:= .int .i64 ZAT.name) rfl)) ?_ rfl;refine r1 ?_;refine WX.gv (Zi.no2 rfl rfl rfl (ZM rfl (ZM rfl (ZL rfl (Zf rfl fh))))) rfl (fun hg=>(Qi (Xi (ZM rfl (Zf rfl fh)) rfl hg) (Ze0 fh hg) lk)) ?_ rfl;refine WX.gv (Zi.ZhS rfl rfl rfl (ZM rfl (ZM rfl (ZM rfl (ZO rfl (ZL rfl fh)))))) rfl (fun hg=>(Zwa (Xi (ZM rfl (ZM rfl (ZO rfl fh))) rfl hg) lk (Ze0 fh hg))) ?_ rfl;refine WX.gv (Zi.no rfl rfl rfl (ZM rfl (ZM rfl (ZM rfl (ZM rfl (ZL rfl fh)))))) rfl (fun hg=>(Qi (Xi (ZM rfl (ZM rfl (ZM rfl (ZO rfl (ZL rfl (Zf rfl fh)))))) rfl hg) (Ze0 fh hg) lk)) ?_ rfl;refine r3 ?_;refine cn hL ?_ ?_
        ·intro hc hL;refine r8 ?_;refine r3 ?_;exact rt hL hT hS
        ·intro hc hL;refine r6 ?_;refine r1 ?_;exact Yy.Yt (ZuF _ _ hL ⟨_,_,rfl,hS.only (.c k1 (.c k1 .n)),YR⟩)
       ·intro hc hL;refine JP ?_;obtain⟨ZDZ,ZET,hL⟩:=Y7 hL;refine WO.gcp (Zi.yes rfl rfl rfl fh) rfl (fun hg=>(Xj.fn ZFX Zl)) (fun hg=>ZCV (ZET hg)) ?_;refine r4 ?_;refine r1 ?_;exact rt hL hT hS
      ·intro ZFi ZOo ZMw Zag ZGi hS;subst ZFi;replace hL:=Zri hL;have e302:=Zag.at (t:=8) rfl (ZO rfl e195);have e303:=Zag.at (t:=10) rfl (ZO rfl ZC7);have e304:=Zag.at (t:=11) rfl (ZO rfl e197);have e305:=Zag.at (t:=12) rfl (ZO rfl ZC6);have e306:=Zag.at (t:=102) rfl (ZO rfl e199);have e307:=Zag.at (t:=103) rfl (ZO rfl ZC5);have e308:=Zag.at (t:=104) rfl (ZO rfl ZC4);have e309:=Zag.at (t:=105) rfl (ZO rfl ZC3);have e310:=Zag.at (t:=165) rfl (ZO rfl e203);have e311:=Zag.at (t:=166) rfl (ZO rfl e204);have e312:=Zag.at (t:=19) rfl (ZO rfl ZC2);have e313:=Zag.at (t:=167) rfl (ZL rfl (Zf rfl fh));have e314:=Zag.at (t:=168) rfl (ZL rfl fh);have e315:=Zag.at (t:=181) rfl (Zf rfl fh);have e316:=Zag.at (t:=182) rfl fh;refine r2 ?_;have hr:=Oi0 hL;subst hr;exact ZR.Jh rfl (ZB (Zq ZGi rfl) Zm) ⟨_,⟨rfl,rfl⟩,hT ▸ hS.only .n⟩
     ·intro ZFh ZOn ZMv ZdL ZGh hS;subst ZFh;replace hL:=Zri hL;have ZPM:=ZdL.at (t:=8) rfl (ZO rfl e86);have e323:=ZdL.at (t:=10) rfl (ZO rfl e87);have ZPL:=ZdL.at (t:=11) rfl (ZO rfl e88);have ZPK:=ZdL.at (t:=12) rfl (ZO rfl e89);have ZPJ:=ZdL.at (t:=102) rfl (ZO rfl e90);have ZPI:=ZdL.at (t:=103) rfl (ZO rfl e91);have e328:=ZdL.at (t:=104) rfl (ZO rfl e93);have e329:=ZdL.at (t:=105) rfl (ZL rfl (Zf rfl fh));have e330:=ZdL.at (t:=165) rfl (Zf rfl fh);have e331:=ZdL.at (t:=166) rfl fh;refine r2 ?_;have hr:=Oi0 hL;subst hr;exact ZR.Jh rfl (ZB (Zq ZGh rfl) Zm) ⟨_,⟨rfl,rfl⟩,hT ▸ hS.only .n⟩
theorem ZCY {F:Nat} {h:H} {p0:Int} {p1:(List Za8)} {Y3:Option Addr} {Y2:Nat} {r:Bool} (UB:Sl ZtU h.size h Y3 Y2 p1) (hL:ZsA F p0 p1=some r):Pure XX 11 #[.int .u8 p0,.slice Y3 p1.length Y2] h (.bool r):=
 WR.QV rfl (ZCX (Nat.le_refl _) UB hL)
end Go.Proofs.Ytekpjgmhkkjhgaa
end
end
section
namespace Go.Proofs.Ytekpjgmhkkjhgaa
open Go.Lf
end Go.Proofs.Ytekpjgmhkkjhgaa
end
section
set_option maxRecDepth 20000
noncomputable section
namespace Go.Proofs.Ytekpjgmhkkjhgaa
open Go.Yw Go.Lf
end Go.Proofs.Ytekpjgmhkkjhgaa
end
end
section
end
section
namespace Go.Proofs.Ytekpjgmhkkjhgaa
abbrev CV:=Int ->Option Zb
def Yz (cv:CV) (m:Int) (o:Option Zb):CV:=fun a=>if a=m then o else cv a
def XP:Option Zb ->Int | some c=>c.out | none=>0
def Ue:Option Zb ->Nat | some c=>if c.root=true then 1 else 0 | none=>0
def JW (a:Int):Option Zb ->Int | some c=>if c.from_=a then c.has else 0 | none=>0
def Ju (a:Int) (x:Zd):Int:=if(x.kind=1∧x.via=a)∨(x.kind=2∧x.Zv=a) then x.w else 0
def Yu (a:Int) (x:Zd):Int:=if x.kind=3∧x.Zv=a then 16 else 0
def YD (f:Zd ->Int):List Zd ->Int | []=>0 | x::l=>f x + YD f l
def U3 (f:Nat ->Int):Nat ->Int | 0=>0 | k + 1=>U3 f k + f k
def J9:List Zd ->Nat | []=>0 | x::l=>(if x.kind=3 then 1 else 0) + J9 l
def QE (M:Nat) (cv:CV) (ns:List Zd) (a:Int):Int:=U3 (fun m=>JW a (cv m)) M + YD (Ju a) ns
def JX (cv:CV) (ns:List Zd) (a:Int):Int:=XP (cv a) + YD (Yu a) ns
theorem Xy (f:Zd ->Int) (l r:List Zd):YD f (l ++ r)=YD f l + YD f r:=by
 induction l with
 | nil=>simp [YD]
 | cons x l ih=>simp only [List.cons_append,YD,ih];omega
theorem Zbp (l r:List Zd):J9 (l ++ r)=J9 l + J9 r:=by
 induction l with
 | nil=>simp [J9]
 | cons x l ih=>simp only [List.cons_append,J9,ih];omega
theorem Qs (f:Zd ->Int) (x:Zd):YD f [x]=f x:=by simp [YD]
theorem Ze6 (x:Zd):J9 [x]=if x.kind=3 then 1 else 0:=by simp [J9]
theorem Kc {f:Zd ->Int} {l:List Zd} (h:∀ x ∈ l,0 <=f x):0 <=YD f l:=by
 induction l with
 | nil=>simp [YD]
 | cons x l ih=>
   have:=h x (by simp);have:=ih fun y hy=>h y (by simp [hy])
   simp only [YD];omega
theorem Zxb {f:Zd ->Int} {l:List Zd} (h:∀ x ∈ l,0 <=f x) {x:Zd} (hx:x ∈ l):f x <=YD f l:=by
 induction l with
 | nil=>simp at hx
 | cons y l ih=>
   have h1:=h y (by simp);have h2:=Kc fun z hz=>h z (List.mem_cons_of_mem _ hz)
   simp only [YD];rcases List.mem_cons.1 hx with rfl | hx
   ·omega
   ·have:=ih (fun z hz=>h z (List.mem_cons_of_mem _ hz)) hx;omega
theorem Zfr {f:Zd ->Int} {l r:List Zd} (h:l.Perm r):YD f l=YD f r:=by
 induction h with
 | nil=>rfl
 | cons x _ ih=>simp only [YD,ih]
 | swap x y l=>simp only [YD];omega
 | trans _ _ i1 i2=>exact i1.trans i2
theorem ZsJ {l r:List Zd} (h:l.Perm r):J9 l=J9 r:=by
 induction h with
 | nil=>rfl
 | cons x _ ih=>simp only [J9,ih]
 | swap x y l=>simp only [J9];omega
 | trans _ _ i1 i2=>exact i1.trans i2
theorem ZaB {f:Nat ->Int} {M:Nat} (h:∀ m,m < M ->0 <=f m):0 <=U3 f M:=by
 induction M with
 | zero=>simp [U3]
 | succ M ih=>
   have:=h M (by omega);have:=ih fun m hm=>h m (by omega)
   simp only [U3];omega
theorem Zxa {f:Nat ->Int} {M:Nat} (h:∀ m,m < M ->0 <=f m) {m:Nat} (hm:m < M):f m <=U3 f M:=by
 induction M with
 | zero=>omega
 | succ M ih=>
   have h1:=h M (by omega);have h2:=ZaB fun m (hm:m < M)=>h m (by omega)
   simp only [U3];by_cases e:m=M
   ·subst e;omega
   ·have:=ih (fun m hm=>h m (by omega)) (by omega);omega
theorem ZhX {f g:Nat ->Int} {M:Nat} (h:∀ m,m < M ->f m=g m):U3 f M=U3 g M:=by
 induction M with
 | zero=>rfl
 | succ M ih=>simp only [U3];rw [ih fun m hm=>h m (by omega),h M (by omega)]
theorem Zty {f g:Nat ->Int} {M k:Nat} (hk:k < M) (h:∀ m,m < M ->m ≠ k ->f m=g m):U3 f M=U3 g M - g k + f k:=by
 induction M with
 | zero=>omega
 | succ M ih=>
   simp only [U3];by_cases e:k=M
   ·subst e;rw [ZhX fun m hm=>h m (by omega) (by omega)];omega
   ·rw [ih (by omega) (fun m hm hn=>h m (by omega) hn),h M (by omega) (fun z=>e z.symm)];omega
theorem ZeQ {M:Nat} {cv:CV} {ns:List Zd} {m:Int} (h0:0 <=m) (h1:m < M) (o:Option Zb) (a:Int):
 QE M (Yz cv m o) ns a=QE M cv ns a - JW a (cv m) + JW a o:=by
 unfold QE;have hm:((m.toNat:Nat):Int)=m:=by omega
 rw [Zty (k:=m.toNat) (g:=fun k=>JW a (cv k)) (by omega) (fun k hk hne=>by
  unfold Yz;rw [if_neg (by omega)])]
 have:Yz cv m o ((m.toNat:Nat):Int)=o:=by unfold Yz;rw [if_pos hm]
 rw [this,hm];omega
theorem WG (cv:CV) (m:Int) (o:Option Zb):Yz cv m o m=o:=by simp [Yz]
theorem ZaF {cv:CV} {m a:Int} {o:Option Zb} (h:a ≠ m):Yz cv m o a=cv a:=by simp [Yz,h]
structure Nm (M:Nat) (n:Int) (cv:CV) (ns:List Zd) (h:Int):Prop where
 rng:∀ m c,cv m=some c ->0 <=m∧m < M
 nam:∀ m c,cv m=some c ->c.name=n
 cel:∀ m c,cv m=some c ->(c.root=false∧0 <=c.from_∧c.from_ < M∧c.from_ ≠ m∧1 <=c.has)∨(c.from_=-1∧c.has=0)
 nts:∀ x ∈ ns,(0 <=x.Zv∧x.Zv < M)∧x.name=n∧1 <=x.w∧((x.kind=1∧0 <=x.via∧x.via < M)∨(x.kind=2∧x.via=0)∨(x.kind=3∧x.via=0∧x.w=16∧x.Zv=h))
 hM:0 <=h∧h < M
 rt:∀ m c,cv m=some c ->c.root=true ->m=h
 one:Ue (cv h) + J9 ns=1
 acc:∀ a:Int,0 <=a ->a < M ->JX cv ns a=QE M cv ns a
 lead:∃ dep:Int ->Nat,∀ m c,cv m=some c ->m ≠ h ->0 <=c.from_∧(cv c.from_ ≠ none∨c.from_=h)∧dep c.from_ < dep m
theorem Nm.perm {M:Nat} {n:Int} {cv:CV} {ns ns':List Zd} {h:Int} (H:Nm M n cv ns h) (p:ns.Perm ns'):Nm M n cv ns' h:=
 {H with
  nts:=fun x hx=>H.nts x (p.mem_iff.2 hx)
  one:=by rw [← ZsJ p];exact H.one
  acc:=fun a h0 h1=>by
   have:=H.acc a h0 h1;unfold JX QE at this ⊢;rw [← Zfr p,← Zfr p];exact this}
section
variable {M:Nat} {n:Int} {cv:CV} {ns:List Zd} {h:Int}
theorem Nm.ZcJ (H:Nm M n cv ns h) {a:Int} (h0:0 <=a) (m:Int):0 <=JW a (cv m):=by
 unfold JW;cases e:cv m with
 | none=>simp
 | some c=>
   dsimp only;split
   ·rcases H.cel m c e with⟨_,_,_,_,h5⟩ | ⟨h1,h2⟩ <;> omega
   ·omega
theorem Nm.ZbM (H:Nm M n cv ns h) (a:Int):∀ x ∈ ns,0 <=Ju a x:=by
 intro x hx;have:= (H.nts x hx).2.2.1;unfold Ju;split <;> omega
theorem KD (a:Int) (x:Zd):0 <=Yu a x:=by unfold Yu;split <;> omega
theorem Nm.Zdi (H:Nm M n cv ns h) {m:Int} {c:Zb} (e:cv m=some c) (hf:0 <=c.from_):1 <=c.has∧c.has <=QE M cv ns c.from_:=by
 have hr:=H.rng m c e;have hh:1 <=c.has:=by rcases H.cel m c e with⟨_,_,_,_,h5⟩ | ⟨h1,h2⟩ <;> omega
 refine⟨hh,?_⟩;have h1:=Zxa (f:=fun k=>JW c.from_ (cv k)) (M:=M) (fun k _=>H.ZcJ hf k) (m:=m.toNat) (by omega);have h2:=Kc (H.ZbM c.from_);have hm:((m.toNat:Nat):Int)=m:=by omega
 have h3:JW c.from_ (cv ((m.toNat:Nat):Int))=c.has:=by rw [hm,e];simp [JW]
 rw [h3] at h1;unfold QE;omega
theorem Nm.UR (H:Nm M n cv ns h) {a:Int} (h0:0 <=a) {x:Zd} (hx:x ∈ ns):Ju a x <=QE M cv ns a:=by
 have h1:=ZaB (f:=fun k=>JW a (cv k)) (M:=M) (fun k _=>H.ZcJ h0 k);have h2:=Zxb (H.ZbM a) hx;unfold QE;omega
theorem ZhZ (H:∀ x ∈ ns,x.kind=3 ->x.Zv=h) (a:Int):YD (Yu a) ns=if a=h then 16 * (J9 ns:Int) else 0:=by
 induction ns with
 | nil=>simp [YD,J9]
 | cons x l ih=>
   have i:=ih fun y hy=>H y (by simp [hy])
   have hx:=H x (by simp);simp only [YD,J9];rw [i];unfold Yu;by_cases h3:x.kind=3
   ·have:=hx h3;by_cases ha:a=h
    ·rw [if_pos ⟨h3,by omega⟩,if_pos ha,if_pos ha,if_pos h3];omega
    ·rw [if_neg (by omega),if_neg ha,if_neg ha];omega
   ·rw [if_neg (fun z=>h3 z.1),if_neg h3];split <;> omega
theorem Nm.giv (H:Nm M n cv ns h) (a:Int):JX cv ns a=XP (cv a) + if a=h then 16 * (J9 ns:Int) else 0:=by
 unfold JX;rw [ZhZ (h:=h) (fun x hx h3=>by rcases(H.nts x hx).2.2.2 with z | z | z <;> omega)]
theorem Nm.Znp (H:Nm M n cv ns h) {a:Int} (h0:0 <=a):0 <=QE M cv ns a:=by
 have h1:=ZaB (f:=fun k=>JW a (cv k)) (M:=M) (fun k _=>H.ZcJ h0 k);have h2:=Kc (H.ZbM a);unfold QE;omega
theorem Nm.there (H:Nm M n cv ns h) {a:Int} (h0:0 <=a) (h1:a < M) (hp:1 <=QE M cv ns a):cv a ≠ none∨a=h:=by
 have:=H.acc a h0 h1;rw [H.giv] at this;by_cases e:a=h
 ·exact .inr e
 ·rw [if_neg e] at this;refine .inl fun z=>?_
  rw [z] at this;simp [XP] at this;omega
theorem Nm.Zle (H:Nm M n cv ns h) {m:Int} {c:Zb} (e:cv m=some c):-16 <=c.out∧(m ≠ h ->0 <=c.out)∧(J9 ns=0 ->0 <=c.out):=by
 have hr:=H.rng m c e;have h1:=H.acc m hr.1 hr.2;have h2:=H.Znp hr.1;have h3:=H.one;rw [H.giv,e] at h1;simp only [XP] at h1;refine⟨?_,fun hm=>?_,fun hc=>?_⟩
 ·split at h1 <;> omega
 ·rw [if_neg hm] at h1;omega
 ·rw [hc] at h1;split at h1 <;> omega
theorem Nm.ZDb (H:Nm M n cv ns h):J9 ns <=1:=by have:=H.one;omega
theorem Nm.WN (H:Nm M n cv ns h) {m:Int} {c:Zb} (h0:m=h∨∃ d,cv m=some d∧d.from_=c.from_):
 ∃ dep:Int ->Nat,∀ a d,Yz cv m (some c) a=some d ->a ≠ h ->0 <=d.from_∧(Yz cv m (some c) d.from_ ≠ none∨d.from_=h)∧dep d.from_ < dep a:=by
 obtain⟨dep,L⟩:=H.lead;refine⟨dep,fun a d hd ha=>?_⟩
 have key:∀ f:Int,(cv f ≠ none∨f=h) ->(Yz cv m (some c) f ≠ none∨f=h):=by
  intro f hf;unfold Yz;split
  ·exact .inl (by simp)
  ·exact hf
 unfold Yz at hd;split at hd
 ·rename_i e;cases hd;rcases h0 with z | ⟨d,z1,z2⟩
  ·exact absurd (e.trans z) ha
  ·obtain⟨l1,l2,l3⟩:=L m d z1 (by rw [← e];exact ha);rw [z2] at l1 l2 l3;exact⟨l1,key _ l2,by rw [e];exact l3⟩
 ·obtain⟨l1,l2,l3⟩:=L a d hd ha;exact⟨l1,key _ l2,l3⟩
end
end Go.Proofs.Ytekpjgmhkkjhgaa
end
section
namespace Go.Proofs.Ytekpjgmhkkjhgaa
def Zv5 (n:Int):Zb:= ⟨n,false,-1,0,0,false⟩
section
variable {M:Nat} {n:Int} {cv:CV} {ns ns':List Zd} {h m:Int}
def Zb9 (n:Int) (cv:CV) (m:Int):Zb:= (cv m).getD (Zv5 n)
structure Lk (M:Nat) (n:Int) (cv:CV) (h m:Int) (c:Zb):Prop where
 nam:c.name=n
 cel:(c.root=false∧0 <=c.from_∧c.from_ < M∧c.from_ ≠ m∧1 <=c.has)∨(c.from_=-1∧c.has=0)
 out:XP (cv m)=c.out
 has:∀ a,0 <=a ->JW a (cv m)=JW a (some c)
 root:Ue (cv m)=Ue (some c)
 rt:c.root=true ->m=h
 or:cv m=some c∨(cv m=none∧c.root=false∧c.from_=-1∧c.out=0∧c.use=false)
theorem Nm.look (H:Nm M n cv ns h) (m:Int):Lk M n cv h m (Zb9 n cv m):=by
 unfold Zb9;cases e:cv m with
 | none=>
   refine⟨rfl,.inr ⟨rfl,rfl⟩,by rw [e];rfl,fun a ha=>?_,by rw [e];rfl,(fun z=>Bool.noConfusion z),.inr ⟨e,rfl,rfl,rfl,rfl⟩⟩;rw [e];show 0=if(-1:Int)=a then(0:Int) else 0
   split <;> rfl
 | some c=>
   refine⟨H.nam m c e,H.cel m c e,by rw [e];rfl,fun a ha=>by rw [e];rfl,by rw [e];rfl,H.rt m c e,.inl e⟩
theorem Nm.put (H:Nm M n cv ns h) (h0:0 <=m) (h1:m < M) {c:Zb} (hn:c.name=n)
 (hc:(c.root=false∧0 <=c.from_∧c.from_ < M∧c.from_ ≠ m∧1 <=c.has)∨(c.from_=-1∧c.has=0))
 (hns:∀ x ∈ ns',(0 <=x.Zv∧x.Zv < M)∧x.name=n∧1 <=x.w∧((x.kind=1∧0 <=x.via∧x.via < M)∨(x.kind=2∧x.via=0)∨(x.kind=3∧x.via=0∧x.w=16∧x.Zv=h)))
 (hrt:c.root=true ->m=h) (hone:(if h=m then Ue (some c) else Ue (cv h)) + J9 ns'=1)
 (hacc:∀ a:Int,0 <=a ->a < M ->(if a=m then c.out else XP (cv a)) + YD (Yu a) ns' + JW a (cv m) + YD (Ju a) ns=XP (cv a) + YD (Yu a) ns + JW a (some c) + YD (Ju a) ns')
 (hl:∃ dep:Int ->Nat,∀ a d,Yz cv m (some c) a=some d ->a ≠ h ->0 <=d.from_∧(Yz cv m (some c) d.from_ ≠ none∨d.from_=h)∧dep d.from_ < dep a):
 Nm M n (Yz cv m (some c)) ns' h where
 rng a d hd:=by
  unfold Yz at hd;split at hd
  ·subst_vars;omega
  ·exact H.rng a d hd
 nam a d hd:=by
  unfold Yz at hd;split at hd
  ·cases hd;exact hn
  ·exact H.nam a d hd
 cel a d hd:=by
  unfold Yz at hd;split at hd
  ·subst_vars;cases hd;exact hc
  ·exact H.cel a d hd
 nts:=hns
 hM:=H.hM
 rt a d hd hr:=by
  unfold Yz at hd;split at hd
  ·subst_vars;cases hd;exact hrt hr
  ·exact H.rt a d hd hr
 one:=by
  rw [← hone];unfold Yz;split <;> rfl
 acc a a0 a1:=by
  have q:=H.acc a a0 a1;have p:=hacc a a0 a1;rw [ZeQ h0 h1];unfold JX at q ⊢;unfold QE at q ⊢;have:XP (Yz cv m (some c) a)=if a=m then c.out else XP (cv a):=by unfold Yz;split <;> rfl
  rw [this];omega
 lead:=hl
theorem Nm.tail (H:∀ x ∈ ns,(0 <=x.Zv∧x.Zv < M)∧x.name=n∧1 <=x.w∧((x.kind=1∧0 <=x.via∧x.via < M)∨(x.kind=2∧x.via=0)∨(x.kind=3∧x.via=0∧x.w=16∧x.Zv=h))) (hs:∀ x ∈ ns',x ∈ ns):∀ x ∈ ns',(0 <=x.Zv∧x.Zv < M)∧x.name=n∧1 <=x.w∧((x.kind=1∧0 <=x.via∧x.via < M)∨(x.kind=2∧x.via=0)∨(x.kind=3∧x.via=0∧x.w=16∧x.Zv=h)):=fun x hx=>H x (hs x hx)
theorem WW {x:Zd} (k:x.kind=1) (a:Int):Yu a x=0:=by unfold Yu;rw [if_neg (by omega)]
theorem Zdb {x:Zd} (k:x.kind=2) (a:Int):Yu a x=0:=by unfold Yu;rw [if_neg (by omega)]
theorem Zhu {x:Zd} (k:x.kind=3) (a:Int):Yu a x=if x.Zv=a then 16 else 0:=by
 unfold Yu;by_cases e:x.Zv=a
 ·rw [if_pos ⟨k,e⟩,if_pos e]
 ·rw [if_neg (fun z=>e z.2),if_neg e]
theorem WV {x:Zd} (k:x.kind=1) (a:Int):Ju a x=if x.via=a then x.w else 0:=by
 unfold Ju;by_cases e:x.via=a
 ·rw [if_pos (.inl ⟨k,e⟩),if_pos e]
 ·rw [if_neg (by rintro(z | z) <;> omega),if_neg e]
theorem ZbN {x:Zd} (k:x.kind=2) (a:Int):Ju a x=if x.Zv=a then x.w else 0:=by
 unfold Ju;by_cases e:x.Zv=a
 ·rw [if_pos (.inr ⟨k,e⟩),if_pos e]
 ·rw [if_neg (by rintro(z | z) <;> omega),if_neg e]
theorem Zqx {x:Zd} (k:x.kind=3) (a:Int):Ju a x=0:=by
 unfold Ju;rw [if_neg (by rintro(z | z) <;> omega)]
theorem cnt1 {x:Zd} {l:List Zd} (k:¬ x.kind=3):J9 (x::l)=J9 l:=by simp only [J9,if_neg k];omega
theorem Qp (a:Int) (c:Zb):JW a (some c)=if c.from_=a then c.has else 0:=rfl
theorem Nm.use (H:Nm M n cv ns h) {c:Zb} (e:cv m=some c) (u:Bool):Nm M n (Yz cv m (some ⟨c.name,c.root,c.from_,c.has,c.out,u⟩)) ns h:=by
 have hr:=H.rng m c e;refine H.put hr.1 hr.2 (by exact H.nam m c e) (by exact H.cel m c e) H.nts (by exact H.rt m c e) ?_ (fun a a0 a1=>?_) (H.WN (.inr ⟨c,e,rfl⟩))
 ·rw [← H.one];by_cases z:h=m
  ·rw [if_pos z,z,e];rfl
  ·rw [if_neg z]
 ·rw [e];by_cases z:a=m
  ·rw [if_pos z,z,e];simp only [XP,Qp]
  ·rw [if_neg z];simp only [Qp]
theorem Nm.Zvk {x:Zd} (H:Nm M n cv (x::ns) h) (k:x.kind=1) {c:Zb} (L:Lk M n cv h x.Zv c) (hr:c.root=false) (hf:c.from_=-1) (hv:x.via ≠ x.Zv) (u:Bool):
 Nm M n (Yz cv x.Zv (some ⟨c.name,c.root,x.via,x.w,c.out,u⟩)) ns h:=by
 have hx:=H.nts x (by simp);have hvr:0 <=x.via∧x.via < M:=by rcases hx.2.2.2 with z | z | z <;> omega
 have hh:=H.UR hvr.1 (x:=x) (by simp);rw [WV k,if_pos rfl] at hh;have ht:=H.there hvr.1 hvr.2 (by omega);refine H.put hx.1.1 hx.1.2 L.nam (.inl ⟨hr,hvr.1,hvr.2,hv,hx.2.2.1⟩) (Nm.tail H.nts (by simp_all)) (by rw [hr];simp) ?_ (fun a a0 a1=>?_) ?_
 ·have o:=H.one;rw [cnt1 (by omega)] at o;have:Ue (some (Zb.mk c.name c.root x.via x.w c.out u))=Ue (some c):=rfl;rw [this];by_cases z:h=x.Zv
  ·rw [if_pos z,← L.root,← z];omega
  ·rw [if_neg z];omega
 ·rw [L.has a a0];simp only [YD,WW k,WV k,Qp,hf];rw [if_neg (by omega:¬ (-1:Int)=a)];by_cases z:a=x.Zv
  ·rw [if_pos z,z,L.out];omega
  ·rw [if_neg z];omega
 ·by_cases z:x.Zv=h
  ·exact H.WN (.inl z)
  ·obtain⟨dep,l⟩:=H.lead;rcases L.or with e | ⟨e,_⟩
   ·obtain⟨l1,_⟩:=l _ c e z;omega
   refine⟨fun a=>if a=x.Zv then dep x.via + 1 else dep a,fun a d hd ha=>?_⟩;dsimp only;unfold Yz at hd;split at hd
   ·rename_i ea;cases hd;refine⟨hvr.1,?_,?_⟩
    ·show Yz cv x.Zv _ x.via ≠ none∨x.via=h;rw [ZaF hv];exact ht
    ·show(if x.via=x.Zv then _ else dep x.via) < _;rw [if_pos ea,if_neg hv];omega
   ·rename_i ea;obtain⟨l1,l2,l3⟩:=l a d hd ha
    have hne:d.from_ ≠ x.Zv:=by
     intro w;rw [w] at l2;rcases l2 with q | q
     ·exact q e
     ·exact z q
    rw [if_neg hne,if_neg ea,ZaF hne];exact⟨l1,l2,l3⟩
theorem Nm.Zsh {x:Zd} (H:Nm M n cv (x::ns) h) (k:x.kind=1) {c:Zb} (L:Lk M n cv h x.Zv c) (hf:0 <=c.from_) (hv:c.from_=x.via) (u:Bool):
 Nm M n (Yz cv x.Zv (some ⟨c.name,c.root,c.from_,c.has + x.w,c.out,u⟩)) ns h:=by
 have hx:=H.nts x (by simp);have hce:cv x.Zv=some c:=by rcases L.or with e | ⟨_,_,e,_⟩;exact e;omega
 have Zsd:c.root=false∧0 <=c.from_∧c.from_ < M∧c.from_ ≠ x.Zv∧1 <=c.has:=by rcases L.cel with z | z;exact z;omega
 refine H.put hx.1.1 hx.1.2 L.nam (.inl ⟨Zsd.1,Zsd.2.1,Zsd.2.2.1,Zsd.2.2.2.1,?_⟩) (Nm.tail H.nts (by simp_all)) L.rt ?_ (fun a a0 a1=>?_) (H.WN (.inr ⟨c,hce,rfl⟩))
 ·show 1 <=c.has + x.w;omega
 ·have o:=H.one;rw [cnt1 (by omega)] at o;have:Ue (some (Zb.mk c.name c.root c.from_ (c.has + x.w) c.out u))=Ue (some c):=rfl;rw [this];by_cases z:h=x.Zv
  ·rw [if_pos z,← L.root,← z];omega
  ·rw [if_neg z];omega
 ·rw [L.has a a0];simp only [YD,WW k,WV k,Qp,hv];by_cases z:a=x.Zv
  ·rw [if_pos z,z,L.out];split <;> omega
  ·rw [if_neg z];split <;> omega
theorem Nm.Zsi {x y:Zd} (H:Nm M n cv (x::ns) h) (k:x.kind=1) (hy:y= ⟨2,x.via,n,0,x.w⟩):Nm M n cv (ns ++ [y]) h:=by
 have hx:=H.nts x (by simp);have hvr:0 <=x.via∧x.via < M:=by rcases hx.2.2.2 with z | z | z <;> omega
 refine{H with nts:=fun z hz=>?_,one:= ?_,acc:=fun a a0 a1=>?_}
 ·rcases List.mem_append.1 hz with q | q
  ·exact H.nts z (by simp [q])
  ·rw [List.mem_singleton.1 q,hy];exact⟨hvr,rfl,hx.2.2.1,.inr (.inl ⟨rfl,rfl⟩)⟩
 ·have o:=H.one;rw [cnt1 (by omega)] at o;rw [Zbp,Ze6,hy];simp;omega
 ·have q:=H.acc a a0 a1;unfold JX QE at q ⊢;simp only [YD,WW k,WV k] at q;have h2:y.kind=2:=by rw [hy]
  rw [Xy,Xy,Qs,Qs,Zdb h2,ZbN h2,hy];dsimp only;omega
theorem Nm.Zky {x:Zd} (H:Nm M n cv (x::ns) h) (k:(x.kind=1∧x.via=x.Zv)∨x.kind=2) {c:Zb} (L:Lk M n cv h x.Zv c) (u:Bool):
 Nm M n (Yz cv x.Zv (some ⟨c.name,c.root,c.from_,c.has,c.out - x.w,u⟩)) ns h:=by
 have hx:=H.nts x (by simp);have hh:=H.UR hx.1.1 (x:=x) (by simp)
 have hH:∀ a,Ju a x=if x.Zv=a then x.w else 0:=by
  intro a;rcases k with⟨k,v⟩ | k
  ·rw [WV k,v]
  ·exact ZbN k a
 have hG:∀ a,Yu a x=0:=by
  intro a;rcases k with⟨k,v⟩ | k
  ·exact WW k a
  ·exact Zdb k a
 have hk3:¬ x.kind=3:=by omega
 rw [hH,if_pos rfl] at hh;have ht:=H.there hx.1.1 hx.1.2 (by omega);refine H.put hx.1.1 hx.1.2 L.nam (by exact L.cel) (Nm.tail H.nts (by simp_all)) (by exact L.rt) ?_ (fun a a0 a1=>?_) ?_
 ·have o:=H.one;rw [cnt1 hk3] at o;have:Ue (some (Zb.mk c.name c.root c.from_ c.has (c.out - x.w) u))=Ue (some c):=rfl;rw [this];by_cases z:h=x.Zv
  ·rw [if_pos z,← L.root,← z];omega
  ·rw [if_neg z];omega
 ·rw [L.has a a0];simp only [YD,hG,hH,Qp];by_cases z:a=x.Zv
  ·rw [if_pos z,z,L.out,if_pos rfl];omega
  ·rw [if_neg z,if_neg (by omega:¬ x.Zv=a)];omega
 ·refine H.WN ?_;rcases L.or with e | ⟨e,_⟩
  ·exact .inr ⟨c,e,rfl⟩
  ·rcases ht with z | z
   ·exact absurd e z
   ·exact .inl z
theorem Nm.home {x:Zd} (H:Nm M n cv (x::ns) h) (k:x.kind=3) {c:Zb} (L:Lk M n cv h x.Zv c) (u:Bool) {ys:List Zd}
 (hy:ys=if 0 <=c.from_ then [⟨2,c.from_,n,0,c.has⟩] else []):
 Nm M n (Yz cv x.Zv (some ⟨c.name,true,-1,0,c.out + 16,u⟩)) (ns ++ ys) h:=by
 have hx:=H.nts x (by simp);have hh:x.Zv=h:=by rcases hx.2.2.2 with z | z | z <;> omega
 have o:=H.one;simp only [J9,k,if_true] at o;refine H.put hx.1.1 hx.1.2 L.nam (.inr ⟨rfl,rfl⟩) ?_ (fun _=>hh) ?_ (fun a a0 a1=>?_) (H.WN (.inl hh))
 ·intro z hz;rcases List.mem_append.1 hz with q | q
  ·exact H.nts z (by simp [q])
  ·rw [hy] at q;split at q
   ·rename_i hf;rw [List.mem_singleton.1 q];rcases L.cel with w | w
    ·exact⟨⟨w.2.1,w.2.2.1⟩,rfl,w.2.2.2.2,.inr (.inl ⟨rfl,rfl⟩)⟩
    ·omega
   ·simp at q
 ·rw [if_pos hh.symm,Zbp,show Ue (some (Zb.mk c.name true (-1) 0 (c.out + 16) u))=1 from rfl];have:J9 ys=0:=by rw [hy];split <;> simp [J9]
  omega
 ·rw [L.has a a0];have hG:YD (Yu a) ys=0:=by rw [hy];split <;> simp [YD,Yu]
  have hH:YD (Ju a) ys=if c.from_=a then c.has else 0:=by
   rw [hy];by_cases hf:0 <=c.from_
   ·rw [if_pos hf,Qs,ZbN rfl]
   ·rw [if_neg hf,if_neg (by omega)];rfl
  rw [Xy,Xy,hG,hH];simp only [YD,Zhu k,Zqx k,Qp];rw [if_neg (by omega:¬ (-1:Int)=a)];by_cases z:a=x.Zv
  ·rw [if_pos z,z,L.out,if_pos rfl];omega
  ·rw [if_neg z,if_neg (by omega:¬ x.Zv=a)];omega
theorem Nm.gone (H:Nm M n cv ns h) {c:Zb} (e:cv m=some c) (ho:c.out=0) (hr:c.root=false) {ys:List Zd}
 (hy:ys=if 0 <=c.from_ then [⟨2,c.from_,n,0,c.has⟩] else []):Nm M n (Yz cv m none) (ns ++ ys) h:=by
 have hm:=H.rng m c e;have Zsd:=H.cel m c e;have hG:∀ a,YD (Yu a) ys=0:=by intro a;rw [hy];split <;> simp [YD,Yu]
 have hH:∀ a,0 <=a ->YD (Ju a) ys=JW a (some c):=by
  intro a a0;rw [hy,Qp];by_cases hf:0 <=c.from_
  ·rw [if_pos hf,Qs,ZbN rfl]
  ·rw [if_neg hf,if_neg (by omega)];rfl
 refine⟨?_,?_,?_,?_,H.hM,?_,?_,?_,?_⟩
 ·intro a d hd;unfold Yz at hd;split at hd
  ·cases hd
  ·exact H.rng a d hd
 ·intro a d hd;unfold Yz at hd;split at hd
  ·cases hd
  ·exact H.nam a d hd
 ·intro a d hd;unfold Yz at hd;split at hd
  ·cases hd
  ·exact H.cel a d hd
 ·intro z hz;rcases List.mem_append.1 hz with q | q
  ·exact H.nts z q
  ·rw [hy] at q;split at q
   ·rename_i hf;rw [List.mem_singleton.1 q];rcases Zsd with w | w
    ·exact⟨⟨w.2.1,w.2.2.1⟩,rfl,w.2.2.2.2,.inr (.inl ⟨rfl,rfl⟩)⟩
    ·omega
   ·simp at q
 ·intro a d hd;unfold Yz at hd;split at hd
  ·cases hd
  ·exact H.rt a d hd
 ·have o:=H.one;have:J9 ys=0:=by rw [hy];split <;> simp [J9]
  rw [Zbp,this]
  have:Ue (Yz cv m none h)=Ue (cv h):=by
   unfold Yz;split
   ·rename_i z;rw [z,e];simp [Ue,hr]
   ·rfl
  rw [this];omega
 ·intro a a0 a1;have q:=H.acc a a0 a1;rw [ZeQ hm.1 hm.2,e];unfold JX QE at *;rw [Xy,Xy,hG,hH a a0]
  have:XP (Yz cv m none a)=XP (cv a):=by
   unfold Yz;split
   ·rename_i z;rw [z,e];simp [XP,ho]
   ·rfl
  rw [this];simp only [Qp] at *;have:JW a none=0:=rfl;omega
 ·obtain⟨dep,l⟩:=H.lead;refine⟨dep,fun a d hd ha=>?_⟩;unfold Yz at hd;split at hd
  ·cases hd
  ·obtain⟨l1,l2,l3⟩:=l a d hd ha;refine⟨l1,?_,l3⟩;by_cases z:d.from_=m
   ·by_cases zh:m=h
    ·exact .inr (z.trans zh)
    ·exfalso;have q:=H.Zdi hd l1;rw [z] at q;have p:=H.acc m hm.1 hm.2;rw [H.giv,if_neg zh,e] at p;simp only [XP] at p;omega
   ·rw [ZaF z];exact l2
theorem Nm.last (H:Nm M n cv ns h) {c:Zb} (e:cv m=some c) (ho:c.out=0) (hr:c.root=true):(∀ a,a ≠ m ->cv a=none)∧ns= []:=by
 have hmh:=H.rt m c e hr;subst hmh;have o:=H.one;rw [e] at o;have h0:J9 ns=0:=by simp only [Ue,hr,if_true] at o;omega
 have hz:QE M cv ns m=0:=by
  rw [← H.acc m H.hM.1 H.hM.2,H.giv,if_pos rfl,e,h0];simp [XP,ho]
 obtain⟨dep,l⟩:=H.lead
 have key:∀ k a,dep a <=k ->a ≠ m ->cv a=none:=by
  intro k
  induction k with
  | zero=>
    intro a hk ha;cases ec:cv a with
    | none=>rfl
    | some d=>have:=l a d ec ha;omega
  | succ k ih=>
    intro a hk ha;cases ec:cv a with
    | none=>rfl
    | some d=>
      exfalso;obtain⟨l1,l2,l3⟩:=l a d ec ha;by_cases z:d.from_=m
      ·have:=H.Zdi ec l1;rw [z] at this;omega
      ·rcases l2 with l2 | l2
       ·exact l2 (ih _ (by omega) z)
       ·exact z l2
 have k1:∀ a,a ≠ m ->cv a=none:=fun a ha=>key (dep a) a (Nat.le_refl _) ha
 refine⟨k1,?_⟩;cases ns with
 | nil=>rfl
 | cons x l'=>
   exfalso;have hx:=H.nts x (by simp)
   have hk3:¬ x.kind=3:=by
    intro z;simp only [J9,z,if_true] at h0;omega
   have hbad:∀ a:Int,0 <=a ->a < M ->1 <=QE M cv (x::l') a ->False:=by
    intro a a0 a1 hp;by_cases z:a=m
    ·rw [z] at hp;omega
    ·have:=H.acc a a0 a1;rw [H.giv,if_neg z,k1 a z] at this;simp only [XP] at this;omega
   rcases hx.2.2.2 with z | z | z
   ·have:=H.UR z.2.1 (x:=x) (by simp);rw [WV z.1,if_pos rfl] at this;exact hbad _ z.2.1 z.2.2 (by omega)
   ·have:=H.UR hx.1.1 (x:=x) (by simp);rw [ZbN z.1,if_pos rfl] at this;exact hbad _ hx.1.1 hx.1.2 (by omega)
   ·exact hk3 z.1
theorem Nm.Zxh (H:Nm M n cv ns h) {c:Zb} (e:cv m=some c) (hf:0 <=c.from_) {t w:Int} (ht:0 <=t∧t < M) (h1:1 <=w) (h2:w < c.has) {y:Zd} (hy:y= ⟨1,t,n,c.from_,w⟩):
 Nm M n (Yz cv m (some ⟨c.name,c.root,c.from_,c.has - w,c.out,c.use⟩)) (ns ++ [y]) h:=by
 have hm:=H.rng m c e;have hc:c.root=false∧0 <=c.from_∧c.from_ < M∧c.from_ ≠ m∧1 <=c.has:=by rcases H.cel m c e with z | z;exact z;omega
 have ky:y.kind=1:=by rw [hy]
 refine H.put hm.1 hm.2 (by exact H.nam m c e) (.inl ⟨hc.1,hc.2.1,hc.2.2.1,hc.2.2.2.1,by show 1 <=c.has - w;omega⟩) ?_ (by exact H.rt m c e) ?_ (fun a a0 a1=>?_) (H.WN (.inr ⟨c,e,rfl⟩))
 ·intro z hz;rcases List.mem_append.1 hz with q | q
  ·exact H.nts z q
  ·rw [List.mem_singleton.1 q,hy];exact⟨ht,rfl,h1,.inl ⟨rfl,hc.2.1,hc.2.2.1⟩⟩
 ·have o:=H.one;rw [Zbp,Ze6,ky,← o];by_cases z:h=m
  ·rw [if_pos z,z,e];rfl
  ·rw [if_neg z];simp
 ·rw [e,Xy,Xy,Qs,Qs,WW ky,WV ky,hy];simp only [Qp];by_cases z:a=m
  ·rw [if_pos z,z,e];simp only [XP];split <;> omega
  ·rw [if_neg z];split <;> omega
theorem Nm.Zxj (H:Nm M n cv ns h) {c:Zb} (e:cv m=some c) {t w:Int} (ht:0 <=t∧t < M) (h1:1 <=w) {y:Zd} (hy:y= ⟨1,t,n,m,w⟩):
 Nm M n (Yz cv m (some ⟨c.name,c.root,c.from_,c.has,c.out + w,c.use⟩)) (ns ++ [y]) h:=by
 have hm:=H.rng m c e;have ky:y.kind=1:=by rw [hy]
 refine H.put hm.1 hm.2 (by exact H.nam m c e) (by exact H.cel m c e) ?_ (by exact H.rt m c e) ?_ (fun a a0 a1=>?_) (H.WN (.inr ⟨c,e,rfl⟩))
 ·intro z hz;rcases List.mem_append.1 hz with q | q
  ·exact H.nts z q
  ·rw [List.mem_singleton.1 q,hy];exact⟨ht,rfl,h1,.inl ⟨rfl,hm⟩⟩
 ·have o:=H.one;rw [Zbp,Ze6,ky,← o];by_cases z:h=m
  ·rw [if_pos z,z,e];rfl
  ·rw [if_neg z];simp
 ·rw [e,Xy,Xy,Qs,Qs,WW ky,WV ky,hy];simp only [Qp];by_cases z:a=m
  ·rw [if_pos z,z,e,if_pos rfl];simp only [XP];omega
  ·rw [if_neg z,if_neg (by omega:¬ m=a)];omega
theorem Nm.go (H:Nm M n cv ns h) {c:Zb} (e:cv m=some c) (hr:c.root=true) {t:Int} (ht:0 <=t∧t < M) (hne:t ≠ m) {y:Zd} (hy:y= ⟨3,t,n,0,16⟩):
 Nm M n (Yz cv m (some ⟨c.name,false,t,16,c.out,c.use⟩)) (ns ++ [y]) t:=by
 have hm:=H.rng m c e;have hmh:=H.rt m c e hr;subst hmh;have hc:c.from_=-1∧c.has=0:=by rcases H.cel m c e with z | z;exact absurd hr (by simp [z.1]);exact z
 have ky:y.kind=3:=by rw [hy]
 have o:=H.one;rw [e] at o;have h0:J9 ns=0:=by simp only [Ue,hr,if_true] at o;omega
 have no3:∀ x ∈ ns,¬ x.kind=3:=by
  intro x hx z
  have:∀ l:List Zd,x ∈ l ->1 <=J9 l:=by
   intro l
   induction l with
   | nil=>simp
   | cons w l ih=>
     intro q;simp only [J9];rcases List.mem_cons.1 q with rfl | q
     ·rw [if_pos z];omega
     ·have:=ih q;omega
  have:=this ns hx;omega
 refine⟨?_,?_,?_,?_,ht,?_,?_,?_,?_⟩
 ·intro a d hd;unfold Yz at hd;split at hd
  ·subst_vars;exact hm
  ·exact H.rng a d hd
 ·intro a d hd;unfold Yz at hd;split at hd
  ·cases hd;exact H.nam m c e
  ·exact H.nam a d hd
 ·intro a d hd;unfold Yz at hd;split at hd
  ·subst_vars;cases hd;exact .inl ⟨rfl,ht.1,ht.2,hne,by show(1:Int) <=16;omega⟩
  ·exact H.cel a d hd
 ·intro z hz;rcases List.mem_append.1 hz with q | q
  ·have:=H.nts z q;refine⟨this.1,this.2.1,this.2.2.1,?_⟩;rcases this.2.2.2 with w | w | w
   ·exact .inl w
   ·exact .inr (.inl w)
   ·exact absurd w.1 (no3 z q)
  ·rw [List.mem_singleton.1 q,hy];exact⟨ht,rfl,by show(1:Int) <=16;omega,.inr (.inr ⟨rfl,rfl,rfl,rfl⟩)⟩
 ·intro a d hd hrd;unfold Yz at hd;split at hd
  ·cases hd;cases hrd
  ·rename_i z;exact absurd (H.rt a d hd hrd) z
 ·rw [Zbp,Ze6,if_pos ky,ZaF hne,h0]
  have:Ue (cv t)=0:=by
   cases ec:cv t with
   | none=>rfl
   | some d=>
     show(if d.root=true then 1 else 0)=0;by_cases z:d.root=true
     ·exact absurd (H.rt t d ec z) hne
     ·rw [if_neg z]
  omega
 ·intro a a0 a1;have q:=H.acc a a0 a1;rw [ZeQ hm.1 hm.2,e];unfold JX QE at *;rw [Xy,Xy,Qs,Qs,Zhu ky,Zqx ky,hy];simp only [Qp,hc.1,hc.2] at *
  have:XP (Yz cv m (some ⟨c.name,false,t,16,c.out,c.use⟩) a)=XP (cv a):=by
   unfold Yz;split
   ·rename_i z;rw [z,e];rfl
   ·rfl
  rw [this];rw [if_neg (by omega:¬ (-1:Int)=a)];omega
 ·obtain⟨dep,l⟩:=H.lead;refine⟨fun a=>if a=t then 0 else dep a + 1,fun a d hd ha=>?_⟩;dsimp only;rw [if_neg ha];unfold Yz at hd;split at hd
  ·cases hd;dsimp only;rw [if_pos rfl];exact⟨ht.1,.inr rfl,by omega⟩
  ·rename_i z;obtain⟨l1,l2,l3⟩:=l a d hd z;refine⟨l1,?_,?_⟩
   ·by_cases q:d.from_=m
    ·rw [q,WG];exact .inl (by simp)
    ·rw [ZaF q];rcases l2 with l2 | l2
     ·exact .inl l2
     ·exact absurd l2 q
   ·split <;> omega
theorem Nm.fresh (hm:0 <=m∧m < M):Nm M n (Yz (fun _=>none) m (some ⟨n,true,-1,0,0,true⟩)) [] m where
 rng a d hd:=by
  unfold Yz at hd;split at hd
  ·subst_vars;exact hm
  ·cases hd
 nam a d hd:=by
  unfold Yz at hd;split at hd
  ·cases hd;rfl
  ·cases hd
 cel a d hd:=by
  unfold Yz at hd;split at hd
  ·cases hd;exact .inr ⟨rfl,rfl⟩
  ·cases hd
 nts x hx:=by simp at hx
 hM:=hm
 rt a d hd _:=by
  unfold Yz at hd;split at hd
  ·assumption
  ·cases hd
 one:=by rw [WG];rfl
 acc a a0 a1:=by
  rw [ZeQ hm.1 hm.2];unfold JX QE
  have:U3 (fun m=>JW a none) M=0:=by
   have:∀ k,U3 (fun m=>JW a none) k=0:=by
    intro k;induction k with
    | zero=>rfl
    | succ k ih=>simp only [U3,ih];rfl
   exact this M
  rw [this]
  have:XP (Yz (fun _=>none) m (some ⟨n,true,-1,0,0,true⟩) a)=0:=by
   unfold Yz;split <;> rfl
  rw [this,Qp];simp [YD,JW]
 lead:= ⟨fun _=>0,fun a d hd ha=>by
  unfold Yz at hd;split at hd
  ·rename_i z;exact absurd z ha
  ·cases hd⟩
end
end Go.Proofs.Ytekpjgmhkkjhgaa
end
section
namespace Go.Lf
theorem ZhU (n:Int):ZF n=Int.bmod n 18446744073709551616:=by
 unfold ZF Go.IntKind.wrap;have e1:(2 ^ IntKind.i64.bits:Int)=18446744073709551616:=by decide
 have e2:(2 ^ (IntKind.i64.bits - 1):Int)=9223372036854775808:=by decide
 have e3:IntKind.i64.signed=true:=rfl;rw [e1,e2,e3];dsimp only;unfold Int.bmod;have:=Int.emod_nonneg n (b:=18446744073709551616) (by decide);have:=Int.emod_lt_of_pos n (b:=18446744073709551616) (by decide);simp;split <;> split <;> omega
theorem Zhq (a b:Int):ZF (ZF a + b)=ZF (a + b):=by
 rw [ZhU,ZhU,ZhU];simp
theorem Xk {k:Nat} (h:k < 4611686018427387904):ZF ((k:Int) + 1)= ((k + 1:Nat):Int):=by
 rw [YX (by omega) (by omega)];rfl
theorem ZhT {k:Nat} (h:k < 4611686018427387904) (h0:0 < k):ZF ((k:Int) - 1)= ((k - 1:Nat):Int):=by
 rw [YX (by omega) (by omega)];omega
theorem XJ {α:Type} {Uj:Nat} {xs ys:List α} (h:xs.length + ys.length <=1000000) (hb:Uj <=1000):app Uj xs ys=some (xs ++ ys):=
 Zwg (Nat.le_trans (Nat.mul_le_mul (show 2 * (xs.length + ys.length) + 1000 <=2001000 by omega) hb) (by decide))
def iter {α β σ:Type} (g:Nat ->α ->σ ->(σ ->Option β) ->Option β) (d:σ ->Option β):Nat ->List α ->σ ->Option β
 | _,[],s=>d s
 | i,x::l,s=>g i x s (fun s'=>iter g d (i + 1) l s')
theorem Y1 {α β σ γ:Type} (l:List α) (mk:Int ->σ ->γ) (body:γ ->(γ ->Option β) ->Option β) (g:Nat ->α ->σ ->(σ ->Option β) ->Option β) (d:σ ->Option β)
 (hl:l.length < 4611686018427387904)
 (hb:∀ (k:Nat) x s next,l[k]? =some x ->((k:Int) < (l.length:Int)) ->body (mk k s) next=g k x s (fun s'=>next (mk (ZF (k + 1)) s')))
 (he:∀ s next,body (mk l.length s) next=d s) {F:Nat} (hF:l.length < F) (s:σ):loop F body (mk 0 s)=iter g d 0 l s:=by
 have key:∀ (m k F:Nat) s,k + m=l.length ->m < F ->loop F body (mk k s)=iter g d k (l.drop k) s:=by
  intro m
  induction m with
  | zero=>
    intro k F s hk hF;obtain⟨F,rfl⟩:=Ne0 (n:=F) (by omega);have:k=l.length:=by omega
    subst this;rw [Yl,he,List.drop_length];rfl
  | succ m ih=>
    intro k F s hk hF;obtain⟨F,rfl⟩:=Ne0 (n:=F) (by omega);have hlt:k < l.length:=by omega
    rw [Yl,hb k l[k] s _ (by simp [hlt]) (by omega),List.drop_eq_getElem_cons hlt,iter];congr 1;funext s';rw [Xk (by omega)];exact ih (k + 1) F s' (by omega) (by omega)
 have:=key l.length 0 F s (by omega) (by omega)
 simpa using this
theorem Zaa {β σ γ:Type} (n:Nat) (mk:Int ->σ ->γ) (body:γ ->(γ ->Option β) ->Option β) (g:Nat ->σ ->(σ ->Option β) ->Option β) (d:σ ->Option β)
 (hl:n < 4611686018427387904)
 (hb:∀ (k:Nat) s next,k < n ->body (mk k s) next=g k s (fun s'=>next (mk (ZF (k + 1)) s')))
 (he:∀ s next,body (mk n s) next=d s) {F:Nat} (hF:n < F) (s:σ):loop F body (mk 0 s)=iter (fun _ k s next=>g k s next) d 0 (List.range n) s:=by
 refine Y1 (List.range n) mk body (fun _ k s next=>g k s next) d (by simpa using hl) (fun k x s next hx hk=>?_) (by simpa using he) (by simpa using hF) s;rw [List.length_range] at hk
 have:x=k:=by
  rw [List.getElem?_range (by omega)] at hx
  simpa using hx.symm
 subst this;exact hb _ s next (by omega)
def anyI {α:Type} (c:Nat ->α ->Bool):Nat ->List α ->Bool
 | _,[]=>false
 | i,x::l=>c i x || anyI c (i + 1) l
theorem ZcY {α:Type} {c:Nat ->α ->Bool}:∀ {l:List α} {i:Nat},anyI c i l=true↔∃ j x,l[j]? =some x∧c (i + j) x=true
 | [],i=>by simp [anyI]
 | y::l,i=>by
   unfold anyI;rw [Bool.or_eq_true,ZcY (l:=l)]
   constructor
   ·rintro(h | ⟨j,x,h1,h2⟩)
    ·exact⟨0,y,rfl,h⟩
    ·exact⟨j + 1,x,h1,by rw [← h2];congr 1;omega⟩
   ·rintro⟨j,x,h1,h2⟩;cases j with
    | zero=>simp at h1;subst h1;exact .inl h2
    | succ j=>exact .inr ⟨j,x,by simpa using h1,by rw [← h2];congr 1;omega⟩
theorem Zfd {α:Type} (c:α ->Bool) (l:List α) (i:Nat):anyI (fun _ x=>c x) i l=l.any c:=by
 induction l generalizing i with
 | nil=>rfl
 | cons x l ih=>unfold anyI;rw [ih];rfl
theorem Zac {α β σ:Type} {g:Nat ->α ->σ ->(σ ->Option β) ->Option β} {d:σ ->Option β} {r:Option β} (c:Nat ->α ->Bool) {l:List α} {i:Nat} {s:σ}
 (hg:∀ k x next,l[k]? =some x ->g (i + k) x s next=bif c (i + k) x then r else next s):iter g d i l s=bif anyI c i l then r else d s:=by
 induction l generalizing i with
 | nil=>rfl
 | cons x l ih=>
   unfold iter anyI;have:=hg 0 x (fun s'=>iter g d (i + 1) l s') rfl;rw [Nat.add_zero] at this;rw [this];cases c i x
   ·rw [Cq0,Bool.false_or];exact ih (fun k y next hy=>by rw [show i + 1 + k=i + (k + 1) by omega];exact hg (k + 1) y next (by simpa using hy))
   ·rfl
def foldI {α σ:Type} (f:Nat ->α ->σ ->σ):Nat ->List α ->σ ->σ
 | _,[],s=>s
 | i,x::l,s=>foldI f (i + 1) l (f i x s)
theorem Qo {α β σ:Type} {g:Nat ->α ->σ ->(σ ->Option β) ->Option β} {d:σ ->Option β} (f:Nat ->α ->σ ->σ) (I:Nat ->σ ->Prop) {l:List α} {i:Nat} {s:σ} (h0:I i s)
 (hg:∀ k x s next,l[k]? =some x ->I (i + k) s ->g (i + k) x s next=next (f (i + k) x s)∧I (i + k + 1) (f (i + k) x s)):iter g d i l s=d (foldI f i l s)∧I (i + l.length) (foldI f i l s):=by
 induction l generalizing i s with
 | nil=>exact⟨rfl,h0⟩
 | cons x l ih=>
   unfold iter foldI;have:=hg 0 x s (fun s'=>iter g d (i + 1) l s') rfl h0;rw [Nat.add_zero] at this;rw [this.1]
   have:=ih this.2 (fun k y s next hy hI=>by
    rw [show i + 1 + k=i + (k + 1) by omega] at hI ⊢;exact hg (k + 1) y s next (by simpa using hy) hI)
   rwa [show i + 1 + l.length=i + (x::l).length by simp;omega] at this
theorem Qv {α σ:Type} (f:α ->σ ->σ) (l:List α) (i:Nat) (s:σ):foldI (fun _=>f) i l s=l.foldl (fun s x=>f x s) s:=by
 induction l generalizing i s with
 | nil=>rfl
 | cons x l ih=>exact ih _ _
theorem ZeU {σ τ:Type} (V:σ ->τ) (f:Nat ->σ ->σ) (h:τ ->τ) {n N:Nat} (hn:n < N) (h1:∀ i s,i < N ->i ≠ n ->V (f i s)=V s) (h2:∀ s,V (f n s)=h (V s)) (s:σ):
 V ((List.range N).foldl (fun s i=>f i s) s)=h (V s):=by
 have key:∀ M,M <=N ->V ((List.range M).foldl (fun s i=>f i s) s)=if n < M then h (V s) else V s:=by
  intro M
  induction M with
  | zero=>intro _;simp
  | succ M ih=>
    intro hM;rw [List.range_succ,List.foldl_append];simp only [List.foldl_cons,List.foldl_nil];by_cases e:M=n
    ·subst e;rw [h2,ih (by omega),if_neg (by omega),if_pos (by omega)]
    ·rw [h1 _ _ (by omega) e,ih (by omega)];by_cases hm:n < M
     ·rw [if_pos hm,if_pos (by omega)]
     ·rw [if_neg hm,if_neg (by omega)]
 rw [key N (Nat.le_refl _),if_pos hn]
end Go.Lf
end
section
end
section
namespace Go.Proofs.Ytekpjgmhkkjhgaa
open Go.Lf
structure Small (w:Za):Prop where
 cells:w.cells.length < 1000
 rows:∀ r ∈ w.cells,r.length < 1000
 notes:w.notes.length < 1000
 freed:w.freed.length < 1000
def rowOf (w:Za) (m:Nat):List Zb:=w.cells[m]?.getD []
def cellOf (w:Za) (m:Nat) (n:Int):Option Zb:= (rowOf w m).find? (fun c=>c.name==n)
theorem Small.row {w:Za} (s:Small w) (m:Nat):(rowOf w m).length < 1000:=by
 unfold rowOf;cases e:w.cells[m]? with
 | none=>simp
 | some r=>exact s.rows r (List.mem_of_getElem? e)
theorem Qz {w:Za} {m:Nat} (h:m < w.cells.length):w.cells[m]? =some (rowOf w m):=by
 unfold rowOf;simp [h]
theorem ZfQ {α β σ:Type} {g:Nat ->α ->σ ->(σ ->Option β) ->Option β} {d:σ ->Option β} (r:Nat ->Option β) (c:α ->Bool) {l:List α} {i:Nat} {s:σ}
 (hg:∀ k x next,l[k]? =some x ->g (i + k) x s next=bif c x then r (i + k) else next s):
 (∃ j x,l.find? c=some x∧l[j]? =some x∧iter g d i l s=r (i + j))∨(l.find? c=none∧iter g d i l s=d s):=by
 induction l generalizing i with
 | nil=>exact .inr ⟨rfl,rfl⟩
 | cons x l ih=>
   unfold iter;have:=hg 0 x (fun s'=>iter g d (i + 1) l s') rfl;rw [Nat.add_zero] at this;rw [this];cases hc:c x
   ·rw [Cq0,List.find?_cons,hc];rcases ih (i:=i + 1) (fun k y next hy=>by rw [show i + 1 + k=i + (k + 1) by omega];exact hg (k + 1) y next (by simpa using hy)) with⟨j,y,h1,h2,h3⟩ | ⟨h1,h2⟩
    ·exact .inl ⟨j + 1,y,h1,by simpa using h2,by rw [h3];congr 1;omega⟩
    ·exact .inr ⟨h1,h2⟩
   ·exact .inl ⟨0,x,by rw [List.find?_cons,hc],rfl,rfl⟩
def ZcG (w:Za) (m n:Int):Nat:=w.notes.countP fun x=>(x.kind==3 && x.Zv==m) && x.name==n
theorem Zja {α:Type} (c:α ->Bool) (l:List α) (a:Nat) (h:a + l.length < 4611686018427387904):
 l.foldl (fun(s:Int) x=>bif c x then ZF (s + 1) else s) (a:Int)= ((a + l.countP c:Nat):Int):=by
 induction l generalizing a with
 | nil=>rfl
 | cons x l ih=>
   rw [List.foldl_cons,List.countP_cons];simp only [List.length_cons] at h;cases hc:c x
   ·simp only [Cq0];rw [ih a (by omega)];simp
   ·simp only [Cq1,if_true];rw [Xk (by omega),ih (a + 1) (by omega)];congr 1;omega
def Zqv (w:Za) (m:Nat) (n:Int):Int:=match cellOf w m n with | some c=>c.out | none=>0
def Ya (w:Za) (m:Nat) (n:Int):Int:=ZF (16 * (ZcG w m n:Int) + Zqv w m n)
def Znq (w:Za) (m n:Int) (k:Nat) (s:Int):Int:=match cellOf w k n with | some c=>bif c.from_==m then ZF (s + c.has) else s | none=>s
def ZgZ (m n:Int) (x:Zd) (s:Int):Int:=bif(x.name==n) && (((x.kind==1) && (x.via==m)) || ((x.kind==2) && (x.Zv==m))) then ZF (s + x.w) else s
def Xv (w:Za) (m n:Int):Int:=w.notes.foldl (fun s x=>ZgZ m n x s) ((List.range w.cells.length).foldl (fun s k=>Znq w m n k s) 0)
theorem ZkC {α:Type} (g:Bool) (a d:α):gd g (some a) d=some (bif g then a else d):=by cases g <;> rfl
theorem contains_eq {F:Nat} (hF:1000 <=F) {l:List Int} (hl:l.length < 1000) (x:Int):ZlS F l x=some (l.any fun y=>y==x):=by
 unfold ZlS Zrb
 have e:=Y1 l (fun v (_:Unit)=>v) (Zdn l x) (fun k y s next=>bif x==y then some (k:Int) else next ()) (fun _=>some (-1)) (by omega) (fun k y s next hy hk=>by
  simp only [Zdn,Z0,hy,hk,decide_true,Bq0,Cq1]) (fun s next=>by simp [Zdn]) (by omega:l.length < F) ()
 rw [show loop F (Zdn l x) 0=_ from e];rcases ZfQ (l:=l) (i:=0) (s:= ()) (d:=fun _=>some (-1)) (g:=fun k (y:Int) (_:Unit) next=>bif x==y then some (k:Int) else next ()) (fun k=>some (k:Int)) (fun c=>x==c) (fun _ _ _ _=>rfl) with⟨j,y,h1,h2,h3⟩ | ⟨h1,h2⟩
 ·rw [h3]
  have:(l.any fun y=>y==x)=true:=by
   rw [List.any_eq_true];have:=List.find?_some h1;exact⟨y,List.mem_of_find?_eq_some h1,by simpa using (by simpa using this:x=y).symm⟩
  rw [this];simp
 ·rw [h2]
  have:(l.any fun y=>y==x)=false:=by
   rw [List.any_eq_false];rw [List.find?_eq_none] at h1;intro y hy;have:=h1 y hy;simp at this ⊢;exact fun e=>this e.symm
  rw [this];rfl
def Yn (w:Za) (n:Int):Bool:= (decide (0 <=n) && decide (n < w.names)) && !(w.freed.any fun y=>y==n)
def K9 (w:Za) (m:Int):Bool:=decide (0 <=m) && decide (m < (w.cells.length:Int))
def Wx (w:Za) (m:Int) (c:Zb):Bool:=
 (Yn w c.name && (decide (-16 <=c.out) && decide (c.out <=1000000)) && (c.use || !(c.out==0))) &&
 (bif c.root || c.from_==-1 then c.from_==-1 && c.has==0 else K9 w c.from_ && !(c.from_==m) && (decide (1 <=c.has) && decide (c.has <=1000000)))
def Wj (w:Za) (x:Zd):Bool:=
 (K9 w x.Zv && Yn w x.name && (decide (1 <=x.w) && decide (x.w <=1000000))) &&
 (bif x.kind==1 then K9 w x.via else bif x.kind==2 then x.via==0 else x.kind==3 && x.via==0 && x.w==16)
section
theorem ZfJ {F:Nat} (hF:1000 <=F) {w:Za} (sm:Small w) (st:Store) (e1:st.names=w.names) (e2:st.freed=w.freed) (n:Int):ZnF F st n=some (Yn w n):=by
 unfold ZnF Yn;rw [e1,e2,contains_eq hF sm.freed];simp only [ZkC,Bq0];simp only [ge_iff_le];cases decide (0 <=n) <;> cases decide (n < w.names) <;> cases (w.freed.any fun y=>y==n) <;> rfl
theorem ZfO {w:Za} (sm:Small w) (st:Store) (e1:st.machines= (w.cells.length:Int)) (n:Int):Zi2 st n=some (K9 w n):=by
 unfold Zi2 K9;rw [e1]
theorem ZsM {F:Nat} (hF:1000 <=F) {w:Za} (sm:Small w) (st:Store) (e0:st.machines= (w.cells.length:Int)) (e1:st.names=w.names) (e2:st.freed=w.freed) (m:Int) (c:Zb):ZnN F st m c=some (Wx w m c):=by
 unfold ZnN;rw [ZfJ hF sm st e1 e2,ZfO sm st e0];simp only [Bq0];unfold Wx;have a1:decide (c.out < -16)= !decide (-16 <=c.out):=by rw [← decide_not];exact decide_eq_decide.2 (by omega)
 have a2:decide (c.out > 1000000)= !decide (c.out <=1000000):=by rw [← decide_not];exact decide_eq_decide.2 (by omega)
 have a3:(c.from_ !=m)= !(c.from_==m):=rfl;rw [a1,a2,a3];simp only [ge_iff_le];generalize Yn w c.name=nm;generalize decide (-16 <=c.out)=oa;generalize decide (c.out <=1000000)=ob;generalize K9 w c.from_=fm;generalize decide (1 <=c.has)=ha;generalize decide (c.has <=1000000)=hb;generalize (c.out==0)=o0;generalize (c.from_==m)=f1;generalize (c.from_==-1)=f2;generalize (c.has==0)=hz;generalize c.use=us;generalize c.root=ro;cases nm <;> cases oa <;> cases ob <;> cases us <;> cases o0 <;> cases ro <;> cases f2 <;> cases fm <;> cases f1 <;> cases ha <;> cases hb <;> rfl
theorem ZrW {F:Nat} (hF:1000 <=F) {w:Za} (sm:Small w) (st:Store) (e0:st.machines= (w.cells.length:Int)) (e1:st.names=w.names) (e2:st.freed=w.freed) (x:Zd):ZnM F st x=some (Wj w x):=by
 unfold ZnM;rw [ZfJ hF sm st e1 e2,ZfO sm st e0,ZfO sm st e0];simp only [ZkC,Bq0];unfold Wj;have a1:decide (x.w < 1)= !decide (1 <=x.w):=by rw [← decide_not];exact decide_eq_decide.2 (by omega)
 have a2:decide (x.w > 1000000)= !decide (x.w <=1000000):=by rw [← decide_not];exact decide_eq_decide.2 (by omega)
 rw [a1,a2];generalize Yn w x.name=nm;generalize K9 w x.Zv=tm;generalize K9 w x.via=vm;generalize decide (1 <=x.w)=ha;generalize decide (x.w <=1000000)=hb;generalize (x.kind==1)=k1;generalize (x.kind==2)=k2;generalize (x.kind==3)=k3;generalize (x.via==0)=v0;generalize (x.w==16)=w16;cases nm <;> cases tm <;> cases vm <;> cases ha <;> cases hb <;> cases k1 <;> cases k2 <;> cases k3 <;> cases v0 <;> cases w16 <;> rfl
end
end Go.Proofs.Ytekpjgmhkkjhgaa
end
section
namespace Go.Proofs.Ytekpjgmhkkjhgaa
open Go.Lf
def QM {α:Type} [Inhabited α] (l:List α) (k:Nat):α:=l[k-1]?.getD default
theorem ZqV {α:Type} [Inhabited α] (g:Bool) {l:List α} {k:Nat} (hk:k < l.length) (hl:l.length < 4611686018427387904):
 gd (g && decide ((k:Int) > 0)) (Ye l (ZF ((k:Int) - 1))) default=some (bif g && decide ((k:Int) > 0) then QM l k else default):=by
 cases g
 ·rfl
 ·by_cases h:0 < k
  ·have:decide ((k:Int) > 0)=true:=by simp;omega
   rw [this,Bool.true_and,KH,ZhT (by omega) h,Z0,Cq1];unfold QM;have:k - 1 < l.length:=by omega
   simp [this]
  ·have:decide ((k:Int) > 0)=false:=by simp;omega
   rw [this];rfl
def Zak (w:Za) (k:Nat) (x:Int):Bool:= !(decide (0 <=x) && decide (x < w.names)) || (decide ((k:Int) > 0) && decide (x <=QM w.freed k))
def K3 (w:Za) (m:Nat) (row:List Zb) (k:Nat) (c:Zb):Bool:= !(Wx w m c) || (decide ((k:Int) > 0) && decide (c.name <= (QM row k).name))
def Zcl (w:Za):Bool:= (decide (1 <= (w.cells.length:Int)) && decide ((w.cells.length:Int) <=6)) && (decide (0 <=w.names) && decide (w.names <=12)) && (decide ((w.notes.length:Int) <=80) && decide ((w.freed.length:Int) <=w.names))
def ZdJ (w:Za):Bool:= !(anyI (fun m row=>anyI (K3 w m row) 0 row) 0 w.cells)
def K6 (w:Za):Bool:= !(w.notes.any fun x=>!(Wj w x))
section
theorem Zsp {F:Nat} (hF:1000 <=F) {w:Za} (sm:Small w) (st:Store) (e0:st.machines= (w.cells.length:Int)) (e1:st.names=w.names) (e2:st.freed=w.freed):Zvy F st w=some (ZdJ w && K6 w):=by
 have hc:=sm.cells;have hn:=sm.notes
 have l2:loop F (Zf0 F st w) 0=some (K6 w):=by
  refine(Y1 w.notes (fun v (_:Unit)=>v) (Zf0 F st w) (fun _ x s next=>bif !(Wj w x) then some false else next ()) (fun _=>some true) (by omega) (fun k y s next hy hk=>?_) (fun s next=>?_) (by omega) ()).trans ?_
  ·simp only [Zf0,Z0,hy,hk,decide_true,Cq1,Bq0,ZrW hF sm st e0 e1 e2]
  ·simp [Zf0]
  ·rw [Zac (r:=some false) (fun _ x=>!(Wj w x)) (fun _ _ _ _=>rfl),Zfd];unfold K6;cases w.notes.any fun x=>!(Wj w x) <;> rfl
 have l1:∀ (m:Nat) (row:List Zb) (next:Int ->Option Bool),row.length < 1000 ->loop F (Zf1 F st m next row) 0=bif anyI (K3 w m row) 0 row then some false else next (ZF ((m:Int) + 1)):=by
  intro m row next hr;refine(Y1 row (fun v (_:Unit)=>v) (Zf1 F st m next row) (fun k c s nx=>bif K3 w m row k c then some false else nx ()) (fun _=>next (ZF ((m:Int) + 1))) (by omega) (fun k y s nx hy hk=>?_) (fun s nx=>?_) (by omega) ()).trans ?_
  ·have hk':k < row.length:=by omega
   simp only [Zf1,Z0,hy,hk,decide_true,Cq1,Bq0,ZsM hF sm st e0 e1 e2,ZqV _ hk' (by omega),ZkC];unfold K3;cases Wx w m y <;> cases decide ((k:Int) > 0) <;> rfl
  ·simp [Zf1]
  ·rw [Zac (r:=some false) (K3 w m row) (fun k _ _ _=>by rw [Nat.zero_add])]
 unfold Zvy;refine(Y1 w.cells (fun v (_:Unit)=>v) (ZiN F st w) (fun m row s next=>bif anyI (K3 w m row) 0 row then some false else next ()) (fun _=>some (K6 w)) (by omega) (fun k y s next hy hk=>?_) (fun s next=>?_) (by omega) ()).trans ?_
 ·have hr:=sm.rows y (List.mem_of_getElem? hy);simp only [ZiN,Z0,hy,hk,decide_true,Cq1,Bq0];exact l1 k y next hr
 ·simp only [ZiN];rw [decide_eq_false (by omega),Cq0,l2]
 ·rw [Zac (r:=some false) (fun m row=>anyI (K3 w m row) 0 row) (fun k _ _ _=>by rw [Nat.zero_add])];unfold ZdJ;cases anyI (fun m (row:List Zb)=>anyI (K3 w m row) 0 row) 0 w.cells <;> rfl
end
end Go.Proofs.Ytekpjgmhkkjhgaa
end
section
namespace Go.Proofs.Ytekpjgmhkkjhgaa
open Go.Lf
structure Shp (w:Za):Prop where
 c1:1 <=w.cells.length
 c6:w.cells.length <=6
 n0:0 <=w.names
 n12:w.names <=12
 notes:w.notes.length <=80
 cell:∀ (m:Nat) (row:List Zb) (k:Nat) (c:Zb),w.cells[m]? =some row ->row[k]? =some c ->Wx w m c=true∧(0 < k ->(QM row k).name < c.name)
 note:∀ x ∈ w.notes,Wj w x=true
theorem rows_ok {w:Za} (h:ZdJ w=true) (m:Nat) (row:List Zb) (k:Nat) (c:Zb) (hm:w.cells[m]? =some row) (hk:row[k]? =some c):Wx w m c=true∧(0 < k ->(QM row k).name < c.name):=by
 unfold ZdJ at h;rw [Bool.not_eq_true',← Bool.not_eq_true] at h;have h1:¬ K3 w m row k c=true:=fun hb=>h (ZcY.2 ⟨m,row,hm,by rw [Nat.zero_add];exact ZcY.2 ⟨k,c,hk,by rw [Nat.zero_add];exact hb⟩⟩)
 unfold K3 at h1;rw [Bool.or_eq_true,Ba0,decide_eq_true_eq,decide_eq_true_eq,Bool.not_eq_true'] at h1;refine⟨?_,fun h0=>?_⟩
 ·cases hc:Wx w m c
  ·exact absurd (.inl hc) h1
  ·rfl
 ·by_cases hl:(QM row k).name < c.name
  ·exact hl
  ·exact absurd (.inr ⟨by omega,by omega⟩) h1
theorem asc {row:List Zb} (h:∀ k c,row[k]? =some c ->0 < k ->(QM row k).name < c.name):∀ (k j:Nat) (c d:Zb),j < k ->row[k]? =some c ->row[j]? =some d ->d.name < c.name:=by
 intro k
 induction k with
 | zero=>intro j c d h0;omega
 | succ k ih=>
   intro j c d hj hc hd;have hlt:k + 1 < row.length:= (Li0 hc).1;have hp:=h (k + 1) c hc (by omega)
   have e:row[k]? =some (QM row (k + 1)):=by
    unfold QM;have:k < row.length:=by omega
    simp [this]
   by_cases hjk:j=k
   ·subst hjk;rw [e] at hd;cases hd;exact hp
   ·have:=ih j _ d (by omega) e hd;omega
theorem ZtE {w:Za} (h1:Zcl w=true) (h2:ZdJ w=true) (h3:K6 w=true):Shp w:=by
 unfold Zcl at h1;simp only [Ba0,decide_eq_true_eq] at h1;obtain⟨⟨⟨b1,b2⟩,b3,b4⟩,b5,b6⟩:=h1;refine⟨by omega,by omega,b3,b4,by omega,rows_ok h2,fun x hx=>?_⟩;unfold K6 at h3;rw [Bool.not_eq_true',List.any_eq_false] at h3;have:=h3 x hx
 simpa using this
theorem ZrD {row:List Zb} (h:∀ k c,row[k]? =some c ->0 < k ->(QM row k).name < c.name) {k:Nat} {c:Zb} (hc:row[k]? =some c) (n:Int):
 (row.take (k + 1)).find? (fun x=>x.name==n)=if n=c.name then some c else(row.take k).find? (fun x=>x.name==n):=by
 have hlt:k < row.length:= (Li0 hc).1
 have e:row.take (k + 1)=row.take k ++ [c]:=by
  rw [List.take_add_one,hc];rfl
 rw [e,List.find?_append];by_cases hn:n=c.name
 ·subst hn;rw [if_pos rfl]
  have:(row.take k).find? (fun x=>x.name==c.name)=none:=by
   rw [List.find?_eq_none];intro x hx;obtain⟨j,hj⟩:=List.mem_iff_getElem?.1 hx;have hjk:j < k:=by have:= (Li0 hj).1;rw [List.length_take] at this;omega
   rw [List.getElem?_take_of_lt hjk] at hj;have:=asc h k j c x hjk hc hj;simp;omega
  rw [this];simp
 ·rw [if_neg hn];have: [c].find? (fun x=>x.name==n)=none:=by simp;exact fun e=>hn e.symm
  rw [this];cases (row.take k).find? (fun x=>x.name==n) <;> rfl
def MapOf (w:Za) (l:List (Ze×Zb)):Prop:=∀ a b:Int,YV l ⟨a,b⟩=if 0 <=a∧a < (w.cells.length:Int) then cellOf w a.toNat b else none
theorem Zlf {F:Nat} (hF:1000 <=F) {w:Za} (sm:Small w) (sh:Shp w):∃ cs,ZiP F w=some ⟨(w.cells.length:Int),w.names,cs,w.notes,w.freed⟩∧MapOf w cs:=by
 have hc:=sm.cells;have hn:=sm.notes;have hf:=sm.freed;unfold ZiP ZpB ZpA;rw [XJ (by simp only [List.length_nil];omega) (by decide),XJ (by simp only [List.length_nil];omega) (by decide)];simp only [Bq0,List.nil_append]
 let I:Nat ->List (Ze×Zb) ->Prop:=fun m l=>∀ a b:Int,YV l ⟨a,b⟩=if 0 <=a∧a < (m:Int) then cellOf w a.toNat b else none
 have inner:∀ (m:Nat) (row:List Zb) (next:Int×(List (Ze×Zb)) ->Option Store) (l:List (Ze×Zb)),w.cells[m]? =some row ->I m l ->∃ l',I (m + 1) l'∧loop F (Za3 m next row) (0,l)=next (ZF ((m:Int) + 1),l'):=by
  intro m row next l hm hI;have hr:=sm.rows row (List.mem_of_getElem? hm);have hro:rowOf w m=row:=by unfold rowOf;rw [hm];rfl
  have hasc:∀ k c,row[k]? =some c ->0 < k ->(QM row k).name < c.name:=fun k c hk=>(sh.cell m row k c hm hk).2
  let J:Nat ->List (Ze×Zb) ->Prop:=fun k l'=>∀ a b:Int,YV l' ⟨a,b⟩=if a= (m:Int) then(row.take k).find? (fun x=>x.name==b) else YV l ⟨a,b⟩
  have e:=Y1 row (fun v s=>(v,s)) (Za3 m next row) (fun _ c s nx=>nx (YL s (Ze.mk m c.name) c)) (fun s=>next (ZF ((m:Int) + 1),s)) (by omega) (fun k y s nx hy hk=>by
   simp only [Za3,Z0,hy,hk,decide_true,Cq1,Bq0]) (fun s nx=>by simp only [Za3];rw [decide_eq_false (by omega),Cq0]) (by omega:row.length < F) l
  obtain⟨e2,hJ⟩:=Qo (d:=fun s=>next (ZF ((m:Int) + 1),s)) (g:=fun(_:Nat) (c:Zb) s nx=>nx (YL s (Ze.mk m c.name) c)) (fun _ c s=>YL s (Ze.mk m c.name) c) J (l:=row) (i:=0) (s:=l) (fun a b=>by
   by_cases ha:a= (m:Int)
   ·rw [if_pos ha,hI a b,if_neg (by omega)];simp
   ·rw [if_neg ha]) (fun k c s nx hk hJ=>⟨rfl,fun a b=>by
    rw [Nat.zero_add] at hJ ⊢;rw [WM];by_cases ha:a= (m:Int)
    ·subst ha;rw [if_pos rfl,ZrD hasc hk];by_cases hb:b=c.name
     ·rw [if_pos hb,hb,if_pos rfl]
     ·rw [if_neg hb,if_neg (fun q=>hb (by injection q)),hJ,if_pos rfl]
    ·rw [if_neg ha,if_neg (fun q=>ha (by injection q)),hJ,if_neg ha]⟩)
  refine⟨_,fun a b=>?_,e.trans e2⟩;rw [Nat.zero_add] at hJ;rw [hJ a b];by_cases ha:a= (m:Int)
  ·subst ha;rw [if_pos rfl,if_pos (by omega),List.take_length];unfold cellOf;rw [Int.toNat_natCast,hro]
  ·rw [if_neg ha,hI a b];by_cases hz:0 <=a∧a < (m:Int)
   ·rw [if_pos hz,if_pos (by omega)]
   ·rw [if_neg hz,if_neg (by omega)]
 have key:∀ (d m:Nat) (F':Nat) (l:List (Ze×Zb)),m + d=w.cells.length ->d < F' ->I m l ->∃ cs,loop F' (Za4 F w w.notes w.freed) ((m:Int),l)=some ⟨(w.cells.length:Int),w.names,cs,w.notes,w.freed⟩∧MapOf w cs:=by
  intro d
  induction d with
  | zero=>
    intro m F' l hm hF' hI;obtain⟨F',rfl⟩:=Ne0 (n:=F') (by omega);have:m=w.cells.length:=by omega
    subst this;refine⟨l,?_,hI⟩;rw [Yl];simp only [Za4];rw [decide_eq_false (by omega),Cq0]
  | succ d ih=>
    intro m F' l hm hF' hI;obtain⟨F',rfl⟩:=Ne0 (n:=F') (by omega);have hlt:m < w.cells.length:=by omega
    obtain⟨l',h1,h2⟩:=inner m w.cells[m] (loop F' (Za4 F w w.notes w.freed)) l (by simp [hlt]) hI;obtain⟨cs,h3,h4⟩:=ih (m + 1) F' l' (by omega) (by omega) h1;refine⟨cs,?_,h4⟩;rw [Yl];have hg:w.cells[m]? =some w.cells[m]:=by simp [hlt]
    simp only [Za4,Z0,hg,Bq0];rw [decide_eq_true (by omega),Cq1,h2,Xk (by omega),h3]
 exact key w.cells.length 0 F [] (by omega) (by omega) (fun a b=>by rw [if_neg (by omega)];rfl)
def Jt {σ:Type} (w:Za) (y:Int ->Zb ->σ ->σ) (m:Nat) (n:Nat) (s:σ):σ:=match cellOf w m n with | some c=>y m c s | none=>s
theorem Qc {w:Za} {m:Nat} {n:Int} {c:Zb} (h:cellOf w m n=some c):c.name=n:=by
 unfold cellOf at h;have:=List.find?_some h
 simpa using this
theorem Zaq {w:Za} {m:Nat} {n:Int} {c:Zb} (h:cellOf w m n=some c):∃ (row:List Zb) (k:Nat),w.cells[m]? =some row∧row[k]? =some c:=by
 unfold cellOf rowOf at h;have:=List.mem_of_find?_eq_some h;cases e:w.cells[m]? with
 | none=>rw [e] at this;simp at this
 | some row=>
   rw [e] at this;obtain⟨k,hk⟩:=List.mem_iff_getElem?.1 this;exact⟨row,k,rfl,hk⟩
structure Ql (w:Za) (st:Store):Prop where
 m:st.machines= (w.cells.length:Int)
 n:st.names=w.names
 notes:st.notes=w.notes
 freed:st.freed=w.freed
 cells:MapOf w st.cells
structure Szd (w:Za):Prop where
 c6:w.cells.length <=6
 n0:0 <=w.names
 n12:w.names <=12
 kind:∀ x ∈ w.notes,x.kind=1∨x.kind=2∨x.kind=3
theorem Shp.szd {w:Za} (sh:Shp w):Szd w:= ⟨sh.c6,sh.n0,sh.n12,fun x hx=>by
 have hx:=sh.note x hx;by_cases k1:x.kind=1
 ·exact .inl k1
 ·by_cases k2:x.kind=2
  ·exact .inr (.inl k2)
  ·have q1:(x.kind==1)=false:=by simp [k1]
   have q2:(x.kind==2)=false:=by simp [k2]
   unfold Wj at hx;rw [q1,q2] at hx;simp at hx;exact .inr (.inr hx.2.1.1)⟩
section
theorem Zmy {F:Nat} (hF:1000 <=F) {w:Za} (sm:Small w) (sh:Szd w) {st:Store} (so:Ql w st) {σ β:Type} (I:Nat ->σ ->Prop) (hI:∀ i s,I i s ->I (i + 1) s) {z:Zb} {E:σ ->Option β} {B1:Int×σ ->(Int×σ ->Option β) ->Option β} {B2:Int ->(Int×σ ->Option β) ->Int×σ ->(Int×σ ->Option β) ->Option β} {Y:Int ->Zb ->σ ->(σ ->Option β) ->Option β} (y':Int ->Zb ->σ ->σ)
 (hB1:∀ v s next,B1 (v,s) next=bif decide (v < st.machines) then loop F (B2 v next) (0,s) else E s)
 (hB2:∀ v0 next v s nx,B2 v0 next (v,s) nx=bif decide (v < st.names) then(ZaH st.cells (Ze.mk v0 v) z).bind fun x=>bif x.2 then Y v0 x.1 s (fun s'=>nx (ZF (v + 1),s')) else nx (ZF (v + 1),s) else next (ZF (v0 + 1),s))
 (hy:∀ i (a:Nat) c s k,a < w.cells.length ->i < 100 ->I i s ->Y a c s k=k (y' a c s)∧I (i + 1) (y' a c s)) (s0:σ) (h0:I 0 s0):
 loop F B1 (0,s0)=E ((List.range w.cells.length).foldl (fun s m=>(List.range w.names.toNat).foldl (fun s n=>Jt w y' m n s) s) s0)∧
 I (w.cells.length * w.names.toNat) ((List.range w.cells.length).foldl (fun s m=>(List.range w.names.toNat).foldl (fun s n=>Jt w y' m n s) s) s0):=by
 have hc:=sh.c6;have hn:=sh.n0;have hn2:=sh.n12;have en:((w.names.toNat:Nat):Int)=w.names:=by omega
 have inner:∀ (m:Nat) (next:Int×σ ->Option β) (s:σ),m < w.cells.length ->I (m * w.names.toNat) s ->
  loop F (B2 m next) (0,s)=next (ZF ((m:Int) + 1),(List.range w.names.toNat).foldl (fun s n=>Jt w y' m n s) s)∧I ((m + 1) * w.names.toNat) ((List.range w.names.toNat).foldl (fun s n=>Jt w y' m n s) s):=by
  intro m next s hm hs
  have e:=Zaa w.names.toNat (fun v s=>(v,s)) (B2 m next) (fun k s nx=>match cellOf w m k with | some c=>Y m c s nx | none=>nx s) (fun s=>next (ZF ((m:Int) + 1),s)) (by omega) (fun k s nx hk=>by
   rw [hB2,so.n];rw [decide_eq_true (by omega),Cq1];unfold ZaH;rw [so.cells,if_pos (by omega),Int.toNat_natCast];cases cellOf w m k with
   | some c=>rfl
   | none=>rfl) (fun s nx=>by rw [hB2,so.n];rw [decide_eq_false (by omega),Cq0]) (by omega:w.names.toNat < F) s
  obtain⟨e2,h2⟩:=Qo (d:=fun s=>next (ZF ((m:Int) + 1),s)) (g:=fun(_:Nat) (k:Nat) s nx=>match cellOf w m k with | some c=>Y m c s nx | none=>nx s) (fun _ k s=>Jt w y' m k s) (fun k s=>I (m * w.names.toNat + k) s) (l:=List.range w.names.toNat) (i:=0) (s:=s) hs (fun k x s nx hx hs=>by
   have hk:k < w.names.toNat:=by
    have:= (Li0 hx).1
    simpa using this
   have:x=k:=by
    rw [List.getElem?_range hk] at hx
    simpa using hx.symm
   subst this;rw [Nat.zero_add] at hs ⊢
   have hb:m * w.names.toNat + x < 100:=by
    have:=Nat.mul_le_mul (show m <=5 by omega) (show w.names.toNat <=12 by omega);omega
   unfold Jt;cases cellOf w m x with
   | some c=>
     obtain⟨q1,q2⟩:=hy _ m c s nx hm hb hs;dsimp only;rw [q1];exact⟨rfl,q2⟩
   | none=>exact⟨rfl,hI _ _ hs⟩)
  rw [Qv] at e2 h2;refine⟨e.trans e2,?_⟩;rw [List.length_range,Nat.zero_add] at h2;rw [Nat.add_mul,Nat.one_mul];exact h2
 have key:∀ (d m F':Nat) (s:σ),m + d=w.cells.length ->d < F' ->I (m * w.names.toNat) s ->
  loop F' B1 ((m:Int),s)=E ((List.range' m d).foldl (fun s m=>(List.range w.names.toNat).foldl (fun s n=>Jt w y' m n s) s) s)∧I (w.cells.length * w.names.toNat) ((List.range' m d).foldl (fun s m=>(List.range w.names.toNat).foldl (fun s n=>Jt w y' m n s) s) s):=by
  intro d
  induction d with
  | zero=>
    intro m F' s hm hF' hs;obtain⟨F',rfl⟩:=Ne0 (n:=F') (by omega);have:m=w.cells.length:=by omega
    subst this;rw [Yl,hB1,so.m];rw [decide_eq_false (by omega),Cq0];exact⟨rfl,hs⟩
  | succ d ih=>
    intro m F' s hm hF' hs;obtain⟨F',rfl⟩:=Ne0 (n:=F') (by omega);obtain⟨h1,h2⟩:=inner m (loop F' B1) s (by omega) hs;obtain⟨h3,h4⟩:=ih (m + 1) F' _ (by omega) (by omega) h2;rw [Yl,List.range'_succ,List.foldl_cons];refine⟨?_,h4⟩;rw [hB1,so.m];rw [decide_eq_true (by omega),Cq1,h1,Xk (by omega)];exact h3
 have:=key w.cells.length 0 F s0 (by omega) (by omega) (by rw [Nat.zero_mul];exact h0);rw [← List.range_eq_range'] at this;exact this
end
theorem fold_congr {σ:Type} {f g:σ ->Nat ->σ} {N:Nat} (h:∀ s m,m < N ->f s m=g s m) (s:σ):(List.range N).foldl f s= (List.range N).foldl g s:=by
 have:∀ M,M <=N ->(List.range M).foldl f s= (List.range M).foldl g s:=by
  intro M
  induction M with
  | zero=>intro _;rfl
  | succ M ih=>
    intro hM;rw [List.range_succ,List.foldl_append,List.foldl_append,ih (by omega)];simp only [List.foldl_cons,List.foldl_nil];exact h _ _ (by omega)
 exact this N (Nat.le_refl _)
theorem UW {σ τ α:Type} (V:σ ->τ) {f:σ ->α ->σ} {g:τ ->α ->τ} {l:List α} (h:∀ s x,x ∈ l ->V (f s x)=g (V s) x) (s:σ):V (l.foldl f s)=l.foldl g (V s):=by
 induction l generalizing s with
 | nil=>rfl
 | cons x l ih=>
   rw [List.foldl_cons,List.foldl_cons,ih (fun s y hy=>h s y (by simp [hy])),h s x (by simp)]
def YZ (w:Za) (n:Int):List Int:=
 w.notes.foldl (fun(s:List Int) (x:Zd)=>bif(x.kind==3) && (x.name==n) then s ++ [x.Zv] else s)
   ((List.range w.cells.length).foldl (fun(s:List Int) (m:Nat)=>match cellOf w m n with | some c=>bif c.root then s ++ [(m:Int)] else s | none=>s) [])
theorem Zkx {α:Type} (f:List Int ->α ->List Int) (hf:∀ s x,(f s x).length <=s.length + 1) (l:List α) (s:List Int):(l.foldl f s).length <=s.length + l.length:=by
 induction l generalizing s with
 | nil=>simp
 | cons x l ih=>
   rw [List.foldl_cons];have:=ih (f s x);have:=hf s x;simp only [List.length_cons];omega
section
theorem Zpd {F:Nat} (hF:1000 <=F) {w:Za} (sm:Small w) (sh:Shp w) {st:Store} (so:Ql w st) {n:Nat} (hn:(n:Int) < w.names):Zvx F st n=some (YZ w n):=by
 unfold Zvx
 let y':Int ->Zb ->List Int ->List Int:=fun a c s=>bif(c.name== (n:Int)) && c.root then s ++ [a] else s
 obtain⟨h1,h2⟩:=Zmy hF sm sh.szd so (z:=Zb.mk 0 false 0 0 0 false) (fun i (s:List Int)=>s.length <=i) (fun i s h=>Nat.le_succ_of_le h) (E:=ZfZ F st n) (B1:=Zpy F st n) (B2:=Zpx F st n) (Y:=fun a c s k=>bif(c.name== (n:Int)) && c.root then(app 8 s [a]).bind k else k s) y' (fun v s next=>rfl) (fun v0 next v s nx=>rfl) (fun i a c s k _ hi hs=>by
  simp only [y'];cases ((c.name== (n:Int)) && c.root)
  ·exact⟨rfl,Nat.le_succ_of_le hs⟩
  ·simp only [Cq1];rw [XJ (by simp;omega) (by decide)];exact⟨rfl,by simp;omega⟩) [] (Nat.le_refl _)
 rw [h1]
 have e:(List.range w.cells.length).foldl (fun s (m:Nat)=>(List.range w.names.toNat).foldl (fun s n=>Jt w y' m n s) s) []= (List.range w.cells.length).foldl (fun s (m:Nat)=>match cellOf w m n with | some c=>bif c.root then s ++ [(m:Int)] else s | none=>s) []:=by
  refine fold_congr (fun s m hm=>?_) _;refine ZeU (V:=id) (fun i s=>Jt w y' m i s) (fun s=>match cellOf w m n with | some c=>bif c.root then s ++ [(m:Int)] else s | none=>s) (n:=n) (N:=w.names.toNat) (by omega) (fun i s hi hne=>?_) (fun s=>?_) s
  ·simp only [id,Jt];cases hc:cellOf w m i with
   | none=>rfl
   | some c=>
     have:=Qc hc;have hb:(c.name== (n:Int))=false:=by rw [this];simp;omega
     simp only [y',hb];rfl
  ·simp only [id,Jt];cases hc:cellOf w m n with
   | none=>rfl
   | some c=>
     have:=Qc hc;have hb:(c.name== (n:Int))=true:=by rw [this];simp
     simp only [y',hb];rfl
 rw [e];rw [e] at h2;unfold ZfZ;have hlen:=Nat.mul_le_mul sh.c6 (show w.names.toNat <=12 by have:=sh.n12;have:=sh.n0;omega);have hno:=sm.notes;refine(Y1 w.notes (fun v (s:List Int)=>(v,s)) (ZiM st n) (fun _ x s next=>bif(x.kind==3) && (x.name== (n:Int)) then(app 8 s [x.Zv]).bind next else next s) (fun s=>some s) (by omega) (fun k y s next hy hk=>?_) (fun s next=>?_) (by omega) _).trans ?_
 ·simp only [ZiM,so.notes,Z0,hy,hk,decide_true,Cq1,Bq0,ZiL]
 ·simp only [ZiM,so.notes];rw [decide_eq_false (by omega),Cq0]
 ·rw [(Qo (fun _ (x:Zd) s=>bif(x.kind==3) && (x.name== (n:Int)) then s ++ [x.Zv] else s) (fun k (s:List Int)=>s.length <=72 + k) (by simp at h2 ⊢;omega) (fun k x s next hx hs=>by
   have:= (Li0 hx).1;cases ((x.kind==3) && (x.name== (n:Int)))
   ·exact⟨rfl,by simp;omega⟩
   ·simp only [Cq1];rw [XJ (by simp;omega) (by decide)];exact⟨rfl,by simp;omega⟩)).1,Qv]
  rfl
end
end Go.Proofs.Ytekpjgmhkkjhgaa
end
section
namespace Go.Proofs.Ytekpjgmhkkjhgaa
open Go.Lf
abbrev Acc:=List (Ze×Int)
def val (v:Acc) (k:Ze):Int:= (YV v k).getD 0
def upd (v:Acc) (k:Ze) (x:Int):Acc:=YL (JS v k 0) k (ZF (val v k + x))
theorem WT (v:Acc) (k k':Ze) (x:Int):val (upd v k x) k'=if k'=k then ZF (val v k + x) else val v k':=by
 unfold val upd;rw [WM,Zdg];by_cases h:k'=k
 ·rw [if_pos h,if_pos h];rfl
 ·rw [if_neg h,if_neg h,if_neg h]
theorem ZmR:ZF 0=0:=YX (by decide) (by decide)
def Zqc (a:Int) (c:Zb) (q:Acc×Acc):Acc×Acc:= (upd q.1 ⟨a,c.name⟩ c.out,bif decide (c.from_ >=0) then upd q.2 ⟨c.from_,c.name⟩ c.has else q.2)
def Zqb (x:Zd) (q:Acc×Acc):Acc×Acc:=bif x.kind==1 then(q.1,upd q.2 ⟨x.via,x.name⟩ x.w) else bif x.kind==2 then(q.1,upd q.2 ⟨x.Zv,x.name⟩ x.w) else(upd q.1 ⟨x.Zv,x.name⟩ 16,q.2)
def Wp (w:Za):Acc×Acc:= (List.range w.cells.length).foldl (fun s m=>(List.range w.names.toNat).foldl (fun s n=>Jt w Zqc m n s) s) ([],[])
def Za7 (w:Za):Acc×Acc:=w.notes.foldl (fun q x=>Zqb x q) (Wp w)
def view (a n:Int) (q:Acc×Acc):Int×Int:= (val q.1 ⟨a,n⟩,val q.2 ⟨a,n⟩)
theorem ZmC {F:Nat} (hF:1000 <=F) {w:Za} (sm:Small w) (sh:Szd w) {st:Store} (so:Ql w st):ZpF F st=some (Za7 w):=by
 unfold ZpF;have hno:=sm.notes
 obtain⟨h1,_⟩:=Zmy hF sm sh so (z:=Zb.mk 0 false 0 0 0 false) (fun _ (_:Acc×Acc)=>True) (fun _ _ _=>trivial) (E:=Zf4 F st) (B1:=ZpE F st) (B2:=ZpD F st) (Y:=fun a c s k=>bif decide (c.from_ >=0) then k (upd s.1 ⟨a,c.name⟩ c.out,upd s.2 ⟨c.from_,c.name⟩ c.has) else k (upd s.1 ⟨a,c.name⟩ c.out,s.2)) Zqc (fun v s next=>rfl) (fun v0 next v s nx=>by obtain⟨a,b⟩:=s;rfl) (fun i a c s k _ _ _=>⟨by
  unfold Zqc;cases decide (c.from_ >=0) <;> rfl,trivial⟩) ([],[]) trivial
 rw [h1];unfold Zf4;refine(Y1 w.notes (fun v (s:Acc×Acc)=>(v,s.1,s.2)) (ZiO st) (fun _ x s next=>next (Zqb x s)) (fun s=>some s) (by omega) (fun k y s next hy hk=>?_) (fun s next=>?_) (by omega) (Wp w)).trans ?_
 ·simp only [ZiO,so.notes,Z0,hy,hk,decide_true,Cq1,Bq0,Zf3,QG,Zqb];cases y.kind==1
  ·cases y.kind==2 <;> rfl
  ·rfl
 ·simp only [ZiO,so.notes];rw [decide_eq_false (by omega),Cq0]
 ·rw [(Qo (fun _ (x:Zd) s=>Zqb x s) (fun _ _=>True) trivial (fun _ _ _ _ _ _=>⟨rfl,trivial⟩)).1,Qv]
  rfl
def hm (w:Za) (a n:Nat) (q:Int×Int) (m:Nat):Int×Int:=match cellOf w m n with
 | some c=>(if m=a then ZF (q.1 + c.out) else q.1,if c.from_= (a:Int) then ZF (q.2 + c.has) else q.2)
 | none=>q
theorem ZoB {w:Za} {a n m:Nat} (hn:n < w.names.toNat) (q:Acc×Acc):
 view a n ((List.range w.names.toNat).foldl (fun s n=>Jt w Zqc m n s) q)=hm w a n (view a n q) m:=by
 refine ZeU (view a n) (fun i s=>Jt w Zqc m i s) (fun q=>hm w a n q m) hn (fun i s hi hne=>?_) (fun s=>?_) q
 ·unfold Jt;cases hc:cellOf w m i with
  | none=>rfl
  | some c=>
    have hnm:=Qc hc;dsimp only;unfold view Zqc;have k1:¬ (Ze.mk (a:Int) (n:Int))=Ze.mk (m:Int) c.name:=fun e=>by injection e with _ e2;omega
    have k2:¬ (Ze.mk (a:Int) (n:Int))=Ze.mk c.from_ c.name:=fun e=>by injection e with _ e2;omega
    rw [WT,if_neg k1];cases decide (c.from_ >=0)
    ·rfl
    ·simp only [Cq1];rw [WT,if_neg k2]
 ·unfold Jt hm;cases hc:cellOf w m n with
  | none=>rfl
  | some c=>
    have hnm:=Qc hc;dsimp only;unfold view Zqc;dsimp only;rw [hnm];congr 1
    ·rw [WT];by_cases e:m=a
     ·subst e;rw [if_pos rfl,if_pos rfl]
     ·rw [if_neg e,if_neg (fun q=>by injection q with q1 _;omega)]
    ·by_cases e:c.from_= (a:Int)
     ·rw [if_pos e,decide_eq_true (by omega),Cq1,WT,e,if_pos rfl]
     ·rw [if_neg e];cases decide (c.from_ >=0)
      ·rfl
      ·simp only [Cq1];rw [WT,if_neg (fun q=>by injection q with q1 _;omega)]
theorem Zwt (c:Zd ->Bool) (l:List Zd) (g:Int):l.foldl (fun(g:Int) x=>bif c x then ZF (g + 16) else g) (ZF g)=ZF (g + 16 * (l.countP c:Int)):=by
 induction l generalizing g with
 | nil=>simp
 | cons x l ih=>
   rw [List.foldl_cons,List.countP_cons];cases hc:c x
   ·simp only [Cq0];rw [ih];simp
   ·simp only [Cq1,if_true];rw [Zhq,ih];congr 1;omega
theorem ZhP {w:Za} (sh:Szd w) {a n:Nat} (ha:a < w.cells.length) (hn:(n:Int) < w.names):val (Za7 w).1 ⟨a,n⟩=Ya w a n∧val (Za7 w).2 ⟨a,n⟩=Xv w a n:=by
 have e1:view a n (Wp w)= (List.range w.cells.length).foldl (fun q m=>hm w a n q m) (0,0):=
  UW (view a n) (fun s m _=>ZoB (by omega) s) ([],[])
 have e2:((List.range w.cells.length).foldl (fun q m=>hm w a n q m) (0,0)).2= (List.range w.cells.length).foldl (fun s k=>Znq w a n k s) 0:=by
  refine UW (fun q:Int×Int=>q.2) (fun s m _=>?_) (0,0);unfold hm Znq;cases cellOf w m n with
  | none=>rfl
  | some c=>
    dsimp only;by_cases e:c.from_= (a:Int)
    ·rw [if_pos e];have:(c.from_== (a:Int))=true:=by simp [e]
     rw [this];rfl
    ·rw [if_neg e];have:(c.from_== (a:Int))=false:=by simp [e]
     rw [this];rfl
 have e3:((List.range w.cells.length).foldl (fun q m=>hm w a n q m) (0,0)).1=ZF (Zqv w a n):=by
  have f1:((List.range w.cells.length).foldl (fun q m=>hm w a n q m) (0,0)).1= (List.range w.cells.length).foldl (fun(g:Int) m=>match cellOf w m n with | some c=>if m=a then ZF (g + c.out) else g | none=>g) 0:=by
   refine UW (fun q:Int×Int=>q.1) (fun s m _=>?_) (0,0);unfold hm;cases cellOf w m n with
   | none=>rfl
   | some c=>rfl
  rw [f1]
  have:=ZeU (V:=id) (fun m (g:Int)=>match cellOf w m n with | some c=>if m=a then ZF (g + c.out) else g | none=>g) (fun g=>match cellOf w a n with | some c=>ZF (g + c.out) | none=>g) ha (fun i s hi hne=>by
   simp only [id];cases cellOf w i n with
   | none=>rfl
   | some c=>dsimp only;rw [if_neg hne]) (fun s=>by
   simp only [id];cases cellOf w a n with
   | none=>rfl
   | some c=>simp) 0
  simp only [id] at this;rw [this];unfold Zqv;cases cellOf w a n with
  | none=>exact ZmR.symm
  | some c=>dsimp only;rw [Int.zero_add]
 have e4:view a n (Za7 w)=w.notes.foldl (fun q x=>(bif((x.kind==3) && (x.Zv== (a:Int))) && (x.name== (n:Int)) then ZF (q.1 + 16) else q.1,ZgZ a n x q.2)) (view a n (Wp w)):=by
  refine UW (view a n) (fun s x hx=>?_) (Wp w);have hx:=sh.kind x hx;unfold view Zqb ZgZ;by_cases k1:x.kind=1
  ·simp only [k1,beq_self_eq_true,Cq1,Bool.true_and];rw [WT];have r1:((1:Int)==2)=false:=rfl;have r2:((1:Int)==3)=false:=rfl;simp only [r1,r2,Bool.false_and,Bool.or_false,Cq0];congr 1;by_cases e:Ze.mk (a:Int) (n:Int)=Ze.mk x.via x.name
   ·rw [if_pos e];injection e with z1 z2
    have b:((x.name== (n:Int)) && (x.via== (a:Int)))=true:=by simp [z1,z2]
    rw [b,Cq1,z1,z2]
   ·rw [if_neg e]
    have b:((x.name== (n:Int)) && (x.via== (a:Int)))=false:=by
     rw [Bool.and_eq_false_iff];by_cases z:x.name= (n:Int)
     ·right;simp;intro z2;exact e (by rw [z,z2])
     ·left;simp [z]
    rw [b,Cq0]
  ·by_cases k2:x.kind=2
   ·have r1:((2:Int)==1)=false:=rfl;have r2:((2:Int)==3)=false:=rfl;simp only [k2,r1,r2,beq_self_eq_true,Cq1,Cq0,Bool.true_and,Bool.false_and,Bool.false_or];rw [WT];congr 1;by_cases e:Ze.mk (a:Int) (n:Int)=Ze.mk x.Zv x.name
    ·rw [if_pos e];injection e with z1 z2
     have b:((x.name== (n:Int)) && (x.Zv== (a:Int)))=true:=by simp [z1,z2]
     rw [b,Cq1,z1,z2]
    ·rw [if_neg e]
     have b:((x.name== (n:Int)) && (x.Zv== (a:Int)))=false:=by
      rw [Bool.and_eq_false_iff];by_cases z:x.name= (n:Int)
      ·right;simp;intro z2;exact e (by rw [z,z2])
      ·left;simp [z]
     rw [b,Cq0]
   ·have q1:(x.kind==1)=false:=by simp [k1]
    have q2:(x.kind==2)=false:=by simp [k2]
    have q3:(x.kind==3)=true:=by
     rcases hx with z | z | z
     ·exact absurd z k1
     ·exact absurd z k2
     ·simp [z]
    simp only [q1,q2,q3,Cq0,Bool.true_and,Bool.false_and,Bool.or_false,Bool.and_false];rw [WT];congr 1;by_cases e:Ze.mk (a:Int) (n:Int)=Ze.mk x.Zv x.name
    ·rw [if_pos e];injection e with z1 z2
     have b:((x.Zv== (a:Int)) && (x.name== (n:Int)))=true:=by simp [z1,z2]
     rw [b,Cq1,z1,z2]
    ·rw [if_neg e]
     have b:((x.Zv== (a:Int)) && (x.name== (n:Int)))=false:=by
      rw [Bool.and_eq_false_iff];by_cases z:x.name= (n:Int)
      ·left;simp;intro z2;exact e (by rw [z,z2])
      ·right;simp [z]
     rw [b,Cq0]
 constructor
 ·show(view a n (Za7 w)).1=_;rw [e4,UW (fun q:Int×Int=>q.1) (g:=fun(g:Int) (x:Zd)=>bif((x.kind==3) && (x.Zv== (a:Int))) && (x.name== (n:Int)) then ZF (g + 16) else g) (fun s x _=>rfl),e1,e3,Zwt];unfold Ya ZcG;congr 1;omega
 ·show(view a n (Za7 w)).2=_;rw [e4,UW (fun q:Int×Int=>q.2) (g:=fun(g:Int) (x:Zd)=>ZgZ a n x g) (fun s x _=>rfl),e1,e2]
  rfl
def Xg (w:Za) (n h:Int):Nat ->Int ->Bool
 | 0,a=>a==h
 | k + 1,a=>bif a==h then true else match cellOf w a.toNat n with
   | none=>false
   | some c=>bif decide (c.from_ < 0) then false else Xg w n h k c.from_
def Km (w:Za) (n h:Int):Bool:= !((List.range w.cells.length).any fun m=>(cellOf w m n).isSome && !(Xg w n h w.cells.length m))
theorem Shp.from_ {w:Za} (sh:Shp w) {m:Nat} {n:Int} {c:Zb} (h:cellOf w m n=some c) (h0:¬ c.from_ < 0):0 <=c.from_∧c.from_ < (w.cells.length:Int):=by
 obtain⟨row,k,h1,h2⟩:=Zaq h;have:= (sh.cell m row k c h1 h2).1;unfold Wx at this;rw [Ba0] at this;have:=this.2;have e:(c.from_==-1)=false:=by simp;omega
 rw [e] at this;cases hr:c.root
 ·rw [hr] at this;simp only [Bool.or_self,Cq0,Ba0] at this;have:=this.1.1;unfold K9 at this
  simpa using this
 ·rw [hr] at this;simp at this
section
theorem Zo1 {F:Nat} (hF:1000 <=F) {w:Za} (sm:Small w) (sh:Shp w) {st:Store} (so:Ql w st) (n h:Int):Zst F st n h=some (Km w n h):=by
 have hc:=sm.cells;have h6:=sh.c6
 let z:Zb:=Zb.mk 0 false 0 0 0 false
 have key:∀ (d i F' m:Nat) (next:Int ->Option Bool) (a:Int),i + d=w.cells.length ->d < F' ->0 <=a ->a < (w.cells.length:Int) ->
  loop F' (ZiJ st n h m next) (a,(cellOf w a.toNat n).isSome,(i:Int),((cellOf w a.toNat n).getD z).name,((cellOf w a.toNat n).getD z).root,((cellOf w a.toNat n).getD z).from_,((cellOf w a.toNat n).getD z).has,((cellOf w a.toNat n).getD z).out,((cellOf w a.toNat n).getD z).use)=bif Xg w n h d a then next (ZF ((m:Int) + 1)) else some false:=by
  intro d
  induction d with
  | zero=>
    intro i F' m next a hi hF' h0 h1;obtain⟨F',rfl⟩:=Ne0 (n:=F') (by omega);rw [Yl];simp only [ZiJ,Xg,so.m];rw [decide_eq_false (by omega),Cq0];have:(a !=h)= !(a==h):=rfl;rw [this];cases a==h <;> rfl
  | succ d ih=>
    intro i F' m next a hi hF' h0 h1;obtain⟨F',rfl⟩:=Ne0 (n:=F') (by omega);rw [Yl];simp only [ZiJ,Xg,so.m];rw [decide_eq_true (by omega),Cq1];cases a==h
    ·simp only [Cq0];cases hq:cellOf w a.toNat n with
     | none=>rfl
     | some c=>
       simp only [Option.isSome_some,Bool.not_true,Bool.false_or,Option.getD_some];by_cases hf:c.from_ < 0
       ·rw [decide_eq_true hf];rfl
       ·rw [decide_eq_false hf];simp only [Cq0];have hv:=sh.from_ hq hf;unfold ZaH;rw [so.cells,if_pos hv,Bq0,Xk (by omega)];exact ih (i + 1) F' m next c.from_ (by omega) (by omega) hv.1 hv.2
    ·rfl
 unfold Zst;refine(Zaa w.cells.length (fun v (_:Unit)=>v) (ZiK F st n h) (fun m s next=>bif(cellOf w m n).isSome && !(Xg w n h w.cells.length m) then some false else next ()) (fun _=>some true) (by omega) (fun m s next hm=>?_) (fun s next=>?_) (by omega) ()).trans ?_
 ·simp only [ZiK,so.m];rw [decide_eq_true (by omega),Cq1];unfold ZaH;rw [so.cells,if_pos (by omega),Bq0,Int.toNat_natCast];have:=key w.cells.length 0 F m next (m:Int) (by omega) (by omega) (by omega) (by omega);rw [Int.toNat_natCast] at this;cases hq:cellOf w m n with
  | none=>rfl
  | some c=>
    rw [hq] at this;simp only [Option.isSome_some,Bool.not_true,Cq0,Bool.true_and,Option.getD_some];refine Eq.trans this ?_;cases Xg w n h w.cells.length m <;> rfl
 ·simp only [ZiK,so.m];rw [decide_eq_false (by omega),Cq0]
 ·rw [Zac (r:=some false) (fun _ m=>(cellOf w m n).isSome && !(Xg w n h w.cells.length m)) (fun _ _ _ _=>rfl),Zfd];unfold Km;cases (List.range w.cells.length).any fun m=>(cellOf w m n).isSome && !(Xg w n h w.cells.length m) <;> rfl
end
def Zmm (w:Za) (m:Nat) (n:Int):Nat:=ZcG w m n + (match cellOf w m n with | some c=>bif c.root then 1 else 0 | none=>0)
def Kh (w:Za) (n:Int) (q:Int×Int) (m:Nat):Int×Int:=bif decide ((Zmm w m n:Int) > 0) then(ZF (q.1 + (Zmm w m n:Int)),(m:Int)) else q
theorem UU {α σ:Type} (P:σ ->Prop) (f:σ ->α ->σ) (l:List α) (h:∀ s x,x ∈ l ->P s ->P (f s x)) (s:σ) (h0:P s):P (l.foldl f s):=by
 induction l generalizing s with
 | nil=>exact h0
 | cons x l ih=>exact ih (fun s y hy=>h s y (by simp [hy])) _ (h s x (by simp) h0)
theorem ZbT {w:Za} (sh:Shp w) (n:Int):∀ x ∈ YZ w n,0 <=x∧x < (w.cells.length:Int):=by
 unfold YZ;refine UU (fun s:List Int=>∀ x ∈ s,0 <=x∧x < (w.cells.length:Int)) _ _ (fun s x hx hs=>?_) _ ?_
 ·cases h:(x.kind==3) && (x.name==n)
  ·exact hs
  ·intro y hy;simp only [Cq1,List.mem_append,List.mem_singleton] at hy;rcases hy with hy | hy
   ·exact hs y hy
   ·subst hy;have:=sh.note x hx;unfold Wj K9 at this;simp only [Ba0,decide_eq_true_eq] at this;exact this.1.1.1
 ·refine UU (fun s:List Int=>∀ x ∈ s,0 <=x∧x < (w.cells.length:Int)) _ _ (fun s m hm hs=>?_) _ (by simp);rw [List.mem_range] at hm;cases cellOf w m n with
  | none=>exact hs
  | some c=>
    dsimp only;cases c.root
    ·exact hs
    ·intro y hy;simp only [Cq1,List.mem_append,List.mem_singleton] at hy;rcases hy with hy | hy
     ·exact hs y hy
     ·subst hy;omega
theorem Zpf {w:Za} (sh:Shp w) (n:Int):(YZ w n).length <=100:=by
 have h:(YZ w n).length <=w.cells.length + w.notes.length:=by
  unfold YZ;refine Nat.le_trans (Zkx _ (fun s x=>?_) w.notes _) (Nat.add_le_add_right (Nat.le_trans (Zkx _ (fun s m=>?_) (List.range w.cells.length) []) (by simp)) _)
  ·cases (x.kind==3) && (x.name==n) <;> simp
  ·cases cellOf w m n with
   | none=>simp
   | some c=>dsimp only;cases c.root <;> simp
 have:=sh.c6;have:=sh.notes;omega
theorem ZsH {c:Zd ->Bool} (l:List Zd) (k:Nat):l.foldl (fun(k:Nat) x=>bif c x then k + 1 else k) k=k + l.countP c:=by
 induction l generalizing k with
 | nil=>rfl
 | cons x l ih=>
   rw [List.foldl_cons,ih,List.countP_cons];cases c x <;> simp;omega
theorem KG {w:Za} {m:Nat} (hm:m < w.cells.length) (n:Int):(YZ w n).count (m:Int)=Zmm w m n:=by
 unfold YZ
 rw [UW (fun s:List Int=>s.count (m:Int)) (g:=fun(k:Nat) (x:Zd)=>bif((x.kind==3) && (x.Zv== (m:Int))) && (x.name==n) then k + 1 else k) (fun s x hx=>by
  cases h1:x.kind==3 <;> cases h2:x.name==n <;> cases h3:x.Zv== (m:Int) <;> simp [List.count_append,List.count_singleton,h3])]
 rw [ZsH]
 rw [UW (fun s:List Int=>s.count (m:Int)) (g:=fun(k:Nat) (m':Nat)=>match cellOf w m' n with | some c=>bif c.root && (m'==m) then k + 1 else k | none=>k) (fun s m' hx=>by
  cases cellOf w m' n with
  | none=>rfl
  | some c=>
    dsimp only;cases c.root
    ·rfl
    ·by_cases e:m'=m
     ·subst e;simp
     ·have e1:(m'==m)=false:=by simp [e]
      have e2:¬ (m':Int)= (m:Int):=by omega
      simp [e1,List.count_append,List.count_singleton,e2])]
 have:=ZeU (V:=id) (fun m' (k:Nat)=>match cellOf w m' n with | some c=>bif c.root && (m'==m) then k + 1 else k | none=>k) (fun k=>match cellOf w m n with | some c=>bif c.root then k + 1 else k | none=>k) hm (fun i s hi hne=>by
  simp only [id];cases cellOf w i n with
  | none=>rfl
  | some c=>
    have e1:(i==m)=false:=by simp [hne]
    dsimp only;rw [e1,Bool.and_false];rfl) (fun s=>by
  simp only [id];cases cellOf w m n with
  | none=>rfl
  | some c=>simp) 0
 simp only [id] at this;rw [List.count_nil,this];unfold Zmm ZcG;cases cellOf w m n with
 | none=>simp
 | some c=>cases c.root <;> simp <;> omega
theorem Zn3 (L:List Int) (h:∀ x ∈ L,0 <=x) (M:Nat):L.countP (fun x=>decide (x < ((M + 1:Nat):Int)))=L.countP (fun x=>decide (x < (M:Int))) + L.count (M:Int):=by
 induction L with
 | nil=>rfl
 | cons x L ih=>
   have:=ih (fun y hy=>h y (by simp [hy]));rw [List.countP_cons,List.countP_cons,List.count_cons,this];have h0:=h x (by simp);by_cases e:x= (M:Int)
   ·subst e;have a1:decide ((M:Int) < ((M + 1:Nat):Int))=true:=by simp;omega
    have a2:decide ((M:Int) < (M:Int))=false:=by simp
    rw [a1,a2];simp;omega
   ·have a3:(x== (M:Int))=false:=by simp [e]
    by_cases l:x < (M:Int)
    ·have a1:decide (x < ((M + 1:Nat):Int))=true:=by simp;omega
     have a2:decide (x < (M:Int))=true:=by simp [l]
     rw [a1,a2,a3];simp;omega
    ·have a1:decide (x < ((M + 1:Nat):Int))=false:=by simp;omega
     have a2:decide (x < (M:Int))=false:=by simp;omega
     rw [a1,a2,a3];simp
theorem Zfz {w:Za} (sh:Shp w) (n:Int):((List.range w.cells.length).foldl (Kh w n) (0,0)).1= ((YZ w n).length:Int)∧∀ h,YZ w n= [h] ->((List.range w.cells.length).foldl (Kh w n) (0,0)).2=h:=by
 have hl:=Zpf sh n;have hr:=ZbT sh n
 have key:∀ M,M <=w.cells.length ->((List.range M).foldl (Kh w n) (0,0)).1= ((YZ w n).countP (fun x=>decide (x < (M:Int))):Int)∧(((List.range M).foldl (Kh w n) (0,0)).1 ≠ 0 ->((List.range M).foldl (Kh w n) (0,0)).2 ∈ YZ w n):=by
  intro M
  induction M with
  | zero=>
    intro _
    have:(YZ w n).countP (fun x=>decide (x < ((0:Nat):Int)))=0:=by
     rw [List.countP_eq_zero];intro x hx;have:= (hr x hx).1;simp;omega
    rw [this];exact⟨rfl,fun h=>absurd rfl h⟩
  | succ M ih=>
    intro hM;obtain⟨i1,i2⟩:=ih (by omega);rw [List.range_succ,List.foldl_append];simp only [List.foldl_cons,List.foldl_nil];rw [Zn3 _ (fun x hx=>(hr x hx).1)];have hc:=KG (w:=w) (m:=M) (by omega) n;have hle:=List.countP_le_length (p:=fun x=>decide (x < (M:Int))) (l:=YZ w n);have hle2:=List.count_le_length (a:= (M:Int)) (l:=YZ w n);generalize (List.range M).foldl (Kh w n) (0,0)=q at i1 i2 ⊢;unfold Kh;rw [← hc];by_cases h0:(YZ w n).count (M:Int)=0
    ·have:decide ((((YZ w n).count (M:Int):Nat):Int) > 0)=false:=by simp [h0]
     rw [this,Cq0,h0];exact⟨i1,i2⟩
    ·have:decide ((((YZ w n).count (M:Int):Nat):Int) > 0)=true:=decide_eq_true (by omega);rw [this,Cq1];refine⟨?_,fun _=>?_⟩
     ·show ZF (q.1 + _)=_;rw [i1,YX] <;> omega
     ·have hp:0 < (YZ w n).count (M:Int):=Nat.pos_of_ne_zero h0;exact List.count_pos_iff.1 hp
 obtain⟨k1,k2⟩:=key w.cells.length (Nat.le_refl _)
 have e:(YZ w n).countP (fun x=>decide (x < (w.cells.length:Int)))= (YZ w n).length:=by
  rw [List.countP_eq_length];intro x hx
  simpa using (hr x hx).2
 rw [e] at k1;refine⟨k1,fun h hh=>?_⟩;have:=k2 (by rw [k1,hh];simp);rw [hh] at this
 simpa using this
end Go.Proofs.Ytekpjgmhkkjhgaa
end
section
namespace Go.Proofs.Ytekpjgmhkkjhgaa
open Go.Lf
def ZsS (w:Za) (n:Int) (m:Nat):Bool:= (Ya w m n !=Xv w m n) || decide (Ya w m n > 1000000)
def QI (w:Za) (n:Int):Int×Int:= (List.range w.cells.length).foldl (Kh w n) (0,0)
def WU (w:Za) (n:Int):Bool:= !((List.range w.cells.length).any (ZsS w n)) && ((QI w n).1==1 && Km w n (QI w n).2)
def ZaC (w:Za):Bool:=Zcl w && (!(anyI (Zak w) 0 w.freed) && (ZdJ w && K6 w))
def WI (w:Za):Bool:=ZaC w && !((List.range w.names.toNat).any fun n=>Yn w n && !(WU w n))
theorem Zcm {w:Za} (h:ZaC w=true):Shp w:=by
 unfold ZaC at h;simp only [Ba0] at h;exact ZtE h.1 h.2.2.1 h.2.2.2
section
theorem Zuk {F:Nat} (hF:1000 <=F) {w:Za} (sm:Small w) (sh:Shp w) (n:Int):(((YZ w n).length:Int)==1)= ((QI w n).1==1)∧((YZ w n).length=1 ->YZ w n= [(QI w n).2]):=by
 obtain⟨h1,h2⟩:=Zfz sh n;unfold QI;refine⟨by rw [h1],fun hl=>?_⟩;obtain⟨h,hh⟩:=List.length_eq_one_iff.1 hl;rw [h2 h hh];exact hh
theorem Zq0 {F:Nat} (hF:1000 <=F) {w:Za} (sm:Small w):Zsx F w=some (WI w):=by
 unfold Zsx;have hf:=sm.freed;have hc:=sm.cells;have hn:=sm.notes
 have e0:((((((decide ((w.cells.length:Int) < 1)) || (decide ((w.cells.length:Int) > 6))) || (decide (w.names < 0))) || (decide (w.names > 12))) || (decide ((w.notes.length:Int) > 80))) || (decide ((w.freed.length:Int) > w.names)))= !(Zcl w):=by
  unfold Zcl;rw [Bool.eq_iff_iff];simp only [Bool.or_eq_true,decide_eq_true_eq,Bool.not_eq_true',← Bool.not_eq_true,Ba0];omega
 rw [e0];cases h0:Zcl w
 ·unfold WI ZaC;rw [h0];rfl
 ·have h0':=h0;unfold Zcl at h0';simp only [Ba0,decide_eq_true_eq] at h0';have en:((w.names.toNat:Nat):Int)=w.names:=by omega
  simp only [Bool.not_true,Cq0];refine(Y1 w.freed (fun v (_:Unit)=>v) (ZiU F w) (fun k x s next=>bif Zak w k x then some false else next ()) (fun _=>bif ZdJ w && K6 w then some (!((List.range w.names.toNat).any fun n=>Yn w n && !(WU w n))) else some false) (by omega) (fun k y s next hy hk=>?_) (fun s next=>?_) (by omega) ()).trans ?_
  ·have hk':k < w.freed.length:=by omega
   simp only [ZiU,Z0,hy,hk,decide_true,Cq1,Bq0,ZqV _ hk' (by omega)];unfold Zak;have a1:decide (y < 0)= !decide (0 <=y):=by rw [← decide_not];exact decide_eq_decide.2 (by omega)
   have a2:decide (y >=w.names)= !decide (y < w.names):=by rw [← decide_not];exact decide_eq_decide.2 (by omega)
   rw [a1,a2];cases decide (0 <=y) <;> cases decide (y < w.names) <;> cases decide ((k:Int) > 0) <;> rfl
  ·simp only [ZiU];rw [decide_eq_false (by omega),Cq0,Zsp hF sm _ rfl rfl rfl,Bq0];cases hr:ZdJ w && K6 w
   ·rfl
   ·simp only [Bool.not_true,Cq0,Cq1];rw [Ba0] at hr;have sh:=ZtE h0 hr.1 hr.2;obtain⟨cs,q1,q2⟩:=Zlf hF sm sh;have so:Ql w ⟨(w.cells.length:Int),w.names,cs,w.notes,w.freed⟩:= ⟨rfl,rfl,rfl,rfl,q2⟩
    rw [q1,Bq0,ZmC hF sm sh.szd so,Bq0];generalize hst:(⟨(w.cells.length:Int),w.names,cs,w.notes,w.freed⟩:Store)=st at so;refine(Zaa w.names.toNat (fun v (_:Unit)=>v) (ZiT F st (Za7 w)) (fun n s next=>bif Yn w n && !(WU w n) then some false else next ()) (fun _=>some true) (by omega) (fun n s next hnn=>?_) (fun s next=>?_) (by omega) ()).trans ?_
    ·have Zsb:(n:Int) < w.names:=by omega
     simp only [ZiT,so.n];rw [decide_eq_true Zsb,Cq1,ZfJ hF sm st so.n so.freed,Bq0];cases Yn w n
     ·rfl
     ·simp only [Bool.not_true,Cq0,Bool.true_and];rw [Zpd hF sm sh so Zsb,Bq0];obtain⟨n1,n2⟩:=Zuk hF sm sh (n:Int);have e5:(((YZ w n).length:Int) !=1)= !((QI w n).1==1):=by rw [← n1];rfl
      rw [e5,Bool.not_not];unfold WU;cases h1:(QI w n).1==1
      ·simp only [ZeS,Bq0,Bool.not_false,Bool.true_or,Cq1,Bool.false_and,Bool.and_false]
      ·rw [h1] at n1
       have hl:(YZ w n).length=1:=by
        have:=eq_of_beq n1;omega
       rw [n2 hl];have eg:Ye [(QI w n).2] 0=some (QI w n).2:=rfl;simp only [KH,eg,Bq0,Zo1 hF sm sh so,Bool.not_true,Bool.false_or,Bool.true_and];cases Km w n (QI w n).2
       ·simp only [Bool.not_false,Cq1,Bool.and_false]
       ·simp only [Bool.not_true,Cq0,Bool.and_true,Bool.not_not];refine(Zaa w.cells.length (fun v (_:Unit)=>v) (ZiS st (Za7 w) n next) (fun m s nx=>bif ZsS w n m then some false else nx ()) (fun _=>next (ZF ((n:Int) + 1))) (by omega) (fun m s nx hm=>?_) (fun s nx=>?_) (by omega) ()).trans ?_
        ·simp only [ZiS,so.m];obtain⟨g1,g2⟩:=ZhP sh.szd hm Zsb;rw [decide_eq_true (by omega),Cq1];have p1:QG (Za7 w).1 ⟨(m:Int),(n:Int)⟩ 0=some (Ya w m n):=by rw [← g1];rfl
         have p2:QG (Za7 w).2 ⟨(m:Int),(n:Int)⟩ 0=some (Xv w m n):=by rw [← g2];rfl
         simp only [p1,p2,Bq0,ZkC];unfold ZsS;cases Ya w m n !=Xv w m n <;> rfl
        ·simp only [ZiS,so.m,ZiR];rw [decide_eq_false (by omega),Cq0]
        ·rw [Zac (r:=some false) (fun _ m=>ZsS w n m) (fun _ _ _ _=>rfl),Zfd]
    ·simp only [ZiT,so.n];rw [decide_eq_false (by omega),Cq0]
    ·rw [Zac (r:=some false) (fun _ (n:Nat)=>Yn w n && !(WU w n)) (fun _ _ _ _=>rfl),Zfd];cases (List.range w.names.toNat).any fun n=>Yn w n && !(WU w n) <;> rfl
  ·rw [Zac (r:=some false) (Zak w) (fun k _ _ _=>by rw [Nat.zero_add])];unfold WI ZaC;rw [h0];cases anyI (Zak w) 0 w.freed
   ·cases ZdJ w && K6 w <;> rfl
   ·rfl
end
end Go.Proofs.Ytekpjgmhkkjhgaa
end
section
namespace Go.Proofs.Ytekpjgmhkkjhgaa
open Go.Lf
abbrev Row:=List Zb
def U7 (r:Row):Prop:=r.Pairwise fun a b=>a.name < b.name
def Kr (r:Row) (n:Int):Option Zb:=r.find? fun c=>c.name==n
def put (c:Zb):Row ->Row
 | []=>[c]
 | d::r=>if d.name < c.name then d::put c r else if d.name=c.name then c::r else c::d::r
def rmv (n:Int) (r:Row):Row:=r.filter fun c=>!(c.name==n)
theorem Qg {r:Row} {n:Int} {c:Zb} (h:Kr r n=some c):c.name=n:=by
 unfold Kr at h;have:=List.find?_some h;simpa using this
theorem ZbW {r:Row} {n:Int} {c:Zb} (h:Kr r n=some c):c ∈ r:=List.mem_of_find?_eq_some h
theorem Xn (d:Zb) (r:Row) (n:Int):Kr (d::r) n=if d.name=n then some d else Kr r n:=by
 unfold Kr;rw [List.find?_cons];by_cases h:d.name=n
 ·have:(d.name==n)=true:=by simp [h]
  rw [this,if_pos h]
 ·have:(d.name==n)=false:=by simp [h]
  rw [this,if_neg h]
theorem Zyc (n:Int):Kr [] n=none:=rfl
theorem U7.tail {d:Zb} {r:Row} (s:U7 (d::r)):U7 r:= (List.pairwise_cons.1 s).2
theorem U7.head {d:Zb} {r:Row} (s:U7 (d::r)):∀ c ∈ r,d.name < c.name:= (List.pairwise_cons.1 s).1
theorem ZiF {r:Row} {n:Int} (h:∀ c ∈ r,n < c.name):Kr r n=none:=by
 unfold Kr;rw [List.find?_eq_none];intro c hc;have:=h c hc;simp;omega
theorem Zpu {r:Row} (s:U7 r) {c:Zb} (h:c ∈ r):Kr r c.name=some c:=by
 induction r with
 | nil=>simp at h
 | cons d r ih=>
   rw [Xn];rcases List.mem_cons.1 h with rfl | h
   ·rw [if_pos rfl]
   ·have:=s.head c h;rw [if_neg (by omega)];exact ih s.tail h
theorem ZaM (c:Zb) {r:Row} (s:U7 r) (n:Int):Kr (put c r) n=if n=c.name then some c else Kr r n:=by
 induction r with
 | nil=>rw [put,Xn,Zyc];by_cases h:n=c.name <;> simp [h];exact fun e=>h e.symm
 | cons d r ih=>
   unfold put;by_cases h1:d.name < c.name
   ·rw [if_pos h1,Xn,Xn,ih s.tail];by_cases h2:d.name=n
    ·rw [if_pos h2,if_pos h2,if_neg (by omega)]
    ·rw [if_neg h2,if_neg h2]
   ·rw [if_neg h1];by_cases h2:d.name=c.name
    ·rw [if_pos h2,Xn,Xn];by_cases h3:n=c.name
     ·rw [if_pos h3.symm,if_pos h3]
     ·rw [if_neg (fun e=>h3 e.symm),if_neg h3,if_neg (by omega)]
    ·rw [if_neg h2,Xn];by_cases h3:n=c.name
     ·rw [if_pos h3.symm,if_pos h3]
     ·rw [if_neg (fun e=>h3 e.symm),if_neg h3]
theorem Zxw {c x:Zb} {r:Row} (h:x ∈ put c r):x=c∨x ∈ r:=by
 induction r with
 | nil=>simp [put] at h;exact .inl h
 | cons d r ih=>
   unfold put at h;split at h
   ·rcases List.mem_cons.1 h with rfl | h
    ·exact .inr (by simp)
    ·exact(ih h).imp id fun z=>by simp [z]
   ·split at h
    ·rcases List.mem_cons.1 h with rfl | h
     ·exact .inl rfl
     ·exact .inr (by simp [h])
    ·rcases List.mem_cons.1 h with rfl | h
     ·exact .inl rfl
     ·exact .inr h
theorem U7.put {c:Zb} {r:Row} (s:U7 r):U7 (put c r):=by
 induction r with
 | nil=>exact List.pairwise_singleton _ _
 | cons d r ih=>
   unfold Go.Proofs.Ytekpjgmhkkjhgaa.put;by_cases h1:d.name < c.name
   ·rw [if_pos h1];refine List.pairwise_cons.2 ⟨fun x hx=>?_,ih s.tail⟩;rcases Zxw hx with rfl | hx
    ·exact h1
    ·exact s.head x hx
   ·rw [if_neg h1];by_cases h2:d.name=c.name
    ·rw [if_pos h2];exact List.pairwise_cons.2 ⟨fun x hx=>by have:=s.head x hx;omega,s.tail⟩
    ·rw [if_neg h2];refine List.pairwise_cons.2 ⟨fun x hx=>?_,s⟩;rcases List.mem_cons.1 hx with rfl | hx
     ·omega
     ·have:=s.head x hx;omega
theorem ZqW (n:Int) (r:Row) (k:Int):Kr (rmv n r) k=if k=n then none else Kr r k:=by
 induction r with
 | nil=>simp [rmv,Kr]
 | cons d r ih=>
   unfold rmv at ih ⊢;rw [List.filter_cons];by_cases h:d.name=n
   ·have:(!(d.name==n))=false:=by simp [h]
    rw [if_neg (by simp [h]),ih,Xn];by_cases hk:k=n
    ·rw [if_pos hk,if_pos hk]
    ·rw [if_neg hk,if_neg hk,if_neg (by omega)]
   ·rw [if_pos (by simp [h]),Xn,ih,Xn];by_cases hk:k=n
    ·rw [if_pos hk,if_pos hk,if_neg (by omega)]
    ·rw [if_neg hk,if_neg hk]
theorem U7.rmv {r:Row} (s:U7 r) (n:Int):U7 (rmv n r):=List.Pairwise.filter _ s
theorem U7.ext:∀ {r q:Row},U7 r ->U7 q ->(∀ n,Kr r n=Kr q n) ->r=q
 | [],[],_,_,_=>rfl
 | [],d::q,_,_,h=>by have:=h d.name;rw [Xn,if_pos rfl] at this;simp [Kr] at this
 | d::r,[],_,_,h=>by have:=h d.name;rw [Xn,if_pos rfl] at this;simp [Kr] at this
 | d::r,e::q,s,t,h=>by
   have hde:d=e:=by
    have h1:=h d.name;have h2:=h e.name;rw [Xn,if_pos rfl,Xn] at h1;rw [Xn,Xn,if_pos rfl] at h2;by_cases hn:e.name=d.name
    ·rw [if_pos hn] at h1;exact Oi0 h1
    ·rw [if_neg hn] at h1;rw [if_neg (fun z=>hn z.symm)] at h2;have m1:=t.head d (ZbW h1.symm);have m2:=s.head e (ZbW h2);omega
   subst hde;congr 1;refine U7.ext s.tail t.tail fun n=>?_
   have:=h n;rw [Xn,Xn] at this;by_cases hn:d.name=n
   ·rw [ZiF (fun c hc=>by have:=s.head c hc;omega),ZiF (fun c hc=>by have:=t.head c hc;omega)]
   ·rwa [if_neg hn,if_neg hn] at this
def blank (n:Int):Zb:= ⟨n,false,-1,0,0,false⟩
def look (r:Row) (n:Int):Zb:= (Kr r n).getD (blank n)
def cw (w:Za) (m:Nat) (r:Row):Za:= ⟨w.cells.set m r,w.notes,w.names,w.freed⟩
theorem set_self {α:Type} {l:List α} {m:Nat} {x:α} (h:l[m]? =some x):l.set m x=l:=by
 apply List.ext_getElem?;intro k;rw [List.getElem?_set];by_cases hk:m=k
 ·subst hk;have:= (Li0 h).1;rw [if_pos rfl,if_pos this,h]
 ·rw [if_neg hk]
def JV (n:Int):List Int ->List Int
 | []=>[n]
 | x::l=>if x > n then n::x::l else x::JV n l
def XD (w:Za) (m:Nat) (n:Int) (c:Zb):Za:=
 bif c.use || (c.out !=0) then w else
  ⟨w.cells.set m (rmv n (rowOf w m)),bif c.root then w.notes else bif decide (c.from_ >=0) then w.notes ++ [⟨2,c.from_,n,0,c.has⟩] else w.notes,w.names,bif c.root then JV n w.freed else w.freed⟩
theorem J7 (r:Row) (n:Int):(look r n).name=n:=by
 unfold look;cases h:Kr r n with
 | none=>rfl
 | some c=>exact Qg h
theorem Zxn {r:Row} (s:U7 r) {c d:Zb} (h:c.name=d.name):put c (put d r)=put c r:=by
 refine U7.ext s.put.put s.put fun k=>?_
 rw [ZaM _ s.put,ZaM _ s,ZaM _ s];by_cases hk:k=c.name
 ·rw [if_pos hk,if_pos hk]
 ·rw [if_neg hk,if_neg hk,if_neg (by omega)]
theorem JE {w:Za} {m:Nat} (hm:m < w.cells.length) (r:Row):rowOf (cw w m r) m=r:=by
 unfold rowOf cw;simp [hm]
theorem Zhs {c:Zb} (r:Row):(put c r).length <=r.length + 1:=by
 induction r with
 | nil=>simp [put]
 | cons d r ih=>
   unfold put;split
   ·simp;omega
   ·split
    ·simp
    ·simp
def sent (w:Za) (x:Zd):Za:= ⟨w.cells,w.notes ++ [x],w.names,w.freed⟩
def XV (w:Za) (m:Nat) (n Zv x:Int):Za:=
 bif Zv != (m:Int) then sent w ⟨2,Zv,n,0,x⟩ else cw w m (put {look (rowOf w m) n with out:=ZF ((look (rowOf w m) n).out - x)} (rowOf w m))
theorem Small.cw {w:Za} (s:Small w) {m:Nat} {r:Row} (h:r.length < 1000):Small (cw w m r):=by
 refine⟨by show(w.cells.set m r).length < 1000;simp;exact s.cells,fun q hq=>?_,s.notes,s.freed⟩;have hq:q ∈ w.cells.set m r:=hq;rcases List.mem_or_eq_of_mem_set hq with z | z
 ·exact s.rows q z
 ·rw [z];exact h
def Jc (w:Za) (x:Zd):Za:=
 let m:=x.Zv.toNat
 let r:=rowOf w m
 let c:=look r x.name
 let a:=cw w m
 bif x.kind==1 then
  bif(!c.root && (c.from_==-1)) && (x.via !=x.Zv) then a (put ⟨c.name,c.root,x.via,x.w,c.out,true⟩ r)
  else bif(!c.root && decide (c.from_ >=0)) && (c.from_==x.via) then a (put ⟨c.name,c.root,c.from_,ZF (c.has + x.w),c.out,true⟩ r)
  else XV (a (put ⟨c.name,c.root,c.from_,c.has,c.out,true⟩ r)) m x.name x.via x.w
 else bif x.kind==2 then
  let d:Zb:= ⟨c.name,c.root,c.from_,c.has,ZF (c.out - x.w),c.use⟩
  XD (a (put d r)) m x.name d
 else
  let d:Zb:= ⟨c.name,true,-1,0,ZF (c.out + 16),c.use⟩
  let b:=a (put d r)
  let e:=bif decide (c.from_ >=0) then XV b m x.name c.from_ c.has else b
  XD e m x.name (look (rowOf e m) x.name)
theorem Yq {w:Za} {m:Nat} {r:Row}:(cw w m r).cells.length=w.cells.length:=by unfold cw;simp
theorem ZHv (w:Za) (m:Nat) (r q:Row):cw (cw w m r) m q=cw w m q:=by unfold cw;simp
theorem Zds {w:Za} {m:Nat} (hm:m < w.cells.length) (n Zv x:Int):rowOf (XV w m n Zv x) m=rowOf w m∨rowOf (XV w m n Zv x) m=put {look (rowOf w m) n with out:=ZF ((look (rowOf w m) n).out - x)} (rowOf w m):=by
 unfold XV;cases (Zv != (m:Int))
 ·right;rw [Cq0,JE hm]
 ·left;rfl
theorem ZsV {w:Za} {m:Nat} (n Zv x:Int):(XV w m n Zv x).cells.length=w.cells.length:=by
 unfold XV;cases (Zv != (m:Int))
 ·rw [Cq0,Yq]
 ·rfl
theorem Zof {w:Za} {m:Nat} (s:Small w) (hr:(rowOf w m).length < 990) (hn:w.notes.length < 990) (n Zv x:Int):Small (XV w m n Zv x):=by
 unfold XV;cases (Zv != (m:Int))
 ·rw [Cq0];exact s.cw (by have:=Zhs (c:= {look (rowOf w m) n with out:=ZF ((look (rowOf w m) n).out - x)}) (rowOf w m);omega)
 ·exact⟨s.cells,s.rows,by show(w.notes ++ [_]).length < 1000;simp;omega,s.freed⟩
section
variable {F:Nat} {w:Za} {m:Nat} {n:Int}
theorem ZiG (hm:m < w.cells.length) (Yx:U7 (rowOf w m)) {d:Zb} (hd:d.name=n):Kr (rowOf (cw w m (put d (rowOf w m))) m) n=some d:=by
 rw [JE hm,ZaM _ Yx,if_pos hd.symm]
theorem Q9 {r:Row} {d:Zb} (h:Kr r n=some d):look r n=d:=by unfold look;rw [h];rfl
structure At1 (w:Za) (m:Nat) (n:Int):Prop where
 sm:Small w
 hm:m < w.cells.length
 Yx:U7 (rowOf w m)
 rl:(rowOf w m).length < 950
 nl:w.notes.length < 950
 has:∃ d,Kr (rowOf w m) n=some d
theorem At1.put (sm:Small w) (hm:m < w.cells.length) (Yx:U7 (rowOf w m)) (hr:(rowOf w m).length < 940) (hn:w.notes.length < 940) {d:Zb} (hd:d.name=n):At1 (cw w m (put d (rowOf w m))) m n:=by
 have hl:=Zhs (c:=d) (rowOf w m);exact⟨sm.cw (by omega),by rw [Yq];exact hm,by rw [JE hm];exact Yx.put,by rw [JE hm];omega,by show w.notes.length < 950;omega,d,ZiG hm Yx hd⟩
theorem Zv6 (sm:Small w) (hm:m < w.cells.length) (Yx:U7 (rowOf w m)) (hr:(rowOf w m).length < 945) (hn:w.notes.length < 945) (Zv x:Int) (hd:∃ d,Kr (rowOf w m) n=some d):At1 (XV w m n Zv x) m n:=by
 refine⟨Zof sm (by omega) (by omega) n Zv x,by rw [ZsV];exact hm,?_,?_,?_,?_⟩
 ·rcases Zds hm n Zv x with h | h <;> rw [h]
  ·exact Yx
  ·exact Yx.put
 ·have hl:=Zhs (c:= {look (rowOf w m) n with out:=ZF ((look (rowOf w m) n).out - x)}) (rowOf w m);rcases Zds hm n Zv x with h | h <;> rw [h] <;> omega
 ·unfold XV;cases (Zv != (m:Int))
  ·rw [Cq0];show w.notes.length < 950;omega
  ·rw [Cq1];show(w.notes ++ [_]).length < 950;simp;omega
 ·rcases Zds hm n Zv x with h | h <;> rw [h]
  ·exact hd
  ·exact⟨_,by rw [ZaM _ Yx,if_pos (by exact(J7 _ _).symm)]⟩
end
end Go.Proofs.Ytekpjgmhkkjhgaa
end
section
namespace Go.Proofs.Ytekpjgmhkkjhgaa
open Go.Lf
section
variable {w:Za} {st:Store} {m:Nat} {n:Int}
theorem Y9 (w:Za) (a:Nat) (b:Int):cellOf w a b=Kr (rowOf w a) b:=rfl
theorem Ql.get (s:Ql w st) (hm:m < w.cells.length):YV st.cells ⟨m,n⟩=Kr (rowOf w m) n:=by
 rw [s.cells,if_pos (by omega),Int.toNat_natCast,Y9]
theorem Ze7 (s:Ql w st) (hm:m < w.cells.length):Zg7 st m n=some (look (rowOf w m) n):=by
 unfold Zg7 ZaH;rw [s.get hm];cases h:Kr (rowOf w m) n with
 | none=>
   rw [show look (rowOf w m) n=blank n by unfold look;rw [h];rfl]
   rfl
 | some c=>
   rw [Q9 h]
   rfl
theorem Kg {a:Nat} (h:a ≠ m) (r:Row):rowOf (cw w m r) a=rowOf w a:=by
 unfold rowOf cw;simp only;rw [List.getElem?_set_ne (fun z=>h z.symm)]
theorem MapOf.put {l:List (Ze×Zb)} (s:MapOf w l) (hm:m < w.cells.length) (Yx:U7 (rowOf w m)) {c:Zb} (hc:c.name=n):MapOf (cw w m (put c (rowOf w m))) (YL l ⟨m,n⟩ c):=by
 intro a b;rw [WM,Yq,s a b];by_cases ha:0 <=a∧a < (w.cells.length:Int)
 ·rw [if_pos ha,if_pos ha,Y9,Y9];by_cases he:a= (m:Int)
  ·subst he;rw [Int.toNat_natCast,JE hm,ZaM _ Yx];by_cases hb:b=n
   ·subst hb;rw [if_pos rfl,if_pos hc.symm]
   ·rw [if_neg (fun z=>hb (by injection z)),if_neg (fun z=>hb (z.trans hc))]
  ·rw [if_neg (fun z=>he (by injection z)),Kg (by omega)]
 ·rw [if_neg ha,if_neg ha,if_neg (fun z=>ha (by injection z with z1 _;rw [z1];omega))]
theorem Ql.put (s:Ql w st) (hm:m < w.cells.length) (Yx:U7 (rowOf w m)) {c:Zb} (hc:c.name=n):Ql (cw w m (Go.Proofs.Ytekpjgmhkkjhgaa.put c (rowOf w m))) ⟨st.machines,st.names,YL st.cells ⟨m,n⟩ c,st.notes,st.freed⟩:=
 ⟨by rw [Yq];exact s.m,s.n,s.notes,s.freed,s.cells.put hm Yx hc⟩
theorem Ql.sent (s:Ql w st) (hn:w.notes.length < 1000) (x:Zd):∃ st',ZaP st x=some st'∧Ql (sent w x) st':=by
 unfold ZaP;rw [s.notes,XJ (by simp;omega) (by decide)];exact⟨_,rfl,s.m,s.n,rfl,s.freed,s.cells⟩
theorem ZsT (s:Ql w st) (hm:m < w.cells.length) (Yx:U7 (rowOf w m)) (hn:w.notes.length < 1000) (Zv x:Int):∃ st',Zg6 st m n Zv x=some st'∧Ql (XV w m n Zv x) st':=by
 unfold Zg6 XV;cases (Zv != (m:Int))
 ·simp only [Cq0];rw [Ze7 s hm,Bq0];exact⟨_,rfl,s.put hm Yx (by exact J7 _ _)⟩
 ·simp only [Cq1];obtain⟨st',h1,h2⟩:=s.sent hn ⟨2,Zv,n,0,x⟩;rw [h1];exact⟨st',rfl,h2⟩
end
end Go.Proofs.Ytekpjgmhkkjhgaa
end
section
namespace Go.Proofs.Ytekpjgmhkkjhgaa
open Go.Lf
section
variable {κ ν:Type} [DecidableEq κ]
def UK (l:List (κ×ν)):Prop:= (l.map (·.1)).Nodup
theorem UK.nil:UK ([]:List (κ×ν)):=List.nodup_nil
theorem UK.YL {l:List (κ×ν)} (u:UK l) (k:κ) (x:ν):UK (YL l k x):=by
 unfold Go.Lf.YL;cases e:Yc l k with
 | some q=>
   unfold UK at u ⊢
   have:(l.modify q.1 fun p=>(p.1,x)).map (·.1)=l.map (·.1):=by
    apply List.ext_getElem?;intro i;rw [List.getElem?_map,List.getElem?_map,List.getElem?_modify];cases l[i]? with
    | none=>rfl
    | some p=>simp only [Option.map_some];split <;> rfl
   dsimp only;rw [this];exact u
 | none=>
   unfold UK at u ⊢;dsimp only;rw [List.map_append,List.nodup_append];refine⟨u,by simp,fun a ha b hb=>?_⟩;simp at hb;subst hb;obtain⟨p,hp,rfl⟩:=List.mem_map.1 ha;exact ZbR.1 e p hp
theorem UK.Zbf {l:List (κ×ν)} (u:UK l) (k:κ):UK (Zbf l k):=by
 unfold Go.Lf.Zbf;cases e:Yc l k with
 | some q=>
   unfold UK at u ⊢;dsimp only;exact u.sublist ((List.eraseIdx_sublist l q.1).map _)
 | none=>exact u
theorem K8 (p:κ×ν) (l:List (κ×ν)) (k:κ):Yc (p::l) k=if p.1=k then some (0,p.2) else(Yc l k).map fun q=>(q.1 + 1,q.2):=rfl
theorem Zkq:∀ {l:List (κ×ν)},UK l ->∀ k k':κ,YV (Zbf l k) k'=if k'=k then none else YV l k'
 | [],_,k,k'=>by simp [Zbf,YV,Yc]
 | p::l,u,k,k'=>by
   have u':p.1 ∉ l.map (·.1)∧UK l:=List.nodup_cons.1 u;have ih:=Zkq u'.2 k k';unfold Zbf YV at ih ⊢;rw [K8 p l k,K8 p l k'];have hmm:∀ o:Option (Nat×ν),Option.map (·.2) (Option.map (fun q=>(q.1 + 1,q.2)) o)=Option.map (·.2) o:=fun o=>by cases o <;> rfl
   by_cases hp:p.1=k
   ·rw [if_pos hp];show Option.map _ (Yc ((p::l).eraseIdx 0) k')=_;rw [List.eraseIdx_cons_zero];by_cases hk:k'=k
    ·rw [if_pos hk,hk];have:Yc l k=none:=ZbR.2 fun q hq e=>u'.1 (List.mem_map.2 ⟨q,hq,e.trans hp.symm⟩)
     rw [this];rfl
    ·rw [if_neg hk,if_neg (fun z=>hk (z.symm.trans hp)),hmm]
   ·rw [if_neg hp];cases e:Yc l k with
    | none=>
      rw [e] at ih;dsimp only [Option.map_none] at ih ⊢;rw [K8];by_cases hk:k'=k
      ·rw [if_pos hk] at ih ⊢;rw [if_neg (fun z=>hp (z.trans hk)),hmm];exact ih
      ·rw [if_neg hk]
    | some q=>
      rw [e] at ih;dsimp only [Option.map_some] at ih ⊢;rw [List.eraseIdx_cons_succ,K8];by_cases h3:p.1=k'
      ·rw [if_pos h3,if_neg (fun z=>hp (h3.trans z)),if_pos h3]
      ·rw [if_neg h3,if_neg h3,hmm,hmm];exact ih
end
theorem MapOf.rmv {w:Za} {m:Nat} {n:Int} {l:List (Ze×Zb)} (s:MapOf w l) (u:UK l) (hm:m < w.cells.length):MapOf (cw w m (rmv n (rowOf w m))) (Zbf l ⟨m,n⟩):=by
 intro a b;rw [Zkq u,Yq,s a b];by_cases ha:0 <=a∧a < (w.cells.length:Int)
 ·rw [if_pos ha,if_pos ha,Y9,Y9];by_cases he:a= (m:Int)
  ·subst he;rw [Int.toNat_natCast,JE hm,ZqW];by_cases hb:b=n
   ·subst hb;rw [if_pos rfl,if_pos rfl]
   ·rw [if_neg (fun z=>hb (by injection z)),if_neg hb]
  ·rw [if_neg (fun z=>he (by injection z)),Kg (by omega)]
 ·rw [if_neg ha,if_neg ha];split <;> rfl
end Go.Proofs.Ytekpjgmhkkjhgaa
end
section
namespace Go.Proofs.Ytekpjgmhkkjhgaa
open Go.Lf
def Asc (l:List Int):Prop:=l.Pairwise (· <=·)
theorem Zxz (a b:Int):Zg4 a b=some (decide (a < b)):=by
 unfold Zg4 ZkI;simp [gd]
theorem Zit {x:Int}:∀ {l:List Int},(∀ y ∈ l,y <=x) ->JV x l=l ++ [x]
 | [],_=>rfl
 | y::l,h=>by
   have:=h y (by simp);rw [JV,if_neg (by omega),Zit (fun z hz=>h z (by simp [hz]))];rfl
theorem Zku {x y:Int} (h:x < y):∀ {l:List Int},JV x (l ++ [y])=JV x l ++ [y]
 | []=>by
   have h':y > x:=h;show(if y > x then x::y:: [] else y::JV x [])=_;rw [if_pos h'];rfl
 | z::l=>by
   rw [List.cons_append,JV,JV];by_cases hz:z > x
   ·rw [if_pos hz,if_pos hz];rfl
   ·rw [if_neg hz,if_neg hz,Zku h];rfl
theorem ZeP {x z:Int}:∀ {l:List Int},z ∈ JV x l ->z=x∨z ∈ l
 | [],h=>by simp [JV] at h;exact .inl h
 | y::l,h=>by
   rw [JV] at h;split at h
   ·rcases List.mem_cons.1 h with h | h
    ·exact .inl h
    ·exact .inr h
   ·rcases List.mem_cons.1 h with h | h
    ·exact .inr (by simp [h])
    ·exact(ZeP h).imp id fun q=>by simp [q]
theorem Asc.JV {x:Int}:∀ {l:List Int},Asc l ->Asc (JV x l)
 | [],_=>List.pairwise_singleton _ _
 | y::l,s=>by
   have s':=List.pairwise_cons.1 s;unfold Go.Proofs.Ytekpjgmhkkjhgaa.JV;by_cases h:y > x
   ·rw [if_pos h];refine List.pairwise_cons.2 ⟨fun z hz=>?_,s⟩;rcases List.mem_cons.1 hz with rfl | hz
    ·omega
    ·have:=s'.1 z hz;omega
   ·rw [if_neg h];refine List.pairwise_cons.2 ⟨fun z hz=>?_,Asc.JV s'.2⟩;rcases ZeP hz with rfl | hz
    ·omega
    ·exact s'.1 z hz
theorem Zis (x:Int):∀ l:List Int,(JV x l).length=l.length + 1
 | []=>rfl
 | y::l=>by
   rw [JV];split
   ·rfl
   ·simp [Zis x l]
theorem ZqU {α:Type} (p s:List α) (x:α):(p ++ x::s)[p.length]? =some x:=by simp
theorem Zo4 (i:Int) (next:Int×List Int ->Option (List Int)):∀ (k:Nat) (pre suf:List Int) (x:Int) (F:Nat),pre.length=k ->k < F ->k < 100000 ->Asc pre ->loop F (ZhD 0 i next) ((k:Int),pre ++ x::suf)=next (ZF (i + 1),JV x pre ++ suf):=by
 intro k
 induction k with
 | zero=>
   intro pre suf x F hp hF _ _;obtain⟨F,rfl⟩:=Ne0 (n:=F) (by omega);have:pre= []:=List.eq_nil_of_length_eq_zero hp;subst this;rw [Yl]
   rfl
 | succ k ih=>
   intro pre suf x F hp hF hk hs;obtain⟨F,rfl⟩:=Ne0 (n:=F) (by omega)
   obtain⟨p,y,rfl⟩:∃ p y,pre=p ++ [y]:=by
    refine⟨pre.dropLast,pre.getLast (by intro z;rw [z] at hp;simp at hp),?_⟩;exact(List.dropLast_concat_getLast _).symm
   have hpl:p.length=k:=by simpa using hp
   have hs':=List.pairwise_append.1 hs;rw [Yl];have e0:(p ++ [y]) ++ x::suf=p ++ y::x::suf:=by simp
   rw [e0]
   have g1:Ye (p ++ y::x::suf) ((k + 1:Nat):Int)=some x:=by
    rw [Z0,← hpl];rw [List.getElem?_append_right (by omega)];simp
   have g2:Ye (p ++ y::x::suf) (k:Int)=some y:=by rw [Z0,← hpl];exact ZqU _ _ _
   have ew:ZF (((k + 1:Nat):Int) - 1)= (k:Int):=by rw [ZhT (by omega) (by omega)];rfl
   have hgt:decide (((k + 1:Nat):Int) > 0)=true:=decide_eq_true (by omega);simp only [ZhD,hgt,gd,Cq1,g1,g2,ew,Bq0,Zxz,Bool.true_and];cases hlt:decide (x < y)
   ·rw [Cq0];have hle:y <=x:=by simpa using hlt
    rw [Zit (fun z hz=>by
     rcases List.mem_append.1 hz with hz | hz
     ·have:=hs'.2.2 z hz y (by simp);omega
     ·simp at hz;omega)]
    simp
   ·rw [Cq1];have hxy:x < y:=by simpa using hlt
    have s1:JD (p ++ y::x::suf) ((k + 1:Nat):Int) y=p ++ y::y::suf:=by
     unfold JD;rw [Int.toNat_natCast,← hpl,List.set_append_right _ _ (by omega)];simp
    have g3:Ye (p ++ y::y::suf) (k:Int)=some y:=by rw [Z0,← hpl];exact ZqU _ _ _
    have s2:JD (p ++ y::y::suf) (k:Int) x=p ++ x::y::suf:=by
     unfold JD;rw [Int.toNat_natCast,← hpl,List.set_append_right _ _ (by omega)];simp
    rw [s1,g3,Bq0,s2,ih p (y::suf) x F hpl (by omega) (by omega) hs'.1,Zku hxy];simp
theorem Zid {F:Nat} (hF:100 <=F):∀ (d:Nat) (S rest:List Int) (n F':Nat),rest.length=d ->S.length + d=n ->n <=90 ->d < F' ->Asc S ->loop F' (Zdl F 0 n) ((S.length:Int),S ++ rest)=some (rest.foldl (fun S x=>JV x S) S):=by
 intro d
 induction d with
 | zero=>
   intro S rest n F' hr hn hn9 hF' hs;obtain⟨F',rfl⟩:=Ne0 (n:=F') (by omega);have:rest= []:=List.eq_nil_of_length_eq_zero hr;subst this;rw [Yl];simp only [Zdl];rw [decide_eq_false (by omega),Cq0];simp
 | succ d ih=>
   intro S rest n F' hr hn hn9 hF' hs;obtain⟨F',rfl⟩:=Ne0 (n:=F') (by omega)
   match rest,hr with
   | x::r,hr=>
     rw [Yl];simp only [Zdl];rw [decide_eq_true (by omega),Cq1,Zo4 _ _ S.length S r x F rfl (by omega) (by omega) hs,Xk (by omega),List.foldl_cons];have:=ih (JV x S) r n F' (by simpa using hr) (by rw [Zis];omega) hn9 (by omega) hs.JV;rw [Zis] at this;exact this
theorem ZnB:∀ (l S:List Int),Asc (S ++ l) ->l.foldl (fun S x=>JV x S) S=S ++ l
 | [],S,_=>by simp
 | x::l,S,h=>by
   rw [List.foldl_cons,Zit (fun y hy=>(List.pairwise_append.1 h).2.2 y hy x (by simp)),ZnB l _ (by simpa using h)];simp
theorem Zxc {F:Nat} (hF:100 <=F) {l:List Int} (hl:l.length <=11) (hs:Asc l) (n:Int):ZnH F (l ++ [n])=some (JV n l):=by
 have hlen:(l ++ [n]).length=l.length + 1:=by simp
 unfold ZnH ZvL
 have e1:∃ q,Qf (IntKind.wrap .u64 ((l ++ [n]).length:Int))=some q:=by
  rw [hlen];have hw:∀ k:Nat,k <=12 ->IntKind.wrap .u64 (k:Int)= (k:Int):=by decide
  have:=hw (l.length + 1) (by omega);rw [this];unfold Qf;rw [decide_eq_true (by omega),decide_eq_true (by omega)];exact⟨_,rfl⟩
 obtain⟨q,e1⟩:=e1;rw [e1,Bq0];unfold Zq8;obtain⟨F',rfl⟩:=Ne0 (n:=F) (by omega);rw [Yl];simp only [Zl3];have ew:ZF (((l ++ [n]).length:Int) - 0)= ((l.length + 1:Nat):Int):=by rw [hlen];exact YX (by omega) (by omega)
 rw [ew,decide_eq_true (by omega),Cq1];unfold Zq7;have e2:ZF ((0:Int) + 1)=1:=by rw [show(0:Int) + 1=1 from rfl];exact YX (by omega) (by omega)
 rw [e2]
 have key:loop (F' + 1) (Zdl (F' + 1) 0 ((l ++ [n]).length:Int)) (1,l ++ [n])=some (JV n l):=by
  match l,hl,hs,hlen with
  | [],_,_,_=>exact Zid (F:=F' + 1) hF 0 [n] [] 1 (F' + 1) rfl rfl (by omega) (by omega) (List.pairwise_singleton _ _)
  | x::r,hl,hs,hlen=>
    have:=Zid (F:=F' + 1) hF (r.length + 1) [x] (r ++ [n]) ((x::r ++ [n]).length) (F' + 1) (by simp) (by simp;omega) (by simp at hl ⊢;omega) (by simp at hl;omega) (List.pairwise_singleton _ _);rw [List.foldl_append,ZnB r [x] hs] at this;exact this
 rw [key];rfl
def CI (c:Zb):Prop:= (c.from_ >=0∧c.root=false)∨(c.from_=-1∧c.has=0)
theorem ZvO {c:Zb} {n:Int} (hn:c.name=n) (hu:c.use=false) (ho:c.out=0) (hr:c.root=false) (hi:CI c):ZaQ c (blank n)= !decide (c.from_ >=0):=by
 unfold ZaQ blank;rcases hi with⟨h,_⟩ | ⟨h1,h2⟩
 ·rw [decide_eq_true h];have:(c.from_==-1)=false:=by simp;omega
  simp [this]
 ·rw [decide_eq_false (by omega)];simp [hn,hu,ho,hr,h1,h2]
theorem ZaE {F:Nat} (hF:100 <=F) {w:Za} {st:Store} {m:Nat} {n:Int} (s:Ql w st) (u:UK st.cells) (hm:m < w.cells.length) (hnl:w.notes.length < 1000) {c:Zb} (hc:Kr (rowOf w m) n=some c) (hi:CI c) (ha:Asc w.freed) (hf:w.freed.length <=11):
 ∃ st',Zg5 F st m n=some st'∧Ql (XD w m n c) st'∧UK st'.cells:=by
 have hcn:=Qg hc;unfold Zg5 XD;rw [Ze7 s hm,Q9 hc,Bq0];cases hu:(c.use || (c.out !=0))
 ·simp only [Cq0]
  have hu1:c.use=false:=by
   cases h:c.use
   ·rfl
   ·rw [h] at hu;cases hu
  have hu2:c.out=0:=by
   rw [hu1,Bool.false_or] at hu
   simpa using hu
  have hmap:MapOf (cw w m (rmv n (rowOf w m))) (Zbf st.cells ⟨m,n⟩):=s.cells.rmv u hm;cases hr:c.root
  ·simp only [Cq0];unfold ZnI;rw [Bq0];have he:=ZvO hcn hu1 hu2 hr hi;unfold blank at he;rw [he];cases hfr:decide (c.from_ >=0)
   ·refine⟨_,rfl,⟨by show st.machines=_;rw [s.m];simp,s.n,s.notes,s.freed,hmap⟩,u.Zbf _⟩
   ·simp only [Bool.not_true,Bool.not_false,Cq1];unfold ZaP;dsimp only;rw [s.notes,XJ (by simp;omega) (by decide)];refine⟨_,rfl,⟨by show st.machines=_;rw [s.m];simp,s.n,rfl,s.freed,hmap⟩,u.Zbf _⟩
  ·simp only [Cq1];rw [s.freed,XJ (by simp;omega) (by decide),Bq0,Zxc hF hf ha,Bq0];refine⟨_,rfl,⟨by show st.machines=_;rw [s.m];simp,s.n,s.notes,rfl,hmap⟩,u.Zbf _⟩
 ·simp only [Cq1];exact⟨st,rfl,s,u⟩
end Go.Proofs.Ytekpjgmhkkjhgaa
end
