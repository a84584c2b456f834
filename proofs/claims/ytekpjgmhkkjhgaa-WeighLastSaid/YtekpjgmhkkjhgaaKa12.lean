/- Last Part 12 of the proof. -/
import Derived.Test.YtekpjgmhkkjhgaaKa11
set_option linter.all false
section
noncomputable section
namespace Go.Proofs.Ytekpjgmhkkjhgaa
open Go.Yz Go.Lf
theorem ZBJ {h:H} {r:Bool} (hL:ZBK=some r):Pure XX 14 #[] h (.bool r):=by
 cases hL;intro wm;have e:ev (cfg XW fun _=>false) 1 (.call 14 #[] wm h)=some (.fin (.ret (.bool true)) h):=rfl;exact ZeX (X:=XW) mixed 1 _ _ e
end Go.Proofs.Ytekpjgmhkkjhgaa
end
end
section
namespace Go.Proofs.Ytekpjgmhkkjhgaa
open Go.Lf
def Zgq (F:Nat) (p0:Store) (p1:Int) (p2:Int):Option Store:=
 (Zgs p0 p1 p2).bind fun x1=>(bif(x1.use || (x1.out !=0)) then some p0 else(bif x1.root then(app 8 p0.freed [p2]).bind fun z8=>(Zm7 F z8).bind fun x13=>some (Store.mk p0.machines p0.names (ZaR p0.cells (Ze.mk p1 p2)) p0.notes x13) else(Zm8 p2).bind fun x16=>(bif(!(Zam x1 x16)) then(Zal (Store.mk p0.machines p0.names (ZaR p0.cells (Ze.mk p1 p2)) p0.notes p0.freed) (Zd.mk 2 x1.from_ p2 0 x1.has)).bind fun x17=>some x17 else some (Store.mk p0.machines p0.names (ZaR p0.cells (Ze.mk p1 p2)) p0.notes p0.freed))))
end Go.Proofs.Ytekpjgmhkkjhgaa
end
section
set_option maxRecDepth 20000
noncomputable section
namespace Go.Proofs.Ytekpjgmhkkjhgaa
open Go.Yz Go.Lf
theorem Zlk {F wm:Nat} {h:H} {p0:Store} {p1 p2:Int} {ZH:Nat} {Zp:Option Addr} {Zo Xo:Nat} {Zx:Option Addr} {Zw XK Xm:Nat} {r:Store} (ZF:wm <=h.size) (hO:ZT (wm:=wm) [bx wm Xm [.int .i64 p0.machines,.int .i64 p0.names,.map (some ZH),.slice Zp Xo Zo,.slice Zx XK Zw],mp wm Zg Zl (some ZH) p0.cells,ow wm Zj Zp Xo Zo p0.notes,ow wm (ZM .i64) Zx XK Zw p0.freed] h) (hL:Zgq F p0 p1 p2=some r):
 WR XX 106 #[.pointer (some ⟨Xm,0,none⟩),.int .i64 p1,.int .i64 p2] wm h (CP (fun(v:Value) (Gb:List (Ast wm))=>∃ (Jz:Nat) (JE:Option Addr) (Jw:Nat) (JB:Nat) (JD:Option Addr) (Jv:Nat) (JA:Nat),v= .tuple [].toArray∧Gb= [bx wm Xm [.int .i64 r.machines,.int .i64 r.names,.map (some Jz),.slice JE Jw JB,.slice JD Jv JA],mp wm Zg Zl (some Jz) r.cells,ow wm Zj JE Jw JB r.notes,ow wm (ZM .i64) JD Jv JA r.freed]) [bx wm Xm [.int .i64 p0.machines,.int .i64 p0.names,.map (some ZH),.slice Zp Xo Zo,.slice Zx XK Zw],mp wm Zg Zl (some ZH) p0.cells,ow wm Zj Zp Xo Zo p0.notes,ow wm (ZM .i64) Zx XK Zw p0.freed] h):=by
 refine bg Try.ntmps106 ZF hO ?_;intro T hT hS;unfold Zgq at hL;obtain rfl:=hS.on k2;obtain rfl:=hS.on k3;refine r4 ?_;refine r1 ?_;obtain⟨x1,hx1,hL⟩:=bind_some hL;refine WO.cp gN rfl (Y0.fn ZkQ (Zc lk (Zc lk (Zc lk Zk)))) (WR.QF rfl (Zg4 (Nat.le_refl _) (hS.Qj k0) (.inl (hS.lt k0)) (hS.mrd k1) (hS.ord k2) (hS.ord k3) hx1)) ?_;refine r1 ?_;rintro _ h3 ⟨b2,eb2,rfl,hS⟩;refine r1 ?_;rintro h4 hS;refine J6 ?_;refine r2 ?_;refine cn hL ?_ ?_
 ·intro hc hL;refine r2 ?_;have hr:=Option.some.inj hL;subst hr;exact ZQ.gen (vs:= []) rfl Zm rfl ⟨_,⟨ZH,Zp,p0.notes.length,Zo,Zx,p0.freed.length,Zw,rfl,rfl⟩,hT ▸ hS.only (.c k1 (.c k1 (.c k1 (.c k1 .n))))⟩
 ·intro hc hL;refine r8 ?_;refine r2 ?_;refine WO.w gN rfl (Y8 XQ (Zh lk (Zh lk ZE)) rfl (cs':= [.int .i64 p1,.int .i64 p2]) rfl) ?_;refine WO.hw gN (ZzU (kv:=Zg) (vv:=Zl) (k:= (Ze.mk p1 p2)) hS k2 YR rfl Ud (Zt (ZP rfl (Zf rfl fh)) rfl) (Zt fh rfl)) ?_;rintro h5 hS;refine r8 ?_;refine r2 ?_;refine cn hL ?_ ?_
  ·intro hc hL;refine r8 ?_;refine WO.hn gN rfl (ZgD (e:= (ZM .i64)) hS Qn Xc U7 rfl rfl rfl (Zh lk ZE) rfl [((),p2)] rfl (xs:= [p2]) rfl (by intro q hq;simp only [List.mem_cons,List.not_mem_nil,or_false] at hq;subst hq;exact trivial) rfl) ?_;rintro _ h7 ⟨b6,eb6,rfl,hS⟩;obtain⟨z8,hz8,hL⟩:=bind_some hL;refine WO.hv gN rfl (Zec (e:= (ZM .i64)) hS k5 ZeG lk lk (hS.Ja k0) (hS.on k0) hz8) ?_;rintro _ h11 ⟨a9,c10,rfl,hS⟩;refine r3 ?_;rintro h12 hS;refine r6 ?_;refine r1 ?_;obtain⟨x13,ZtK,hL⟩:=bind_some hL;refine WO.cl gN rfl (Y0.fn ZAL (Zc lk Zk)) hS (.c k1 .n) (fun g' hz hf hO=>ZxI (by rw [hz];exact hS.hw) hO ZtK) ?_;rintro _ h14 _ ⟨rfl,rfl⟩ hS;refine r2 ?_;refine ZQ.Yv ?_;have hr:=Option.some.inj hL;subst hr;exact ZQ.gen (vs:= []) rfl Zm rfl ⟨_,⟨ZH,Zp,p0.notes.length,Zo,a9,z8.length,c10,rfl,rfl⟩,hT ▸ hS.only (.c k1 (.c k2 (.c k3 (.c k0 .n))))⟩
  ·intro hc hL;refine r1 ?_;refine WC.Yp mixed (by kernel_rfl) ?_;refine r2 ?_;obtain⟨x16,hx16,hL⟩:=bind_some hL;refine WX.cp gN rfl (Y0.fn Zt7 (Zc lk Zk)) (WR.QF rfl (Zqs (Nat.le_refl _) hx16)) ?_ rfl rfl;refine WX.w gN rfl (Z9 (Zt (ZP rfl fh) rfl) (Zt fh rfl) (ZnO (xs:= [.int .i64 x1.name,.bool x1.root,.int .i64 x1.from_,.int .i64 x1.has,.int .i64 x1.out,.bool x1.use]) (ys:= [.int .i64 x16.name,.bool x16.root,.int .i64 x16.from_,.int .i64 x16.has,.int .i64 x16.out,.bool x16.use]) (ZF0 x1 x16) rfl rfl)) ?_ rfl;refine r3 ?_;refine cn hL ?_ ?_
   ·intro hc hL;refine r6 ?_;refine r1 ?_;refine WO.w gN rfl (Xj ZqD (Zh lk (Zh lk (Zh lk (Zh lk ZE)))) rfl (cs':= [.int .i64 2,.int .i64 x1.from_,.int .i64 p2,.int .i64 0,.int .i64 x1.has]) rfl) ?_;obtain⟨x17,ZAk,hL⟩:=bind_some hL;refine WO.cl gN rfl (Y0.fn ZkP (Zc lk (Zc lk Zk))) hS (.c k2 (.c k0 (.c k1 (.c k1 .n)))) (fun g' hz hf hO=>Zg3 (by rw [hz];exact hS.hw) hO ZAk) ?_;rintro _ h25 _ ⟨m18,a19,n20,c21,a22,n23,c24,rfl,rfl⟩ hS;obtain rfl:=hS.on k2;obtain rfl:=hS.on k3;refine r2 ?_;refine ZQ.Yv ?_;have hr:=Option.some.inj hL;subst hr;exact ZQ.gen (vs:= []) rfl Zm rfl ⟨_,⟨m18,a19,x17.notes.length,c21,a22,x17.freed.length,c24,rfl,rfl⟩,hT ▸ hS.only (.c k0 (.c k0 (.c k0 (.c k0 .n))))⟩
   ·intro hc hL;refine r2 ?_;refine ZQ.Yv ?_;have hr:=Option.some.inj hL;subst hr;exact ZQ.gen (vs:= []) rfl Zm rfl ⟨_,⟨ZH,Zp,p0.notes.length,Zo,Zx,p0.freed.length,Zw,rfl,rfl⟩,hT ▸ hS.only (.c k2 (.c k0 (.c k1 (.c k1 .n))))⟩
end Go.Proofs.Ytekpjgmhkkjhgaa
end
end
section
namespace Go.Proofs.Ytekpjgmhkkjhgaa
open Go.Lf
def Zfz (F:Nat) (p1:Zd):Int×Int×(List (Ze×Za))×(List Zd)×(List Int) ->Option Store:=fun(v49,v50,v51,v53,v57)=>
 (Zgq F (Store.mk v49 v50 v51 v53 v57) p1.Zy p1.name).bind fun x61=>some x61
def ZuM (F:Nat) (p0:Store) (p1:Zd):Option Store:=
 (Zgs p0 p1.Zy p1.name).bind fun x5=>(bif(p1.kind==1) then(bif(((!x5.root) && (decide (x5.from_ < 0))) && (p1.via !=p1.Zy)) then some (Store.mk p0.machines p0.names (Y4 p0.cells (Ze.mk p1.Zy p1.name) (Za.mk x5.name x5.root p1.via p1.w x5.out true)) p0.notes p0.freed) else(bif((decide (x5.from_ >=0)) && (x5.from_==p1.via)) then some (Store.mk p0.machines p0.names (Y4 p0.cells (Ze.mk p1.Zy p1.name) (Za.mk x5.name x5.root x5.from_ (ZJ (x5.has + p1.w)) x5.out true)) p0.notes p0.freed) else(Zgr (Store.mk p0.machines p0.names (Y4 p0.cells (Ze.mk p1.Zy p1.name) (Za.mk x5.name x5.root x5.from_ x5.has x5.out true)) p0.notes p0.freed) p1.Zy p1.name p1.via p1.w).bind fun x18=>some x18)) else(bif(p1.kind==2) then(Zgq F (Store.mk p0.machines p0.names (Y4 p0.cells (Ze.mk p1.Zy p1.name) (Za.mk x5.name x5.root x5.from_ x5.has (ZJ (x5.out - p1.w)) x5.use)) p0.notes p0.freed) p1.Zy p1.name).bind fun x30=>some x30 else(bif decide (x5.from_ >=0) then(Zgr (Store.mk p0.machines p0.names (Y4 p0.cells (Ze.mk p1.Zy p1.name) (Za.mk x5.name true (-1) 0 (ZJ (x5.out + 16)) x5.use)) p0.notes p0.freed) p1.Zy p1.name x5.from_ x5.has).bind fun x71=>(Zfz F p1) (x71.machines,x71.names,x71.cells,x71.notes,x71.freed) else(Zfz F p1) (p0.machines,p0.names,Y4 p0.cells (Ze.mk p1.Zy p1.name) (Za.mk x5.name true (-1) 0 (ZJ (x5.out + 16)) x5.use),p0.notes,p0.freed))))
def Zfs:Ze ->Int ->Option Bool:=fun ZG7 ZCI=>
 (bif decide (ZCI > 1000000) then some true else some false)
def ZaA (F:Nat):Int×Int×(List (Ze×Za))×(List Zd)×(List Int) ->Option (PR Store):=fun(v14,v15,v16,v18,v22)=>
 (bif decide ((v18.length:Int) > 80) then some (.Jk 3) else(ZrH F (Store.mk v14 v15 v16 v18 v22)).bind fun x26=>(ZjE (Zfs) x26.1).bind fun q37=>(bif q37 then some (.Jk 3) else some (.ok (Store.mk v14 v15 v16 v18 v22))))
def ZuE (F:Nat) (p0:Store) (p1:Zn):Option (PR Store):=
 (Znb p0 p1).bind fun x3=>prC x3 (fun e5=>some (.Jk e5)) (fun y4=>(bif(p1.Z4==1) then(ZaA F) (p0.machines,ZJ (p0.names + 1),Y4 p0.cells (Ze.mk p1.at_ p0.names) (Za.mk p0.names true (-1) 0 0 true),p0.notes,p0.freed) else(bif(p1.Z4==2) then(Zna p0 p1).bind fun x103=>(ZaA F) (x103.machines,x103.names,x103.cells,x103.notes,x103.freed) else(bif(p1.Z4==3) then(Zaw p0.cells (Ze.mk p1.at_ p1.name) (Za.mk 0 false 0 0 0 false)).bind fun x113=>(Zgq F (Store.mk p0.machines p0.names (Y4 p0.cells (Ze.mk p1.at_ p1.name) (Za.mk x113.name x113.root x113.from_ x113.has x113.out false)) p0.notes p0.freed) p1.at_ p1.name).bind fun Zc5=>(ZaA F) (Zc5.machines,Zc5.names,Zc5.cells,Zc5.notes,Zc5.freed) else(bif(p1.Z4==4) then(Zaw p0.cells (Ze.mk p1.at_ p1.name) (Za.mk 0 false 0 0 0 false)).bind fun Jj=>(Zal (Store.mk p0.machines p0.names (Y4 p0.cells (Ze.mk p1.at_ p1.name) (Za.mk Jj.name false p1.Zy 16 Jj.out Jj.use)) p0.notes p0.freed) (Zd.mk 3 p1.Zy p1.name 0 16)).bind fun Zl4=>(ZaA F) (Zl4.machines,Zl4.names,Zl4.cells,Zl4.notes,Zl4.freed) else(Yh p0.notes p1.at_).bind fun Kj=>(Zm9 p0.notes p1.at_ (ZJ (p1.at_ + 1))).bind fun Zv3=>(ZuM F (Store.mk p0.machines p0.names p0.cells Zv3 p0.freed) Kj).bind fun Zl3=>(ZaA F) (Zl3.machines,Zl3.names,Zl3.cells,Zl3.notes,Zl3.freed))))))
end Go.Proofs.Ytekpjgmhkkjhgaa
end
section
set_option maxRecDepth 20000
noncomputable section
namespace Go.Proofs.Ytekpjgmhkkjhgaa
open Go.Yz Go.Lf
theorem ZBz {F wm:Nat} {h:H} {p0:Store} {p1:Zd} {ZH:Nat} {Zp:Option Addr} {Zo Xo:Nat} {Zx:Option Addr} {Zw XK Xm:Nat} {r:Store} (ZF:wm <=h.size) (hO:ZT (wm:=wm) [bx wm Xm [.int .i64 p0.machines,.int .i64 p0.names,.map (some ZH),.slice Zp Xo Zo,.slice Zx XK Zw],mp wm Zg Zl (some ZH) p0.cells,ow wm Zj Zp Xo Zo p0.notes,ow wm (ZM .i64) Zx XK Zw p0.freed] h) (hL:ZuM F p0 p1=some r):
 WR XX 66 #[.pointer (some ⟨Xm,0,none⟩),.agg [.int .i64 p1.kind,.int .i64 p1.Zy,.int .i64 p1.name,.int .i64 p1.via,.int .i64 p1.w].toArray] wm h (CP (fun(v:Value) (Gb:List (Ast wm))=>∃ (Jz:Nat) (JE:Option Addr) (Jw:Nat) (JB:Nat) (JD:Option Addr) (Jv:Nat) (JA:Nat),v= .tuple [].toArray∧Gb= [bx wm Xm [.int .i64 r.machines,.int .i64 r.names,.map (some Jz),.slice JE Jw JB,.slice JD Jv JA],mp wm Zg Zl (some Jz) r.cells,ow wm Zj JE Jw JB r.notes,ow wm (ZM .i64) JD Jv JA r.freed]) [bx wm Xm [.int .i64 p0.machines,.int .i64 p0.names,.map (some ZH),.slice Zp Xo Zo,.slice Zx XK Zw],mp wm Zg Zl (some ZH) p0.cells,ow wm Zj Zp Xo Zo p0.notes,ow wm (ZM .i64) Zx XK Zw p0.freed] h):=by
 refine bg Try.ntmps66 ZF hO ?_;intro T hT hS;unfold ZuM at hL;obtain rfl:=hS.on k2;obtain rfl:=hS.on k3;refine r3 ?_;rintro _ h2 ⟨b1,eb1,rfl,hS⟩;refine r1 ?_;rintro _ h4 ⟨b3,eb3,rfl,hS⟩;refine r8 ?_;refine r1 ?_;obtain⟨x5,hx5,hL⟩:=bind_some hL;refine WO.cp gN rfl (Y0.fn ZkQ (Zc lk (Zc lk (Zc lk Zk)))) (WR.QF rfl (Zg4 (Nat.le_refl _) (hS.Qj k2) (.inl (hS.lt k2)) (hS.mrd k3) (hS.ord k4) (hS.ord k5) hx5)) ?_;refine r1 ?_;rintro _ h7 ⟨b6,eb6,rfl,hS⟩;refine r1 ?_;rintro h8 hS;refine r4 ?_;refine WO.w gN rfl (Zcu (Zc lk (Zc lk (Zc lk Zk)))) ?_;refine r16 ?_;refine cn hL ?_ ?_
 ·intro hc hL;refine r4 ?_;rintro h9 hS;refine r16 ?_;refine r6 ?_;refine r1 ?_;refine cn hL ?_ ?_
  ·intro hc hL;refine r1 ?_;refine WC.Yp mixed (by kernel_rfl) ?_;refine r3 ?_;refine WX.wr (fun x=>x=b3) hS gN rfl (fun _ _ hR=>ZR Xk (Zt fh rfl) (At.eqv (hR b3 rfl) (hS.Qj k1)) (j:=4) rfl (v:= .int .i64 p1.w) rfl) ?_ rfl rfl;rintro h10 e11 hS;refine r1 ?_;refine WX.hu gN (J5 hS k0 Xc lk lk (vs:= [.int .i64 p1.via]) rfl rfl rfl rfl (cs':= [.int .i64 x5.name,.bool x5.root,.int .i64 p1.via,.int .i64 x5.has,.int .i64 x5.out,.bool true]) rfl) ?_ rfl rfl [3] (by kernel_rfl) (.c .z (hS.dj (.c k0 (.c k0 .n))) Z8.e);rintro h12 hS;refine WX.w gN rfl (Xt ZkZ lk) ?_ (by kernel_rfl);refine WX.hu gN (J5 hS k0 Xc lk lk (vs:= [.int .i64 p1.w]) rfl rfl rfl rfl (cs':= [.int .i64 x5.name,.bool x5.root,.int .i64 p1.via,.int .i64 p1.w,.int .i64 x5.out,.bool true]) rfl) ?_ rfl (by kernel_rfl) [] (by kernel_rfl) Z8.e;rintro h13 hS;refine r4 ?_;refine WO.inl gN rfl (Y0.clo (first:= []) (cap:= [.pointer (some ⟨b6,0,none⟩),.pointer (some ⟨b1,0,none⟩),.pointer (some ⟨b3,0,none⟩)]) lk Zh0 Zk rfl) (WF.begin (args:= [_,_,_]) (fn:=Try.f104) (by kernel_rfl) (by exact rfl) Try.ntmps104 (by simp) ?_);simp only [ZC,ZI,Nat.reduceAdd];refine WC.Yp mixed (by kernel_rfl) ?_;refine r8 ?_;refine WX.w gN rfl (Y8 XQ (Zh lk (Zh lk ZE)) rfl (cs':= [.int .i64 p1.Zy,.int .i64 p1.name]) rfl) ?_ rfl;refine r1 ?_;refine WX.hu gN (ZbT (kv:=Zg) (vv:=Zl) (k:= (Ze.mk p1.Zy p1.name)) (v:= (Za.mk x5.name x5.root p1.via p1.w x5.out true)) hS k4 YR Ud (Zt (Yi rfl (ZP rfl fh)) rfl) (Zt (Zf rfl fh) rfl) (Zt fh rfl)) ?_ rfl rfl [] (by kernel_rfl) Z8.e;rintro h14 hS;refine r1 ?_;refine ZQ.Yv ?_;refine ZQ.gen (vs:= []) rfl Zm rfl ?_;refine r3 ?_;refine ZQ.Yv ?_;have hr:=Option.some.inj hL;subst hr;exact ZQ.gen (vs:= []) rfl Zm rfl ⟨_,⟨ZH,Zp,p0.notes.length,Zo,Zx,p0.freed.length,Zw,rfl,rfl⟩,hT ▸ hS.only (.c k4 (.c k0 (.c k3 (.c k3 .n))))⟩
  ·intro hc hL;refine J6 ?_;refine r3 ?_;refine cn hL ?_ ?_
   ·intro hc hL;refine r8 ?_;refine r1 ?_;rintro h15 hS;refine r4 ?_;refine WO.inl gN rfl (Y0.clo (first:= []) (cap:= [.pointer (some ⟨b6,0,none⟩),.pointer (some ⟨b1,0,none⟩),.pointer (some ⟨b3,0,none⟩)]) lk Zh0 Zk rfl) (WF.begin (args:= [_,_,_]) (fn:=Try.f104) (by kernel_rfl) (by exact rfl) Try.ntmps104 (by simp) ?_);simp only [ZC,ZI,Nat.reduceAdd];refine WC.Yp mixed (by kernel_rfl) ?_;refine r8 ?_;refine WX.w gN rfl (Y8 XQ (Zh lk (Zh lk ZE)) rfl (cs':= [.int .i64 p1.Zy,.int .i64 p1.name]) rfl) ?_ rfl;refine r1 ?_;refine WX.hu gN (ZbT (kv:=Zg) (vv:=Zl) (k:= (Ze.mk p1.Zy p1.name)) (v:= (Za.mk x5.name x5.root x5.from_ (ZJ (x5.has + p1.w)) x5.out true)) hS k4 YR Ud (Zt (Yi rfl (ZP rfl fh)) rfl) (Zt (Zf rfl fh) rfl) (Zt fh rfl)) ?_ rfl rfl [] (by kernel_rfl) Z8.e;rintro h16 hS;refine r1 ?_;refine ZQ.Yv ?_;refine ZQ.gen (vs:= []) rfl Zm rfl ?_;refine r3 ?_;refine ZQ.Yv ?_;have hr:=Option.some.inj hL;subst hr;exact ZQ.gen (vs:= []) rfl Zm rfl ⟨_,⟨ZH,Zp,p0.notes.length,Zo,Zx,p0.freed.length,Zw,rfl,rfl⟩,hT ▸ hS.only (.c k4 (.c k0 (.c k3 (.c k3 .n))))⟩
   ·intro hc hL;refine r3 ?_;refine WO.inl gN rfl (Y0.clo (first:= []) (cap:= [.pointer (some ⟨b6,0,none⟩),.pointer (some ⟨b1,0,none⟩),.pointer (some ⟨b3,0,none⟩)]) lk Zh0 Zk rfl) (WF.begin (args:= [_,_,_]) (fn:=Try.f104) (by kernel_rfl) (by exact rfl) Try.ntmps104 (by simp) ?_);simp only [ZC,ZI,Nat.reduceAdd];refine WC.Yp mixed (by kernel_rfl) ?_;refine r8 ?_;refine WX.w gN rfl (Y8 XQ (Zh lk (Zh lk ZE)) rfl (cs':= [.int .i64 p1.Zy,.int .i64 p1.name]) rfl) ?_ rfl;refine r1 ?_;refine WX.hu gN (ZbT (kv:=Zg) (vv:=Zl) (k:= (Ze.mk p1.Zy p1.name)) (v:= (Za.mk x5.name x5.root x5.from_ x5.has x5.out true)) hS k4 YR Ud (Zt (Yi rfl (ZP rfl fh)) rfl) (Zt (Zf rfl fh) rfl) (Zt fh rfl)) ?_ rfl rfl [] (by kernel_rfl) Z8.e;rintro h17 hS;refine r1 ?_;refine ZQ.Yv ?_;refine ZQ.gen (vs:= []) rfl Zm rfl ?_;refine J6 ?_;obtain⟨x18,Zrk,hL⟩:=bind_some hL;refine WO.cl gN rfl (Y0.fn Zua (Zc lk (Zc lk (Zc lk (Zc lk (Zc lk Zk)))))) hS (.c k4 (.c k0 (.c k3 (.c k3 .n)))) (fun g' hz hf hO=>Zqv (by rw [hz];exact hS.hw) hO Zrk) ?_;rintro _ h26 _ ⟨m19,a20,n21,c22,a23,n24,c25,rfl,rfl⟩ hS;obtain rfl:=hS.on k2;obtain rfl:=hS.on k3;refine r3 ?_;refine ZQ.Yv ?_;have hr:=Option.some.inj hL;subst hr;exact ZQ.gen (vs:= []) rfl Zm rfl ⟨_,⟨m19,a20,x18.notes.length,c22,a23,x18.freed.length,c25,rfl,rfl⟩,hT ▸ hS.only (.c k0 (.c k0 (.c k0 (.c k0 .n))))⟩
 ·intro hc hL;refine r6 ?_;refine cn hL ?_ ?_
  ·intro hc hL;refine r8 ?_;refine r1 ?_;rintro h28 hS;refine r4 ?_;refine r1 ?_;refine WO.inl gN rfl (Y0.clo (first:= []) (cap:= [.pointer (some ⟨b6,0,none⟩),.pointer (some ⟨b1,0,none⟩),.pointer (some ⟨b3,0,none⟩)]) lk Zh0 Zk rfl) (WF.begin (args:= [_,_,_]) (fn:=Try.f104) (by kernel_rfl) (by exact rfl) Try.ntmps104 (by simp) ?_);simp only [ZC,ZI,Nat.reduceAdd];refine WC.Yp mixed (by kernel_rfl) ?_;refine r8 ?_;refine WX.w gN rfl (Y8 XQ (Zh lk (Zh lk ZE)) rfl (cs':= [.int .i64 p1.Zy,.int .i64 p1.name]) rfl) ?_ rfl;refine r1 ?_;refine WX.hu gN (ZbT (kv:=Zg) (vv:=Zl) (k:= (Ze.mk p1.Zy p1.name)) (v:= (Za.mk x5.name x5.root x5.from_ x5.has (ZJ (x5.out - p1.w)) x5.use)) hS k4 YR Ud (Zt (Yi rfl (ZP rfl fh)) rfl) (Zt (Zf rfl fh) rfl) (Zt fh rfl)) ?_ rfl rfl [] (by kernel_rfl) Z8.e;rintro h29 hS;refine r1 ?_;refine ZQ.Yv ?_;refine ZQ.gen (vs:= []) rfl Zm rfl ?_;refine r8 ?_;obtain⟨x30,ZmL,hL⟩:=bind_some hL;refine WO.cl gN rfl (Y0.fn ZoJ (Zc lk (Zc lk (Zc lk Zk)))) hS (.c k4 (.c k0 (.c k3 (.c k3 .n)))) (fun g' hz hf hO=>Zlk (by rw [hz];exact hS.hw) hO ZmL) ?_;rintro _ h38 _ ⟨m31,a32,n33,c34,a35,n36,c37,rfl,rfl⟩ hS;obtain rfl:=hS.on k2;obtain rfl:=hS.on k3;refine r2 ?_;refine ZQ.Yv ?_;have hr:=Option.some.inj hL;subst hr;exact ZQ.gen (vs:= []) rfl Zm rfl ⟨_,⟨m31,a32,x30.notes.length,c34,a35,x30.freed.length,c37,rfl,rfl⟩,hT ▸ hS.only (.c k0 (.c k0 (.c k0 (.c k0 .n))))⟩
  ·intro hc hL;refine r1 ?_;refine WC.Yp mixed (by kernel_rfl) ?_;refine J6 ?_;rintro h40 hS;refine r2 ?_;rintro h41 hS;refine r2 ?_;rintro h42 hS;refine r8 ?_;refine r1 ?_;rintro h43 hS;refine r4 ?_;refine r1 ?_;refine WO.inl gN rfl (Y0.clo (first:= []) (cap:= [.pointer (some ⟨b6,0,none⟩),.pointer (some ⟨b1,0,none⟩),.pointer (some ⟨b3,0,none⟩)]) lk Zh0 Zk rfl) (WF.begin (args:= [_,_,_]) (fn:=Try.f104) (by kernel_rfl) (by exact rfl) Try.ntmps104 (by simp) ?_);simp only [ZC,ZI,Nat.reduceAdd];refine WC.Yp mixed (by kernel_rfl) ?_;refine r8 ?_;refine WX.w gN rfl (Y8 XQ (Zh lk (Zh lk ZE)) rfl (cs':= [.int .i64 p1.Zy,.int .i64 p1.name]) rfl) ?_ rfl;refine r1 ?_;refine WX.hu gN (ZbT (kv:=Zg) (vv:=Zl) (k:= (Ze.mk p1.Zy p1.name)) (v:= (Za.mk x5.name true (-1) 0 (ZJ (x5.out + 16)) x5.use)) hS k4 YR Ud (Zt (Yi rfl (ZP rfl fh)) rfl) (Zt (Zf rfl fh) rfl) (Zt fh rfl)) ?_ rfl rfl [] (by kernel_rfl) Z8.e;rintro h44 hS;refine r1 ?_;refine ZQ.Yv ?_;refine ZQ.gen (vs:= []) rfl Zm rfl ?_;refine r2 ?_;refine WC.KH (r:=r) (fun(p:Int×Int×(List (Ze×Za))×(List Zd)×(List Int)) (s:Fs)=>match p with | (v49,v50,v51,v53,v57)=>∃ (Zbu:Fr) (h45:H) (m52:Nat) (a54:Option Addr) (c55:Nat) (n56:Nat) (a58:Option Addr) (c59:Nat) (n60:Nat),s= ⟨Zbu,[],h45,none⟩∧Sp wm T h [bx wm b1 [.pointer (some ⟨Xm,0,none⟩)],mp wm Zg Zl (some m52) v51,ow wm Zj a54 n56 c55 v53,ow wm (ZM .i64) a58 n60 c59 v57,bx wm Xm [.int .i64 v49,.int .i64 v50,.map (some m52),.slice a54 n56 c55,.slice a58 n60 c59],bx wm b3 [.int .i64 p1.kind,.int .i64 p1.Zy,.int .i64 p1.name,.int .i64 p1.via,.int .i64 p1.w]] h45∧Zbu.at 2= .pointer (some ⟨b1,0,none⟩)∧Zbu.at 3= .pointer (some ⟨b3,0,none⟩)) (Zfz F p1) ?_ ?_
   ·clear hL hS;rintro⟨v49,v50,v51,v53,v57⟩ s hL ⟨Zbu,h45,m52,a54,c55,n56,a58,c59,n60,rfl,hS,e47,e48⟩;obtain rfl:=hS.on k2;obtain rfl:=hS.on k3;dsimp only [Zfz] at hL;refine r6 ?_;obtain⟨x61,ZHP,hL⟩:=bind_some hL;refine WO.cl gN rfl (Y0.fn ZoJ (Zc lk (Zc lk (Zc lk Zk)))) hS (.c k4 (.c k1 (.c k1 (.c k1 .n)))) (fun g' hz hf hO=>Zlk (by rw [hz];exact hS.hw) hO ZHP) ?_;rintro _ h69 _ ⟨m62,a63,n64,c65,a66,n67,c68,rfl,rfl⟩ hS;obtain rfl:=hS.on k2;obtain rfl:=hS.on k3;refine r2 ?_;refine ZQ.Yv ?_;have hr:=Option.some.inj hL;subst hr;exact ZQ.gen (vs:= []) rfl Zm rfl ⟨_,⟨m62,a63,x61.notes.length,c65,a66,x61.freed.length,c68,rfl,rfl⟩,hT ▸ hS.only (.c k0 (.c k0 (.c k0 (.c k0 .n))))⟩
   ·skip;refine r6 ?_;refine cn hL ?_ ?_
    ·intro hc hL;refine r8 ?_;obtain⟨x71,ZHN,hL⟩:=bind_some hL;refine WO.cl gN rfl (Y0.fn Zua (Zc lk (Zc lk (Zc lk (Zc lk (Zc lk Zk)))))) hS (.c k4 (.c k0 (.c k3 (.c k3 .n)))) (fun g' hz hf hO=>Zqv (by rw [hz];exact hS.hw) hO ZHN) ?_;rintro _ h79 _ ⟨m72,a73,n74,c75,a76,n77,c78,rfl,rfl⟩ hS;obtain rfl:=hS.on k2;obtain rfl:=hS.on k3;refine r1 ?_;exact YH.Yv _ hL ⟨_,_,m72,a73,c75,x71.notes.length,a76,c78,x71.freed.length,rfl,hS.only (.c k6 (.c k1 (.c k1 (.c k1 (.c k0 (.c k1 .n)))))),YN⟩
    ·intro hc hL;refine r1 ?_;exact YH.Yv _ hL ⟨_,_,ZH,Zp,Zo,p0.notes.length,Zx,Zw,p0.freed.length,rfl,hS.only (.c k3 (.c k0 (.c k3 (.c k3 (.c k2 (.c k1 .n)))))),YN⟩
theorem ZuD {F wm:Nat} {h:H} {p0:Store} {p1:Zn} {ZH:Nat} {Zp:Option Addr} {Zo Xo:Nat} {Zx:Option Addr} {Zw XK Xm:Nat} {r:(PR Store)} (ZF:wm <=h.size) (hO:ZT (wm:=wm) [bx wm Xm [.int .i64 p0.machines,.int .i64 p0.names,.map (some ZH),.slice Zp Xo Zo,.slice Zx XK Zw],mp wm Zg Zl (some ZH) p0.cells,ow wm Zj Zp Xo Zo p0.notes,ow wm (ZM .i64) Zx XK Zw p0.freed] h) (hL:ZuE F p0 p1=some r):
 WF XX 95 #[.pointer (some ⟨Xm,0,none⟩),.agg [.int .i64 p1.Z4,.int .i64 p1.at_,.int .i64 p1.name,.int .i64 p1.Zy].toArray] wm h (PQ 32 (fun(r:Store) (v:Value) (Gb:List (Ast wm))=>∃ (Jz:Nat) (JE:Option Addr) (Jw:Nat) (JB:Nat) (JD:Option Addr) (Jv:Nat) (JA:Nat),v= .tuple [].toArray∧Gb= [bx wm Xm [.int .i64 r.machines,.int .i64 r.names,.map (some Jz),.slice JE Jw JB,.slice JD Jv JA],mp wm Zg Zl (some Jz) r.cells,ow wm Zj JE Jw JB r.notes,ow wm (ZM .i64) JD Jv JA r.freed]) [bx wm Xm [.int .i64 p0.machines,.int .i64 p0.names,.map (some ZH),.slice Zp Xo Zo,.slice Zx XK Zw],mp wm Zg Zl (some ZH) p0.cells,ow wm Zj Zp Xo Zo p0.notes,ow wm (ZM .i64) Zx XK Zw p0.freed] h r):=by
 refine WF.ZfW (args:= [_,_]) (fn:=Try.f95) (by kernel_rfl) (by exact rfl) Try.ntmps95 (by simp) ?_;simp only [ZC,ZI,Nat.reduceAdd];obtain⟨T,hT,hS⟩:∃ T,T=XD (wm:=wm) [bx wm Xm [.int .i64 p0.machines,.int .i64 p0.names,.map (some ZH),.slice Zp Xo Zo,.slice Zx XK Zw],mp wm Zg Zl (some ZH) p0.cells,ow wm Zj Zp Xo Zo p0.notes,ow wm (ZM .i64) Zx XK Zw p0.freed]∧Sp wm T h [bx wm Xm [.int .i64 p0.machines,.int .i64 p0.names,.map (some ZH),.slice Zp Xo Zo,.slice Zx XK Zw],mp wm Zg Zl (some ZH) p0.cells,ow wm Zj Zp Xo Zo p0.notes,ow wm (ZM .i64) Zx XK Zw p0.freed] h:= ⟨_,rfl,Sp.start ZF hO⟩
 unfold ZuE at hL;obtain rfl:=hS.on k2;obtain rfl:=hS.on k3;refine r3 ?_;rintro _ h2 ⟨b1,eb1,rfl,hS⟩;refine r6 ?_;obtain⟨x3,hx3,hL⟩:=bind_some hL;rcases x3 with y4 | e5
 ·skip;replace hL:=Zs5 hL;refine WO.clR gN rfl (Y0.fn Zt8 (Zc lk (Zc lk Zk))) hS.hw (PQ.ok (Zqt (Nat.le_refl _) (hS.Qj k1) (.inl (hS.lt k1)) (hS.mrd k2) (hS.ord k3) (hS.ord k4) hx3)) ?_;rintro _ h6 _ ⟨rfl,rfl⟩ hR7;have hS:=hS.clR hR7 .n;refine r8 ?_;refine WO.w gN rfl (Y8 XQ (Zh lk (Zh lk ZE)) rfl (cs':= [.int .i64 p1.at_,.int .i64 p1.name]) rfl) ?_;refine r1 ?_;rintro _ h9 ⟨b8,eb8,rfl,hS⟩;refine r1 ?_;rintro h10 hS;refine r2 ?_;refine WC.KH (r:=r) (fun(p:Int×Int×(List (Ze×Za))×(List Zd)×(List Int)) (s:Fs)=>match p with | (v14,v15,v16,v18,v22)=>∃ (ZBn:Fr) (h11:H) (m17:Nat) (a19:Option Addr) (c20:Nat) (n21:Nat) (a23:Option Addr) (c24:Nat) (n25:Nat),s= ⟨ZBn,[],h11,none⟩∧Sp wm T h [mp wm Zg Zl (some m17) v16,ow wm Zj a19 n21 c20 v18,ow wm (ZM .i64) a23 n25 c24 v22,bx wm Xm [.int .i64 v14,.int .i64 v15,.map (some m17),.slice a19 n21 c20,.slice a23 n25 c24]] h11∧ZBn.at 0= .pointer (some ⟨Xm,0,none⟩)) (ZaA F) ?_ ?_
  ·clear hL hS;rintro⟨v14,v15,v16,v18,v22⟩ s hL ⟨ZBn,h11,m17,a19,c20,n21,a23,c24,n25,rfl,hS,e13⟩;obtain rfl:=hS.on k1;obtain rfl:=hS.on k2;dsimp only [ZaA] at hL;refine r8 ?_;refine r3 ?_;refine cn hL ?_ ?_
   ·intro hc hL;refine r1 ?_;refine WO.w gN rfl (ZfX lk (by kernel_rfl)) ?_;refine WO.pnc gN lk ?_;refine QB.panic ?_;refine XV.ofX ?_;refine Za6.Jk ?_;have hr:=Option.some.inj hL;subst hr;exact⟨rfl,hT ▸ hS.only .n⟩
   ·intro hc hL;refine r4 ?_;refine r1 ?_;obtain⟨x26,ZAj,hL⟩:=bind_some hL;refine WO.clR gN rfl (Y0.fn ZyY (Zc lk Zk)) hS.hw (ZuL (Nat.le_refl _) (hS.Qj k3) (.inl (hS.lt k3)) (hS.mrd k0) (hS.ord k1) (hS.ord k2) ZAj) ?_;rintro _ h29 _ ⟨m27,m28,rfl,rfl⟩ ZIx;have hS:=hS.clR ZIx (.c (cvM hS.hw) (.c (cvM hS.hw) .n));refine r8 ?_;refine r2 ?_;refine WO.rng gN rfl hS UN lk (hS.get k0).at_ ?_;rintro h36 b31 ZOg ZLh hS ZIa ZIq;refine r3 ?_;obtain⟨q37,ZH4,hL⟩:=bind_some hL;refine WC.loop (WL.ZHt [11,137,138,139,140,141,142,143] (pv 32 3) ZH4 hS k0 fh ZIa ZIq rfl rfl rfl rfl rfl rfl rfl rfl ?_ ?_ ?_)
    ·clear hL hS;rintro⟨ZG7,ZCI⟩ p40 hL h41 ZoM Zc8 hS ZIM;dsimp only [Zfs] at hL;have e45:=Zc8.at (t:=0) rfl (ZN rfl (Yi rfl (ZP rfl (Zf rfl e13))));have e46:=Zc8.at (t:=123) rfl (ZN rfl (Yi rfl (ZP rfl fh)));have e47:=Zc8.at (t:=124) rfl (ZN rfl (Yi rfl (Zf rfl fh)));have e48:=Zc8.at (t:=125) rfl (ZN rfl (Yi rfl fh));have e49:=Zc8.at (t:=126) rfl (ZN rfl (ZP rfl (Zf rfl fh)));have e50:=Zc8.at (t:=127) rfl (ZN rfl (ZP rfl fh));have e51:=Zc8.at (t:=128) rfl (ZN rfl (Zf rfl fh));have e52:=Zc8.at (t:=131) rfl (ZN rfl fh);have e53:=Zc8.at (t:=132) rfl (Yi rfl (ZP rfl (Zf rfl fh)));have e54:=Zc8.at (t:=130) rfl (Yi rfl (ZP rfl fh));have e55:=Zc8.at (t:=133) rfl (Yi rfl (Zf rfl fh));have e56:=Zc8.at (t:=134) rfl (Yi rfl fh);have e57:=Zc8.at (t:=8) rfl (ZP rfl (Zf rfl fh));have e58:=Zc8.at (t:=9) rfl (ZP rfl fh);have e59:=Zc8.at (t:=135) rfl (Zf rfl fh);have e60:=Zc8.at (t:=136) rfl fh;refine r4 ?_;refine WC.ZlB lk rfl ?_;refine r4 ?_;refine r1 ?_;refine WO.w gN rfl (Zvm lk ZIM) ?_;refine r8 ?_;refine r2 ?_;refine cn hL ?_ ?_
     ·intro hc hL;refine r1 ?_;refine WO.w gN rfl (ZfX lk (by kernel_rfl)) ?_;refine WO.pnc gN lk ?_;refine U6.panic ?_;have hp:=Option.some.inj hL;subst hp;exact ZpE.panic (.s rfl (.s rfl (.s rfl (.s rfl (.s rfl (.s rfl (.s rfl (.s rfl .z))))))))
     ·intro hc hL;refine r2 ?_;have hp:=Option.some.inj hL;subst hp;exact ZpE.Yv (.s rfl (.s rfl (.s rfl (.s rfl (.s rfl (.s rfl (.s rfl .z)))))))
    ·intro ZH3 h62 ZNb Zc7 hS;replace hL:=Wz ZH3 hL;have e65:=Zc7.at (t:=0) rfl (ZN rfl (Yi rfl (ZP rfl (Zf rfl e13))));have e66:=Zc7.at (t:=123) rfl (ZN rfl (Yi rfl (ZP rfl fh)));have e67:=Zc7.at (t:=124) rfl (ZN rfl (Yi rfl (Zf rfl fh)));have e68:=Zc7.at (t:=125) rfl (ZN rfl (Yi rfl fh));have e69:=Zc7.at (t:=126) rfl (ZN rfl (ZP rfl (Zf rfl fh)));have e70:=Zc7.at (t:=127) rfl (ZN rfl (ZP rfl fh));have e71:=Zc7.at (t:=128) rfl (ZN rfl (Zf rfl fh));have e72:=Zc7.at (t:=131) rfl (ZN rfl fh);have e73:=Zc7.at (t:=132) rfl (Yi rfl (ZP rfl (Zf rfl fh)));have e74:=Zc7.at (t:=130) rfl (Yi rfl (ZP rfl fh));have e75:=Zc7.at (t:=133) rfl (Yi rfl (Zf rfl fh));have e76:=Zc7.at (t:=134) rfl (Yi rfl fh);have e77:=Zc7.at (t:=8) rfl (ZP rfl (Zf rfl fh));have e78:=Zc7.at (t:=9) rfl (ZP rfl fh);have e79:=Zc7.at (t:=135) rfl (Zf rfl fh);have e80:=Zc7.at (t:=136) rfl fh;refine r4 ?_;refine WC.ZdT lk rfl ?_;refine r2 ?_;refine Zyj.exit ?_;refine r1 ?_;refine XV.Yv ?_;have hr:=Option.some.inj hL;subst hr;exact XV.Zuz rfl Zm rfl ⟨_,⟨m17,a19,v18.length,c20,a23,v22.length,c24,rfl,rfl⟩,hT ▸ hS.only (.c k5 (.c k2 (.c k2 (.c k2 .n))))⟩
    ·intro ZH2 h82 ZNa Zc6 hS;replace hL:=Wy ZH2 hL;have e85:=Zc6.at (t:=0) rfl (ZN rfl (Yi rfl (ZP rfl (Zf rfl e13))));have e86:=Zc6.at (t:=123) rfl (ZN rfl (Yi rfl (ZP rfl fh)));have e87:=Zc6.at (t:=124) rfl (ZN rfl (Yi rfl (Zf rfl fh)));have e88:=Zc6.at (t:=125) rfl (ZN rfl (Yi rfl fh));have e89:=Zc6.at (t:=126) rfl (ZN rfl (ZP rfl (Zf rfl fh)));have e90:=Zc6.at (t:=127) rfl (ZN rfl (ZP rfl fh));have e91:=Zc6.at (t:=128) rfl (ZN rfl (Zf rfl fh));have e92:=Zc6.at (t:=131) rfl (ZN rfl fh);have e93:=Zc6.at (t:=132) rfl (Yi rfl (ZP rfl (Zf rfl fh)));have e94:=Zc6.at (t:=130) rfl (Yi rfl (ZP rfl fh));have e95:=Zc6.at (t:=133) rfl (Yi rfl (Zf rfl fh));have e96:=Zc6.at (t:=134) rfl (Yi rfl fh);have e97:=Zc6.at (t:=8) rfl (ZP rfl (Zf rfl fh));have e98:=Zc6.at (t:=9) rfl (ZP rfl fh);have e99:=Zc6.at (t:=135) rfl (Zf rfl fh);have e100:=Zc6.at (t:=136) rfl fh;refine U6.panic ?_;refine XV.ofX ?_;refine Za6.Jk ?_;have hr:=Option.some.inj hL;subst hr;exact⟨rfl,hT ▸ hS.only .n⟩
  ·skip;refine J6 ?_;refine r1 ?_;refine cn hL ?_ ?_
   ·intro hc hL;refine r1 ?_;refine WC.Yp mixed (by kernel_rfl) ?_;refine r8 ?_;refine r2 ?_;refine WX.w gN rfl (Y8 XQ (Zh lk (Zh lk ZE)) rfl (cs':= [.int .i64 p1.at_,.int .i64 p0.names]) rfl) ?_ rfl;refine r4 ?_;refine WX.w gN rfl (Xj Zzl (Zh lk (Zh lk (Zh lk (Zh lk ZE)))) rfl (cs':= [.int .i64 p0.names,.bool true,.int .i64 (-1),.int .i64 0,.int .i64 0,.bool true]) rfl) ?_ rfl;refine WX.hu gN (ZbT (kv:=Zg) (vv:=Zl) (k:= (Ze.mk p1.at_ p0.names)) (v:= (Za.mk p0.names true (-1) 0 0 true)) hS k3 YR Ud (Zt (ZN rfl (Yi rfl fh)) rfl) (Zt (Yi rfl (Zf rfl fh)) rfl) (Zt fh rfl)) ?_ rfl rfl [] (by kernel_rfl) Z8.e;rintro ZFP hS;refine r8 ?_;refine r3 ?_;rintro ZoK hS;refine r2 ?_;exact YH.Yv _ hL ⟨_,_,ZH,Zp,Zo,p0.notes.length,Zx,Zw,p0.freed.length,rfl,hS.only (.c k1 (.c k3 (.c k3 (.c k0 .n)))),YN⟩
   ·intro hc hL;refine r6 ?_;refine cn hL ?_ ?_
    ·intro hc hL;refine r3 ?_;obtain⟨x103,ZjL,hL⟩:=bind_some hL;refine WO.cl gN rfl (Y0.fn ZAN (Zc lk (Zc lk Zk))) hS (.c k2 (.c k2 (.c k2 (.c k2 .n)))) (fun g' hz hf hO=>ZxK (by rw [hz];exact hS.hw) hO ZjL) ?_;rintro _ ZM2 _ ⟨ZHy,a105,n106,c107,ZJT,n109,ZJG,rfl,rfl⟩ hS;obtain rfl:=hS.on k2;obtain rfl:=hS.on k3;refine r2 ?_;exact YH.Yv _ hL ⟨_,_,ZHy,a105,c107,x103.notes.length,ZJT,ZJG,x103.freed.length,rfl,hS.only (.c k1 (.c k1 (.c k1 (.c k0 .n)))),YN⟩
    ·intro hc hL;refine r6 ?_;refine cn hL ?_ ?_
     ·intro hc hL;refine r1 ?_;refine WC.Yp mixed (by kernel_rfl) ?_;refine r4 ?_;refine r1 ?_;obtain⟨x113,hx113,hL⟩:=bind_some hL;refine WX.w gN rfl (Zc2 (kv:=Zg) (vv:=Zl) (k:= (Ze.mk p1.at_ p1.name)) (z:= (Za.mk 0 false 0 0 0 false)) YR Ud Uo (Zt (Zf rfl fh) rfl) (Zt fh rfl) (hS.get k3).at_ hx113 (w:= .agg [.int .i64 x113.name,.bool x113.root,.int .i64 x113.from_,.int .i64 x113.has,.int .i64 x113.out,.bool x113.use].toArray) rfl) ?_ rfl;refine WX.hn gN rfl (Zhv hS Uo (vs:= [.int .i64 0,.bool false,.int .i64 0,.int .i64 0,.int .i64 0,.bool false]) rfl) ?_ rfl;rintro _ ZM0 ⟨ZJK,ZK1,rfl,hS⟩;refine WX.hu gN (J5 hS k0 Jt lk lk (vs:= [.int .i64 x113.name,.bool x113.root,.int .i64 x113.from_,.int .i64 x113.has,.int .i64 x113.out,.bool x113.use]) rfl rfl rfl rfl (cs':= [.int .i64 x113.name,.bool x113.root,.int .i64 x113.from_,.int .i64 x113.has,.int .i64 x113.out,.bool x113.use]) rfl) ?_ rfl rfl [] (by kernel_rfl) Z8.e;rintro h116 hS;refine r6 ?_;rintro ZI3 hS;refine r3 ?_;refine WC.Yp mixed (by kernel_rfl) ?_;refine r6 ?_;refine WX.hu gN (ZbT (kv:=Zg) (vv:=Zl) (k:= (Ze.mk p1.at_ p1.name)) (v:= (Za.mk x113.name x113.root x113.from_ x113.has x113.out false)) hS k4 YR Ud (Zt (ZP rfl fh) rfl) (Zt (Zf rfl fh) rfl) (Zt fh rfl)) ?_ rfl rfl [] (by kernel_rfl) Z8.e;rintro ZFO hS;refine r8 ?_;obtain⟨Zc5,ZtL,hL⟩:=bind_some hL;refine WO.cl gN rfl (Y0.fn ZoJ (Zc lk (Zc lk (Zc lk Zk)))) hS (.c k4 (.c k0 (.c k3 (.c k3 .n)))) (fun g' hz hf hO=>Zlk (by rw [hz];exact hS.hw) hO ZtL) ?_;rintro _ h127 _ ⟨ZHx,ZJR,n122,ZJE,a124,n125,ZJC,rfl,rfl⟩ hS;obtain rfl:=hS.on k2;obtain rfl:=hS.on k3;refine r2 ?_;exact YH.Yv _ hL ⟨_,_,ZHx,ZJR,ZJE,Zc5.notes.length,a124,ZJC,Zc5.freed.length,rfl,hS.only (.c k1 (.c k1 (.c k1 (.c k0 .n)))),YN⟩
     ·intro hc hL;refine r6 ?_;refine cn hL ?_ ?_
      ·intro hc hL;refine r1 ?_;refine WC.Yp mixed (by kernel_rfl) ?_;refine r4 ?_;refine r1 ?_;obtain⟨Jj,ZDM,hL⟩:=bind_some hL;refine WX.w gN rfl (Zc2 (kv:=Zg) (vv:=Zl) (k:= (Ze.mk p1.at_ p1.name)) (z:= (Za.mk 0 false 0 0 0 false)) YR Ud Uo (Zt (Zf rfl fh) rfl) (Zt fh rfl) (hS.get k3).at_ ZDM (w:= .agg [.int .i64 Jj.name,.bool Jj.root,.int .i64 Jj.from_,.int .i64 Jj.has,.int .i64 Jj.out,.bool Jj.use].toArray) rfl) ?_ rfl;refine WX.hn gN rfl (Zhv hS Uo (vs:= [.int .i64 0,.bool false,.int .i64 0,.int .i64 0,.int .i64 0,.bool false]) rfl) ?_ rfl;rintro _ ZFN ⟨ZOK,ZKY,rfl,hS⟩;refine WX.hu gN (J5 hS k0 Jt lk lk (vs:= [.int .i64 Jj.name,.bool Jj.root,.int .i64 Jj.from_,.int .i64 Jj.has,.int .i64 Jj.out,.bool Jj.use]) rfl rfl rfl rfl (cs':= [.int .i64 Jj.name,.bool Jj.root,.int .i64 Jj.from_,.int .i64 Jj.has,.int .i64 Jj.out,.bool Jj.use]) rfl) ?_ rfl rfl [] (by kernel_rfl) Z8.e;rintro ZMU hS;refine r3 ?_;refine WC.Yp mixed (by kernel_rfl) ?_;refine r1 ?_;refine WX.wr (fun x=>x=b1) hS gN rfl (fun _ _ hR=>ZR Xk (Zt fh rfl) (At.eqv (hR b1 rfl) (hS.Qj k2)) (j:=3) rfl (v:= .int .i64 p1.Zy) rfl) ?_ rfl rfl;rintro ZFM ZNW hS;refine r1 ?_;refine WX.hu gN (J5 hS k0 Zyt lk lk (vs:= [.bool false]) rfl rfl rfl rfl (cs':= [.int .i64 Jj.name,.bool false,.int .i64 Jj.from_,.int .i64 Jj.has,.int .i64 Jj.out,.bool Jj.use]) rfl) ?_ rfl rfl [1] (by kernel_rfl) (.c .z (hS.dj (.c k0 (.c k1 .n))) Z8.e);rintro ZFL hS;refine WX.w gN rfl (Xt Zqh lk) ?_ (by kernel_rfl);refine WX.hu gN (J5 hS k0 Xc lk lk (vs:= [.int .i64 p1.Zy]) rfl rfl rfl rfl (cs':= [.int .i64 Jj.name,.bool false,.int .i64 p1.Zy,.int .i64 Jj.has,.int .i64 Jj.out,.bool Jj.use]) rfl) ?_ rfl (by kernel_rfl) [] (by kernel_rfl) Z8.e;rintro ZMT hS;refine WX.w gN rfl (Xt ZkZ lk) ?_ (by kernel_rfl);refine WX.hu gN (J5 hS k0 Xc lk lk (vs:= [.int .i64 16]) rfl rfl rfl rfl (cs':= [.int .i64 Jj.name,.bool false,.int .i64 p1.Zy,.int .i64 16,.int .i64 Jj.out,.bool Jj.use]) rfl) ?_ rfl (by kernel_rfl) [] (by kernel_rfl) Z8.e;rintro ZI1 hS;refine r3 ?_;refine WC.Yp mixed (by kernel_rfl) ?_;refine r6 ?_;refine WX.hu gN (ZbT (kv:=Zg) (vv:=Zl) (k:= (Ze.mk p1.at_ p1.name)) (v:= (Za.mk Jj.name false p1.Zy 16 Jj.out Jj.use)) hS k4 YR Ud (Zt (ZP rfl fh) rfl) (Zt (Zf rfl fh) rfl) (Zt fh rfl)) ?_ rfl rfl [] (by kernel_rfl) Z8.e;rintro ZFK hS;refine r8 ?_;refine WO.w gN rfl (Xj ZqD (Zh lk (Zh lk (Zh lk (Zh lk ZE)))) rfl (cs':= [.int .i64 3,.int .i64 p1.Zy,.int .i64 p1.name,.int .i64 0,.int .i64 16]) rfl) ?_;obtain⟨Zl4,ZDK,hL⟩:=bind_some hL;refine WO.cl gN rfl (Y0.fn ZkP (Zc lk (Zc lk Zk))) hS (.c k4 (.c k0 (.c k3 (.c k3 .n)))) (fun g' hz hf hO=>Zg3 (by rw [hz];exact hS.hw) hO ZDK) ?_;rintro _ ZIY _ ⟨ZHw,a141,n142,c143,ZCd,n145,c146,rfl,rfl⟩ hS;obtain rfl:=hS.on k2;obtain rfl:=hS.on k3;refine r2 ?_;exact YH.Yv _ hL ⟨_,_,ZHw,a141,c143,Zl4.notes.length,ZCd,c146,Zl4.freed.length,rfl,hS.only (.c k1 (.c k1 (.c k1 (.c k0 .n)))),YN⟩
      ·intro hc hL;refine r1 ?_;refine WC.Yp mixed (by kernel_rfl) ?_;refine r6 ?_;obtain⟨Kj,ZjK,hL⟩:=bind_some hL;obtain⟨ZOG,ZLJ,_,ZAV,ZA9,ZIE⟩:=Src.at_ (hS.Ja k4) ZjK;refine WX.w gN rfl (ZY UM XI lk lk rfl ZAV ZjK) ?_ rfl;refine WX.w gN rfl (Xa ZeK XI (Zt fh rfl) ZA9 (j:=0) rfl rfl (ws:= [.int .i64 Kj.kind,.int .i64 Kj.Zy,.int .i64 Kj.name,.int .i64 Kj.via,.int .i64 Kj.w]) rfl) ?_ rfl;refine WX.hn gN rfl (Zhv hS ZeS (vs:= [.int .i64 0,.int .i64 0,.int .i64 0,.int .i64 0,.int .i64 0]) rfl) ?_ rfl;rintro _ ZFJ ⟨ZOF,ZKW,rfl,hS⟩;refine WX.hu gN (J5 hS k0 XI lk lk (vs:= [.int .i64 Kj.kind,.int .i64 Kj.Zy,.int .i64 Kj.name,.int .i64 Kj.via,.int .i64 Kj.w]) rfl rfl rfl rfl (cs':= [.int .i64 Kj.kind,.int .i64 Kj.Zy,.int .i64 Kj.name,.int .i64 Kj.via,.int .i64 Kj.w]) rfl) ?_ rfl rfl [] (by kernel_rfl) Z8.e;rintro ZIX hS;refine r3 ?_;refine WC.Yp mixed (by kernel_rfl) ?_;refine r8 ?_;refine r2 ?_;obtain⟨Zv3,ZDF,hL⟩:=bind_some hL;refine WX.cl gN rfl (Y0.fn ZAM (Zc lk (Zc lk (Zc lk Zk)))) hS (.c k5 .n) (fun g' hz hf hO=>ZxJ (by rw [hz];exact hS.hw) hO ZDF) ?_ rfl rfl [] (by kernel_rfl) Z8.e;rintro _ ZIV _ ⟨a156,n157,ZGb,rfl,rfl⟩ hS;obtain rfl:=hS.on k0;refine WX.w gN rfl (Zpn lk) ?_ (by kernel_rfl);refine WX.w gN rfl (Xt ZkY lk) ?_ (by kernel_rfl);refine WX.hu gN (J5 hS k4 Zoa lk lk (vs:= [.slice a156 Zv3.length ZGb]) rfl rfl rfl rfl (cs':= [.int .i64 p0.machines,.int .i64 p0.names,.map (some ZH),.slice a156 Zv3.length ZGb,.slice Zx p0.freed.length Zw]) rfl) ?_ rfl (by kernel_rfl) [] (by kernel_rfl) Z8.e;rintro ZMJ hS;refine r4 ?_;refine r1 ?_;obtain⟨Zl3,ZDE,hL⟩:=bind_some hL;refine WO.cl gN rfl (Y0.fn ZEm (Zc lk (Zc lk Zk))) hS (.c k0 (.c k4 (.c k0 (.c k3 .n)))) (fun g' hz hf hO=>ZBz (by rw [hz];exact hS.hw) hO ZDE) ?_;rintro _ ZIT _ ⟨ZHv,a164,n165,ZBY,a167,n168,ZJx,rfl,rfl⟩ hS;obtain rfl:=hS.on k2;obtain rfl:=hS.on k3;refine r2 ?_;exact YH.Yv _ hL ⟨_,_,ZHv,a164,ZBY,Zl3.notes.length,a167,ZJx,Zl3.freed.length,rfl,hS.only (.c k1 (.c k1 (.c k1 (.c k0 .n)))),YN⟩
 ·skip;replace hL:=ZpO hL;refine WO.ZJs gN (Y0.fn Zt8 (Zc lk (Zc lk Zk))) hS.hw hS (Zqt (Nat.le_refl _) (hS.Qj k1) (.inl (hS.lt k1)) (hS.mrd k2) (hS.ord k3) (hS.ord k4) hx3) ?_;rintro ZMF hS;refine QB.panic ?_;refine XV.ofX ?_;refine Za6.Jk ?_;have hr:=Option.some.inj hL;subst hr;exact⟨rfl,hT ▸ hS.only .n⟩
end Go.Proofs.Ytekpjgmhkkjhgaa
end
end
section
namespace Go.Proofs.Ytekpjgmhkkjhgaa
open Go.Lf
def ZrI (F:Nat) (p0:Store) (p1:Zn):Option ((Option Store)×Int):=
 (ZuF F p0).bind fun x7=>(ZuE F x7 p1).bind fun x19=>prC x19 (fun e21=>some (none,e21)) (fun y20=>some ((some y20),0))
end Go.Proofs.Ytekpjgmhkkjhgaa
end
section
set_option maxRecDepth 20000
noncomputable section
namespace Go.Proofs.Ytekpjgmhkkjhgaa
open Go.Yz Go.Lf
theorem ZuN {F wm:Nat} {h:H} {p0:Store} {p1:Zn} {ZH:Option Nat} {Zp:Option Addr} {Zo:Nat} {Zx:Option Addr} {Zw Xm UJ:Nat} {r:((Option Store)×Int)} (ZF:wm <=h.size) (Y2:At h Xm UJ [.int .i64 p0.machines,.int .i64 p0.names,.map ZH,.slice Zp p0.notes.length Zo,.slice Zx p0.freed.length Zw]) (Y1:Stb wm h Xm) (ZG:Uv Zg Zl wm h ZH p0.cells) (Yo:Sl Zj wm h Zp Zo p0.notes) (Yn:Sl (ZM .i64) wm h Zx Zw p0.freed) (hL:ZrI F p0 p1=some r):
 WR XX 57 #[.pointer (some ⟨Xm,UJ,none⟩),.agg [.int .i64 p1.Z4,.int .i64 p1.at_,.int .i64 p1.name,.int .i64 p1.Zy].toArray] wm h (CP (fun(v:Value) (Gb:List (Ast wm))=>match r.1 with | some y=>∃ (rb0:Nat) (ZbU:Nat) (QR:Option Addr) (Jy:Nat) (QO:Nat) (JF:Option Addr) (Uz:Nat) (JC:Nat),v= .tuple [.pointer (some ⟨rb0,0,none⟩),.int .i64 r.2].toArray∧Gb= [bx wm rb0 [.int .i64 y.machines,.int .i64 y.names,.map (some ZbU),.slice QR Jy QO,.slice JF Uz JC],mp wm Zg Zl (some ZbU) y.cells,ow wm Zj QR Jy QO y.notes,ow wm (ZM .i64) JF Uz JC y.freed] | none=>v= .tuple [.pointer none,.int .i64 r.2].toArray∧Gb= []) [] h):=by
 refine WF.ZfW (args:= [_,_]) (fn:=Try.f57) (by kernel_rfl) (by exact rfl) Try.ntmps57 (by simp) ?_;simp only [ZC,ZI,Nat.reduceAdd];obtain⟨T,hT,hS⟩:∃ T,T=XD (wm:=wm) []∧Sp wm T h [] h:= ⟨_,rfl,Sp.start ZF ZT.nil⟩
 unfold ZrI at hL;refine r3 ?_;rintro _ h2 ⟨b1,eb1,rfl,hS⟩;refine r1 ?_;rintro _ h4 ⟨b3,eb3,rfl,hS⟩;refine r1 ?_;rintro _ h6 ⟨b5,eb5,rfl,hS⟩;refine r4 ?_;refine WO.w gN rfl (Zcu (Zc lk (Zc lk Zk))) ?_;refine WO.dfr gN lk ?_;refine r4 ?_;refine r1 ?_;obtain⟨x7,hx7,hL⟩:=bind_some hL;refine WO.cl gN rfl (Y0.fn ZEc (Zc lk Zk)) hS .n (fun g' hz hf hO=>ZBo (by rw [hz];exact hS.hw) (At.fz hf (Stb.fz hS.fz Y2 Y1) (At.fz hS.fz Y1 Y2)) (Stb.fz hf (At.fz hS.fz Y1 Y2) (Stb.fz hS.fz Y2 Y1)) ((hS.ms ZG).fz hf) ((hS.sl Yo).mono hf) ((hS.sl Yn).mono hf) hx7) ?_;rintro _ h16 _ ⟨b8,m9,a10,n11,c12,a13,n14,c15,rfl,rfl⟩ hS;obtain rfl:=hS.on k2;obtain rfl:=hS.on k3;refine r1 ?_;rintro h18 hS;refine r6 ?_;obtain⟨x19,ZwA,hL⟩:=bind_some hL;rcases x19 with y20 | e21
 ·skip;replace hL:=Zs5 hL;refine WO.cl gN rfl (Y0.fn ZyU (Zc lk (Zc lk Zk))) hS (.c k1 (.c k1 (.c k1 (.c k1 .n)))) (fun g' hz hf hO=>(PQ.ok (ZuD (by rw [hz];exact hS.hw) hO ZwA))) ?_;rintro _ h29 _ ⟨m22,a23,n24,c25,a26,n27,c28,rfl,rfl⟩ hS;obtain rfl:=hS.on k2;obtain rfl:=hS.on k3;refine r6 ?_;rintro h31 hS;refine r1 ?_;rintro h32 hS;refine r3 ?_;refine XV.ofP ?_;refine Za6.dfn (cap:= [.pointer (some ⟨b3,0,none⟩),.pointer (some ⟨b5,0,none⟩)]) (fn2:=Try.f93) (by kernel_rfl) (by exact rfl) Try.ntmps93 (by simp) rfl ?_;simp only [ZC,ZI,Nat.reduceAdd];refine DC.seq ?_;refine DC.rec .ret (Tr.set (Tr.set (Tr.set (Tr.set (Tr.set (Tr.set (Tr.set (Tr.set (Tr.set .nil 0 (.pointer (some ⟨b3,0,none⟩))) 1 (.pointer (some ⟨b5,0,none⟩))) 5 (.nilIface)) 6 (.tuple [.int .i64 0,.bool false].toArray)) 4 (.tuple [.int .i64 0,.bool false].toArray)) 7 (.int .i64 0)) 8 (.bool false)) 2 (.int .i64 0)) 3 (.bool false)) (by exact rfl) rfl ?_;refine⟨rfl,?_⟩;refine DC.seq ?_;refine DC.rgn rfl ?_;refine r3 ?_;refine⟨rfl,?_⟩;refine DC.Zu5 lk rfl ?_;refine DC.skip ?_;refine⟨rfl,rfl,?_⟩;refine Za6.ofL ?_ rfl;have hr:=Option.some.inj hL;subst hr;exact XV.gen rfl (ZL (ZN rfl fh) (KA Zvw (hS.Qj k1) (j:=0) rfl (v:= .pointer (some ⟨b8,0,none⟩)) rfl) (ZL (Yi rfl (ZP rfl (Zf rfl fh))) (KA Zvx (hS.Qj k0) (j:=0) rfl (v:= .int .i64 0) rfl) Zm)) rfl ⟨_,⟨b8,m22,a23,y20.notes.length,c25,a26,y20.freed.length,c28,rfl,rfl⟩,hT ▸ hS.only (.c k2 (.c k2 (.c k2 (.c k2 .n))))⟩
 ·skip;replace hL:=ZpO hL;refine WO.clX gN (Y0.fn ZyU (Zc lk (Zc lk Zk))) hS (.c k1 (.c k1 (.c k1 (.c k1 .n)))) (fun g' hz hf hO=>ZuD (by rw [hz];exact hS.hw) hO ZwA) ?_;rintro h33 hS;refine QB.panic ?_;refine XV.ofX ?_;refine Za6.dfn (cap:= [.pointer (some ⟨b3,0,none⟩),.pointer (some ⟨b5,0,none⟩)]) (fn2:=Try.f93) (by kernel_rfl) (by exact rfl) Try.ntmps93 (by simp) rfl ?_;simp only [ZC,ZI,Nat.reduceAdd];refine DC.seq ?_;refine DC.rec (.rcv (pv 32 e21)) (Tr.set (Tr.set (Tr.set (Tr.set (Tr.set (Tr.set (Tr.set (Tr.set (Tr.set .nil 0 (.pointer (some ⟨b3,0,none⟩))) 1 (.pointer (some ⟨b5,0,none⟩))) 5 (.iface 32 (.int .i64 e21))) 6 (.tuple [.int .i64 e21,.bool true].toArray)) 4 (.tuple [.int .i64 e21,.bool true].toArray)) 7 (.int .i64 e21)) 8 (.bool true)) 2 (.int .i64 e21)) 3 (.bool true)) (by exact rfl) rfl ?_;refine⟨rfl,?_⟩;refine DC.seq ?_;refine DC.rgn rfl ?_;refine r3 ?_;refine⟨rfl,?_⟩;refine DC.Zu4 lk rfl ?_;refine DC.rgn rfl ?_;refine r3 ?_;rintro h34 hS;refine r1 ?_;rintro h35 hS;refine r1 ?_;refine⟨rfl,rfl,?_⟩;refine Za6.ofL ?_ rfl;have hr:=Option.some.inj hL;subst hr;exact XV.gen rfl (ZL (Yi rfl (ZP rfl fh)) (KA Zvw (hS.Qj k1) (j:=0) rfl (v:= .pointer none) rfl) (ZL (Yi rfl (Zf rfl fh)) (KA Zvx (hS.Qj k0) (j:=0) rfl (v:= .int .i64 e21) rfl) Zm)) rfl ⟨_,⟨rfl,rfl⟩,hT ▸ hS.only .n⟩
end Go.Proofs.Ytekpjgmhkkjhgaa
end
end
section
namespace Go.Proofs.Ytekpjgmhkkjhgaa
open Go.Lf
def Zlg (F:Nat) (p0:Zb) (p1:Zn):Option (Zb×Int):=
 (ZuO F p0).bind fun x7=>(gd (!(!x7)) (ZrJ p1 (p0.cells.length:Int)) default).bind fun x8=>(bif((!x7) || (!x8)) then some ((Zb.mk [] [] 0 []),2) else(Zja F p0).bind fun x10=>(ZrI F x10 p1).bind fun x21=>opt x21.1 ((bif(x21.2 !=0) then some ((Zb.mk [] [] 0 []),x21.2) else none)) (fun y22=>(bif(x21.2 !=0) then some ((Zb.mk [] [] 0 []),x21.2) else(Zm6 F y22).bind fun x44=>some (x44,0))))
def Zbz (v40:Int) (Zb4:(Int×(List Yy)×(List Yy)×(List (List Za))×(List Zd)×Int×(List Int) ->Option (Zb×Model×Bool))):(List Yy)×(List Yy)×(List (List Za))×(List Zd)×Int×(List Int) ->Option (Zb×Model×Bool):=fun(v74,v78,v82,v87,v91,v92)=>
 Zb4 (ZJ (v40 + 1),v74,v78,v82,v87,v91,v92)
def ZdR (F:Nat) (z28:(List ZaF)):Int×(List Yy)×(List Yy)×(List (List Za))×(List Zd)×Int×(List Int) ->(Int×(List Yy)×(List Yy)×(List (List Za))×(List Zd)×Int×(List Int) ->Option (Zb×Model×Bool)) ->Option (Zb×Model×Bool):=fun(v40,v42,v46,v50,v55,v59,v60) Zb4=>
 (bif decide (v40 < (z28.length:Int)) then(Yh z28 v40).bind fun x96=>(ZuP x96 (v50.length:Int) v59 (v55.length:Int)).bind fun x102=>(bif(!x102.2) then(Zbz v40 Zb4) (v42,v46,v50,v55,v59,v60) else(Zlg F (Zb.mk v50 v55 v59 v60) x102.1).bind fun J3=>(bif(J3.2==7) then(gd ((x102.1.Z4 !=4) && (!((x102.1.Z4 !=2) && (x102.1.Z4 !=3)))) (Zlc F v42 (Yy.mk x102.1.at_ x102.1.name)) default).bind fun ZCR=>(bif((x102.1.Z4 !=4) && (((x102.1.Z4 !=2) && (x102.1.Z4 !=3)) || ZCR)) then some ((Zb.mk v50 v55 v59 v60),(Model.mk v42 v46),false) else(Zbz v40 Zb4) (v42,v46,v50,v55,v59,v60)) else(bif(((J3.2==3) && (x102.1.Z4 !=5)) && ((v55.length:Int)==80)) then(Zbz v40 Zb4) (v42,v46,v50,v55,v59,v60) else(bif((J3.2 !=0) || ((J3.1.cells.length:Int) != (v50.length:Int))) then some ((Zb.mk v50 v55 v59 v60),(Model.mk v42 v46),false) else(Zim F (Model.mk v42 v46) (Zb.mk v50 v55 v59 v60) x102.1).bind fun Za9=>(ZrK F Za9 J3.1).bind fun Kj=>(bif(!Kj) then some (J3.1,Za9,false) else(Zbz v40 Zb4) (Za9.uses,Za9.ways,J3.1.cells,J3.1.notes,J3.1.names,J3.1.freed)))))) else some ((Zb.mk v50 v55 v59 v60),(Model.mk v42 v46),true))
def ZrM (F:Nat) (p0:Int) (p1:(List ZaF)):Option (Zb×Model×Bool):=
 (ZbV (ZJ p0) 6).bind fun x7=>(ZuS F (ZJ (1 + x7))).bind fun x8=>(gd (!(x8.2 !=0)) (ZbV (ZJ p0) 6) default).bind fun x23=>(bif((x8.2 !=0) || ((x8.1.cells.length:Int) != (ZJ (1 + x23)))) then some (x8.1,(Model.mk [] []),false) else(slL p1 0 (if 120 < (p1.length:Int) then 120 else(p1.length:Int))).bind fun z28=>loop F (ZdR F z28) (0,[],[],x8.1.cells,x8.1.notes,x8.1.names,x8.1.freed))
def ZfJ (F:Nat) (v16:Int) (v18:(List (List Za))) (v21:(List Zd)) (v24:Int) (v25:(List Int)) (v28:(List Yy)) (v32:(List Yy)) (Ze7:(Int×(List (List Za))×(List Zd)×Int×(List Int)×(List Yy)×(List Yy) ->Option (Zb×Model×Bool))):Int ->Option (Zb×Model×Bool):=fun v45=>
 (Zlg F (Zb.mk v18 v21 v24 v25) (Zn.mk 5 v45 0 0)).bind fun x50=>(bif(((x50.2 !=0) || (decide (v16 > 2000))) || ((x50.1.cells.length:Int) != (v18.length:Int))) then some ((Zb.mk v18 v21 v24 v25),(Model.mk v28 v32),false) else(Zim F (Model.mk v28 v32) (Zb.mk v18 v21 v24 v25) (Zn.mk 5 v45 0 0)).bind fun x75=>Ze7 (ZJ (v16 + 1),x50.1.cells,x50.1.notes,x50.1.names,x50.1.freed,x75.uses,x75.ways))
def ZdQ (F:Nat) (p2:(List Int)):Int×(List (List Za))×(List Zd)×Int×(List Int)×(List Yy)×(List Yy) ->(Int×(List (List Za))×(List Zd)×Int×(List Int)×(List Yy)×(List Yy) ->Option (Zb×Model×Bool)) ->Option (Zb×Model×Bool):=fun(v16,v18,v21,v24,v25,v28,v32) Ze7=>
 (bif decide ((v21.length:Int) > 0) then(bif decide ((p2.length:Int) > 0) then(ZbV v16 (p2.length:Int)).bind fun x86=>(Yh p2 x86).bind fun x87=>(ZbV (ZJ x87) (v21.length:Int)).bind fun x90=>(ZfJ F v16 v18 v21 v24 v25 v28 v32 Ze7) x90 else(ZfJ F v16 v18 v21 v24 v25 v28 v32 Ze7) 0) else(ZrK F (Model.mk v28 v32) (Zb.mk v18 v21 v24 v25)).bind fun x93=>some ((Zb.mk v18 v21 v24 v25),(Model.mk v28 v32),x93))
def ZrL (F:Nat) (p0:Zb) (p1:Model) (p2:(List Int)):Option (Zb×Model×Bool):=
 loop F (ZdQ F p2) (0,p0.cells,p0.notes,p0.names,p0.freed,p1.uses,p1.ways)
end Go.Proofs.Ytekpjgmhkkjhgaa
end
section
set_option maxRecDepth 20000
noncomputable section
namespace Go.Proofs.Ytekpjgmhkkjhgaa
open Go.Yz Go.Lf
theorem Zo5 {F wm:Nat} {h:H} {p0:Zb} {p1:Zn} {Zr:Option Addr} {Zq:Nat} {Zp:Option Addr} {Zo:Nat} {Zx:Option Addr} {Zw:Nat} {r:(Zb×Int)} (ZF:wm <=h.size) (ZG:Sl (Ke Zu) wm h Zr Zq p0.cells) (Yo:Sl Zj wm h Zp Zo p0.notes) (Yn:Sl (ZM .i64) wm h Zx Zw p0.freed) (hL:Zlg F p0 p1=some r):
 WR XX 17 #[.agg [.slice Zr p0.cells.length Zq,.slice Zp p0.notes.length Zo,.int .i64 p0.names,.slice Zx p0.freed.length Zw].toArray,.agg [.int .i64 p1.Z4,.int .i64 p1.at_,.int .i64 p1.name,.int .i64 p1.Zy].toArray] wm h (CP (fun(v:Value) (Gb:List (Ast wm))=>∃ (Xz:Option Addr) (XY:Nat) (Xy:Nat) (Zbj:Nat ->Option Addr×Nat×Nat) (QR:Option Addr) (Jy:Nat) (QO:Nat) (JF:Option Addr) (Uz:Nat) (JC:Nat),v= .tuple [.agg [.slice Xz XY Xy,.slice QR Jy QO,.int .i64 r.1.names,.slice JF Uz JC].toArray,.int .i64 r.2].toArray∧Gb= [nst wm (Xq Zu) Xz XY Xy Zbj r.1.cells,ow wm Zj QR Jy QO r.1.notes,ow wm (ZM .i64) JF Uz JC r.1.freed]) [] h):=by
 refine bg Try.ntmps17 ZF ZT.nil ?_;intro T hT hS;unfold Zlg at hL;refine r3 ?_;rintro _ h2 ⟨b1,eb1,rfl,hS⟩;refine r1 ?_;rintro _ h4 ⟨b3,eb3,rfl,hS⟩;refine r1 ?_;rintro _ h6 ⟨b5,eb5,rfl,hS⟩;refine r6 ?_;refine r1 ?_;obtain⟨x7,hx7,hL⟩:=bind_some hL;refine WO.cp gN rfl (Y0.fn ZEo (Zc lk Zk)) (WR.QF rfl (ZBC (Nat.le_refl _) (hS.slu ZG) (hS.slu Yo) (hS.slu Yn) hx7)) ?_;refine r6 ?_;obtain⟨x8,hx8,hL⟩:=Xx hL;refine WO.gcp (Zi.no rfl rfl rfl (Yi rfl fh)) rfl (fun hg=>(Y0.fn ZEn (Zc (XE (ZP rfl (Zf rfl fh)) rfl hg) (Zc (XE fh rfl hg) Zk)))) (fun hg=>ZBB (hx8 hg)) ?_;refine r4 ?_;refine cn hL ?_ ?_
 ·intro hc hL;refine r2 ?_;refine WO.w gN rfl (Xj ZnB ZE rfl (cs':= [.slice none 0 0,.slice none 0 0,.int .i64 0,.slice none 0 0]) rfl) ?_;refine r1 ?_;rintro h9 hS;refine r4 ?_;refine r1 ?_;have hS:=hS.Zwp (e:= (Xq Zu)) (ps:=fun _=>(Xq Zu).dflt);have hS:=hS.nil (e:=Zj);have hS:=hS.nil (e:= (ZM .i64));have hr:=Option.some.inj hL;subst hr;exact ZQ.gen (vs:= [.agg [.slice none 0 0,.slice none 0 0,.int .i64 0,.slice none 0 0].toArray,.int .i64 2]) rfl (ZL (ZN rfl (Yi rfl (ZP rfl fh))) (ZW K5 X9 (hS.Qj k3) (j:=0) rfl rfl (ws:= [.slice none 0 0,.slice none 0 0,.int .i64 0,.slice none 0 0]) rfl) (ZB lk Zm)) rfl ⟨_,⟨none,0,0,(fun _=>(Xq Zu).dflt),none,0,0,none,0,0,rfl,rfl⟩,hT ▸ hS.only (.c k2 (.c k1 (.c k0 .n)))⟩
 ·intro hc hL;refine r3 ?_;refine WC.Yp mixed (by kernel_rfl) ?_;refine r1 ?_;obtain⟨x10,ZHV,hL⟩:=bind_some hL;refine WX.cl0 gN rfl (Y0.fn ZtZ (Zc lk Zk)) hS .n (fun g' hz hf hO=>ZoZ (by rw [hz];exact hS.hw) ((hS.sl ZG).mono hf) ((hS.sl Yo).mono hf) ((hS.sl Yn).mono hf) ZHV) ?_ rfl rfl;rintro _ h19 _ ⟨b11,m12,a13,n14,c15,a16,n17,c18,rfl,rfl⟩ hS;obtain rfl:=hS.on k2;obtain rfl:=hS.on k3;refine r1 ?_;obtain⟨x21,Zos,hL⟩:=bind_some hL;rcases ZwY:x21.1 with _ | y22
  ·skip;rw [ZwY] at hL;replace hL:=Ztd hL;refine WX.clR gN rfl (Y0.fn ZyZ (Zc lk (Zc lk Zk))) hS.hw (ZuN (Nat.le_refl _) (hS.Qj k0) (.inl (hS.lt k0)) (hS.mrd k1) (hS.ord k2) (hS.ord k3) Zos) ?_ rfl rfl;rintro v26 h24 ZO0 ZER ZIy;rw [ZwY] at ZER;obtain⟨rfl,rfl⟩:=ZER;have hS:=hS.clR ZIy .n;refine J6 ?_;refine r2 ?_;refine cn hL ?_ ?_
   ·intro hc hL;refine r2 ?_;refine WO.w gN rfl (Xj ZnB ZE rfl (cs':= [.slice none 0 0,.slice none 0 0,.int .i64 0,.slice none 0 0]) rfl) ?_;refine r2 ?_;rintro h29 hS;refine r4 ?_;refine r1 ?_;have hS:=hS.Zwp (e:= (Xq Zu)) (ps:=fun _=>(Xq Zu).dflt);have hS:=hS.nil (e:=Zj);have hS:=hS.nil (e:= (ZM .i64));have hr:=Option.some.inj hL;subst hr;exact ZQ.gen (vs:= [.agg [.slice none 0 0,.slice none 0 0,.int .i64 0,.slice none 0 0].toArray,.int .i64 x21.2]) rfl (ZL (ZN rfl (ZN rfl (ZN rfl (ZP rfl fh)))) (ZW K5 X9 (hS.Qj k3) (j:=0) rfl rfl (ws:= [.slice none 0 0,.slice none 0 0,.int .i64 0,.slice none 0 0]) rfl) (ZB lk Zm)) rfl ⟨_,⟨none,0,0,(fun _=>(Xq Zu).dflt),none,0,0,none,0,0,rfl,rfl⟩,hT ▸ hS.only (.c k2 (.c k1 (.c k0 .n)))⟩
   ·intro hc hL;cases hL
  ·skip;rw [ZwY] at hL;replace hL:=Ztc hL;refine WX.clR gN rfl (Y0.fn ZyZ (Zc lk (Zc lk Zk))) hS.hw (ZuN (Nat.le_refl _) (hS.Qj k0) (.inl (hS.lt k0)) (hS.mrd k1) (hS.ord k2) (hS.ord k3) Zos) ?_ rfl rfl;rintro v40 h38 ZOZ ZEQ ZIv;rw [ZwY] at ZEQ;obtain⟨b30,m31,a32,n33,c34,a35,n36,c37,rfl,rfl⟩:=ZEQ;have hS:=hS.clR ZIv (.c (cvB hS.hw) (.c (cvM hS.hw) (.c (cvO (fun _ _ _ _=>trivial) hS.hw) (.c (cvO (fun _ _ _ _=>trivial) hS.hw) .n))));obtain rfl:=hS.on k2;obtain rfl:=hS.on k3;refine J6 ?_;refine r2 ?_;refine cn hL ?_ ?_
   ·intro hc hL;refine r2 ?_;refine WO.w gN rfl (Xj ZnB ZE rfl (cs':= [.slice none 0 0,.slice none 0 0,.int .i64 0,.slice none 0 0]) rfl) ?_;refine r2 ?_;rintro h43 hS;refine r4 ?_;refine r1 ?_;have hS:=hS.Zwp (e:= (Xq Zu)) (ps:=fun _=>(Xq Zu).dflt);have hS:=hS.nil (e:=Zj);have hS:=hS.nil (e:= (ZM .i64));have hr:=Option.some.inj hL;subst hr;exact ZQ.gen (vs:= [.agg [.slice none 0 0,.slice none 0 0,.int .i64 0,.slice none 0 0].toArray,.int .i64 x21.2]) rfl (ZL (ZN rfl (ZN rfl (ZN rfl (ZP rfl fh)))) (ZW K5 X9 (hS.Qj k3) (j:=0) rfl rfl (ws:= [.slice none 0 0,.slice none 0 0,.int .i64 0,.slice none 0 0]) rfl) (ZB lk Zm)) rfl ⟨_,⟨none,0,0,(fun _=>(Xq Zu).dflt),none,0,0,none,0,0,rfl,rfl⟩,hT ▸ hS.only (.c k2 (.c k1 (.c k0 .n)))⟩
   ·intro hc hL;refine r4 ?_;refine r1 ?_;obtain⟨x44,Zwx,hL⟩:=bind_some hL;refine WO.clR gN rfl (Y0.fn Zt0 (Zc lk Zk)) hS.hw (Zo0 (Nat.le_refl _) (hS.Qj k0) (.inl (hS.lt k0)) (hS.mrd k1) (hS.ord k2) (hS.ord k3) Zwx) ?_;rintro _ h54 _ ⟨a45,n46,c47,ZDb,a48,n49,c50,a51,n52,c53,rfl,rfl⟩ ZIu;have hS:=hS.clR ZIu (.c (cvN (fun _ _ _ _=>trivial) hS.hw) (.c (cvO (fun _ _ _ _=>trivial) hS.hw) (.c (cvO (fun _ _ _ _=>trivial) hS.hw) .n)));obtain rfl:=hS.ZhG k0;obtain rfl:=hS.on k1;obtain rfl:=hS.on k2;refine r1 ?_;rintro h56 hS;refine r4 ?_;have hr:=Option.some.inj hL;subst hr;exact ZQ.gen (vs:= [.agg [.slice a45 x44.cells.length c47,.slice a48 x44.notes.length c50,.int .i64 x44.names,.slice a51 x44.freed.length c53].toArray,.int .i64 0]) rfl (ZL (ZN rfl (ZN rfl (ZN rfl (ZP rfl fh)))) (ZW K5 X9 (hS.Qj k0) (j:=0) rfl rfl (ws:= [.slice a45 x44.cells.length c47,.slice a48 x44.notes.length c50,.int .i64 x44.names,.slice a51 x44.freed.length c53]) rfl) (ZB lk Zm)) rfl ⟨_,⟨a45,x44.cells.length,c47,ZDb,a48,x44.notes.length,c50,a51,x44.freed.length,c53,rfl,rfl⟩,hT ▸ hS.only (.c k1 (.c k1 (.c k1 .n)))⟩
theorem ZBH {F wm:Nat} {h:H} {p0:Int} {p1:(List ZaF)} {Yk:Option Addr} {Yj:Nat} {r:(Zb×Model×Bool)} (ZF:wm <=h.size) (QZ:Sl Zs2 wm h Yk Yj p1) (hL:ZrM F p0 p1=some r):
 WR XX 38 #[.int .u8 p0,.slice Yk p1.length Yj] wm h (CP (fun(v:Value) (Gb:List (Ast wm))=>∃ (Xz:Option Addr) (XY:Nat) (Xy:Nat) (Zbj:Nat ->Option Addr×Nat×Nat) (QR:Option Addr) (Jy:Nat) (QO:Nat) (JF:Option Addr) (Uz:Nat) (JC:Nat) (Zmx:Option Addr) (Zmp:Nat) (Zmu:Nat) (Zmw:Option Addr) (Zmo:Nat) (Zmt:Nat),v= .tuple [.agg [.slice Xz XY Xy,.slice QR Jy QO,.int .i64 r.1.names,.slice JF Uz JC].toArray,.agg [.slice Zmx Zmp Zmu,.slice Zmw Zmo Zmt].toArray,.bool r.2.2].toArray∧Gb= [nst wm (Xq Zu) Xz XY Xy Zbj r.1.cells,ow wm Zj QR Jy QO r.1.notes,ow wm (ZM .i64) JF Uz JC r.1.freed,ow wm Yg Zmx Zmp Zmu r.2.1.uses,ow wm Yg Zmw Zmo Zmt r.2.1.ways]) [] h):=by
 refine bg Try.ntmps38 ZF ZT.nil ?_;intro T hT hS;unfold ZrM at hL;refine r3 ?_;rintro _ h2 ⟨b1,eb1,rfl,hS⟩;refine r1 ?_;rintro _ h4 ⟨b3,eb3,rfl,hS⟩;refine r6 ?_;rintro _ h6 ⟨b5,eb5,rfl,hS⟩;refine r4 ?_;refine r1 ?_;refine WO.w gN rfl (ZbE Zmb Zkn lk) ?_;obtain⟨x7,hx7,hL⟩:=bind_some hL;refine WO.w gN rfl (Z9 (Zt fh rfl) (Jr rfl) (Qm hx7)) ?_;refine r1 ?_;obtain⟨x8,hx8,hL⟩:=bind_some hL;refine WO.cl gN rfl (Y0.fn ZEs (Zc lk Zk)) hS .n (fun g' hz hf hO=>ZBI (by rw [hz];exact hS.hw) hx8) ?_;rintro _ h18 _ ⟨a9,n10,c11,ZDa,a12,n13,c14,a15,n16,c17,rfl,rfl⟩ hS;obtain rfl:=hS.ZhG k0;obtain rfl:=hS.on k1;obtain rfl:=hS.on k2;refine r4 ?_;rintro _ h21 ⟨b20,ZNB,rfl,hS⟩;refine r1 ?_;rintro h22 hS;refine J6 ?_;refine r1 ?_;refine WO.gv (Zi.no rfl rfl rfl (Yi rfl fh)) rfl (fun hg=>(ZbE Zmb Zkn (XE fh rfl hg))) ?_;obtain⟨x23,Zwy,hL⟩:=Xx hL;refine WO.gv (Zi.no rfl rfl rfl (Yi rfl (Zf rfl fh))) rfl (fun hg=>(Z9 (XE fh rfl hg) (Jr rfl) (Qm (Zwy hg)))) ?_;refine r4 ?_;refine r1 ?_;refine cn hL ?_ ?_
 ·intro hc hL;refine r1 ?_;refine WC.Yp mixed (by kernel_rfl) ?_;refine r1 ?_;refine WX.wr (fun x=>x=b5) hS gN rfl (fun _ _ hR=>Xa WW XO (Zt (ZN rfl (ZN rfl (Yi rfl (ZP rfl (Zf rfl fh))))) rfl) (At.eqv (hR b5 rfl) (hS.Qj k4)) (j:=0) rfl rfl (ws:= [.slice none 0 0,.slice none 0 0]) rfl) ?_ rfl rfl;rintro h24 e25 hS;refine WX.hu gN (J5 hS k6 X9 lk lk (vs:= [.slice a9 x8.1.cells.length c11,.slice a12 x8.1.notes.length c14,.int .i64 x8.1.names,.slice a15 x8.1.freed.length c17]) rfl rfl rfl rfl (cs':= [.slice a9 x8.1.cells.length c11,.slice a12 x8.1.notes.length c14,.int .i64 x8.1.names,.slice a15 x8.1.freed.length c17]) rfl) ?_ rfl rfl [1] (by kernel_rfl) (.c .z (hS.dj (.c k6 (.c k4 .n))) Z8.e);rintro h26 hS;refine WX.hu gN (J5 hS k6 XO lk lk (vs:= [.slice none 0 0,.slice none 0 0]) rfl rfl rfl rfl (cs':= [.slice none 0 0,.slice none 0 0]) rfl) ?_ rfl (by kernel_rfl) [] (by kernel_rfl) Z8.e;rintro h27 hS;refine WX.w gN rfl (Z7 lk) ?_ (by kernel_rfl);refine r4 ?_;have hS:=hS.nil (e:=Yg);have hS:=hS.nil (e:=Yg);have hr:=Option.some.inj hL;subst hr;exact ZQ.gen (vs:= [.agg [.slice a9 x8.1.cells.length c11,.slice a12 x8.1.notes.length c14,.int .i64 x8.1.names,.slice a15 x8.1.freed.length c17].toArray,.agg [.slice none 0 0,.slice none 0 0].toArray,.bool false]) rfl (ZL (ZN rfl (ZN rfl (ZN rfl (Yi rfl fh)))) (ZW K5 X9 (hS.Qj k3) (j:=0) rfl rfl (ws:= [.slice a9 x8.1.cells.length c11,.slice a12 x8.1.notes.length c14,.int .i64 x8.1.names,.slice a15 x8.1.freed.length c17]) rfl) (ZL (ZN rfl (ZN rfl (ZN rfl (ZP rfl (Zf rfl fh))))) (ZW WW XO (hS.Qj k2) (j:=0) rfl rfl (ws:= [.slice none 0 0,.slice none 0 0]) rfl) (ZB lk Zm))) rfl ⟨_,⟨a9,x8.1.cells.length,c11,ZDa,a12,x8.1.notes.length,c14,a15,x8.1.freed.length,c17,none,0,0,none,0,0,rfl,rfl⟩,hT ▸ hS.only (.c k5 (.c k5 (.c k5 (.c k1 (.c k0 .n)))))⟩
 ·intro hc hL;refine r8 ?_;refine WO.w gN rfl (ZB2 lk lk) ?_;obtain⟨z28,ZHG,hL⟩:=bind_some hL;refine WO.he gN rfl (ZsU (hS.sl QZ) rfl ZsD Zkq (Zt (ZP rfl (Zf rfl fh)) rfl) (Zt fh rfl) ZHG) ?_;rintro _ ⟨a29,c30,rfl,hv31⟩;have ZDU:=hv31.sl QZ;refine r4 ?_;refine r1 ?_;have hS:=hS.nil (e:=Yg);have hS:=hS.nil (e:=Yg);refine WC.loop (WL.lift hL (fun(p:Int×(List Yy)×(List Yy)×(List (List Za))×(List Zd)×Int×(List Int)) (s:Fs)=>match p with | (v40,v42,v46,v50,v55,v59,v60)=>∃ (Zch:Fr) (h32:H) (a43:Option Addr) (c44:Nat) (n45:Nat) (a47:Option Addr) (c48:Nat) (n49:Nat) (a51:Option Addr) (c52:Nat) (n53:Nat) (Zmz:Nat ->Option Addr×Nat×Nat) (a56:Option Addr) (c57:Nat) (n58:Nat) (a61:Option Addr) (c62:Nat) (n63:Nat),s= ⟨Zch,[],h32,none⟩∧Sp wm T h [bx wm b1 [.slice none 0 0,.slice none 0 0,.int .i64 0,.slice none 0 0],bx wm b3 [.slice none 0 0,.slice none 0 0],ow wm Yg a43 n45 c44 v42,ow wm Yg a47 n49 c48 v46,bx wm b5 [.slice a43 n45 c44,.slice a47 n49 c48],nst wm (Xq Zu) a51 n53 c52 Zmz v50,ow wm Zj a56 n58 c57 v55,ow wm (ZM .i64) a61 n63 c62 v60,bx wm b20 [.slice a51 n53 c52,.slice a56 n58 c57,.int .i64 v59,.slice a61 n63 c62]] h32∧Zch.at 4= .pointer (some ⟨b1,0,none⟩)∧Zch.at 5= .pointer (some ⟨b3,0,none⟩)∧Zch.at 7= .pointer (some ⟨b5,0,none⟩)∧Zch.at 8= .pointer (some ⟨b20,0,none⟩)∧Zch.at 42= .slice a29 z28.length c30∧Zch.at 43= .int .i64 (z28.length:Int)∧Zch.at 44= .int .i64 v40) ⟨_,_,none,0,0,none,0,0,a9,c11,x8.1.cells.length,ZDa,a12,c14,x8.1.notes.length,a15,c17,x8.1.freed.length,rfl,hS.only (.c k8 (.c k7 (.c k0 (.c k0 (.c k4 (.c k1 (.c k1 (.c k1 (.c k0 .n))))))))),YN⟩ ?_);clear hL hS;rintro Zb4 ⟨v40,v42,v46,v50,v55,v59,v60⟩ s ZwK hL ⟨Zch,h32,a43,c44,n45,a47,c48,n49,a51,c52,n53,Zmz,a56,c57,n58,a61,c62,n63,rfl,hS,e34,e35,e36,e37,e38,e39,e41⟩;obtain rfl:=hS.on k2;obtain rfl:=hS.on k3;obtain rfl:=hS.ZhG k5;obtain rfl:=hS.on k6;obtain rfl:=hS.on k7;dsimp only [ZdR] at hL;refine r6 ?_;refine cn hL ?_ ?_
  ·intro hc hL;refine r2 ?_;refine WC.KH (r:=r) (fun(p:(List Yy)×(List Yy)×(List (List Za))×(List Zd)×Int×(List Int)) (s:Fs)=>match p with | (v74,v78,v82,v87,v91,v92)=>∃ (ZkU:Fr) (h65:H) (a75:Option Addr) (c76:Nat) (n77:Nat) (a79:Option Addr) (c80:Nat) (n81:Nat) (a83:Option Addr) (c84:Nat) (n85:Nat) (ZzX:Nat ->Option Addr×Nat×Nat) (a88:Option Addr) (c89:Nat) (n90:Nat) (a93:Option Addr) (c94:Nat) (n95:Nat),s= ⟨ZkU,[],h65,none⟩∧Sp wm T h [bx wm b1 [.slice none 0 0,.slice none 0 0,.int .i64 0,.slice none 0 0],bx wm b3 [.slice none 0 0,.slice none 0 0],ow wm Yg a75 n77 c76 v74,ow wm Yg a79 n81 c80 v78,bx wm b5 [.slice a75 n77 c76,.slice a79 n81 c80],nst wm (Xq Zu) a83 n85 c84 ZzX v82,ow wm Zj a88 n90 c89 v87,ow wm (ZM .i64) a93 n95 c94 v92,bx wm b20 [.slice a83 n85 c84,.slice a88 n90 c89,.int .i64 v91,.slice a93 n95 c94]] h65∧ZkU.at 4= .pointer (some ⟨b1,0,none⟩)∧ZkU.at 5= .pointer (some ⟨b3,0,none⟩)∧ZkU.at 7= .pointer (some ⟨b5,0,none⟩)∧ZkU.at 8= .pointer (some ⟨b20,0,none⟩)∧ZkU.at 42= .slice a29 z28.length c30∧ZkU.at 43= .int .i64 (z28.length:Int)∧ZkU.at 44= .int .i64 v40) (Zbz v40 Zb4) ?_ ?_
   ·clear hL hS;rintro⟨v74,v78,v82,v87,v91,v92⟩ s hL ⟨ZkU,h65,a75,c76,n77,a79,c80,n81,a83,c84,n85,ZzX,a88,c89,n90,a93,c94,n95,rfl,hS,e67,e68,e69,e70,e71,e72,e73⟩;obtain rfl:=hS.on k2;obtain rfl:=hS.on k3;obtain rfl:=hS.ZhG k5;obtain rfl:=hS.on k6;obtain rfl:=hS.on k7;dsimp only [Zbz] at hL;refine r4 ?_;exact Yw.Yv (ZwK _ _ hL ⟨_,_,a75,c76,v74.length,a79,c80,v78.length,a83,c84,v82.length,ZzX,a88,c89,v87.length,a93,c94,v92.length,rfl,hS.only (.c k0 (.c k0 (.c k0 (.c k0 (.c k0 (.c k0 (.c k0 (.c k0 (.c k0 .n))))))))),YN⟩)
   ·skip;refine r3 ?_;obtain⟨x96,hx96,hL⟩:=bind_some hL;obtain⟨b97,o98,_,ZEv,ZFd,ZE0,ZKl⟩:=Sl.at_ ZDU hx96;refine WO.w gN rfl (ZY ZsD Zkq lk lk rfl ZEv hx96) ?_;refine WO.w gN rfl (Xa Zzo Zkq (Zt fh rfl) (At.fz hS.fz ZE0 ZFd) (j:=0) rfl rfl (ws:= [.int .u8 x96.Z4,.int .u8 x96.at_,.int .u8 x96.name,.int .u8 x96.Zy]) rfl) ?_;refine r1 ?_;rintro _ ZI6 ⟨b99,ZNd,rfl,hS⟩;refine r1 ?_;rintro ZFP hS;refine J6 ?_;refine r1 ?_;obtain⟨x102,hx102,hL⟩:=bind_some hL;refine WO.cl gN rfl (Y0.fn ZEp (Zc lk (Zc lk (Zc lk (Zc lk Zk))))) hS .n (fun g' hz hf hO=>ZBD (by rw [hz];exact hS.hw) hx102) ?_;rintro _ ZM6 _ ⟨rfl,rfl⟩ hS;refine r4 ?_;rintro _ ZI5 ⟨ZGk,ZK4,rfl,hS⟩;refine r1 ?_;rintro ZI4 hS;refine r8 ?_;refine r2 ?_;refine cn hL ?_ ?_
    ·intro hc hL;refine r3 ?_;exact YH.Yv _ hL ⟨_,_,a43,c44,v42.length,a47,c48,v46.length,a51,c52,v50.length,Zmz,a56,c57,v55.length,a61,c62,v60.length,rfl,hS.only (.c k2 (.c k2 (.c k2 (.c k2 (.c k2 (.c k2 (.c k2 (.c k2 (.c k2 .n))))))))),YN⟩
    ·intro hc hL;refine r6 ?_;obtain⟨J3,ZDP,hL⟩:=bind_some hL;refine WO.clR gN rfl (Y0.fn Zt4 (Zc lk (Zc lk Zk))) hS.hw (Zo5 (Nat.le_refl _) (hS.nrd k7 Zof) (hS.ord k8) (hS.ord k9) ZDP) ?_;rintro _ ZFO _ ⟨a109,n110,ZrZ,Zs4,Zsk,n113,ZrY,Zsj,n116,c117,rfl,rfl⟩ ZEP;have hS:=hS.clR ZEP (.c (cvN (fun _ _ _ _=>trivial) hS.hw) (.c (cvO (fun _ _ _ _=>trivial) hS.hw) (.c (cvO (fun _ _ _ _=>trivial) hS.hw) .n)));obtain rfl:=hS.ZhG k0;obtain rfl:=hS.on k1;obtain rfl:=hS.on k2;refine r4 ?_;rintro _ ZMY ⟨ZOL,ZKZ,rfl,hS⟩;refine r1 ?_;rintro h122 hS;refine r8 ?_;refine r2 ?_;refine cn hL ?_ ?_
     ·intro hc hL;refine J6 ?_;refine r2 ?_;refine WO.gv (Zi.yes rfl rfl rfl (Yi rfl (ZP rfl (Zf rfl fh)))) rfl (fun hg=>(QL (XE (ZP rfl (Zf rfl fh)) rfl hg) (Zng fh hg) lk)) ?_;refine r6 ?_;refine r1 ?_;refine WO.gv (Zi.no2 rfl rfl rfl (Yi rfl (ZP rfl fh))) rfl (fun hg=>(Xj Zj8 (Zh (XE (ZP rfl fh) rfl hg) (Zh (XE fh rfl hg) ZE)) rfl (cs':= [.int .i64 x102.1.at_,.int .i64 x102.1.name]) rfl)) ?_;obtain⟨ZCR,ZDN,hL⟩:=Xx hL;refine WO.gcp (Zi.no2 rfl rfl rfl (Yi rfl (ZP rfl (Zf rfl fh)))) rfl (fun hg=>(Y0.fn Zt1 (Zc (XE (Yi rfl (Zf rfl fh)) rfl hg) (Zc (XE fh rfl hg) Zk)))) (fun hg=>Zo1 (hS.ord k8) (ZDN hg)) ?_;refine WO.gv (Zi.yes rfl rfl rfl (ZN rfl (ZN rfl (Zf rfl fh)))) rfl (fun hg=>(Zzm (XE (ZN rfl fh) rfl hg) lk (Zng fh hg))) ?_;refine r3 ?_;refine cn hL ?_ ?_
      ·intro hc hL;refine r1 ?_;refine WC.Yp mixed (by kernel_rfl) ?_;refine r1 ?_;refine WX.wr (fun x=>x=b5) hS gN rfl (fun _ _ hR=>Xa WW XO (Zt (ZN rfl (ZN rfl (ZN rfl (ZN rfl (ZN rfl (ZN rfl (Yi rfl (ZP rfl (Zf rfl e36))))))))) rfl) (At.eqv (hR b5 rfl) (hS.Qj k10)) (j:=0) rfl rfl (ws:= [.slice a43 v42.length c44,.slice a47 v46.length c48]) rfl) ?_ rfl rfl;rintro ZMX e125 hS;refine WX.hu gN (J5 hS k6 X9 lk lk (vs:= [.slice a51 v50.length c52,.slice a56 v55.length c57,.int .i64 v59,.slice a61 v60.length c62]) rfl rfl rfl rfl (cs':= [.slice a51 v50.length c52,.slice a56 v55.length c57,.int .i64 v59,.slice a61 v60.length c62]) rfl) ?_ rfl rfl [1] (by kernel_rfl) (.c .z (hS.dj (.c k6 (.c k9 .n))) Z8.e);rintro Zw2 hS;refine WX.hu gN (J5 hS k7 XO lk lk (vs:= [.slice a43 v42.length c44,.slice a47 v46.length c48]) rfl rfl rfl rfl (cs':= [.slice a43 v42.length c44,.slice a47 v46.length c48]) rfl) ?_ rfl (by kernel_rfl) [] (by kernel_rfl) Z8.e;rintro h127 hS;refine WX.w gN rfl (Z7 lk) ?_ (by kernel_rfl);refine r6 ?_;refine YH.ret ?_;refine r3 ?_;have hr:=Option.some.inj hL;subst hr;exact ZQ.gen (vs:= [.agg [.slice a51 v50.length c52,.slice a56 v55.length c57,.int .i64 v59,.slice a61 v60.length c62].toArray,.agg [.slice a43 v42.length c44,.slice a47 v46.length c48].toArray,.bool false]) rfl (ZL (ZN rfl (ZN rfl (ZN rfl (ZN rfl (ZN rfl (ZN rfl (ZN rfl (Zf rfl e34)))))))) (ZW K5 X9 (hS.Qj k1) (j:=0) rfl rfl (ws:= [.slice a51 v50.length c52,.slice a56 v55.length c57,.int .i64 v59,.slice a61 v60.length c62]) rfl) (ZL (ZN rfl (ZN rfl (ZN rfl (ZN rfl (ZN rfl (ZN rfl (ZN rfl (Zf rfl e35)))))))) (ZW WW XO (hS.Qj k0) (j:=0) rfl rfl (ws:= [.slice a43 v42.length c44,.slice a47 v46.length c48]) rfl) (ZB lk Zm))) rfl ⟨_,⟨a51,v50.length,c52,Zmz,a56,v55.length,c57,a61,v60.length,c62,a43,v42.length,c44,a47,v46.length,c48,rfl,rfl⟩,hT ▸ hS.only (.c k11 (.c k11 (.c k11 (.c k8 (.c k8 .n)))))⟩
      ·intro hc hL;refine r4 ?_;refine r1 ?_;exact YH.Yv _ hL ⟨_,_,a43,c44,v42.length,a47,c48,v46.length,a51,c52,v50.length,Zmz,a56,c57,v55.length,a61,c62,v60.length,rfl,hS.only (.c k6 (.c k6 (.c k6 (.c k6 (.c k6 (.c k6 (.c k6 (.c k6 (.c k6 .n))))))))),YN⟩
     ·intro hc hL;refine r16 ?_;refine r4 ?_;refine cn hL ?_ ?_
      ·intro hc hL;refine r3 ?_;exact YH.Yv _ hL ⟨_,_,a43,c44,v42.length,a47,c48,v46.length,a51,c52,v50.length,Zmz,a56,c57,v55.length,a61,c62,v60.length,rfl,hS.only (.c k6 (.c k6 (.c k6 (.c k6 (.c k6 (.c k6 (.c k6 (.c k6 (.c k6 .n))))))))),YN⟩
      ·intro hc hL;refine r16 ?_;refine r2 ?_;refine cn hL ?_ ?_
       ·intro hc hL;refine r1 ?_;refine WC.Yp mixed (by kernel_rfl) ?_;refine r1 ?_;refine WX.wr (fun x=>x=b5) hS gN rfl (fun _ _ hR=>Xa WW XO (Zt (ZN rfl (ZN rfl (ZN rfl (ZN rfl (ZN rfl (ZN rfl (ZN rfl e36))))))) rfl) (At.eqv (hR b5 rfl) (hS.Qj k10)) (j:=0) rfl rfl (ws:= [.slice a43 v42.length c44,.slice a47 v46.length c48]) rfl) ?_ rfl rfl;rintro h128 e129 hS;refine WX.hu gN (J5 hS k6 X9 (Zt (ZN rfl (ZN rfl (ZN rfl (ZN rfl (ZN rfl (ZN rfl (ZN rfl (Zf rfl e34)))))))) rfl) lk (vs:= [.slice a51 v50.length c52,.slice a56 v55.length c57,.int .i64 v59,.slice a61 v60.length c62]) rfl rfl rfl rfl (cs':= [.slice a51 v50.length c52,.slice a56 v55.length c57,.int .i64 v59,.slice a61 v60.length c62]) rfl) ?_ rfl rfl [1] (by kernel_rfl) (.c .z (hS.dj (.c k6 (.c k9 .n))) Z8.e);rintro ZMV hS;refine WX.hu gN (J5 hS k7 XO (Zt (ZN rfl (ZN rfl (ZN rfl (ZN rfl (ZN rfl (ZN rfl (ZN rfl (Zf rfl e35)))))))) rfl) lk (vs:= [.slice a43 v42.length c44,.slice a47 v46.length c48]) rfl rfl rfl rfl (cs':= [.slice a43 v42.length c44,.slice a47 v46.length c48]) rfl) ?_ rfl (by kernel_rfl) [] (by kernel_rfl) Z8.e;rintro ZFN hS;refine WX.w gN rfl (Z7 lk) ?_ (by kernel_rfl);refine r4 ?_;refine r1 ?_;refine YH.ret ?_;refine r3 ?_;have hr:=Option.some.inj hL;subst hr;exact ZQ.gen (vs:= [.agg [.slice a51 v50.length c52,.slice a56 v55.length c57,.int .i64 v59,.slice a61 v60.length c62].toArray,.agg [.slice a43 v42.length c44,.slice a47 v46.length c48].toArray,.bool false]) rfl (ZL (ZN rfl (ZN rfl (ZN rfl (ZN rfl (ZN rfl (ZN rfl (ZN rfl (ZP rfl e34)))))))) (ZW K5 X9 (hS.Qj k1) (j:=0) rfl rfl (ws:= [.slice a51 v50.length c52,.slice a56 v55.length c57,.int .i64 v59,.slice a61 v60.length c62]) rfl) (ZL (ZN rfl (ZN rfl (ZN rfl (ZN rfl (ZN rfl (ZN rfl (ZN rfl (ZP rfl e35)))))))) (ZW WW XO (hS.Qj k0) (j:=0) rfl rfl (ws:= [.slice a43 v42.length c44,.slice a47 v46.length c48]) rfl) (ZB lk Zm))) rfl ⟨_,⟨a51,v50.length,c52,Zmz,a56,v55.length,c57,a61,v60.length,c62,a43,v42.length,c44,a47,v46.length,c48,rfl,rfl⟩,hT ▸ hS.only (.c k11 (.c k11 (.c k11 (.c k8 (.c k8 .n)))))⟩
       ·intro hc hL;refine r6 ?_;refine r1 ?_;obtain⟨Za9,ZDL,hL⟩:=bind_some hL;refine WO.Zw6 hS k11 ?_;rintro ZFM ⟨ZD0,hS⟩;refine WO.fzn hS k12 ?_;rintro ZFL ⟨ZDZ,hS⟩;refine WO.fzn hS k13 ?_;rintro ZI1 ⟨ZKf,hS⟩;refine WO.cl gN rfl (Y0.fn Zt2 (Zc lk (Zc lk (Zc lk Zk)))) hS (.c k11 (.c k11 .n)) (fun g' hz hf hO=>Zo2 (by rw [hz];exact hS.hw) ((hS.fsl k2).mono hf) ((hS.fsl k1).mono hf) ((hS.fsl k0).mono hf) hO ZDL) ?_;rintro _ ZMQ _ ⟨a139,n140,c141,ZpC,n143,Zpm,rfl,rfl⟩ hS;simp only [List.cons_append,List.nil_append] at hS;obtain rfl:=hS.on k0;obtain rfl:=hS.on k1;refine r1 ?_;rintro ZIY hS;refine r6 ?_;rintro ZMP hS;refine r6 ?_;obtain⟨Kj,ZjK,hL⟩:=bind_some hL;refine WO.cp gN rfl (Y0.fn Zy0 (Zc lk (Zc lk Zk))) (WR.QF rfl (ZuQ (Nat.le_refl _) (hS.ord k2) (hS.ord k3) (hS.nrd k8 Zof) (hS.ord k9) (hS.ord k10) ZjK)) ?_;refine r3 ?_;refine cn hL ?_ ?_
        ·intro hc hL;refine r1 ?_;refine WC.Yp mixed (by kernel_rfl) ?_;refine r1 ?_;refine WX.wr (fun x=>x=b5) hS gN rfl (fun _ _ hR=>Xa WW XO (Zt (ZN rfl (ZN rfl (ZN rfl (ZN rfl (ZN rfl (ZN rfl (ZN rfl (ZN rfl (Zf rfl e36))))))))) rfl) (At.eqv (hR b5 rfl) (hS.Qj k1)) (j:=0) rfl rfl (ws:= [.slice a139 Za9.uses.length c141,.slice ZpC Za9.ways.length Zpm]) rfl) ?_ rfl rfl;rintro ZMO ZNS hS;refine WX.hu gN (J5 hS k13 X9 (Zt (ZN rfl (ZN rfl (ZN rfl (ZN rfl (ZN rfl (ZN rfl (ZN rfl (ZN rfl (ZP rfl e34))))))))) rfl) lk (vs:= [.slice a109 J3.1.cells.length ZrZ,.slice Zsk J3.1.notes.length ZrY,.int .i64 J3.1.names,.slice Zsj J3.1.freed.length c117]) rfl rfl rfl rfl (cs':= [.slice a109 J3.1.cells.length ZrZ,.slice Zsk J3.1.notes.length ZrY,.int .i64 J3.1.names,.slice Zsj J3.1.freed.length c117]) rfl) ?_ rfl rfl [1] (by kernel_rfl) (.c .z (hS.dj (.c k13 (.c k1 .n))) Z8.e);rintro ZMN hS;refine WX.hu gN (J5 hS k14 XO (Zt (ZN rfl (ZN rfl (ZN rfl (ZN rfl (ZN rfl (ZN rfl (ZN rfl (ZN rfl (ZP rfl e35))))))))) rfl) lk (vs:= [.slice a139 Za9.uses.length c141,.slice ZpC Za9.ways.length Zpm]) rfl rfl rfl rfl (cs':= [.slice a139 Za9.uses.length c141,.slice ZpC Za9.ways.length Zpm]) rfl) ?_ rfl (by kernel_rfl) [] (by kernel_rfl) Z8.e;rintro ZFJ hS;refine WX.w gN rfl (Z7 lk) ?_ (by kernel_rfl);refine r4 ?_;refine YH.ret ?_;refine r3 ?_;have hr:=Option.some.inj hL;subst hr;exact ZQ.gen (vs:= [.agg [.slice a109 J3.1.cells.length ZrZ,.slice Zsk J3.1.notes.length ZrY,.int .i64 J3.1.names,.slice Zsj J3.1.freed.length c117].toArray,.agg [.slice a139 Za9.uses.length c141,.slice ZpC Za9.ways.length Zpm].toArray,.bool false]) rfl (ZL (ZN rfl (ZN rfl (ZN rfl (ZN rfl (ZN rfl (ZN rfl (ZN rfl (ZN rfl (ZP rfl (Zf rfl e34)))))))))) (ZW K5 X9 (hS.Qj k1) (j:=0) rfl rfl (ws:= [.slice a109 J3.1.cells.length ZrZ,.slice Zsk J3.1.notes.length ZrY,.int .i64 J3.1.names,.slice Zsj J3.1.freed.length c117]) rfl) (ZL (ZN rfl (ZN rfl (ZN rfl (ZN rfl (ZN rfl (ZN rfl (ZN rfl (ZN rfl (ZP rfl (Zf rfl e35)))))))))) (ZW WW XO (hS.Qj k0) (j:=0) rfl rfl (ws:= [.slice a139 Za9.uses.length c141,.slice ZpC Za9.ways.length Zpm]) rfl) (ZB lk Zm))) rfl ⟨_,⟨a109,J3.1.cells.length,ZrZ,Zs4,Zsk,J3.1.notes.length,ZrY,Zsj,J3.1.freed.length,c117,a139,Za9.uses.length,c141,ZpC,Za9.ways.length,Zpm,rfl,rfl⟩,hT ▸ hS.only (.c k10 (.c k10 (.c k10 (.c k4 (.c k4 .n)))))⟩
        ·intro hc hL;refine r2 ?_;exact YH.Yv _ hL ⟨_,_,a139,c141,Za9.uses.length,ZpC,Zpm,Za9.ways.length,a109,ZrZ,J3.1.cells.length,Zs4,Zsk,ZrY,J3.1.notes.length,Zsj,c117,J3.1.freed.length,rfl,hS.only (.c k13 (.c k13 (.c k2 (.c k2 (.c k1 (.c k5 (.c k5 (.c k5 (.c k0 .n))))))))),YN⟩
  ·intro hc hL;refine r6 ?_;refine WC.Yp mixed (by kernel_rfl) ?_;refine r1 ?_;refine WX.wr (fun x=>x=b5) hS gN rfl (fun _ _ hR=>Xa WW XO (Zt (ZP rfl e36) rfl) (At.eqv (hR b5 rfl) (hS.Qj k4)) (j:=0) rfl rfl (ws:= [.slice a43 v42.length c44,.slice a47 v46.length c48]) rfl) ?_ rfl rfl;rintro ZIX ZNR hS;refine WX.hu gN (J5 hS k0 X9 lk lk (vs:= [.slice a51 v50.length c52,.slice a56 v55.length c57,.int .i64 v59,.slice a61 v60.length c62]) rfl rfl rfl rfl (cs':= [.slice a51 v50.length c52,.slice a56 v55.length c57,.int .i64 v59,.slice a61 v60.length c62]) rfl) ?_ rfl rfl [1] (by kernel_rfl) (.c .z (hS.dj (.c k0 (.c k3 .n))) Z8.e);rintro ZIW hS;refine WX.hu gN (J5 hS k1 XO lk lk (vs:= [.slice a43 v42.length c44,.slice a47 v46.length c48]) rfl rfl rfl rfl (cs':= [.slice a43 v42.length c44,.slice a47 v46.length c48]) rfl) ?_ rfl (by kernel_rfl) [] (by kernel_rfl) Z8.e;rintro ZML hS;refine WX.w gN rfl (Z7 lk) ?_ (by kernel_rfl);refine r3 ?_;have hr:=Option.some.inj hL;subst hr;exact ZQ.gen (vs:= [.agg [.slice a51 v50.length c52,.slice a56 v55.length c57,.int .i64 v59,.slice a61 v60.length c62].toArray,.agg [.slice a43 v42.length c44,.slice a47 v46.length c48].toArray,.bool true]) rfl (ZL (Yi rfl e34) (ZW K5 X9 (hS.Qj k1) (j:=0) rfl rfl (ws:= [.slice a51 v50.length c52,.slice a56 v55.length c57,.int .i64 v59,.slice a61 v60.length c62]) rfl) (ZL (Yi rfl e35) (ZW WW XO (hS.Qj k0) (j:=0) rfl rfl (ws:= [.slice a43 v42.length c44,.slice a47 v46.length c48]) rfl) (ZB lk Zm))) rfl ⟨_,⟨a51,v50.length,c52,Zmz,a56,v55.length,c57,a61,v60.length,c62,a43,v42.length,c44,a47,v46.length,c48,rfl,rfl⟩,hT ▸ hS.only (.c k5 (.c k5 (.c k5 (.c k2 (.c k2 .n)))))⟩
theorem Zo4 {F wm:Nat} {h:H} {p0:Zb} {p1:Model} {p2:(List Int)} {Zr:Option Addr} {Zq:Nat} {Zp:Option Addr} {Zo:Nat} {Zx:Option Addr} {Zw:Nat} {Yk:Option Addr} {Yj Zs7:Nat} {YZ:Option Addr} {YX Zs6:Nat} {ZaM:Option Addr} {ZaL:Nat} {r:(Zb×Model×Bool)} (ZF:wm <=h.size) (ZG:Sl (Ke Zu) wm h Zr Zq p0.cells) (Yo:Sl Zj wm h Zp Zo p0.notes) (Yn:Sl (ZM .i64) wm h Zx Zw p0.freed) (Zcd:Sl (ZM .u8) wm h ZaM ZaL p2) (hO:ZT (wm:=wm) [ow wm Yg Yk Zs7 Yj p1.uses,ow wm Yg YZ Zs6 YX p1.ways] h) (hL:ZrL F p0 p1 p2=some r):
 WR XX 39 #[.agg [.slice Zr p0.cells.length Zq,.slice Zp p0.notes.length Zo,.int .i64 p0.names,.slice Zx p0.freed.length Zw].toArray,.agg [.slice Yk Zs7 Yj,.slice YZ Zs6 YX].toArray,.slice ZaM p2.length ZaL] wm h (CP (fun(v:Value) (Gb:List (Ast wm))=>∃ (Xz:Option Addr) (Xy:Nat) (QR:Option Addr) (QO:Nat) (JF:Option Addr) (JC:Nat) (Zmx:Option Addr) (Zmp:Nat) (Zmu:Nat) (Zmw:Option Addr) (Zmo:Nat) (Zmt:Nat),v= .tuple [.agg [.slice Xz r.1.cells.length Xy,.slice QR r.1.notes.length QO,.int .i64 r.1.names,.slice JF r.1.freed.length JC].toArray,.agg [.slice Zmx Zmp Zmu,.slice Zmw Zmo Zmt].toArray,.bool r.2.2].toArray∧Gb= [fzA wm (Ke (Ke Zu)) (Xz,Xy) r.1.cells,fzA wm (Ke Zj) (QR,QO) r.1.notes,fzA wm (Ke (ZM .i64)) (JF,JC) r.1.freed,ow wm Yg Zmx Zmp Zmu r.2.1.uses,ow wm Yg Zmw Zmo Zmt r.2.1.ways]) [ow wm Yg Yk Zs7 Yj p1.uses,ow wm Yg YZ Zs6 YX p1.ways] h):=by
 refine bg Try.ntmps39 ZF hO ?_;intro T hT hS;unfold ZrL at hL;obtain rfl:=hS.on k0;obtain rfl:=hS.on k1;refine r3 ?_;rintro _ h2 ⟨b1,eb1,rfl,hS⟩;refine r1 ?_;rintro _ h4 ⟨b3,eb3,rfl,hS⟩;refine r1 ?_;rintro _ h6 ⟨b5,eb5,rfl,hS⟩;refine r1 ?_;rintro _ h8 ⟨b7,eb7,rfl,hS⟩;refine r8 ?_;refine r2 ?_;have hS:=hS.add (A:=fzA wm (Ke (Ke Zu)) (Zr,Zq) p0.cells) (hS.sl ZG) (fun _ z=>z);have hS:=hS.add (A:=fzA wm (Ke Zj) (Zp,Zo) p0.notes) (hS.sl Yo) (fun _ z=>z);have hS:=hS.add (A:=fzA wm (Ke (ZM .i64)) (Zx,Zw) p0.freed) (hS.sl Yn) (fun _ z=>z);refine WC.loop (WL.lift hL (fun(p:Int×(List (List Za))×(List Zd)×Int×(List Int)×(List Yy)×(List Yy)) (s:Fs)=>match p with | (v16,v18,v21,v24,v25,v28,v32)=>∃ (Zm0:Fr) (h9:H) (a19:Option Addr) (c20:Nat) (a22:Option Addr) (c23:Nat) (a26:Option Addr) (c27:Nat) (a29:Option Addr) (c30:Nat) (n31:Nat) (a33:Option Addr) (c34:Nat) (n35:Nat),s= ⟨Zm0,[],h9,none⟩∧Sp wm T h [fzA wm (Ke (Ke Zu)) (a19,c20) v18,fzA wm (Ke Zj) (a22,c23) v21,fzA wm (Ke (ZM .i64)) (a26,c27) v25,bx wm b1 [.slice a19 v18.length c20,.slice a22 v21.length c23,.int .i64 v24,.slice a26 v25.length c27],ow wm Yg a29 n31 c30 v28,ow wm Yg a33 n35 c34 v32,bx wm b3 [.slice a29 n31 c30,.slice a33 n35 c34],bx wm b5 [.slice none 0 0,.slice none 0 0,.int .i64 0,.slice none 0 0],bx wm b7 [.slice none 0 0,.slice none 0 0]] h9∧Zm0.at 2= .slice ZaM p2.length ZaL∧Zm0.at 3= .pointer (some ⟨b1,0,none⟩)∧Zm0.at 4= .pointer (some ⟨b3,0,none⟩)∧Zm0.at 6= .pointer (some ⟨b5,0,none⟩)∧Zm0.at 7= .pointer (some ⟨b7,0,none⟩)∧Zm0.at 9= .int .i64 v16) ⟨_,_,Zr,Zq,Zp,Zo,Zx,Zw,Yk,Yj,p1.uses.length,YZ,YX,p1.ways.length,rfl,hS.only (.c k2 (.c k1 (.c k0 (.c k3 (.c k3 (.c k3 (.c k2 (.c k1 (.c k0 .n))))))))),YN⟩ ?_);clear hL hS;rintro Ze7 ⟨v16,v18,v21,v24,v25,v28,v32⟩ s ZwQ hL ⟨Zm0,h9,a19,c20,a22,c23,a26,c27,a29,c30,n31,a33,c34,n35,rfl,hS,e11,e12,e13,e14,e15,e17⟩;obtain rfl:=hS.on k4;obtain rfl:=hS.on k5;dsimp only [ZdQ] at hL;refine r8 ?_;refine r1 ?_;refine cn hL ?_ ?_
 ·intro hc hL;refine r8 ?_;refine r1 ?_;refine WC.KH (r:=r) (fun(v45:Int) (s:Fs)=>∃ (ZkW:Fr) (h37:H),s= ⟨ZkW,[],h37,none⟩∧Sp wm T h [bx wm b1 [.slice a19 v18.length c20,.slice a22 v21.length c23,.int .i64 v24,.slice a26 v25.length c27],bx wm b3 [.slice a29 v28.length c30,.slice a33 v32.length c34],bx wm b5 [.slice none 0 0,.slice none 0 0,.int .i64 0,.slice none 0 0],bx wm b7 [.slice none 0 0,.slice none 0 0],fzA wm (Ke (Ke Zu)) (a19,c20) v18,fzA wm (Ke Zj) (a22,c23) v21,fzA wm (Ke (ZM .i64)) (a26,c27) v25,ow wm Yg a29 v28.length c30 v28,ow wm Yg a33 v32.length c34 v32] h37∧ZkW.at 2= .slice ZaM p2.length ZaL∧ZkW.at 3= .pointer (some ⟨b1,0,none⟩)∧ZkW.at 4= .pointer (some ⟨b3,0,none⟩)∧ZkW.at 6= .pointer (some ⟨b5,0,none⟩)∧ZkW.at 7= .pointer (some ⟨b7,0,none⟩)∧ZkW.at 9= .int .i64 v16∧ZkW.at 10= .int .i64 v45) (ZfJ F v16 v18 v21 v24 v25 v28 v32 Ze7) ?_ ?_
  ·clear hL hS;rintro v45 s hL ⟨ZkW,h37,rfl,hS,e39,e40,e41,e42,e43,e44,e46⟩;dsimp only [ZfJ] at hL;refine r3 ?_;refine WO.w gN rfl (Xj Zgw (Zh lk (Zh lk ZE)) rfl (cs':= [.int .i64 5,.int .i64 v45,.int .i64 0,.int .i64 0]) rfl) ?_;refine r1 ?_;rintro _ h48 ⟨b47,ZNv,rfl,hS⟩;refine r1 ?_;rintro h49 hS;refine r6 ?_;obtain⟨x50,ZAf,hL⟩:=bind_some hL;refine WO.cl gN rfl (Y0.fn Zt4 (Zc lk (Zc lk Zk))) hS .n (fun g' hz hf hO=>Zo5 (by rw [hz];exact hS.hw) ((hS.fsl k5).mono hf) ((hS.fsl k6).mono hf) ((hS.fsl k7).mono hf) ZAf) ?_;rintro _ h60 _ ⟨a51,n52,c53,ZJ5,a54,n55,c56,a57,n58,c59,rfl,rfl⟩ hS;obtain rfl:=hS.ZhG k0;obtain rfl:=hS.on k1;obtain rfl:=hS.on k2;refine WO.Zw6 hS k0 ?_;rintro h62 ⟨hn63,hS⟩;refine WO.fzn hS k1 ?_;rintro h64 ⟨ZMa,hS⟩;refine WO.fzn hS k2 ?_;rintro h66 ⟨ZL9,hS⟩;refine r4 ?_;rintro _ h69 ⟨b68,ZNr,rfl,hS⟩;refine r1 ?_;rintro h70 hS;refine r16 ?_;refine r6 ?_;refine r1 ?_;refine cn hL ?_ ?_
   ·intro hc hL;refine r1 ?_;refine WC.Yp mixed (by kernel_rfl) ?_;refine r1 ?_;refine WX.wr (fun x=>x=b3) hS gN rfl (fun _ _ hR=>Xa WW XO (Zt (ZN rfl (ZN rfl (ZN rfl (ZP rfl (Zf rfl e41))))) rfl) (At.eqv (hR b3 rfl) (hS.Qj k6)) (j:=0) rfl rfl (ws:= [.slice a29 v28.length c30,.slice a33 v32.length c34]) rfl) ?_ rfl rfl;rintro h71 e72 hS;refine WX.hu gN (J5 hS k7 X9 lk lk (vs:= [.slice a19 v18.length c20,.slice a22 v21.length c23,.int .i64 v24,.slice a26 v25.length c27]) rfl rfl rfl rfl (cs':= [.slice a19 v18.length c20,.slice a22 v21.length c23,.int .i64 v24,.slice a26 v25.length c27]) rfl) ?_ rfl rfl [1] (by kernel_rfl) (.c .z (hS.dj (.c k7 (.c k6 .n))) Z8.e);rintro h73 hS;refine WX.hu gN (J5 hS k8 XO lk lk (vs:= [.slice a29 v28.length c30,.slice a33 v32.length c34]) rfl rfl rfl rfl (cs':= [.slice a29 v28.length c30,.slice a33 v32.length c34]) rfl) ?_ rfl (by kernel_rfl) [] (by kernel_rfl) Z8.e;rintro h74 hS;refine WX.w gN rfl (Z7 lk) ?_ (by kernel_rfl);refine r8 ?_;refine r1 ?_;have hr:=Option.some.inj hL;subst hr;exact ZQ.gen (vs:= [.agg [.slice a19 v18.length c20,.slice a22 v21.length c23,.int .i64 v24,.slice a26 v25.length c27].toArray,.agg [.slice a29 v28.length c30,.slice a33 v32.length c34].toArray,.bool false]) rfl (ZL (ZN rfl (ZN rfl (ZN rfl (Yi rfl (Zf rfl e42))))) (ZW K5 X9 (hS.Qj k1) (j:=0) rfl rfl (ws:= [.slice a19 v18.length c20,.slice a22 v21.length c23,.int .i64 v24,.slice a26 v25.length c27]) rfl) (ZL (ZN rfl (ZN rfl (ZN rfl (Yi rfl (Zf rfl e43))))) (ZW WW XO (hS.Qj k0) (j:=0) rfl rfl (ws:= [.slice a29 v28.length c30,.slice a33 v32.length c34]) rfl) (ZB lk Zm))) rfl ⟨_,⟨a19,c20,a22,c23,a26,c27,a29,v28.length,c30,a33,v32.length,c34,rfl,rfl⟩,hT ▸ hS.only (.c k9 (.c k9 (.c k9 (.c k9 (.c k9 .n)))))⟩
   ·intro hc hL;refine r6 ?_;refine r1 ?_;obtain⟨x75,ZtH,hL⟩:=bind_some hL;refine WO.cl gN rfl (Y0.fn Zt2 (Zc lk (Zc lk (Zc lk Zk)))) hS (.c k12 (.c k12 .n)) (fun g' hz hf hO=>Zo2 (by rw [hz];exact hS.hw) ((hS.fsl k9).mono hf) ((hS.fsl k10).mono hf) ((hS.fsl k11).mono hf) hO ZtH) ?_;rintro _ h82 _ ⟨a76,n77,c78,a79,n80,c81,rfl,rfl⟩ hS;obtain rfl:=hS.on k0;obtain rfl:=hS.on k1;refine r1 ?_;rintro h84 hS;refine r4 ?_;refine r1 ?_;rintro h85 hS;refine r8 ?_;exact Yw.Yv (ZwQ _ _ hL ⟨_,_,a51,c53,a54,c56,a57,c59,a76,c78,x75.uses.length,a79,c81,x75.ways.length,rfl,hS.only (.c k7 (.c k6 (.c k5 (.c k0 (.c k1 (.c k1 (.c k0 (.c k2 (.c k2 .n))))))))),YN⟩)
  ·skip;refine r6 ?_;refine r1 ?_;refine cn hL ?_ ?_
   ·intro hc hL;refine WC.Yp mixed (by kernel_rfl) ?_;refine r4 ?_;obtain⟨x86,ZHK,hL⟩:=bind_some hL;refine WX.w gN rfl (Z9 (Zt (ZP rfl fh) rfl) (Zt fh rfl) (Qm ZHK)) ?_ rfl;obtain⟨x87,ZDt,hL⟩:=bind_some hL;obtain⟨b88,o89,_,ZEy,ZFg,ZE3,ZKo⟩:=Sl.at_ Zcd ZDt;refine WX.w gN rfl (ZY ZsC ZsL lk lk rfl ZEy ZDt) ?_ rfl;refine WX.w gN rfl (ZR ZB8 (Zt fh rfl) (At.fz hS.fz ZE3 ZFg) (j:=0) rfl (v:= .int .u8 x87) rfl) ?_ rfl;refine WX.w gN rfl (ZbE Zmb Zkn lk) ?_ rfl;refine r3 ?_;obtain⟨x90,hx90,hL⟩:=bind_some hL;refine WX.w gN rfl (Z9 (Zt (ZP rfl (Zf rfl fh)) rfl) (Zt fh rfl) (Qm hx90)) ?_ rfl;refine r2 ?_;exact YH.Yv _ hL ⟨_,_,rfl,hS.only (.c k3 (.c k5 (.c k5 (.c k5 (.c k0 (.c k0 (.c k0 (.c k0 (.c k0 .n))))))))),YN⟩
   ·intro hc hL;refine r1 ?_;exact YH.Yv _ hL ⟨_,_,rfl,hS.only (.c k3 (.c k5 (.c k5 (.c k5 (.c k0 (.c k0 (.c k0 (.c k0 (.c k0 .n))))))))),YN⟩
 ·intro hc hL;refine r6 ?_;refine WC.Yp mixed (by kernel_rfl) ?_;refine r1 ?_;refine WX.wr (fun x=>x=b3) hS gN rfl (fun _ _ hR=>Xa WW XO (Zt (Yi rfl (Zf rfl e13)) rfl) (At.eqv (hR b3 rfl) (hS.Qj k6)) (j:=0) rfl rfl (ws:= [.slice a29 v28.length c30,.slice a33 v32.length c34]) rfl) ?_ rfl rfl;rintro h91 e92 hS;refine r2 ?_;obtain⟨x93,hx93,hL⟩:=bind_some hL;refine WX.cp gN rfl (Y0.fn Zy0 (Zc lk (Zc lk Zk))) (WR.QF rfl (ZuQ (Nat.le_refl _) (hS.ord k4) (hS.ord k5) (hS.ZkS k0) (hS.ZkS k1) (hS.ZkS k2) hx93)) ?_ rfl rfl;refine WX.hu gN (J5 hS k7 X9 lk lk (vs:= [.slice a19 v18.length c20,.slice a22 v21.length c23,.int .i64 v24,.slice a26 v25.length c27]) rfl rfl rfl rfl (cs':= [.slice a19 v18.length c20,.slice a22 v21.length c23,.int .i64 v24,.slice a26 v25.length c27]) rfl) ?_ rfl rfl [1] (by kernel_rfl) (.c .z (hS.dj (.c k7 (.c k6 .n))) Z8.e);rintro h94 hS;refine WX.hu gN (J5 hS k8 XO lk lk (vs:= [.slice a29 v28.length c30,.slice a33 v32.length c34]) rfl rfl rfl rfl (cs':= [.slice a29 v28.length c30,.slice a33 v32.length c34]) rfl) ?_ rfl (by kernel_rfl) [] (by kernel_rfl) Z8.e;rintro h95 hS;refine WX.w gN rfl (Z7 lk) ?_ (by kernel_rfl);refine r3 ?_;have hr:=Option.some.inj hL;subst hr;exact ZQ.gen (vs:= [.agg [.slice a19 v18.length c20,.slice a22 v21.length c23,.int .i64 v24,.slice a26 v25.length c27].toArray,.agg [.slice a29 v28.length c30,.slice a33 v32.length c34].toArray,.bool x93]) rfl (ZL (ZN rfl (ZP rfl e14)) (ZW K5 X9 (hS.Qj k1) (j:=0) rfl rfl (ws:= [.slice a19 v18.length c20,.slice a22 v21.length c23,.int .i64 v24,.slice a26 v25.length c27]) rfl) (ZL (ZN rfl (ZP rfl e15)) (ZW WW XO (hS.Qj k0) (j:=0) rfl rfl (ws:= [.slice a29 v28.length c30,.slice a33 v32.length c34]) rfl) (ZB lk Zm))) rfl ⟨_,⟨a19,c20,a22,c23,a26,c27,a29,v28.length,c30,a33,v32.length,c34,rfl,rfl⟩,hT ▸ hS.only (.c k2 (.c k2 (.c k2 (.c k3 (.c k3 .n)))))⟩
end Go.Proofs.Ytekpjgmhkkjhgaa
end
end
section
namespace Go.Proofs.Ytekpjgmhkkjhgaa
open Go.Lf
def ZjW (v57:Int) (Zax:(Int×(List (List Za))×(List Zd)×Int×(List Int)×(List Yy)×(List Yy) ->Option Bool)):(List (List Za))×(List Zd)×Int×(List Int)×(List Yy)×(List Yy) ->Option Bool:=fun(v84,v87,v90,v91,v94,v98)=>
 Zax (ZJ (v57 + 1),v84,v87,v90,v91,v94,v98)
def ZjV (F:Nat) (p2:(List Int)) (v57:Int) (v59:(List (List Za))) (v62:(List Zd)) (v65:Int) (v66:(List Int)) (v69:(List Yy)) (v73:(List Yy)) (Zax:(Int×(List (List Za))×(List Zd)×Int×(List Int)×(List Yy)×(List Yy) ->Option Bool)):Int ->Option Bool:=fun Zsz=>
 (Yh v69 Zsz).bind fun ZnX=>(Yh v69 Zsz).bind fun x113=>(Zlg F (Zb.mk v59 v62 v65 v66) (Zn.mk 3 ZnX.at_ x113.name 0)).bind fun Zc5=>(bif((Zc5.2==3) && ((v62.length:Int)==80)) then(ZrL F (Zb.mk v59 v62 v65 v66) (Model.mk v69 v73) p2).bind fun ZiW=>(bif(!ZiW.2.2) then some false else(ZjW v57 Zax) (ZiW.1.cells,ZiW.1.notes,ZiW.1.names,ZiW.1.freed,ZiW.2.1.uses,ZiW.2.1.ways)) else(bif(Zc5.2 !=0) then some false else(Zim F (Model.mk v69 v73) (Zb.mk v59 v62 v65 v66) (Zn.mk 3 ZnX.at_ x113.name 0)).bind fun x160=>(ZjW v57 Zax) (Zc5.1.cells,Zc5.1.notes,Zc5.1.names,Zc5.1.freed,x160.uses,x160.ways)))
def Zh9 (F:Nat) (p2:(List Int)):Int×(List (List Za))×(List Zd)×Int×(List Int)×(List Yy)×(List Yy) ->(Int×(List (List Za))×(List Zd)×Int×(List Int)×(List Yy)×(List Yy) ->Option Bool) ->Option Bool:=fun(v57,v59,v62,v65,v66,v69,v73) Zax=>
 (bif decide ((v69.length:Int) > 0) then(bif decide ((p2.length:Int) > 0) then(ZbV v57 (p2.length:Int)).bind fun ZCO=>(Yh p2 ZCO).bind fun ZzF=>(ZbV (ZJ ZzF) (v69.length:Int)).bind fun ZCN=>(ZjV F p2 v57 v59 v62 v65 v66 v69 v73 Zax) ZCN else(ZjV F p2 v57 v59 v62 v65 v66 v69 v73 Zax) 0) else(ZrL F (Zb.mk v59 v62 v65 v66) (Model.mk v69 v73) p2).bind fun ZiV=>(gd ZiV.2.2 (Zo3 F ZiV.1 ZiV.2.1) default).bind fun ZzE=>(gd ((ZiV.2.2 && ZzE) && ((ZiV.1.freed.length:Int)==ZiV.1.names)) (ZBK) default).bind fun ZCM=>some (((ZiV.2.2 && ZzE) && ((ZiV.1.freed.length:Int)==ZiV.1.names)) && ZCM))
def f8L (F:Nat) (p0:Int) (p1:(List ZaF)) (p2:(List Int)):Option Bool:=
 (ZrM F p0 p1).bind fun x1=>(bif(!x1.2.2) then some false else(ZrL F x1.1 x1.2.1 p2).bind fun x25=>(gd (!(!x25.2.2)) (Zo3 F x25.1 x25.2.1) default).bind fun x51=>(bif((!x25.2.2) || (!x51)) then some false else loop F (Zh9 F p2) (0,x25.1.cells,x25.1.notes,x25.1.names,x25.1.freed,x25.2.1.uses,x25.2.1.ways)))
end Go.Proofs.Ytekpjgmhkkjhgaa
end
section
set_option maxRecDepth 20000
noncomputable section
namespace Go.Proofs.Ytekpjgmhkkjhgaa
open Go.Yz Go.Lf
theorem ZFX {F wm:Nat} {h:H} {p0:Int} {p1:(List ZaF)} {p2:(List Int)} {Yk:Option Addr} {Yj:Nat} {ZaM:Option Addr} {ZaL:Nat} {r:Bool} (ZF:wm <=h.size) (QZ:Sl Zs2 wm h Yk Yj p1) (Zcd:Sl (ZM .u8) wm h ZaM ZaL p2) (hL:f8L F p0 p1 p2=some r):
 WR XX 8 #[.int .u8 p0,.slice Yk p1.length Yj,.slice ZaM p2.length ZaL] wm h (CP (fun(v:Value) (Gb:List (Ast wm))=>v= .bool r∧Gb= []) [] h):=by
 refine bg Try.ntmps8 ZF ZT.nil ?_;intro T hT hS;unfold f8L at hL;refine r8 ?_;refine r1 ?_;obtain⟨x1,hx1,hL⟩:=bind_some hL;refine WO.cl gN rfl (Y0.fn ZEr (Zc lk (Zc lk Zk))) hS .n (fun g' hz hf hO=>ZBH (by rw [hz];exact hS.hw) ((hS.sl QZ).mono hf) hx1) ?_;rintro _ h17 _ ⟨a2,n3,c4,ZHo,a5,n6,c7,a8,n9,c10,a11,n12,c13,a14,n15,c16,rfl,rfl⟩ hS;obtain rfl:=hS.ZhG k0;obtain rfl:=hS.on k1;obtain rfl:=hS.on k2;obtain rfl:=hS.on k3;obtain rfl:=hS.on k4;refine r4 ?_;refine r1 ?_;rintro _ h20 ⟨b19,ZJh,rfl,hS⟩;refine r1 ?_;rintro _ h22 ⟨b21,ZNA,rfl,hS⟩;refine r1 ?_;rintro h23 hS;refine r1 ?_;rintro h24 hS;refine r8 ?_;refine r2 ?_;refine cn hL ?_ ?_
 ·intro hc hL;refine r6 ?_;refine r1 ?_;exact rt hL hT hS
 ·intro hc hL;refine r8 ?_;obtain⟨x25,hx25,hL⟩:=bind_some hL;refine WO.Zw6 hS k2 ?_;rintro h26 ⟨ZMd,hS⟩;refine WO.fzn hS k3 ?_;rintro h28 ⟨ZMc,hS⟩;refine WO.fzn hS k4 ?_;rintro h30 ⟨ZMb,hS⟩;refine WO.cl gN rfl (Y0.fn Zt3 (Zc lk (Zc lk (Zc lk Zk)))) hS (.c k5 (.c k5 .n)) (fun g' hz hf hO=>Zo4 (by rw [hz];exact hS.hw) ((hS.fsl k2).mono hf) ((hS.fsl k1).mono hf) ((hS.fsl k0).mono hf) ((hS.sl Zcd).mono hf) hO hx25) ?_;rintro _ h47 _ ⟨a32,c34,a35,c37,a38,c40,a41,n42,c43,a44,n45,c46,rfl,rfl⟩ hS;obtain rfl:=hS.on k3;obtain rfl:=hS.on k4;refine r4 ?_;refine r1 ?_;rintro h49 hS;refine r1 ?_;rintro h50 hS;refine r8 ?_;refine r2 ?_;obtain⟨x51,ZAe,hL⟩:=Xx hL;refine WO.gcp (Zi.no rfl rfl rfl (ZP rfl fh)) rfl (fun hg=>(Y0.fn Zy1 (Zc (XE (Zf rfl fh) rfl hg) (Zc (XE fh rfl hg) Zk)))) (fun hg=>ZuR (hS.ZkS k2) (hS.ZkS k3) (hS.ZkS k4) (hS.ord k5) (hS.ord k6) (ZAe hg)) ?_;refine r4 ?_;refine cn hL ?_ ?_
  ·intro hc hL;refine r6 ?_;refine r1 ?_;exact rt hL hT hS
  ·intro hc hL;refine r8 ?_;refine r1 ?_;refine WC.loop (WL.lift hL (fun(p:Int×(List (List Za))×(List Zd)×Int×(List Int)×(List Yy)×(List Yy)) (s:Fs)=>match p with | (v57,v59,v62,v65,v66,v69,v73)=>∃ (Zrz:Fr) (h52:H) (a60:Option Addr) (c61:Nat) (a63:Option Addr) (c64:Nat) (a67:Option Addr) (c68:Nat) (a70:Option Addr) (c71:Nat) (n72:Nat) (a74:Option Addr) (c75:Nat) (n76:Nat),s= ⟨Zrz,[],h52,none⟩∧Sp wm T h [fzA wm (Ke (Ke Zu)) (a60,c61) v59,fzA wm (Ke Zj) (a63,c64) v62,fzA wm (Ke (ZM .i64)) (a67,c68) v66,bx wm b19 [.slice a60 v59.length c61,.slice a63 v62.length c64,.int .i64 v65,.slice a67 v66.length c68],ow wm Yg a70 n72 c71 v69,ow wm Yg a74 n76 c75 v73,bx wm b21 [.slice a70 n72 c71,.slice a74 n76 c75]] h52∧Zrz.at 2= .slice ZaM p2.length ZaL∧Zrz.at 7= .pointer (some ⟨b19,0,none⟩)∧Zrz.at 8= .pointer (some ⟨b21,0,none⟩)∧Zrz.at 10= .int .i64 v57) ⟨_,_,a32,c34,a35,c37,a38,c40,a41,c43,x25.2.1.uses.length,a44,c46,x25.2.1.ways.length,rfl,hS.only (.c k2 (.c k2 (.c k2 (.c k1 (.c k1 (.c k1 (.c k0 .n))))))),YN⟩ ?_);clear hL hS;rintro Zax ⟨v57,v59,v62,v65,v66,v69,v73⟩ s ZwH hL ⟨Zrz,h52,a60,c61,a63,c64,a67,c68,a70,c71,n72,a74,c75,n76,rfl,hS,e54,e55,e56,e58⟩;obtain rfl:=hS.on k4;obtain rfl:=hS.on k5;dsimp only [Zh9] at hL;refine r8 ?_;refine r1 ?_;refine cn hL ?_ ?_
   ·intro hc hL;refine r2 ?_;refine WC.KH (r:=r) (fun(p:(List (List Za))×(List Zd)×Int×(List Int)×(List Yy)×(List Yy)) (s:Fs)=>match p with | (v84,v87,v90,v91,v94,v98)=>∃ (Zrv:Fr) (h78:H) (a85:Option Addr) (c86:Nat) (a88:Option Addr) (c89:Nat) (a92:Option Addr) (c93:Nat) (a95:Option Addr) (c96:Nat) (n97:Nat) (a99:Option Addr) (Zr0:Nat) (n101:Nat),s= ⟨Zrv,[],h78,none⟩∧Sp wm T h [fzA wm (Ke (Ke Zu)) (a85,c86) v84,fzA wm (Ke Zj) (a88,c89) v87,fzA wm (Ke (ZM .i64)) (a92,c93) v91,bx wm b19 [.slice a85 v84.length c86,.slice a88 v87.length c89,.int .i64 v90,.slice a92 v91.length c93],ow wm Yg a95 n97 c96 v94,ow wm Yg a99 n101 Zr0 v98,bx wm b21 [.slice a95 n97 c96,.slice a99 n101 Zr0]] h78∧Zrv.at 2= .slice ZaM p2.length ZaL∧Zrv.at 7= .pointer (some ⟨b19,0,none⟩)∧Zrv.at 8= .pointer (some ⟨b21,0,none⟩)∧Zrv.at 10= .int .i64 v57) (ZjW v57 Zax) ?_ ?_
    ·clear hL hS;rintro⟨v84,v87,v90,v91,v94,v98⟩ s hL ⟨Zrv,h78,a85,c86,a88,c89,a92,c93,a95,c96,n97,a99,Zr0,n101,rfl,hS,e80,e81,e82,e83⟩;obtain rfl:=hS.on k4;obtain rfl:=hS.on k5;dsimp only [ZjW] at hL;refine r4 ?_;refine r1 ?_;exact Yw.Yv (ZwH _ _ hL ⟨_,_,a85,c86,a88,c89,a92,c93,a95,c96,v94.length,a99,Zr0,v98.length,rfl,hS.only (.c k0 (.c k0 (.c k0 (.c k0 (.c k0 (.c k0 (.c k0 .n))))))),YN⟩)
    ·skip;refine r6 ?_;refine WC.KH (r:=r) (fun(Zsz:Int) (s:Fs)=>∃ (Zh2:Fr) (ZoK:H),s= ⟨Zh2,[],ZoK,none⟩∧Sp wm T h [bx wm b19 [.slice a60 v59.length c61,.slice a63 v62.length c64,.int .i64 v65,.slice a67 v66.length c68],bx wm b21 [.slice a70 v69.length c71,.slice a74 v73.length c75],fzA wm (Ke (Ke Zu)) (a60,c61) v59,fzA wm (Ke Zj) (a63,c64) v62,fzA wm (Ke (ZM .i64)) (a67,c68) v66,ow wm Yg a70 v69.length c71 v69,ow wm Yg a74 v73.length c75 v73] ZoK∧Zh2.at 2= .slice ZaM p2.length ZaL∧Zh2.at 7= .pointer (some ⟨b19,0,none⟩)∧Zh2.at 8= .pointer (some ⟨b21,0,none⟩)∧Zh2.at 10= .int .i64 v57∧Zh2.at 11= .int .i64 Zsz) (ZjV F p2 v57 v59 v62 v65 v66 v69 v73 Zax) ?_ ?_
     ·clear hL hS;rintro Zsz s hL ⟨Zh2,ZoK,rfl,hS,ZJq,ZJp,ZNZ,ZJo,e109⟩;dsimp only [ZjV] at hL;refine r1 ?_;refine WC.Yp mixed (by kernel_rfl) ?_;refine r3 ?_;obtain⟨ZnX,ZyM,hL⟩:=bind_some hL;obtain⟨ZOO,ZLP,_,ZAZ,ZBd,ZIJ⟩:=Src.at_ (hS.Ja k5) ZyM;refine WX.w gN rfl (ZY Qh YQ lk lk rfl ZAZ ZyM) ?_ rfl;refine r1 ?_;refine WX.w gN rfl (ZR Xk (Zt fh rfl) ZBd (j:=0) rfl (v:= .int .i64 ZnX.at_) rfl) ?_ rfl;refine r3 ?_;obtain⟨x113,hx113,hL⟩:=bind_some hL;obtain⟨ZJK,ZLO,_,ZAY,ZBc,ZII⟩:=Src.at_ (hS.Ja k5) hx113;refine WX.w gN rfl (ZY Qh YQ lk lk rfl ZAY hx113) ?_ rfl;refine r1 ?_;refine WX.w gN rfl (ZR Xk (Zt fh rfl) ZBc (j:=1) rfl (v:= .int .i64 x113.name) rfl) ?_ rfl;refine WX.w gN rfl (Xj Zgw (Zh lk (Zh lk (Zh lk ZE))) rfl (cs':= [.int .i64 3,.int .i64 ZnX.at_,.int .i64 x113.name,.int .i64 0]) rfl) ?_ rfl;refine WX.hn gN rfl (Zhv hS ZnR (vs:= [.int .i64 0,.int .i64 0,.int .i64 0,.int .i64 0]) rfl) ?_ rfl;rintro _ ZI3 ⟨ZOM,ZK0,rfl,hS⟩;refine WX.hu gN (J5 hS k0 ZbR lk lk (vs:= [.int .i64 3,.int .i64 ZnX.at_,.int .i64 x113.name,.int .i64 0]) rfl rfl rfl rfl (cs':= [.int .i64 3,.int .i64 ZnX.at_,.int .i64 x113.name,.int .i64 0]) rfl) ?_ rfl rfl [] (by kernel_rfl) Z8.e;rintro ZFO hS;refine r6 ?_;obtain⟨Zc5,ZtL,hL⟩:=bind_some hL;refine WO.cl gN rfl (Y0.fn Zt4 (Zc lk (Zc lk Zk))) hS .n (fun g' hz hf hO=>Zo5 (by rw [hz];exact hS.hw) ((hS.fsl k3).mono hf) ((hS.fsl k4).mono hf) ((hS.fsl k5).mono hf) ZtL) ?_;rintro _ ZMW _ ⟨ZJS,n121,ZJF,ZHp,Zyg,n124,ZJD,ZJQ,n127,ZJB,rfl,rfl⟩ hS;obtain rfl:=hS.ZhG k0;obtain rfl:=hS.on k1;obtain rfl:=hS.on k2;refine WO.Zw6 hS k0 ?_;rintro ZFN ⟨ZKg,hS⟩;refine WO.fzn hS k1 ?_;rintro ZFM ⟨ZD0,hS⟩;refine WO.fzn hS k2 ?_;rintro ZFL ⟨ZDZ,hS⟩;refine r4 ?_;rintro _ ZFK ⟨ZJJ,ZF3,rfl,hS⟩;refine r1 ?_;rintro ZI0 hS;refine r16 ?_;refine cn hL ?_ ?_
      ·intro hc hL;refine r6 ?_;obtain⟨ZiW,ZDI,hL⟩:=bind_some hL;refine WO.cl gN rfl (Y0.fn Zt3 (Zc lk (Zc lk (Zc lk Zk)))) hS (.c k10 (.c k10 .n)) (fun g' hz hf hO=>Zo4 (by rw [hz];exact hS.hw) ((hS.fsl k7).mono hf) ((hS.fsl k8).mono hf) ((hS.fsl k9).mono hf) ((hS.sl Zcd).mono hf) hO ZDI) ?_;rintro _ ZIW _ ⟨a141,c143,ZCd,c146,ZJP,ZJA,ZCc,n151,c152,ZJO,n154,ZJz,rfl,rfl⟩ hS;simp only [List.cons_append,List.nil_append] at hS;obtain rfl:=hS.on k3;obtain rfl:=hS.on k4;refine r4 ?_;refine r1 ?_;rintro ZMK hS;refine r1 ?_;rintro ZIV hS;refine r8 ?_;refine r1 ?_;refine cn hL ?_ ?_
       ·intro hc hL;refine r8 ?_;refine r1 ?_;refine YH.ret ?_;refine r3 ?_;exact rt hL hT hS
       ·intro hc hL;refine r4 ?_;refine r1 ?_;exact YH.Yv _ hL ⟨_,_,a141,c143,ZCd,c146,ZJP,ZJA,ZCc,c152,ZiW.2.1.uses.length,ZJO,ZJz,ZiW.2.1.ways.length,rfl,hS.only (.c k2 (.c k2 (.c k2 (.c k1 (.c k1 (.c k1 (.c k0 .n))))))),YN⟩
      ·intro hc hL;refine r8 ?_;refine r1 ?_;refine cn hL ?_ ?_
       ·intro hc hL;refine r8 ?_;refine YH.ret ?_;refine r3 ?_;exact rt hL hT hS
       ·intro hc hL;refine r6 ?_;refine r1 ?_;obtain⟨x160,hx160,hL⟩:=bind_some hL;refine WO.cl gN rfl (Y0.fn Zt2 (Zc lk (Zc lk (Zc lk Zk)))) hS (.c k10 (.c k10 .n)) (fun g' hz hf hO=>Zo2 (by rw [hz];exact hS.hw) ((hS.fsl k7).mono hf) ((hS.fsl k8).mono hf) ((hS.fsl k9).mono hf) hO hx160) ?_;rintro _ ZMH _ ⟨ZJN,n162,ZJy,a164,n165,ZBY,rfl,rfl⟩ hS;obtain rfl:=hS.on k0;obtain rfl:=hS.on k1;refine r1 ?_;rintro ZIU hS;refine r4 ?_;refine r1 ?_;rintro ZIT hS;refine r2 ?_;exact YH.Yv _ hL ⟨_,_,ZJS,ZJF,Zyg,ZJD,ZJQ,ZJB,ZJN,ZJy,x160.uses.length,a164,ZBY,x160.ways.length,rfl,hS.only (.c k7 (.c k6 (.c k5 (.c k0 (.c k1 (.c k1 (.c k0 .n))))))),YN⟩
     ·skip;refine r6 ?_;refine r1 ?_;refine cn hL ?_ ?_
      ·intro hc hL;refine WC.Yp mixed (by kernel_rfl) ?_;refine r4 ?_;obtain⟨ZCO,ZDD,hL⟩:=bind_some hL;refine WX.w gN rfl (Z9 (Zt (ZP rfl fh) rfl) (Zt fh rfl) (Qm ZDD)) ?_ rfl;obtain⟨ZzF,ZyI,hL⟩:=bind_some hL;obtain⟨ZOB,ZLG,_,ZAS,ZA6,ZA2,ZIB⟩:=Sl.at_ Zcd ZyI;refine WX.w gN rfl (ZY ZsC ZsL lk lk rfl ZAS ZyI) ?_ rfl;refine WX.w gN rfl (ZR ZB8 (Zt fh rfl) (At.fz hS.fz ZA2 ZA6) (j:=0) rfl (v:= .int .u8 ZzF) rfl) ?_ rfl;refine WX.w gN rfl (ZbE Zmb Zkn lk) ?_ rfl;refine r3 ?_;obtain⟨ZCN,ZDC,hL⟩:=bind_some hL;refine WX.w gN rfl (Z9 (Zt (ZP rfl (Zf rfl fh)) rfl) (Zt fh rfl) (Qm ZDC)) ?_ rfl;refine r2 ?_;exact YH.Yv _ hL ⟨_,_,rfl,hS.only (.c k3 (.c k5 (.c k0 (.c k0 (.c k0 (.c k0 (.c k0 .n))))))),YN⟩
      ·intro hc hL;refine r1 ?_;exact YH.Yv _ hL ⟨_,_,rfl,hS.only (.c k3 (.c k5 (.c k0 (.c k0 (.c k0 (.c k0 (.c k0 .n))))))),YN⟩
   ·intro hc hL;refine r8 ?_;refine r2 ?_;obtain⟨ZiV,ZDB,hL⟩:=bind_some hL;refine WO.cl gN rfl (Y0.fn Zt3 (Zc lk (Zc lk (Zc lk Zk)))) hS (.c k4 (.c k4 .n)) (fun g' hz hf hO=>Zo4 (by rw [hz];exact hS.hw) ((hS.fsl k0).mono hf) ((hS.fsl k1).mono hf) ((hS.fsl k2).mono hf) ((hS.sl Zcd).mono hf) hO ZDB) ?_;rintro _ ZME _ ⟨ZOY,ZOf,ZOX,c182,a183,ZOe,ZOW,n187,ZOd,ZOV,n190,ZOc,rfl,rfl⟩ hS;obtain rfl:=hS.on k3;obtain rfl:=hS.on k4;refine r4 ?_;refine r1 ?_;rintro ZMD hS;refine r1 ?_;rintro ZMC hS;refine r8 ?_;refine r1 ?_;obtain⟨ZzE,ZDA,hL⟩:=Xx hL;refine WO.gcp (Zi.yes rfl rfl rfl (ZP rfl fh)) rfl (fun hg=>(Y0.fn Zy1 (Zc (XE (Zf rfl fh) rfl hg) (Zc (XE fh rfl hg) Zk)))) (fun hg=>ZuR (hS.ZkS k2) (hS.ZkS k3) (hS.ZkS k4) (hS.ord k5) (hS.ord k6) (ZDA hg)) ?_;refine r8 ?_;refine r2 ?_;obtain⟨ZCM,ZDz,hL⟩:=Xx hL;refine WO.gcp (Zi.yes rfl rfl rfl fh) rfl (fun hg=>(Y0.fn ZEt Zk)) (fun hg=>ZBJ (ZDz hg)) ?_;refine r4 ?_;refine r1 ?_;exact rt hL hT hS
theorem ZFY {F:Nat} {h:H} {p0:Int} {p1:(List ZaF)} {p2:(List Int)} {Yk:Option Addr} {Yj:Nat} {ZaM:Option Addr} {ZaL:Nat} {r:Bool} (QZ:Sl Zs2 h.size h Yk Yj p1) (Zcd:Sl (ZM .u8) h.size h ZaM ZaL p2) (hL:f8L F p0 p1 p2=some r):Pure XX 8 #[.int .u8 p0,.slice Yk p1.length Yj,.slice ZaM p2.length ZaL] h (.bool r):=
 WR.QF rfl (ZFX (Nat.le_refl _) QZ Zcd hL)
end Go.Proofs.Ytekpjgmhkkjhgaa
end
end
section
end
section
namespace Go.Proofs.Ytekpjgmhkkjhgaa
abbrev CV:=Int ->Option Za
def Yx (cv:CV) (m:Int) (o:Option Za):CV:=fun a=>if a=m then o else cv a
def X0:Option Za ->Int | some c=>c.out | none=>0
def Qr:Option Za ->Nat | some c=>if c.root=true then 1 else 0 | none=>0
def U5 (a:Int):Option Za ->Int | some c=>if c.from_=a then c.has else 0 | none=>0
def UX (a:Int) (x:Zd):Int:=if(x.kind=1∧x.via=a)∨(x.kind=2∧x.Zy=a) then x.w else 0
def YP (a:Int) (x:Zd):Int:=if x.kind=3∧x.Zy=a then 16 else 0
def YM (f:Zd ->Int):List Zd ->Int | []=>0 | x::l=>f x + YM f l
def WZ (f:Nat ->Int):Nat ->Int | 0=>0 | k + 1=>WZ f k + f k
def JL:List Zd ->Nat | []=>0 | x::l=>(if x.kind=3 then 1 else 0) + JL l
def Jc (M:Nat) (cv:CV) (ns:List Zd) (a:Int):Int:=WZ (fun m=>U5 a (cv m)) M + YM (UX a) ns
def J7 (cv:CV) (ns:List Zd) (a:Int):Int:=X0 (cv a) + YM (YP a) ns
theorem Xn (f:Zd ->Int) (l r:List Zd):YM f (l ++ r)=YM f l + YM f r:=by
 induction l with
 | nil=>simp [YM]
 | cons x l ih=>simp only [List.cons_append,YM,ih];omega
theorem Za0 (l r:List Zd):JL (l ++ r)=JL l + JL r:=by
 induction l with
 | nil=>simp [JL]
 | cons x l ih=>simp only [List.cons_append,JL,ih];omega
theorem Qo (f:Zd ->Int) (x:Zd):YM f [x]=f x:=by simp [YM]
theorem ZeC (x:Zd):JL [x]=if x.kind=3 then 1 else 0:=by simp [JL]
theorem K9 {f:Zd ->Int} {l:List Zd} (h:∀ x ∈ l,0 <=f x):0 <=YM f l:=by
 induction l with
 | nil=>simp [YM]
 | cons x l ih=>
   have:=h x (by simp);have:=ih fun y hy=>h y (by simp [hy])
   simp only [YM];omega
theorem Zv8 {f:Zd ->Int} {l:List Zd} (h:∀ x ∈ l,0 <=f x) {x:Zd} (hx:x ∈ l):f x <=YM f l:=by
 induction l with
 | nil=>simp at hx
 | cons y l ih=>
   have h1:=h y (by simp);have h2:=K9 fun z hz=>h z (List.mem_cons_of_mem _ hz)
   simp only [YM];rcases List.mem_cons.1 hx with rfl | hx
   ·omega
   ·have:=ih (fun z hz=>h z (List.mem_cons_of_mem _ hz)) hx;omega
theorem ZeU {f:Zd ->Int} {l r:List Zd} (h:l.Perm r):YM f l=YM f r:=by
 induction h with
 | nil=>rfl
 | cons x _ ih=>simp only [YM,ih]
 | swap x y l=>simp only [YM];omega
 | trans _ _ i1 i2=>exact i1.trans i2
theorem ZrT {l r:List Zd} (h:l.Perm r):JL l=JL r:=by
 induction h with
 | nil=>rfl
 | cons x _ ih=>simp only [JL,ih]
 | swap x y l=>simp only [JL];omega
 | trans _ _ i1 i2=>exact i1.trans i2
theorem ZbP {f:Nat ->Int} {M:Nat} (h:∀ m,m < M ->0 <=f m):0 <=WZ f M:=by
 induction M with
 | zero=>simp [WZ]
 | succ M ih=>
   have:=h M (by omega);have:=ih fun m hm=>h m (by omega)
   simp only [WZ];omega
theorem Zv7 {f:Nat ->Int} {M:Nat} (h:∀ m,m < M ->0 <=f m) {m:Nat} (hm:m < M):f m <=WZ f M:=by
 induction M with
 | zero=>omega
 | succ M ih=>
   have h1:=h M (by omega);have h2:=ZbP fun m (hm:m < M)=>h m (by omega)
   simp only [WZ];by_cases e:m=M
   ·subst e;omega
   ·have:=ih (fun m hm=>h m (by omega)) (by omega);omega
theorem Zn2 {f g:Nat ->Int} {M:Nat} (h:∀ m,m < M ->f m=g m):WZ f M=WZ g M:=by
 induction M with
 | zero=>rfl
 | succ M ih=>simp only [WZ];rw [ih fun m hm=>h m (by omega),h M (by omega)]
theorem ZsE {f g:Nat ->Int} {M k:Nat} (hk:k < M) (h:∀ m,m < M ->m ≠ k ->f m=g m):WZ f M=WZ g M - g k + f k:=by
 induction M with
 | zero=>omega
 | succ M ih=>
   simp only [WZ];by_cases e:k=M
   ·subst e;rw [Zn2 fun m hm=>h m (by omega) (by omega)];omega
   ·rw [ih (by omega) (fun m hm hn=>h m (by omega) hn),h M (by omega) (fun z=>e z.symm)];omega
theorem Zen {M:Nat} {cv:CV} {ns:List Zd} {m:Int} (h0:0 <=m) (h1:m < M) (o:Option Za) (a:Int):
 Jc M (Yx cv m o) ns a=Jc M cv ns a - U5 a (cv m) + U5 a o:=by
 unfold Jc;have hm:((m.toNat:Nat):Int)=m:=by omega
 rw [ZsE (k:=m.toNat) (g:=fun k=>U5 a (cv k)) (by omega) (fun k hk hne=>by
  unfold Yx;rw [if_neg (by omega)])]
 have:Yx cv m o ((m.toNat:Nat):Int)=o:=by unfold Yx;rw [if_pos hm]
 rw [this,hm];omega
theorem Wj (cv:CV) (m:Int) (o:Option Za):Yx cv m o m=o:=by simp [Yx]
theorem Zad {cv:CV} {m a:Int} {o:Option Za} (h:a ≠ m):Yx cv m o a=cv a:=by simp [Yx,h]
structure Nm (M:Nat) (n:Int) (cv:CV) (ns:List Zd) (h:Int):Prop where
 rng:∀ m c,cv m=some c ->0 <=m∧m < M
 nam:∀ m c,cv m=some c ->c.name=n
 cel:∀ m c,cv m=some c ->(c.root=false∧0 <=c.from_∧c.from_ < M∧c.from_ ≠ m∧1 <=c.has)∨(c.from_=-1∧c.has=0)
 KJ:∀ x ∈ ns,(0 <=x.Zy∧x.Zy < M)∧x.name=n∧1 <=x.w∧((x.kind=1∧0 <=x.via∧x.via < M)∨(x.kind=2∧x.via=0)∨(x.kind=3∧x.via=0∧x.w=16∧x.Zy=h))
 hM:0 <=h∧h < M
 rt:∀ m c,cv m=some c ->c.root=true ->m=h
 one:Qr (cv h) + JL ns=1
 acc:∀ a:Int,0 <=a ->a < M ->J7 cv ns a=Jc M cv ns a
 lead:∃ dep:Int ->Nat,∀ m c,cv m=some c ->m ≠ h ->0 <=c.from_∧(cv c.from_ ≠ none∨c.from_=h)∧dep c.from_ < dep m
theorem Nm.perm {M:Nat} {n:Int} {cv:CV} {ns ns':List Zd} {h:Int} (H:Nm M n cv ns h) (p:ns.Perm ns'):Nm M n cv ns' h:=
 {H with
  KJ:=fun x hx=>H.KJ x (p.mem_iff.2 hx)
  one:=by rw [← ZrT p];exact H.one
  acc:=fun a h0 h1=>by
   have:=H.acc a h0 h1;unfold J7 Jc at this ⊢;rw [← ZeU p,← ZeU p];exact this}
section
variable {M:Nat} {n:Int} {cv:CV} {ns:List Zd} {h:Int}
theorem Nm.Zcg (H:Nm M n cv ns h) {a:Int} (h0:0 <=a) (m:Int):0 <=U5 a (cv m):=by
 unfold U5;cases e:cv m with
 | none=>simp
 | some c=>
   dsimp only;split
   ·rcases H.cel m c e with⟨_,_,_,_,h5⟩ | ⟨h1,h2⟩ <;> omega
   ·omega
theorem Nm.Zbm (H:Nm M n cv ns h) (a:Int):∀ x ∈ ns,0 <=UX a x:=by
 intro x hx;have:= (H.KJ x hx).2.2.1;unfold UX;split <;> omega
theorem Km (a:Int) (x:Zd):0 <=YP a x:=by unfold YP;split <;> omega
theorem Nm.ZcQ (H:Nm M n cv ns h) {m:Int} {c:Za} (e:cv m=some c) (hf:0 <=c.from_):1 <=c.has∧c.has <=Jc M cv ns c.from_:=by
 have hr:=H.rng m c e;have hh:1 <=c.has:=by rcases H.cel m c e with⟨_,_,_,_,h5⟩ | ⟨h1,h2⟩ <;> omega
 refine⟨hh,?_⟩;have h1:=Zv7 (f:=fun k=>U5 c.from_ (cv k)) (M:=M) (fun k _=>H.Zcg hf k) (m:=m.toNat) (by omega);have h2:=K9 (H.Zbm c.from_);have hm:((m.toNat:Nat):Int)=m:=by omega
 have h3:U5 c.from_ (cv ((m.toNat:Nat):Int))=c.has:=by rw [hm,e];simp [U5]
 rw [h3] at h1;unfold Jc;omega
theorem Nm.UC (H:Nm M n cv ns h) {a:Int} (h0:0 <=a) {x:Zd} (hx:x ∈ ns):UX a x <=Jc M cv ns a:=by
 have h1:=ZbP (f:=fun k=>U5 a (cv k)) (M:=M) (fun k _=>H.Zcg h0 k);have h2:=Zv8 (H.Zbm a) hx;unfold Jc;omega
theorem Zhm (H:∀ x ∈ ns,x.kind=3 ->x.Zy=h) (a:Int):YM (YP a) ns=if a=h then 16 * (JL ns:Int) else 0:=by
 induction ns with
 | nil=>simp [YM,JL]
 | cons x l ih=>
   have i:=ih fun y hy=>H y (by simp [hy])
   have hx:=H x (by simp);simp only [YM,JL];rw [i];unfold YP;by_cases h3:x.kind=3
   ·have:=hx h3;by_cases ha:a=h
    ·rw [if_pos ⟨h3,by omega⟩,if_pos ha,if_pos ha,if_pos h3];omega
    ·rw [if_neg (by omega),if_neg ha,if_neg ha];omega
   ·rw [if_neg (fun z=>h3 z.1),if_neg h3];split <;> omega
theorem Nm.giv (H:Nm M n cv ns h) (a:Int):J7 cv ns a=X0 (cv a) + if a=h then 16 * (JL ns:Int) else 0:=by
 unfold J7;rw [Zhm (h:=h) (fun x hx h3=>by rcases(H.KJ x hx).2.2.2 with z | z | z <;> omega)]
theorem Nm.ZmQ (H:Nm M n cv ns h) {a:Int} (h0:0 <=a):0 <=Jc M cv ns a:=by
 have h1:=ZbP (f:=fun k=>U5 a (cv k)) (M:=M) (fun k _=>H.Zcg h0 k);have h2:=K9 (H.Zbm a);unfold Jc;omega
theorem Nm.there (H:Nm M n cv ns h) {a:Int} (h0:0 <=a) (h1:a < M) (hp:1 <=Jc M cv ns a):cv a ≠ none∨a=h:=by
 have:=H.acc a h0 h1;rw [H.giv] at this;by_cases e:a=h
 ·exact .inr e
 ·rw [if_neg e] at this;refine .inl fun z=>?_
  rw [z] at this;simp [X0] at this;omega
theorem Nm.ZhD (H:Nm M n cv ns h) {m:Int} {c:Za} (e:cv m=some c):-16 <=c.out∧(m ≠ h ->0 <=c.out)∧(JL ns=0 ->0 <=c.out):=by
 have hr:=H.rng m c e;have h1:=H.acc m hr.1 hr.2;have h2:=H.ZmQ hr.1;have h3:=H.one;rw [H.giv,e] at h1;simp only [X0] at h1;refine⟨?_,fun hm=>?_,fun hc=>?_⟩
 ·split at h1 <;> omega
 ·rw [if_neg hm] at h1;omega
 ·rw [hc] at h1;split at h1 <;> omega
theorem Nm.Zpf (H:Nm M n cv ns h):JL ns <=1:=by have:=H.one;omega
theorem Nm.Wn (H:Nm M n cv ns h) {m:Int} {c:Za} (h0:m=h∨∃ d,cv m=some d∧d.from_=c.from_):
 ∃ dep:Int ->Nat,∀ a d,Yx cv m (some c) a=some d ->a ≠ h ->0 <=d.from_∧(Yx cv m (some c) d.from_ ≠ none∨d.from_=h)∧dep d.from_ < dep a:=by
 obtain⟨dep,L⟩:=H.lead;refine⟨dep,fun a d hd ha=>?_⟩
 have key:∀ f:Int,(cv f ≠ none∨f=h) ->(Yx cv m (some c) f ≠ none∨f=h):=by
  intro f hf;unfold Yx;split
  ·exact .inl (by simp)
  ·exact hf
 unfold Yx at hd;split at hd
 ·rename_i e;cases hd;rcases h0 with z | ⟨d,z1,z2⟩
  ·exact absurd (e.trans z) ha
  ·obtain⟨l1,l2,l3⟩:=L m d z1 (by rw [← e];exact ha);rw [z2] at l1 l2 l3;exact⟨l1,key _ l2,by rw [e];exact l3⟩
 ·obtain⟨l1,l2,l3⟩:=L a d hd ha;exact⟨l1,key _ l2,l3⟩
end
end Go.Proofs.Ytekpjgmhkkjhgaa
end
section
namespace Go.Proofs.Ytekpjgmhkkjhgaa
def Zvg (n:Int):Za:= ⟨n,false,-1,0,0,false⟩
section
variable {M:Nat} {n:Int} {cv:CV} {ns ns':List Zd} {h m:Int}
def Zai (n:Int) (cv:CV) (m:Int):Za:= (cv m).getD (Zvg n)
structure Lk (M:Nat) (n:Int) (cv:CV) (h m:Int) (c:Za):Prop where
 nam:c.name=n
 cel:(c.root=false∧0 <=c.from_∧c.from_ < M∧c.from_ ≠ m∧1 <=c.has)∨(c.from_=-1∧c.has=0)
 out:X0 (cv m)=c.out
 has:∀ a,0 <=a ->U5 a (cv m)=U5 a (some c)
 root:Qr (cv m)=Qr (some c)
 rt:c.root=true ->m=h
 or:cv m=some c∨(cv m=none∧c.root=false∧c.from_=-1∧c.out=0∧c.use=false)
theorem Nm.look (H:Nm M n cv ns h) (m:Int):Lk M n cv h m (Zai n cv m):=by
 unfold Zai;cases e:cv m with
 | none=>
   refine⟨rfl,.inr ⟨rfl,rfl⟩,by rw [e];rfl,fun a ha=>?_,by rw [e];rfl,(fun z=>Bool.noConfusion z),.inr ⟨e,rfl,rfl,rfl,rfl⟩⟩;rw [e];show 0=if(-1:Int)=a then(0:Int) else 0
   split <;> rfl
 | some c=>
   refine⟨H.nam m c e,H.cel m c e,by rw [e];rfl,fun a ha=>by rw [e];rfl,by rw [e];rfl,H.rt m c e,.inl e⟩
theorem Nm.put (H:Nm M n cv ns h) (h0:0 <=m) (h1:m < M) {c:Za} (hn:c.name=n)
 (hc:(c.root=false∧0 <=c.from_∧c.from_ < M∧c.from_ ≠ m∧1 <=c.has)∨(c.from_=-1∧c.has=0))
 (hns:∀ x ∈ ns',(0 <=x.Zy∧x.Zy < M)∧x.name=n∧1 <=x.w∧((x.kind=1∧0 <=x.via∧x.via < M)∨(x.kind=2∧x.via=0)∨(x.kind=3∧x.via=0∧x.w=16∧x.Zy=h)))
 (hrt:c.root=true ->m=h) (hone:(if h=m then Qr (some c) else Qr (cv h)) + JL ns'=1)
 (hacc:∀ a:Int,0 <=a ->a < M ->(if a=m then c.out else X0 (cv a)) + YM (YP a) ns' + U5 a (cv m) + YM (UX a) ns=X0 (cv a) + YM (YP a) ns + U5 a (some c) + YM (UX a) ns')
 (hl:∃ dep:Int ->Nat,∀ a d,Yx cv m (some c) a=some d ->a ≠ h ->0 <=d.from_∧(Yx cv m (some c) d.from_ ≠ none∨d.from_=h)∧dep d.from_ < dep a):
 Nm M n (Yx cv m (some c)) ns' h where
 rng a d hd:=by
  unfold Yx at hd;split at hd
  ·subst_vars;omega
  ·exact H.rng a d hd
 nam a d hd:=by
  unfold Yx at hd;split at hd
  ·cases hd;exact hn
  ·exact H.nam a d hd
 cel a d hd:=by
  unfold Yx at hd;split at hd
  ·subst_vars;cases hd;exact hc
  ·exact H.cel a d hd
 KJ:=hns
 hM:=H.hM
 rt a d hd hr:=by
  unfold Yx at hd;split at hd
  ·subst_vars;cases hd;exact hrt hr
  ·exact H.rt a d hd hr
 one:=by
  rw [← hone];unfold Yx;split <;> rfl
 acc a a0 a1:=by
  have q:=H.acc a a0 a1;have p:=hacc a a0 a1;rw [Zen h0 h1];unfold J7 at q ⊢;unfold Jc at q ⊢;have:X0 (Yx cv m (some c) a)=if a=m then c.out else X0 (cv a):=by unfold Yx;split <;> rfl
  rw [this];omega
 lead:=hl
theorem Nm.tail (H:∀ x ∈ ns,(0 <=x.Zy∧x.Zy < M)∧x.name=n∧1 <=x.w∧((x.kind=1∧0 <=x.via∧x.via < M)∨(x.kind=2∧x.via=0)∨(x.kind=3∧x.via=0∧x.w=16∧x.Zy=h))) (hs:∀ x ∈ ns',x ∈ ns):∀ x ∈ ns',(0 <=x.Zy∧x.Zy < M)∧x.name=n∧1 <=x.w∧((x.kind=1∧0 <=x.via∧x.via < M)∨(x.kind=2∧x.via=0)∨(x.kind=3∧x.via=0∧x.w=16∧x.Zy=h)):=fun x hx=>H x (hs x hx)
theorem Ww {x:Zd} (k:x.kind=1) (a:Int):YP a x=0:=by unfold YP;rw [if_neg (by omega)]
theorem ZcL {x:Zd} (k:x.kind=2) (a:Int):YP a x=0:=by unfold YP;rw [if_neg (by omega)]
theorem ZgS {x:Zd} (k:x.kind=3) (a:Int):YP a x=if x.Zy=a then 16 else 0:=by
 unfold YP;by_cases e:x.Zy=a
 ·rw [if_pos ⟨k,e⟩,if_pos e]
 ·rw [if_neg (fun z=>e z.2),if_neg e]
theorem Wv {x:Zd} (k:x.kind=1) (a:Int):UX a x=if x.via=a then x.w else 0:=by
 unfold UX;by_cases e:x.via=a
 ·rw [if_pos (.inl ⟨k,e⟩),if_pos e]
 ·rw [if_neg (by rintro(z | z) <;> omega),if_neg e]
theorem Zbn {x:Zd} (k:x.kind=2) (a:Int):UX a x=if x.Zy=a then x.w else 0:=by
 unfold UX;by_cases e:x.Zy=a
 ·rw [if_pos (.inr ⟨k,e⟩),if_pos e]
 ·rw [if_neg (by rintro(z | z) <;> omega),if_neg e]
theorem ZpT {x:Zd} (k:x.kind=3) (a:Int):UX a x=0:=by
 unfold UX;rw [if_neg (by rintro(z | z) <;> omega)]
theorem cnt1 {x:Zd} {l:List Zd} (k:¬ x.kind=3):JL (x::l)=JL l:=by simp only [JL,if_neg k];omega
theorem X7 (a:Int) (c:Za):U5 a (some c)=if c.from_=a then c.has else 0:=rfl
theorem Nm.use (H:Nm M n cv ns h) {c:Za} (e:cv m=some c) (u:Bool):Nm M n (Yx cv m (some ⟨c.name,c.root,c.from_,c.has,c.out,u⟩)) ns h:=by
 have hr:=H.rng m c e;refine H.put hr.1 hr.2 (by exact H.nam m c e) (by exact H.cel m c e) H.KJ (by exact H.rt m c e) ?_ (fun a a0 a1=>?_) (H.Wn (.inr ⟨c,e,rfl⟩))
 ·rw [← H.one];by_cases z:h=m
  ·rw [if_pos z,z,e];rfl
  ·rw [if_neg z]
 ·rw [e];by_cases z:a=m
  ·rw [if_pos z,z,e];simp only [X0,X7]
  ·rw [if_neg z];simp only [X7]
theorem Nm.Zuw {x:Zd} (H:Nm M n cv (x::ns) h) (k:x.kind=1) {c:Za} (L:Lk M n cv h x.Zy c) (hr:c.root=false) (hf:c.from_=-1) (hv:x.via ≠ x.Zy) (u:Bool):
 Nm M n (Yx cv x.Zy (some ⟨c.name,c.root,x.via,x.w,c.out,u⟩)) ns h:=by
 have hx:=H.KJ x (by simp);have hvr:0 <=x.via∧x.via < M:=by rcases hx.2.2.2 with z | z | z <;> omega
 have hh:=H.UC hvr.1 (x:=x) (by simp);rw [Wv k,if_pos rfl] at hh;have ht:=H.there hvr.1 hvr.2 (by omega);refine H.put hx.1.1 hx.1.2 L.nam (.inl ⟨hr,hvr.1,hvr.2,hv,hx.2.2.1⟩) (Nm.tail H.KJ (by simp_all)) (by rw [hr];simp) ?_ (fun a a0 a1=>?_) ?_
 ·have o:=H.one;rw [cnt1 (by omega)] at o;have:Qr (some (Za.mk c.name c.root x.via x.w c.out u))=Qr (some c):=rfl;rw [this];by_cases z:h=x.Zy
  ·rw [if_pos z,← L.root,← z];omega
  ·rw [if_neg z];omega
 ·rw [L.has a a0];simp only [YM,Ww k,Wv k,X7,hf];rw [if_neg (by omega:¬ (-1:Int)=a)];by_cases z:a=x.Zy
  ·rw [if_pos z,z,L.out];omega
  ·rw [if_neg z];omega
 ·by_cases z:x.Zy=h
  ·exact H.Wn (.inl z)
  ·obtain⟨dep,l⟩:=H.lead;rcases L.or with e | ⟨e,_⟩
   ·obtain⟨l1,_⟩:=l _ c e z;omega
   refine⟨fun a=>if a=x.Zy then dep x.via + 1 else dep a,fun a d hd ha=>?_⟩;dsimp only;unfold Yx at hd;split at hd
   ·rename_i ea;cases hd;refine⟨hvr.1,?_,?_⟩
    ·show Yx cv x.Zy _ x.via ≠ none∨x.via=h;rw [Zad hv];exact ht
    ·show(if x.via=x.Zy then _ else dep x.via) < _;rw [if_pos ea,if_neg hv];omega
   ·rename_i ea;obtain⟨l1,l2,l3⟩:=l a d hd ha
    have hne:d.from_ ≠ x.Zy:=by
     intro w;rw [w] at l2;rcases l2 with q | q
     ·exact q e
     ·exact z q
    rw [if_neg hne,if_neg ea,Zad hne];exact⟨l1,l2,l3⟩
theorem Nm.Zrq {x:Zd} (H:Nm M n cv (x::ns) h) (k:x.kind=1) {c:Za} (L:Lk M n cv h x.Zy c) (hf:0 <=c.from_) (hv:c.from_=x.via) (u:Bool):
 Nm M n (Yx cv x.Zy (some ⟨c.name,c.root,c.from_,c.has + x.w,c.out,u⟩)) ns h:=by
 have hx:=H.KJ x (by simp);have hce:cv x.Zy=some c:=by rcases L.or with e | ⟨_,_,e,_⟩;exact e;omega
 have Zrn:c.root=false∧0 <=c.from_∧c.from_ < M∧c.from_ ≠ x.Zy∧1 <=c.has:=by rcases L.cel with z | z;exact z;omega
 refine H.put hx.1.1 hx.1.2 L.nam (.inl ⟨Zrn.1,Zrn.2.1,Zrn.2.2.1,Zrn.2.2.2.1,?_⟩) (Nm.tail H.KJ (by simp_all)) L.rt ?_ (fun a a0 a1=>?_) (H.Wn (.inr ⟨c,hce,rfl⟩))
 ·show 1 <=c.has + x.w;omega
 ·have o:=H.one;rw [cnt1 (by omega)] at o;have:Qr (some (Za.mk c.name c.root c.from_ (c.has + x.w) c.out u))=Qr (some c):=rfl;rw [this];by_cases z:h=x.Zy
  ·rw [if_pos z,← L.root,← z];omega
  ·rw [if_neg z];omega
 ·rw [L.has a a0];simp only [YM,Ww k,Wv k,X7,hv];by_cases z:a=x.Zy
  ·rw [if_pos z,z,L.out];split <;> omega
  ·rw [if_neg z];split <;> omega
theorem Nm.Zrr {x y:Zd} (H:Nm M n cv (x::ns) h) (k:x.kind=1) (hy:y= ⟨2,x.via,n,0,x.w⟩):Nm M n cv (ns ++ [y]) h:=by
 have hx:=H.KJ x (by simp);have hvr:0 <=x.via∧x.via < M:=by rcases hx.2.2.2 with z | z | z <;> omega
 refine{H with KJ:=fun z hz=>?_,one:= ?_,acc:=fun a a0 a1=>?_}
 ·rcases List.mem_append.1 hz with q | q
  ·exact H.KJ z (by simp [q])
  ·rw [List.mem_singleton.1 q,hy];exact⟨hvr,rfl,hx.2.2.1,.inr (.inl ⟨rfl,rfl⟩)⟩
 ·have o:=H.one;rw [cnt1 (by omega)] at o;rw [Za0,ZeC,hy];simp;omega
 ·have q:=H.acc a a0 a1;unfold J7 Jc at q ⊢;simp only [YM,Ww k,Wv k] at q;have h2:y.kind=2:=by rw [hy]
  rw [Xn,Xn,Qo,Qo,ZcL h2,Zbn h2,hy];dsimp only;omega
theorem Nm.ZjO {x:Zd} (H:Nm M n cv (x::ns) h) (k:(x.kind=1∧x.via=x.Zy)∨x.kind=2) {c:Za} (L:Lk M n cv h x.Zy c) (u:Bool):
 Nm M n (Yx cv x.Zy (some ⟨c.name,c.root,c.from_,c.has,c.out - x.w,u⟩)) ns h:=by
 have hx:=H.KJ x (by simp);have hh:=H.UC hx.1.1 (x:=x) (by simp)
 have hH:∀ a,UX a x=if x.Zy=a then x.w else 0:=by
  intro a;rcases k with⟨k,v⟩ | k
  ·rw [Wv k,v]
  ·exact Zbn k a
 have hG:∀ a,YP a x=0:=by
  intro a;rcases k with⟨k,v⟩ | k
  ·exact Ww k a
  ·exact ZcL k a
 have hk3:¬ x.kind=3:=by omega
 rw [hH,if_pos rfl] at hh;have ht:=H.there hx.1.1 hx.1.2 (by omega);refine H.put hx.1.1 hx.1.2 L.nam (by exact L.cel) (Nm.tail H.KJ (by simp_all)) (by exact L.rt) ?_ (fun a a0 a1=>?_) ?_
 ·have o:=H.one;rw [cnt1 hk3] at o;have:Qr (some (Za.mk c.name c.root c.from_ c.has (c.out - x.w) u))=Qr (some c):=rfl;rw [this];by_cases z:h=x.Zy
  ·rw [if_pos z,← L.root,← z];omega
  ·rw [if_neg z];omega
 ·rw [L.has a a0];simp only [YM,hG,hH,X7];by_cases z:a=x.Zy
  ·rw [if_pos z,z,L.out,if_pos rfl];omega
  ·rw [if_neg z,if_neg (by omega:¬ x.Zy=a)];omega
 ·refine H.Wn ?_;rcases L.or with e | ⟨e,_⟩
  ·exact .inr ⟨c,e,rfl⟩
  ·rcases ht with z | z
   ·exact absurd e z
   ·exact .inl z
theorem Nm.home {x:Zd} (H:Nm M n cv (x::ns) h) (k:x.kind=3) {c:Za} (L:Lk M n cv h x.Zy c) (u:Bool) {ys:List Zd}
 (hy:ys=if 0 <=c.from_ then [⟨2,c.from_,n,0,c.has⟩] else []):
 Nm M n (Yx cv x.Zy (some ⟨c.name,true,-1,0,c.out + 16,u⟩)) (ns ++ ys) h:=by
 have hx:=H.KJ x (by simp);have hh:x.Zy=h:=by rcases hx.2.2.2 with z | z | z <;> omega
 have o:=H.one;simp only [JL,k,if_true] at o;refine H.put hx.1.1 hx.1.2 L.nam (.inr ⟨rfl,rfl⟩) ?_ (fun _=>hh) ?_ (fun a a0 a1=>?_) (H.Wn (.inl hh))
 ·intro z hz;rcases List.mem_append.1 hz with q | q
  ·exact H.KJ z (by simp [q])
  ·rw [hy] at q;split at q
   ·rename_i hf;rw [List.mem_singleton.1 q];rcases L.cel with w | w
    ·exact⟨⟨w.2.1,w.2.2.1⟩,rfl,w.2.2.2.2,.inr (.inl ⟨rfl,rfl⟩)⟩
    ·omega
   ·simp at q
 ·rw [if_pos hh.symm,Za0,show Qr (some (Za.mk c.name true (-1) 0 (c.out + 16) u))=1 from rfl];have:JL ys=0:=by rw [hy];split <;> simp [JL]
  omega
 ·rw [L.has a a0];have hG:YM (YP a) ys=0:=by rw [hy];split <;> simp [YM,YP]
  have hH:YM (UX a) ys=if c.from_=a then c.has else 0:=by
   rw [hy];by_cases hf:0 <=c.from_
   ·rw [if_pos hf,Qo,Zbn rfl]
   ·rw [if_neg hf,if_neg (by omega)];rfl
  rw [Xn,Xn,hG,hH];simp only [YM,ZgS k,ZpT k,X7];rw [if_neg (by omega:¬ (-1:Int)=a)];by_cases z:a=x.Zy
  ·rw [if_pos z,z,L.out,if_pos rfl];omega
  ·rw [if_neg z,if_neg (by omega:¬ x.Zy=a)];omega
theorem Nm.gone (H:Nm M n cv ns h) {c:Za} (e:cv m=some c) (ho:c.out=0) (hr:c.root=false) {ys:List Zd}
 (hy:ys=if 0 <=c.from_ then [⟨2,c.from_,n,0,c.has⟩] else []):Nm M n (Yx cv m none) (ns ++ ys) h:=by
 have hm:=H.rng m c e;have Zrn:=H.cel m c e;have hG:∀ a,YM (YP a) ys=0:=by intro a;rw [hy];split <;> simp [YM,YP]
 have hH:∀ a,0 <=a ->YM (UX a) ys=U5 a (some c):=by
  intro a a0;rw [hy,X7];by_cases hf:0 <=c.from_
  ·rw [if_pos hf,Qo,Zbn rfl]
  ·rw [if_neg hf,if_neg (by omega)];rfl
 refine⟨?_,?_,?_,?_,H.hM,?_,?_,?_,?_⟩
 ·intro a d hd;unfold Yx at hd;split at hd
  ·cases hd
  ·exact H.rng a d hd
 ·intro a d hd;unfold Yx at hd;split at hd
  ·cases hd
  ·exact H.nam a d hd
 ·intro a d hd;unfold Yx at hd;split at hd
  ·cases hd
  ·exact H.cel a d hd
 ·intro z hz;rcases List.mem_append.1 hz with q | q
  ·exact H.KJ z q
  ·rw [hy] at q;split at q
   ·rename_i hf;rw [List.mem_singleton.1 q];rcases Zrn with w | w
    ·exact⟨⟨w.2.1,w.2.2.1⟩,rfl,w.2.2.2.2,.inr (.inl ⟨rfl,rfl⟩)⟩
    ·omega
   ·simp at q
 ·intro a d hd;unfold Yx at hd;split at hd
  ·cases hd
  ·exact H.rt a d hd
 ·have o:=H.one;have:JL ys=0:=by rw [hy];split <;> simp [JL]
  rw [Za0,this]
  have:Qr (Yx cv m none h)=Qr (cv h):=by
   unfold Yx;split
   ·rename_i z;rw [z,e];simp [Qr,hr]
   ·rfl
  rw [this];omega
 ·intro a a0 a1;have q:=H.acc a a0 a1;rw [Zen hm.1 hm.2,e];unfold J7 Jc at *;rw [Xn,Xn,hG,hH a a0]
  have:X0 (Yx cv m none a)=X0 (cv a):=by
   unfold Yx;split
   ·rename_i z;rw [z,e];simp [X0,ho]
   ·rfl
  rw [this];simp only [X7] at *;have:U5 a none=0:=rfl;omega
 ·obtain⟨dep,l⟩:=H.lead;refine⟨dep,fun a d hd ha=>?_⟩;unfold Yx at hd;split at hd
  ·cases hd
  ·obtain⟨l1,l2,l3⟩:=l a d hd ha;refine⟨l1,?_,l3⟩;by_cases z:d.from_=m
   ·by_cases zh:m=h
    ·exact .inr (z.trans zh)
    ·exfalso;have q:=H.ZcQ hd l1;rw [z] at q;have p:=H.acc m hm.1 hm.2;rw [H.giv,if_neg zh,e] at p;simp only [X0] at p;omega
   ·rw [Zad z];exact l2
theorem Nm.last (H:Nm M n cv ns h) {c:Za} (e:cv m=some c) (ho:c.out=0) (hr:c.root=true):(∀ a,a ≠ m ->cv a=none)∧ns= []:=by
 have hmh:=H.rt m c e hr;subst hmh;have o:=H.one;rw [e] at o;have h0:JL ns=0:=by simp only [Qr,hr,if_true] at o;omega
 have hz:Jc M cv ns m=0:=by
  rw [← H.acc m H.hM.1 H.hM.2,H.giv,if_pos rfl,e,h0];simp [X0,ho]
 obtain⟨dep,l⟩:=H.lead
 have key:∀ k a,dep a <=k ->a ≠ m ->cv a=none:=by
  intro k
  induction k with
  | zero=>
    intro a hk ha;cases ec:cv a with
    | none=>rfl
    | some d=>have:=l a d ec ha;omega
  | succ k ih=>
    intro a hk ha;cases ec:cv a with
    | none=>rfl
    | some d=>
      exfalso;obtain⟨l1,l2,l3⟩:=l a d ec ha;by_cases z:d.from_=m
      ·have:=H.ZcQ ec l1;rw [z] at this;omega
      ·rcases l2 with l2 | l2
       ·exact l2 (ih _ (by omega) z)
       ·exact z l2
 have k1:∀ a,a ≠ m ->cv a=none:=fun a ha=>key (dep a) a (Nat.le_refl _) ha
 refine⟨k1,?_⟩;cases ns with
 | nil=>rfl
 | cons x l'=>
   exfalso;have hx:=H.KJ x (by simp)
   have hk3:¬ x.kind=3:=by
    intro z;simp only [JL,z,if_true] at h0;omega
   have hbad:∀ a:Int,0 <=a ->a < M ->1 <=Jc M cv (x::l') a ->False:=by
    intro a a0 a1 hp;by_cases z:a=m
    ·rw [z] at hp;omega
    ·have:=H.acc a a0 a1;rw [H.giv,if_neg z,k1 a z] at this;simp only [X0] at this;omega
   rcases hx.2.2.2 with z | z | z
   ·have:=H.UC z.2.1 (x:=x) (by simp);rw [Wv z.1,if_pos rfl] at this;exact hbad _ z.2.1 z.2.2 (by omega)
   ·have:=H.UC hx.1.1 (x:=x) (by simp);rw [Zbn z.1,if_pos rfl] at this;exact hbad _ hx.1.1 hx.1.2 (by omega)
   ·exact hk3 z.1
theorem Nm.Zwe (H:Nm M n cv ns h) {c:Za} (e:cv m=some c) (hf:0 <=c.from_) {t w:Int} (ht:0 <=t∧t < M) (h1:1 <=w) (h2:w < c.has) {y:Zd} (hy:y= ⟨1,t,n,c.from_,w⟩):
 Nm M n (Yx cv m (some ⟨c.name,c.root,c.from_,c.has - w,c.out,c.use⟩)) (ns ++ [y]) h:=by
 have hm:=H.rng m c e;have hc:c.root=false∧0 <=c.from_∧c.from_ < M∧c.from_ ≠ m∧1 <=c.has:=by rcases H.cel m c e with z | z;exact z;omega
 have ky:y.kind=1:=by rw [hy]
 refine H.put hm.1 hm.2 (by exact H.nam m c e) (.inl ⟨hc.1,hc.2.1,hc.2.2.1,hc.2.2.2.1,by show 1 <=c.has - w;omega⟩) ?_ (by exact H.rt m c e) ?_ (fun a a0 a1=>?_) (H.Wn (.inr ⟨c,e,rfl⟩))
 ·intro z hz;rcases List.mem_append.1 hz with q | q
  ·exact H.KJ z q
  ·rw [List.mem_singleton.1 q,hy];exact⟨ht,rfl,h1,.inl ⟨rfl,hc.2.1,hc.2.2.1⟩⟩
 ·have o:=H.one;rw [Za0,ZeC,ky,← o];by_cases z:h=m
  ·rw [if_pos z,z,e];rfl
  ·rw [if_neg z];simp
 ·rw [e,Xn,Xn,Qo,Qo,Ww ky,Wv ky,hy];simp only [X7];by_cases z:a=m
  ·rw [if_pos z,z,e];simp only [X0];split <;> omega
  ·rw [if_neg z];split <;> omega
theorem Nm.Zwg (H:Nm M n cv ns h) {c:Za} (e:cv m=some c) {t w:Int} (ht:0 <=t∧t < M) (h1:1 <=w) {y:Zd} (hy:y= ⟨1,t,n,m,w⟩):
 Nm M n (Yx cv m (some ⟨c.name,c.root,c.from_,c.has,c.out + w,c.use⟩)) (ns ++ [y]) h:=by
 have hm:=H.rng m c e;have ky:y.kind=1:=by rw [hy]
 refine H.put hm.1 hm.2 (by exact H.nam m c e) (by exact H.cel m c e) ?_ (by exact H.rt m c e) ?_ (fun a a0 a1=>?_) (H.Wn (.inr ⟨c,e,rfl⟩))
 ·intro z hz;rcases List.mem_append.1 hz with q | q
  ·exact H.KJ z q
  ·rw [List.mem_singleton.1 q,hy];exact⟨ht,rfl,h1,.inl ⟨rfl,hm⟩⟩
 ·have o:=H.one;rw [Za0,ZeC,ky,← o];by_cases z:h=m
  ·rw [if_pos z,z,e];rfl
  ·rw [if_neg z];simp
 ·rw [e,Xn,Xn,Qo,Qo,Ww ky,Wv ky,hy];simp only [X7];by_cases z:a=m
  ·rw [if_pos z,z,e,if_pos rfl];simp only [X0];omega
  ·rw [if_neg z,if_neg (by omega:¬ m=a)];omega
theorem Nm.go (H:Nm M n cv ns h) {c:Za} (e:cv m=some c) (hr:c.root=true) {t:Int} (ht:0 <=t∧t < M) (hne:t ≠ m) {y:Zd} (hy:y= ⟨3,t,n,0,16⟩):
 Nm M n (Yx cv m (some ⟨c.name,false,t,16,c.out,c.use⟩)) (ns ++ [y]) t:=by
 have hm:=H.rng m c e;have hmh:=H.rt m c e hr;subst hmh;have hc:c.from_=-1∧c.has=0:=by rcases H.cel m c e with z | z;exact absurd hr (by simp [z.1]);exact z
 have ky:y.kind=3:=by rw [hy]
 have o:=H.one;rw [e] at o;have h0:JL ns=0:=by simp only [Qr,hr,if_true] at o;omega
 have no3:∀ x ∈ ns,¬ x.kind=3:=by
  intro x hx z
  have:∀ l:List Zd,x ∈ l ->1 <=JL l:=by
   intro l
   induction l with
   | nil=>simp
   | cons w l ih=>
     intro q;simp only [JL];rcases List.mem_cons.1 q with rfl | q
     ·rw [if_pos z];omega
     ·have:=ih q;omega
  have:=this ns hx;omega
 refine⟨?_,?_,?_,?_,ht,?_,?_,?_,?_⟩
 ·intro a d hd;unfold Yx at hd;split at hd
  ·subst_vars;exact hm
  ·exact H.rng a d hd
 ·intro a d hd;unfold Yx at hd;split at hd
  ·cases hd;exact H.nam m c e
  ·exact H.nam a d hd
 ·intro a d hd;unfold Yx at hd;split at hd
  ·subst_vars;cases hd;exact .inl ⟨rfl,ht.1,ht.2,hne,by show(1:Int) <=16;omega⟩
  ·exact H.cel a d hd
 ·intro z hz;rcases List.mem_append.1 hz with q | q
  ·have:=H.KJ z q;refine⟨this.1,this.2.1,this.2.2.1,?_⟩;rcases this.2.2.2 with w | w | w
   ·exact .inl w
   ·exact .inr (.inl w)
   ·exact absurd w.1 (no3 z q)
  ·rw [List.mem_singleton.1 q,hy];exact⟨ht,rfl,by show(1:Int) <=16;omega,.inr (.inr ⟨rfl,rfl,rfl,rfl⟩)⟩
 ·intro a d hd hrd;unfold Yx at hd;split at hd
  ·cases hd;cases hrd
  ·rename_i z;exact absurd (H.rt a d hd hrd) z
 ·rw [Za0,ZeC,if_pos ky,Zad hne,h0]
  have:Qr (cv t)=0:=by
   cases ec:cv t with
   | none=>rfl
   | some d=>
     show(if d.root=true then 1 else 0)=0;by_cases z:d.root=true
     ·exact absurd (H.rt t d ec z) hne
     ·rw [if_neg z]
  omega
 ·intro a a0 a1;have q:=H.acc a a0 a1;rw [Zen hm.1 hm.2,e];unfold J7 Jc at *;rw [Xn,Xn,Qo,Qo,ZgS ky,ZpT ky,hy];simp only [X7,hc.1,hc.2] at *
  have:X0 (Yx cv m (some ⟨c.name,false,t,16,c.out,c.use⟩) a)=X0 (cv a):=by
   unfold Yx;split
   ·rename_i z;rw [z,e];rfl
   ·rfl
  rw [this];rw [if_neg (by omega:¬ (-1:Int)=a)];omega
 ·obtain⟨dep,l⟩:=H.lead;refine⟨fun a=>if a=t then 0 else dep a + 1,fun a d hd ha=>?_⟩;dsimp only;rw [if_neg ha];unfold Yx at hd;split at hd
  ·cases hd;dsimp only;rw [if_pos rfl];exact⟨ht.1,.inr rfl,by omega⟩
  ·rename_i z;obtain⟨l1,l2,l3⟩:=l a d hd z;refine⟨l1,?_,?_⟩
   ·by_cases q:d.from_=m
    ·rw [q,Wj];exact .inl (by simp)
    ·rw [Zad q];rcases l2 with l2 | l2
     ·exact .inl l2
     ·exact absurd l2 q
   ·split <;> omega
theorem Nm.fresh (hm:0 <=m∧m < M):Nm M n (Yx (fun _=>none) m (some ⟨n,true,-1,0,0,true⟩)) [] m where
 rng a d hd:=by
  unfold Yx at hd;split at hd
  ·subst_vars;exact hm
  ·cases hd
 nam a d hd:=by
  unfold Yx at hd;split at hd
  ·cases hd;rfl
  ·cases hd
 cel a d hd:=by
  unfold Yx at hd;split at hd
  ·cases hd;exact .inr ⟨rfl,rfl⟩
  ·cases hd
 KJ x hx:=by simp at hx
 hM:=hm
 rt a d hd _:=by
  unfold Yx at hd;split at hd
  ·assumption
  ·cases hd
 one:=by rw [Wj];rfl
 acc a a0 a1:=by
  rw [Zen hm.1 hm.2];unfold J7 Jc
  have:WZ (fun m=>U5 a none) M=0:=by
   have:∀ k,WZ (fun m=>U5 a none) k=0:=by
    intro k;induction k with
    | zero=>rfl
    | succ k ih=>simp only [WZ,ih];rfl
   exact this M
  rw [this]
  have:X0 (Yx (fun _=>none) m (some ⟨n,true,-1,0,0,true⟩) a)=0:=by
   unfold Yx;split <;> rfl
  rw [this,X7];simp [YM,U5]
 lead:= ⟨fun _=>0,fun a d hd ha=>by
  unfold Yx at hd;split at hd
  ·rename_i z;exact absurd z ha
  ·cases hd⟩
end
end Go.Proofs.Ytekpjgmhkkjhgaa
end
section
namespace Go.Lf
theorem Zhh (n:Int):ZJ n=Int.bmod n 18446744073709551616:=by
 unfold ZJ Go.IntKind.wrap;have e1:(2 ^ IntKind.i64.bits:Int)=18446744073709551616:=by decide
 have e2:(2 ^ (IntKind.i64.bits - 1):Int)=9223372036854775808:=by decide
 have e3:IntKind.i64.signed=true:=rfl;rw [e1,e2,e3];dsimp only;unfold Int.bmod;have:=Int.emod_nonneg n (b:=18446744073709551616) (by decide);have:=Int.emod_lt_of_pos n (b:=18446744073709551616) (by decide);simp;split <;> split <;> omega
theorem Zkm (a b:Int):ZJ (ZJ a + b)=ZJ (a + b):=by
 rw [Zhh,Zhh,Zhh];simp
theorem YV {k:Nat} (h:k < 4611686018427387904):ZJ ((k:Int) + 1)= ((k + 1:Nat):Int):=by
 rw [YL (by omega) (by omega)];rfl
theorem Zl7 {k:Nat} (h:k < 4611686018427387904) (h0:0 < k):ZJ ((k:Int) - 1)= ((k - 1:Nat):Int):=by
 rw [YL (by omega) (by omega)];omega
theorem XT {α:Type} {J2:Nat} {xs ys:List α} (h:xs.length + ys.length <=1000000) (hb:J2 <=1000):app J2 xs ys=some (xs ++ ys):=
 Zvp (Nat.le_trans (Nat.mul_le_mul (show 2 * (xs.length + ys.length) + 1000 <=2001000 by omega) hb) (by decide))
def iter {α β σ:Type} (g:Nat ->α ->σ ->(σ ->Option β) ->Option β) (d:σ ->Option β):Nat ->List α ->σ ->Option β
 | _,[],s=>d s
 | i,x::l,s=>g i x s (fun s'=>iter g d (i + 1) l s')
theorem YU {α β σ γ:Type} (l:List α) (mk:Int ->σ ->γ) (body:γ ->(γ ->Option β) ->Option β) (g:Nat ->α ->σ ->(σ ->Option β) ->Option β) (d:σ ->Option β)
 (hl:l.length < 4611686018427387904)
 (hb:∀ (k:Nat) x s next,l[k]? =some x ->((k:Int) < (l.length:Int)) ->body (mk k s) next=g k x s (fun s'=>next (mk (ZJ (k + 1)) s')))
 (he:∀ s next,body (mk l.length s) next=d s) {F:Nat} (hF:l.length < F) (s:σ):loop F body (mk 0 s)=iter g d 0 l s:=by
 have key:∀ (m k F:Nat) s,k + m=l.length ->m < F ->loop F body (mk k s)=iter g d k (l.drop k) s:=by
  intro m
  induction m with
  | zero=>
    intro k F s hk hF;obtain⟨F,rfl⟩:=Nat.exists_eq_succ_of_ne_zero (n:=F) (by omega);have:k=l.length:=by omega
    subst this;rw [Ya,he,List.drop_length];rfl
  | succ m ih=>
    intro k F s hk hF;obtain⟨F,rfl⟩:=Nat.exists_eq_succ_of_ne_zero (n:=F) (by omega);have hlt:k < l.length:=by omega
    rw [Ya,hb k l[k] s _ (by simp [hlt]) (by omega),List.drop_eq_getElem_cons hlt,iter];congr 1;funext s';rw [YV (by omega)];exact ih (k + 1) F s' (by omega) (by omega)
 have:=key l.length 0 F s (by omega) (by omega)
 simpa using this
theorem Zbs {β σ γ:Type} (n:Nat) (mk:Int ->σ ->γ) (body:γ ->(γ ->Option β) ->Option β) (g:Nat ->σ ->(σ ->Option β) ->Option β) (d:σ ->Option β)
 (hl:n < 4611686018427387904)
 (hb:∀ (k:Nat) s next,k < n ->body (mk k s) next=g k s (fun s'=>next (mk (ZJ (k + 1)) s')))
 (he:∀ s next,body (mk n s) next=d s) {F:Nat} (hF:n < F) (s:σ):loop F body (mk 0 s)=iter (fun _ k s next=>g k s next) d 0 (List.range n) s:=by
 refine YU (List.range n) mk body (fun _ k s next=>g k s next) d (by simpa using hl) (fun k x s next hx hk=>?_) (by simpa using he) (by simpa using hF) s;rw [List.length_range] at hk
 have:x=k:=by
  rw [List.getElem?_range (by omega)] at hx
  simpa using hx.symm
 subst this;exact hb _ s next (by omega)
def anyI {α:Type} (c:Nat ->α ->Bool):Nat ->List α ->Bool
 | _,[]=>false
 | i,x::l=>c i x || anyI c (i + 1) l
theorem Zcw {α:Type} {c:Nat ->α ->Bool}:∀ {l:List α} {i:Nat},anyI c i l=true↔∃ j x,l[j]? =some x∧c (i + j) x=true
 | [],i=>by simp [anyI]
 | y::l,i=>by
   unfold anyI;rw [Bool.or_eq_true,Zcw (l:=l)]
   constructor
   ·rintro(h | ⟨j,x,h1,h2⟩)
    ·exact⟨0,y,rfl,h⟩
    ·exact⟨j + 1,x,h1,by rw [← h2];congr 1;omega⟩
   ·rintro⟨j,x,h1,h2⟩;cases j with
    | zero=>simp at h1;subst h1;exact .inl h2
    | succ j=>exact .inr ⟨j,x,by simpa using h1,by rw [← h2];congr 1;omega⟩
theorem ZeJ {α:Type} (c:α ->Bool) (l:List α) (i:Nat):anyI (fun _ x=>c x) i l=l.any c:=by
 induction l generalizing i with
 | nil=>rfl
 | cons x l ih=>unfold anyI;rw [ih];rfl
theorem KO {α β σ:Type} {g:Nat ->α ->σ ->(σ ->Option β) ->Option β} {d:σ ->Option β} {r:Option β} (c:Nat ->α ->Bool) {l:List α} {i:Nat} {s:σ}
 (hg:∀ k x next,l[k]? =some x ->g (i + k) x s next=bif c (i + k) x then r else next s):iter g d i l s=bif anyI c i l then r else d s:=by
 induction l generalizing i with
 | nil=>rfl
 | cons x l ih=>
   unfold iter anyI;have:=hg 0 x (fun s'=>iter g d (i + 1) l s') rfl;rw [Nat.add_zero] at this;rw [this];cases c i x
   ·rw [cond_false,Bool.false_or];exact ih (fun k y next hy=>by rw [show i + 1 + k=i + (k + 1) by omega];exact hg (k + 1) y next (by simpa using hy))
   ·rfl
def foldI {α σ:Type} (f:Nat ->α ->σ ->σ):Nat ->List α ->σ ->σ
 | _,[],s=>s
 | i,x::l,s=>foldI f (i + 1) l (f i x s)
theorem Jf {α β σ:Type} {g:Nat ->α ->σ ->(σ ->Option β) ->Option β} {d:σ ->Option β} (f:Nat ->α ->σ ->σ) (I:Nat ->σ ->Prop) {l:List α} {i:Nat} {s:σ} (h0:I i s)
 (hg:∀ k x s next,l[k]? =some x ->I (i + k) s ->g (i + k) x s next=next (f (i + k) x s)∧I (i + k + 1) (f (i + k) x s)):iter g d i l s=d (foldI f i l s)∧I (i + l.length) (foldI f i l s):=by
 induction l generalizing i s with
 | nil=>exact⟨rfl,h0⟩
 | cons x l ih=>
   unfold iter foldI;have:=hg 0 x s (fun s'=>iter g d (i + 1) l s') rfl h0;rw [Nat.add_zero] at this;rw [this.1]
   have:=ih this.2 (fun k y s next hy hI=>by
    rw [show i + 1 + k=i + (k + 1) by omega] at hI ⊢;exact hg (k + 1) y s next (by simpa using hy) hI)
   rwa [show i + 1 + l.length=i + (x::l).length by simp;omega] at this
theorem JI {α σ:Type} (f:α ->σ ->σ) (l:List α) (i:Nat) (s:σ):foldI (fun _=>f) i l s=l.foldl (fun s x=>f x s) s:=by
 induction l generalizing i s with
 | nil=>rfl
 | cons x l ih=>exact ih _ _
theorem Zeq {σ τ:Type} (V:σ ->τ) (f:Nat ->σ ->σ) (h:τ ->τ) {n N:Nat} (hn:n < N) (h1:∀ i s,i < N ->i ≠ n ->V (f i s)=V s) (h2:∀ s,V (f n s)=h (V s)) (s:σ):
 V ((List.range N).foldl (fun s i=>f i s) s)=h (V s):=by
 have key:∀ M,M <=N ->V ((List.range M).foldl (fun s i=>f i s) s)=if n < M then h (V s) else V s:=by
  intro M
  induction M with
  | zero=>intro _;simp
  | succ M ih=>
    intro hM;rw [List.range_succ,List.foldl_append];simp only [List.foldl_cons,List.foldl_nil];by_cases e:M=n
    ·subst e;rw [h2,ih (by omega),if_neg (by omega),if_pos (by omega)]
    ·rw [h1 _ _ (by omega) e,ih (by omega)];by_cases hm:n < M
     ·rw [if_pos hm,if_pos (by omega)]
     ·rw [if_neg hm,if_neg (by omega)]
 rw [key N (Nat.le_refl _),if_pos hn]
end Go.Lf
end
section
end
section
namespace Go.Proofs.Ytekpjgmhkkjhgaa
open Go.Lf
structure Small (w:Zb):Prop where
 cells:w.cells.length < 1000
 rows:∀ r ∈ w.cells,r.length < 1000
 notes:w.notes.length < 1000
 freed:w.freed.length < 1000
def rowOf (w:Zb) (m:Nat):List Za:=w.cells[m]?.getD []
def cellOf (w:Zb) (m:Nat) (n:Int):Option Za:= (rowOf w m).find? (fun c=>c.name==n)
theorem Qx {w:Zb} {m:Nat} (h:m < w.cells.length):w.cells[m]? =some (rowOf w m):=by
 unfold rowOf;simp [h]
theorem ZcP {α β σ:Type} {g:Nat ->α ->σ ->(σ ->Option β) ->Option β} {d:σ ->Option β} (r:Nat ->Option β) (c:α ->Bool) {l:List α} {i:Nat} {s:σ}
 (hg:∀ k x next,l[k]? =some x ->g (i + k) x s next=bif c x then r (i + k) else next s):
 (∃ j x,l.find? c=some x∧l[j]? =some x∧iter g d i l s=r (i + j))∨(l.find? c=none∧iter g d i l s=d s):=by
 induction l generalizing i with
 | nil=>exact .inr ⟨rfl,rfl⟩
 | cons x l ih=>
   unfold iter;have:=hg 0 x (fun s'=>iter g d (i + 1) l s') rfl;rw [Nat.add_zero] at this;rw [this];cases hc:c x
   ·rw [cond_false,List.find?_cons,hc];rcases ih (i:=i + 1) (fun k y next hy=>by rw [show i + 1 + k=i + (k + 1) by omega];exact hg (k + 1) y next (by simpa using hy)) with⟨j,y,h1,h2,h3⟩ | ⟨h1,h2⟩
    ·exact .inl ⟨j + 1,y,h1,by simpa using h2,by rw [h3];congr 1;omega⟩
    ·exact .inr ⟨h1,h2⟩
   ·exact .inl ⟨0,x,by rw [List.find?_cons,hc],rfl,rfl⟩
def Zce (w:Zb) (m n:Int):Nat:=w.notes.countP fun x=>(x.kind==3 && x.Zy==m) && x.name==n
theorem ZdS {α:Type} (c:α ->Bool) (l:List α) (a:Nat) (h:a + l.length < 4611686018427387904):
 l.foldl (fun(s:Int) x=>bif c x then ZJ (s + 1) else s) (a:Int)= ((a + l.countP c:Nat):Int):=by
 induction l generalizing a with
 | nil=>rfl
 | cons x l ih=>
   rw [List.foldl_cons,List.countP_cons];simp only [List.length_cons] at h;cases hc:c x
   ·simp only [cond_false];rw [ih a (by omega)];simp
   ·simp only [cond_true,if_true];rw [YV (by omega),ih (a + 1) (by omega)];congr 1;omega
def ZpQ (w:Zb) (m:Nat) (n:Int):Int:=match cellOf w m n with | some c=>c.out | none=>0
def JS (w:Zb) (m:Nat) (n:Int):Int:=ZJ (16 * (Zce w m n:Int) + ZpQ w m n)
def ZmR (w:Zb) (m n:Int) (k:Nat) (s:Int):Int:=match cellOf w k n with | some c=>bif c.from_==m then ZJ (s + c.has) else s | none=>s
def Zgl (m n:Int) (x:Zd) (s:Int):Int:=bif(x.name==n) && (((x.kind==1) && (x.via==m)) || ((x.kind==2) && (x.Zy==m))) then ZJ (s + x.w) else s
def ZdJ (w:Zb) (m n:Int):Int:=w.notes.foldl (fun s x=>Zgl m n x s) ((List.range w.cells.length).foldl (fun s k=>ZmR w m n k s) 0)
theorem ZmV {α:Type} (g:Bool) (a d:α):gd g (some a) d=some (bif g then a else d):=by cases g <;> rfl
theorem contains_eq {F:Nat} (hF:1000 <=F) {l:List Int} (hl:l.length < 1000) (x:Int):Zi9 F l x=some (l.any fun y=>y==x):=by
 unfold Zi9 Zqu
 have e:=YU l (fun v (_:Unit)=>v) (ZcW l x) (fun k y s next=>bif x==y then some (k:Int) else next ()) (fun _=>some (-1)) (by omega) (fun k y s next hy hk=>by
  simp only [ZcW,ZU,hy,hk,decide_true,Option.bind_some,cond_true]) (fun s next=>by simp [ZcW]) (by omega:l.length < F) ()
 rw [show loop F (ZcW l x) 0=_ from e];rcases ZcP (l:=l) (i:=0) (s:= ()) (d:=fun _=>some (-1)) (g:=fun k (y:Int) (_:Unit) next=>bif x==y then some (k:Int) else next ()) (fun k=>some (k:Int)) (fun c=>x==c) (fun _ _ _ _=>rfl) with⟨j,y,h1,h2,h3⟩ | ⟨h1,h2⟩
 ·rw [h3]
  have:(l.any fun y=>y==x)=true:=by
   rw [List.any_eq_true];have:=List.find?_some h1;exact⟨y,List.mem_of_find?_eq_some h1,by simpa using (by simpa using this:x=y).symm⟩
  rw [this];simp
 ·rw [h2]
  have:(l.any fun y=>y==x)=false:=by
   rw [List.any_eq_false];rw [List.find?_eq_none] at h1;intro y hy;have:=h1 y hy;simp at this ⊢;exact fun e=>this e.symm
  rw [this];rfl
def Z6 (w:Zb) (n:Int):Bool:= (decide (0 <=n) && decide (n < w.names)) && !(w.freed.any fun y=>y==n)
def Zah (w:Zb) (m:Int):Bool:=decide (0 <=m) && decide (m < (w.cells.length:Int))
def WU (w:Zb) (m:Int) (c:Za):Bool:=
 (Z6 w c.name && (decide (-16 <=c.out) && decide (c.out <=1000000)) && (c.use || !(c.out==0))) &&
 (bif c.root || c.from_==-1 then c.from_==-1 && c.has==0 else Zah w c.from_ && !(c.from_==m) && (decide (1 <=c.has) && decide (c.has <=1000000)))
def WM (w:Zb) (x:Zd):Bool:=
 (Zah w x.Zy && Z6 w x.name && (decide (1 <=x.w) && decide (x.w <=1000000))) &&
 (bif x.kind==1 then Zah w x.via else bif x.kind==2 then x.via==0 else x.kind==3 && x.via==0 && x.w==16)
section
theorem Zfb {F:Nat} (hF:1000 <=F) {w:Zb} (sm:Small w) (st:Store) (e1:st.names=w.names) (e2:st.freed=w.freed) (n:Int):Zm5 F st n=some (Z6 w n):=by
 unfold Zm5 Z6;rw [e1,e2,contains_eq hF sm.freed];simp only [ZmV,Option.bind_some];simp only [ge_iff_le];cases decide (0 <=n) <;> cases decide (n < w.names) <;> cases (w.freed.any fun y=>y==n) <;> rfl
theorem Zff {w:Zb} (sm:Small w) (st:Store) (e1:st.machines= (w.cells.length:Int)) (n:Int):Ziq st n=some (Zah w n):=by
 unfold Ziq Zah;rw [e1]
theorem ZrU {F:Nat} (hF:1000 <=F) {w:Zb} (sm:Small w) (st:Store) (e0:st.machines= (w.cells.length:Int)) (e1:st.names=w.names) (e2:st.freed=w.freed) (m:Int) (c:Za):Znd F st m c=some (WU w m c):=by
 unfold Znd;rw [Zfb hF sm st e1 e2,Zff sm st e0];simp only [Option.bind_some];unfold WU;have a1:decide (c.out < -16)= !decide (-16 <=c.out):=by rw [← decide_not];exact decide_eq_decide.2 (by omega)
 have a2:decide (c.out > 1000000)= !decide (c.out <=1000000):=by rw [← decide_not];exact decide_eq_decide.2 (by omega)
 have a3:(c.from_ !=m)= !(c.from_==m):=rfl;rw [a1,a2,a3];simp only [ge_iff_le];generalize Z6 w c.name=nm;generalize decide (-16 <=c.out)=oa;generalize decide (c.out <=1000000)=ob;generalize Zah w c.from_=fm;generalize decide (1 <=c.has)=ha;generalize decide (c.has <=1000000)=hb;generalize (c.out==0)=o0;generalize (c.from_==m)=f1;generalize (c.from_==-1)=f2;generalize (c.has==0)=hz;generalize c.use=us;generalize c.root=ro;cases nm <;> cases oa <;> cases ob <;> cases us <;> cases o0 <;> cases ro <;> cases f2 <;> cases fm <;> cases f1 <;> cases ha <;> cases hb <;> rfl
theorem Zq9 {F:Nat} (hF:1000 <=F) {w:Zb} (sm:Small w) (st:Store) (e0:st.machines= (w.cells.length:Int)) (e1:st.names=w.names) (e2:st.freed=w.freed) (x:Zd):Znc F st x=some (WM w x):=by
 unfold Znc;rw [Zfb hF sm st e1 e2,Zff sm st e0,Zff sm st e0];simp only [ZmV,Option.bind_some];unfold WM;have a1:decide (x.w < 1)= !decide (1 <=x.w):=by rw [← decide_not];exact decide_eq_decide.2 (by omega)
 have a2:decide (x.w > 1000000)= !decide (x.w <=1000000):=by rw [← decide_not];exact decide_eq_decide.2 (by omega)
 rw [a1,a2];generalize Z6 w x.name=nm;generalize Zah w x.Zy=tm;generalize Zah w x.via=vm;generalize decide (1 <=x.w)=ha;generalize decide (x.w <=1000000)=hb;generalize (x.kind==1)=k1;generalize (x.kind==2)=k2;generalize (x.kind==3)=k3;generalize (x.via==0)=v0;generalize (x.w==16)=w16;cases nm <;> cases tm <;> cases vm <;> cases ha <;> cases hb <;> cases k1 <;> cases k2 <;> cases k3 <;> cases v0 <;> cases w16 <;> rfl
end
end Go.Proofs.Ytekpjgmhkkjhgaa
end
section
namespace Go.Proofs.Ytekpjgmhkkjhgaa
open Go.Lf
def QG {α:Type} [Inhabited α] (l:List α) (k:Nat):α:=l[k-1]?.getD default
theorem Zqe {α:Type} [Inhabited α] (g:Bool) {l:List α} {k:Nat} (hk:k < l.length) (hl:l.length < 4611686018427387904):
 gd (g && decide ((k:Int) > 0)) (Yh l (ZJ ((k:Int) - 1))) default=some (bif g && decide ((k:Int) > 0) then QG l k else default):=by
 cases g
 ·rfl
 ·by_cases h:0 < k
  ·have:decide ((k:Int) > 0)=true:=by simp;omega
   rw [this,Bool.true_and,ZcS,Zl7 (by omega) h,ZU,cond_true];unfold QG;have:k - 1 < l.length:=by omega
   simp [this]
  ·have:decide ((k:Int) > 0)=false:=by simp;omega
   rw [this];rfl
def KR (w:Zb) (k:Nat) (x:Int):Bool:= !(decide (0 <=x) && decide (x < w.names)) || (decide ((k:Int) > 0) && decide (x <=QG w.freed k))
def KI (w:Zb) (m:Nat) (row:List Za) (k:Nat) (c:Za):Bool:= !(WU w m c) || (decide ((k:Int) > 0) && decide (c.name <= (QG row k).name))
def ZbQ (w:Zb):Bool:= (decide (1 <= (w.cells.length:Int)) && decide ((w.cells.length:Int) <=6)) && (decide (0 <=w.names) && decide (w.names <=12)) && (decide ((w.notes.length:Int) <=80) && decide ((w.freed.length:Int) <=w.names))
def Zde (w:Zb):Bool:= !(anyI (fun m row=>anyI (KI w m row) 0 row) 0 w.cells)
def KL (w:Zb):Bool:= !(w.notes.any fun x=>!(WM w x))
section
theorem ZrC {F:Nat} (hF:1000 <=F) {w:Zb} (sm:Small w) (st:Store) (e0:st.machines= (w.cells.length:Int)) (e1:st.names=w.names) (e2:st.freed=w.freed):ZuH F st w=some (Zde w && KL w):=by
 have hc:=sm.cells;have hn:=sm.notes
 have l2:loop F (Zfu F st w) 0=some (KL w):=by
  refine(YU w.notes (fun v (_:Unit)=>v) (Zfu F st w) (fun _ x s next=>bif !(WM w x) then some false else next ()) (fun _=>some true) (by omega) (fun k y s next hy hk=>?_) (fun s next=>?_) (by omega) ()).trans ?_
  ·simp only [Zfu,ZU,hy,hk,decide_true,cond_true,Option.bind_some,Zq9 hF sm st e0 e1 e2]
  ·simp [Zfu]
  ·rw [KO (r:=some false) (fun _ x=>!(WM w x)) (fun _ _ _ _=>rfl),ZeJ];unfold KL;cases w.notes.any fun x=>!(WM w x) <;> rfl
 have l1:∀ (m:Nat) (row:List Za) (next:Int ->Option Bool),row.length < 1000 ->loop F (Zfv F st m next row) 0=bif anyI (KI w m row) 0 row then some false else next (ZJ ((m:Int) + 1)):=by
  intro m row next hr;refine(YU row (fun v (_:Unit)=>v) (Zfv F st m next row) (fun k c s nx=>bif KI w m row k c then some false else nx ()) (fun _=>next (ZJ ((m:Int) + 1))) (by omega) (fun k y s nx hy hk=>?_) (fun s nx=>?_) (by omega) ()).trans ?_
  ·have hk':k < row.length:=by omega
   simp only [Zfv,ZU,hy,hk,decide_true,cond_true,Option.bind_some,ZrU hF sm st e0 e1 e2,Zqe _ hk' (by omega),ZmV];unfold KI;cases WU w m y <;> cases decide ((k:Int) > 0) <;> rfl
  ·simp [Zfv]
  ·rw [KO (r:=some false) (KI w m row) (fun k _ _ _=>by rw [Nat.zero_add])]
 unfold ZuH;refine(YU w.cells (fun v (_:Unit)=>v) (Zia F st w) (fun m row s next=>bif anyI (KI w m row) 0 row then some false else next ()) (fun _=>some (KL w)) (by omega) (fun k y s next hy hk=>?_) (fun s next=>?_) (by omega) ()).trans ?_
 ·have hr:=sm.rows y (List.mem_of_getElem? hy);simp only [Zia,ZU,hy,hk,decide_true,cond_true,Option.bind_some];exact l1 k y next hr
 ·simp only [Zia];rw [decide_eq_false (by omega),cond_false,l2]
 ·rw [KO (r:=some false) (fun m row=>anyI (KI w m row) 0 row) (fun k _ _ _=>by rw [Nat.zero_add])];unfold Zde;cases anyI (fun m (row:List Za)=>anyI (KI w m row) 0 row) 0 w.cells <;> rfl
end
end Go.Proofs.Ytekpjgmhkkjhgaa
end
section
namespace Go.Proofs.Ytekpjgmhkkjhgaa
open Go.Lf
structure Shp (w:Zb):Prop where
 c1:1 <=w.cells.length
 c6:w.cells.length <=6
 n0:0 <=w.names
 n12:w.names <=12
 notes:w.notes.length <=80
 cell:∀ (m:Nat) (row:List Za) (k:Nat) (c:Za),w.cells[m]? =some row ->row[k]? =some c ->WU w m c=true∧(0 < k ->(QG row k).name < c.name)
 note:∀ x ∈ w.notes,WM w x=true
theorem rows_ok {w:Zb} (h:Zde w=true) (m:Nat) (row:List Za) (k:Nat) (c:Za) (hm:w.cells[m]? =some row) (hk:row[k]? =some c):WU w m c=true∧(0 < k ->(QG row k).name < c.name):=by
 unfold Zde at h;rw [Bool.not_eq_true',← Bool.not_eq_true] at h;have h1:¬ KI w m row k c=true:=fun hb=>h (Zcw.2 ⟨m,row,hm,by rw [Nat.zero_add];exact Zcw.2 ⟨k,c,hk,by rw [Nat.zero_add];exact hb⟩⟩)
 unfold KI at h1;rw [Bool.or_eq_true,Bool.and_eq_true,decide_eq_true_eq,decide_eq_true_eq,Bool.not_eq_true'] at h1;refine⟨?_,fun h0=>?_⟩
 ·cases hc:WU w m c
  ·exact absurd (.inl hc) h1
  ·rfl
 ·by_cases hl:(QG row k).name < c.name
  ·exact hl
  ·exact absurd (.inr ⟨by omega,by omega⟩) h1
theorem asc {row:List Za} (h:∀ k c,row[k]? =some c ->0 < k ->(QG row k).name < c.name):∀ (k j:Nat) (c d:Za),j < k ->row[k]? =some c ->row[j]? =some d ->d.name < c.name:=by
 intro k
 induction k with
 | zero=>intro j c d h0;omega
 | succ k ih=>
   intro j c d hj hc hd;have hlt:k + 1 < row.length:= (List.getElem?_eq_some_iff.1 hc).1;have hp:=h (k + 1) c hc (by omega)
   have e:row[k]? =some (QG row (k + 1)):=by
    unfold QG;have:k < row.length:=by omega
    simp [this]
   by_cases hjk:j=k
   ·subst hjk;rw [e] at hd;cases hd;exact hp
   ·have:=ih j _ d (by omega) e hd;omega
theorem ZsM {w:Zb} (h1:ZbQ w=true) (h2:Zde w=true) (h3:KL w=true):Shp w:=by
 unfold ZbQ at h1;simp only [Bool.and_eq_true,decide_eq_true_eq] at h1;obtain⟨⟨⟨b1,b2⟩,b3,b4⟩,b5,b6⟩:=h1;refine⟨by omega,by omega,b3,b4,by omega,rows_ok h2,fun x hx=>?_⟩;unfold KL at h3;rw [Bool.not_eq_true',List.any_eq_false] at h3;have:=h3 x hx
 simpa using this
theorem ZqX {row:List Za} (h:∀ k c,row[k]? =some c ->0 < k ->(QG row k).name < c.name) {k:Nat} {c:Za} (hc:row[k]? =some c) (n:Int):
 (row.take (k + 1)).find? (fun x=>x.name==n)=if n=c.name then some c else(row.take k).find? (fun x=>x.name==n):=by
 have hlt:k < row.length:= (List.getElem?_eq_some_iff.1 hc).1
 have e:row.take (k + 1)=row.take k ++ [c]:=by
  rw [List.take_add_one,hc];rfl
 rw [e,List.find?_append];by_cases hn:n=c.name
 ·subst hn;rw [if_pos rfl]
  have:(row.take k).find? (fun x=>x.name==c.name)=none:=by
   rw [List.find?_eq_none];intro x hx;obtain⟨j,hj⟩:=List.mem_iff_getElem?.1 hx;have hjk:j < k:=by have:= (List.getElem?_eq_some_iff.1 hj).1;rw [List.length_take] at this;omega
   rw [List.getElem?_take_of_lt hjk] at hj;have:=asc h k j c x hjk hc hj;simp;omega
  rw [this];simp
 ·rw [if_neg hn];have: [c].find? (fun x=>x.name==n)=none:=by simp;exact fun e=>hn e.symm
  rw [this];cases (row.take k).find? (fun x=>x.name==n) <;> rfl
def MapOf (w:Zb) (l:List (Ze×Za)):Prop:=∀ a b:Int,Xr l ⟨a,b⟩=if 0 <=a∧a < (w.cells.length:Int) then cellOf w a.toNat b else none
theorem ZpR {F:Nat} (hF:1000 <=F) {w:Zb} (sm:Small w) (sh:Shp w):∃ cs,Zja F w=some ⟨(w.cells.length:Int),w.names,cs,w.notes,w.freed⟩∧MapOf w cs:=by
 have hc:=sm.cells;have hn:=sm.notes;have hf:=sm.freed;unfold Zja ZoW ZoV;rw [XT (by simp only [List.length_nil];omega) (by decide),XT (by simp only [List.length_nil];omega) (by decide)];simp only [Option.bind_some,List.nil_append]
 let I:Nat ->List (Ze×Za) ->Prop:=fun m l=>∀ a b:Int,Xr l ⟨a,b⟩=if 0 <=a∧a < (m:Int) then cellOf w a.toNat b else none
 have inner:∀ (m:Nat) (row:List Za) (next:Int×(List (Ze×Za)) ->Option Store) (l:List (Ze×Za)),w.cells[m]? =some row ->I m l ->∃ l',I (m + 1) l'∧loop F (ZaB m next row) (0,l)=next (ZJ ((m:Int) + 1),l'):=by
  intro m row next l hm hI;have hr:=sm.rows row (List.mem_of_getElem? hm);have hro:rowOf w m=row:=by unfold rowOf;rw [hm];rfl
  have hasc:∀ k c,row[k]? =some c ->0 < k ->(QG row k).name < c.name:=fun k c hk=>(sh.cell m row k c hm hk).2
  let J:Nat ->List (Ze×Za) ->Prop:=fun k l'=>∀ a b:Int,Xr l' ⟨a,b⟩=if a= (m:Int) then(row.take k).find? (fun x=>x.name==b) else Xr l ⟨a,b⟩
  have e:=YU row (fun v s=>(v,s)) (ZaB m next row) (fun _ c s nx=>nx (Y4 s (Ze.mk m c.name) c)) (fun s=>next (ZJ ((m:Int) + 1),s)) (by omega) (fun k y s nx hy hk=>by
   simp only [ZaB,ZU,hy,hk,decide_true,cond_true,Option.bind_some]) (fun s nx=>by simp only [ZaB];rw [decide_eq_false (by omega),cond_false]) (by omega:row.length < F) l
  obtain⟨e2,hJ⟩:=Jf (d:=fun s=>next (ZJ ((m:Int) + 1),s)) (g:=fun(_:Nat) (c:Za) s nx=>nx (Y4 s (Ze.mk m c.name) c)) (fun _ c s=>Y4 s (Ze.mk m c.name) c) J (l:=row) (i:=0) (s:=l) (fun a b=>by
   by_cases ha:a= (m:Int)
   ·rw [if_pos ha,hI a b,if_neg (by omega)];simp
   ·rw [if_neg ha]) (fun k c s nx hk hJ=>⟨rfl,fun a b=>by
    rw [Nat.zero_add] at hJ ⊢;rw [Zfd];by_cases ha:a= (m:Int)
    ·subst ha;rw [if_pos rfl,ZqX hasc hk];by_cases hb:b=c.name
     ·rw [if_pos hb,hb,if_pos rfl]
     ·rw [if_neg hb,if_neg (fun q=>hb (by injection q)),hJ,if_pos rfl]
    ·rw [if_neg ha,if_neg (fun q=>ha (by injection q)),hJ,if_neg ha]⟩)
  refine⟨_,fun a b=>?_,e.trans e2⟩;rw [Nat.zero_add] at hJ;rw [hJ a b];by_cases ha:a= (m:Int)
  ·subst ha;rw [if_pos rfl,if_pos (by omega),List.take_length];unfold cellOf;rw [Int.toNat_natCast,hro]
  ·rw [if_neg ha,hI a b];by_cases hz:0 <=a∧a < (m:Int)
   ·rw [if_pos hz,if_pos (by omega)]
   ·rw [if_neg hz,if_neg (by omega)]
 have key:∀ (d m:Nat) (F':Nat) (l:List (Ze×Za)),m + d=w.cells.length ->d < F' ->I m l ->∃ cs,loop F' (ZaC F w w.notes w.freed) ((m:Int),l)=some ⟨(w.cells.length:Int),w.names,cs,w.notes,w.freed⟩∧MapOf w cs:=by
  intro d
  induction d with
  | zero=>
    intro m F' l hm hF' hI;obtain⟨F',rfl⟩:=Nat.exists_eq_succ_of_ne_zero (n:=F') (by omega);have:m=w.cells.length:=by omega
    subst this;refine⟨l,?_,hI⟩;rw [Ya];simp only [ZaC];rw [decide_eq_false (by omega),cond_false]
  | succ d ih=>
    intro m F' l hm hF' hI;obtain⟨F',rfl⟩:=Nat.exists_eq_succ_of_ne_zero (n:=F') (by omega);have hlt:m < w.cells.length:=by omega
    obtain⟨l',h1,h2⟩:=inner m w.cells[m] (loop F' (ZaC F w w.notes w.freed)) l (by simp [hlt]) hI;obtain⟨cs,h3,h4⟩:=ih (m + 1) F' l' (by omega) (by omega) h1;refine⟨cs,?_,h4⟩;rw [Ya];have hg:w.cells[m]? =some w.cells[m]:=by simp [hlt]
    simp only [ZaC,ZU,hg,Option.bind_some];rw [decide_eq_true (by omega),cond_true,h2,YV (by omega),h3]
 exact key w.cells.length 0 F [] (by omega) (by omega) (fun a b=>by rw [if_neg (by omega)];rfl)
def Jm {σ:Type} (w:Zb) (y:Int ->Za ->σ ->σ) (m:Nat) (n:Nat) (s:σ):σ:=match cellOf w m n with | some c=>y m c s | none=>s
theorem Qu {w:Zb} {m:Nat} {n:Int} {c:Za} (h:cellOf w m n=some c):c.name=n:=by
 unfold cellOf at h;have:=List.find?_some h
 simpa using this
theorem KY {w:Zb} {m:Nat} {n:Int} {c:Za} (h:cellOf w m n=some c):∃ (row:List Za) (k:Nat),w.cells[m]? =some row∧row[k]? =some c:=by
 unfold cellOf rowOf at h;have:=List.mem_of_find?_eq_some h;cases e:w.cells[m]? with
 | none=>rw [e] at this;simp at this
 | some row=>
   rw [e] at this;obtain⟨k,hk⟩:=List.mem_iff_getElem?.1 this;exact⟨row,k,rfl,hk⟩
structure Qk (w:Zb) (st:Store):Prop where
 m:st.machines= (w.cells.length:Int)
 n:st.names=w.names
 notes:st.notes=w.notes
 freed:st.freed=w.freed
 cells:MapOf w st.cells
structure Szd (w:Zb):Prop where
 c6:w.cells.length <=6
 n0:0 <=w.names
 n12:w.names <=12
 kind:∀ x ∈ w.notes,x.kind=1∨x.kind=2∨x.kind=3
theorem Shp.szd {w:Zb} (sh:Shp w):Szd w:= ⟨sh.c6,sh.n0,sh.n12,fun x hx=>by
 have hx:=sh.note x hx;by_cases k1:x.kind=1
 ·exact .inl k1
 ·by_cases k2:x.kind=2
  ·exact .inr (.inl k2)
  ·have q1:(x.kind==1)=false:=by simp [k1]
   have q2:(x.kind==2)=false:=by simp [k2]
   unfold WM at hx;rw [q1,q2] at hx;simp at hx;exact .inr (.inr hx.2.1.1)⟩
section
theorem ZlQ {F:Nat} (hF:1000 <=F) {w:Zb} (sm:Small w) (sh:Szd w) {st:Store} (so:Qk w st) {σ β:Type} (I:Nat ->σ ->Prop) (hI:∀ i s,I i s ->I (i + 1) s) {z:Za} {E:σ ->Option β} {B1:Int×σ ->(Int×σ ->Option β) ->Option β} {B2:Int ->(Int×σ ->Option β) ->Int×σ ->(Int×σ ->Option β) ->Option β} {Y:Int ->Za ->σ ->(σ ->Option β) ->Option β} (y':Int ->Za ->σ ->σ)
 (hB1:∀ v s next,B1 (v,s) next=bif decide (v < st.machines) then loop F (B2 v next) (0,s) else E s)
 (hB2:∀ v0 next v s nx,B2 v0 next (v,s) nx=bif decide (v < st.names) then(Zae st.cells (Ze.mk v0 v) z).bind fun x=>bif x.2 then Y v0 x.1 s (fun s'=>nx (ZJ (v + 1),s')) else nx (ZJ (v + 1),s) else next (ZJ (v0 + 1),s))
 (hy:∀ i (a:Nat) c s k,a < w.cells.length ->i < 100 ->I i s ->Y a c s k=k (y' a c s)∧I (i + 1) (y' a c s)) (s0:σ) (h0:I 0 s0):
 loop F B1 (0,s0)=E ((List.range w.cells.length).foldl (fun s m=>(List.range w.names.toNat).foldl (fun s n=>Jm w y' m n s) s) s0)∧
 I (w.cells.length * w.names.toNat) ((List.range w.cells.length).foldl (fun s m=>(List.range w.names.toNat).foldl (fun s n=>Jm w y' m n s) s) s0):=by
 have hc:=sh.c6;have hn:=sh.n0;have hn2:=sh.n12;have en:((w.names.toNat:Nat):Int)=w.names:=by omega
 have inner:∀ (m:Nat) (next:Int×σ ->Option β) (s:σ),m < w.cells.length ->I (m * w.names.toNat) s ->
  loop F (B2 m next) (0,s)=next (ZJ ((m:Int) + 1),(List.range w.names.toNat).foldl (fun s n=>Jm w y' m n s) s)∧I ((m + 1) * w.names.toNat) ((List.range w.names.toNat).foldl (fun s n=>Jm w y' m n s) s):=by
  intro m next s hm hs
  have e:=Zbs w.names.toNat (fun v s=>(v,s)) (B2 m next) (fun k s nx=>match cellOf w m k with | some c=>Y m c s nx | none=>nx s) (fun s=>next (ZJ ((m:Int) + 1),s)) (by omega) (fun k s nx hk=>by
   rw [hB2,so.n];rw [decide_eq_true (by omega),cond_true];unfold Zae;rw [so.cells,if_pos (by omega),Int.toNat_natCast];cases cellOf w m k with
   | some c=>rfl
   | none=>rfl) (fun s nx=>by rw [hB2,so.n];rw [decide_eq_false (by omega),cond_false]) (by omega:w.names.toNat < F) s
  obtain⟨e2,h2⟩:=Jf (d:=fun s=>next (ZJ ((m:Int) + 1),s)) (g:=fun(_:Nat) (k:Nat) s nx=>match cellOf w m k with | some c=>Y m c s nx | none=>nx s) (fun _ k s=>Jm w y' m k s) (fun k s=>I (m * w.names.toNat + k) s) (l:=List.range w.names.toNat) (i:=0) (s:=s) hs (fun k x s nx hx hs=>by
   have hk:k < w.names.toNat:=by
    have:= (List.getElem?_eq_some_iff.1 hx).1
    simpa using this
   have:x=k:=by
    rw [List.getElem?_range hk] at hx
    simpa using hx.symm
   subst this;rw [Nat.zero_add] at hs ⊢
   have hb:m * w.names.toNat + x < 100:=by
    have:=Nat.mul_le_mul (show m <=5 by omega) (show w.names.toNat <=12 by omega);omega
   unfold Jm;cases cellOf w m x with
   | some c=>
     obtain⟨q1,q2⟩:=hy _ m c s nx hm hb hs;dsimp only;rw [q1];exact⟨rfl,q2⟩
   | none=>exact⟨rfl,hI _ _ hs⟩)
  rw [JI] at e2 h2;refine⟨e.trans e2,?_⟩;rw [List.length_range,Nat.zero_add] at h2;rw [Nat.add_mul,Nat.one_mul];exact h2
 have key:∀ (d m F':Nat) (s:σ),m + d=w.cells.length ->d < F' ->I (m * w.names.toNat) s ->
  loop F' B1 ((m:Int),s)=E ((List.range' m d).foldl (fun s m=>(List.range w.names.toNat).foldl (fun s n=>Jm w y' m n s) s) s)∧I (w.cells.length * w.names.toNat) ((List.range' m d).foldl (fun s m=>(List.range w.names.toNat).foldl (fun s n=>Jm w y' m n s) s) s):=by
  intro d
  induction d with
  | zero=>
    intro m F' s hm hF' hs;obtain⟨F',rfl⟩:=Nat.exists_eq_succ_of_ne_zero (n:=F') (by omega);have:m=w.cells.length:=by omega
    subst this;rw [Ya,hB1,so.m];rw [decide_eq_false (by omega),cond_false];exact⟨rfl,hs⟩
  | succ d ih=>
    intro m F' s hm hF' hs;obtain⟨F',rfl⟩:=Nat.exists_eq_succ_of_ne_zero (n:=F') (by omega);obtain⟨h1,h2⟩:=inner m (loop F' B1) s (by omega) hs;obtain⟨h3,h4⟩:=ih (m + 1) F' _ (by omega) (by omega) h2;rw [Ya,List.range'_succ,List.foldl_cons];refine⟨?_,h4⟩;rw [hB1,so.m];rw [decide_eq_true (by omega),cond_true,h1,YV (by omega)];exact h3
 have:=key w.cells.length 0 F s0 (by omega) (by omega) (by rw [Nat.zero_mul];exact h0);rw [← List.range_eq_range'] at this;exact this
end
theorem fold_congr {σ:Type} {f g:σ ->Nat ->σ} {N:Nat} (h:∀ s m,m < N ->f s m=g s m) (s:σ):(List.range N).foldl f s= (List.range N).foldl g s:=by
 have:∀ M,M <=N ->(List.range M).foldl f s= (List.range M).foldl g s:=by
  intro M
  induction M with
  | zero=>intro _;rfl
  | succ M ih=>
    intro hM;rw [List.range_succ,List.foldl_append,List.foldl_append,ih (by omega)];simp only [List.foldl_cons,List.foldl_nil];exact h _ _ (by omega)
 exact this N (Nat.le_refl _)
theorem UE {σ τ α:Type} (V:σ ->τ) {f:σ ->α ->σ} {g:τ ->α ->τ} {l:List α} (h:∀ s x,x ∈ l ->V (f s x)=g (V s) x) (s:σ):V (l.foldl f s)=l.foldl g (V s):=by
 induction l generalizing s with
 | nil=>rfl
 | cons x l ih=>
   rw [List.foldl_cons,List.foldl_cons,ih (fun s y hy=>h s y (by simp [hy])),h s x (by simp)]
def YS (w:Zb) (n:Int):List Int:=
 w.notes.foldl (fun(s:List Int) (x:Zd)=>bif(x.kind==3) && (x.name==n) then s ++ [x.Zy] else s)
   ((List.range w.cells.length).foldl (fun(s:List Int) (m:Nat)=>match cellOf w m n with | some c=>bif c.root then s ++ [(m:Int)] else s | none=>s) [])
theorem ZjN {α:Type} (f:List Int ->α ->List Int) (hf:∀ s x,(f s x).length <=s.length + 1) (l:List α) (s:List Int):(l.foldl f s).length <=s.length + l.length:=by
 induction l generalizing s with
 | nil=>simp
 | cons x l ih=>
   rw [List.foldl_cons];have:=ih (f s x);have:=hf s x;simp only [List.length_cons];omega
section
theorem Zox {F:Nat} (hF:1000 <=F) {w:Zb} (sm:Small w) (sh:Shp w) {st:Store} (so:Qk w st) {n:Nat} (hn:(n:Int) < w.names):ZuG F st n=some (YS w n):=by
 unfold ZuG
 let y':Int ->Za ->List Int ->List Int:=fun a c s=>bif(c.name== (n:Int)) && c.root then s ++ [a] else s
 obtain⟨h1,h2⟩:=ZlQ hF sm sh.szd so (z:=Za.mk 0 false 0 0 0 false) (fun i (s:List Int)=>s.length <=i) (fun i s h=>Nat.le_succ_of_le h) (E:=Zft F st n) (B1:=ZoT F st n) (B2:=ZoS F st n) (Y:=fun a c s k=>bif(c.name== (n:Int)) && c.root then(app 8 s [a]).bind k else k s) y' (fun v s next=>rfl) (fun v0 next v s nx=>rfl) (fun i a c s k _ hi hs=>by
  simp only [y'];cases ((c.name== (n:Int)) && c.root)
  ·exact⟨rfl,Nat.le_succ_of_le hs⟩
  ·simp only [cond_true];rw [XT (by simp;omega) (by decide)];exact⟨rfl,by simp;omega⟩) [] (Nat.le_refl _)
 rw [h1]
 have e:(List.range w.cells.length).foldl (fun s (m:Nat)=>(List.range w.names.toNat).foldl (fun s n=>Jm w y' m n s) s) []= (List.range w.cells.length).foldl (fun s (m:Nat)=>match cellOf w m n with | some c=>bif c.root then s ++ [(m:Int)] else s | none=>s) []:=by
  refine fold_congr (fun s m hm=>?_) _;refine Zeq (V:=id) (fun i s=>Jm w y' m i s) (fun s=>match cellOf w m n with | some c=>bif c.root then s ++ [(m:Int)] else s | none=>s) (n:=n) (N:=w.names.toNat) (by omega) (fun i s hi hne=>?_) (fun s=>?_) s
  ·simp only [id,Jm];cases hc:cellOf w m i with
   | none=>rfl
   | some c=>
     have:=Qu hc;have hb:(c.name== (n:Int))=false:=by rw [this];simp;omega
     simp only [y',hb];rfl
  ·simp only [id,Jm];cases hc:cellOf w m n with
   | none=>rfl
   | some c=>
     have:=Qu hc;have hb:(c.name== (n:Int))=true:=by rw [this];simp
     simp only [y',hb];rfl
 rw [e];rw [e] at h2;unfold Zft;have hlen:=Nat.mul_le_mul sh.c6 (show w.names.toNat <=12 by have:=sh.n12;have:=sh.n0;omega);have hno:=sm.notes;refine(YU w.notes (fun v (s:List Int)=>(v,s)) (Zh8 st n) (fun _ x s next=>bif(x.kind==3) && (x.name== (n:Int)) then(app 8 s [x.Zy]).bind next else next s) (fun s=>some s) (by omega) (fun k y s next hy hk=>?_) (fun s next=>?_) (by omega) _).trans ?_
 ·simp only [Zh8,so.notes,ZU,hy,hk,decide_true,cond_true,Option.bind_some,Zh7]
 ·simp only [Zh8,so.notes];rw [decide_eq_false (by omega),cond_false]
 ·rw [(Jf (fun _ (x:Zd) s=>bif(x.kind==3) && (x.name== (n:Int)) then s ++ [x.Zy] else s) (fun k (s:List Int)=>s.length <=72 + k) (by simp at h2 ⊢;omega) (fun k x s next hx hs=>by
   have:= (List.getElem?_eq_some_iff.1 hx).1;cases ((x.kind==3) && (x.name== (n:Int)))
   ·exact⟨rfl,by simp;omega⟩
   ·simp only [cond_true];rw [XT (by simp;omega) (by decide)];exact⟨rfl,by simp;omega⟩)).1,JI]
  rfl
end
end Go.Proofs.Ytekpjgmhkkjhgaa
end
section
namespace Go.Proofs.Ytekpjgmhkkjhgaa
open Go.Lf
abbrev Acc:=List (Ze×Int)
def val (v:Acc) (k:Ze):Int:= (Xr v k).getD 0
def upd (v:Acc) (k:Ze) (x:Int):Acc:=Y4 (WN v k 0) k (ZJ (val v k + x))
theorem Wt (v:Acc) (k k':Ze) (x:Int):val (upd v k x) k'=if k'=k then ZJ (val v k + x) else val v k':=by
 unfold val upd;rw [Zfd,ZjG];by_cases h:k'=k
 ·rw [if_pos h,if_pos h];rfl
 ·rw [if_neg h,if_neg h,if_neg h]
theorem Zsx:ZJ 0=0:=YL (by decide) (by decide)
def Zpy (a:Int) (c:Za) (q:Acc×Acc):Acc×Acc:= (upd q.1 ⟨a,c.name⟩ c.out,bif decide (c.from_ >=0) then upd q.2 ⟨c.from_,c.name⟩ c.has else q.2)
def Zpx (x:Zd) (q:Acc×Acc):Acc×Acc:=bif x.kind==1 then(q.1,upd q.2 ⟨x.via,x.name⟩ x.w) else bif x.kind==2 then(q.1,upd q.2 ⟨x.Zy,x.name⟩ x.w) else(upd q.1 ⟨x.Zy,x.name⟩ 16,q.2)
def U0 (w:Zb):Acc×Acc:= (List.range w.cells.length).foldl (fun s m=>(List.range w.names.toNat).foldl (fun s n=>Jm w Zpy m n s) s) ([],[])
def ZcA (w:Zb):Acc×Acc:=w.notes.foldl (fun q x=>Zpx x q) (U0 w)
def view (a n:Int) (q:Acc×Acc):Int×Int:= (val q.1 ⟨a,n⟩,val q.2 ⟨a,n⟩)
theorem ZqL {F:Nat} (hF:1000 <=F) {w:Zb} (sm:Small w) (sh:Szd w) {st:Store} (so:Qk w st):ZrH F st=some (ZcA w):=by
 unfold ZrH;have hno:=sm.notes
 obtain⟨h1,_⟩:=ZlQ hF sm sh so (z:=Za.mk 0 false 0 0 0 false) (fun _ (_:Acc×Acc)=>True) (fun _ _ _=>trivial) (E:=Zfy F st) (B1:=ZoY F st) (B2:=ZoX F st) (Y:=fun a c s k=>bif decide (c.from_ >=0) then k (upd s.1 ⟨a,c.name⟩ c.out,upd s.2 ⟨c.from_,c.name⟩ c.has) else k (upd s.1 ⟨a,c.name⟩ c.out,s.2)) Zpy (fun v s next=>rfl) (fun v0 next v s nx=>by obtain⟨a,b⟩:=s;rfl) (fun i a c s k _ _ _=>⟨by
  unfold Zpy;cases decide (c.from_ >=0) <;> rfl,trivial⟩) ([],[]) trivial
 rw [h1];unfold Zfy;refine(YU w.notes (fun v (s:Acc×Acc)=>(v,s.1,s.2)) (Zic st) (fun _ x s next=>next (Zpx x s)) (fun s=>some s) (by omega) (fun k y s next hy hk=>?_) (fun s next=>?_) (by omega) (U0 w)).trans ?_
 ·simp only [Zic,so.notes,ZU,hy,hk,decide_true,cond_true,Option.bind_some,Zfx,Zaw,Zpx];cases y.kind==1
  ·cases y.kind==2 <;> rfl
  ·rfl
 ·simp only [Zic,so.notes];rw [decide_eq_false (by omega),cond_false]
 ·rw [(Jf (fun _ (x:Zd) s=>Zpx x s) (fun _ _=>True) trivial (fun _ _ _ _ _ _=>⟨rfl,trivial⟩)).1,JI]
  rfl
def hm (w:Zb) (a n:Nat) (q:Int×Int) (m:Nat):Int×Int:=match cellOf w m n with
 | some c=>(if m=a then ZJ (q.1 + c.out) else q.1,if c.from_= (a:Int) then ZJ (q.2 + c.has) else q.2)
 | none=>q
theorem Zn1 {w:Zb} {a n m:Nat} (hn:n < w.names.toNat) (q:Acc×Acc):
 view a n ((List.range w.names.toNat).foldl (fun s n=>Jm w Zpy m n s) q)=hm w a n (view a n q) m:=by
 refine Zeq (view a n) (fun i s=>Jm w Zpy m i s) (fun q=>hm w a n q m) hn (fun i s hi hne=>?_) (fun s=>?_) q
 ·unfold Jm;cases hc:cellOf w m i with
  | none=>rfl
  | some c=>
    have hnm:=Qu hc;dsimp only;unfold view Zpy;have k1:¬ (Ze.mk (a:Int) (n:Int))=Ze.mk (m:Int) c.name:=fun e=>by injection e with _ e2;omega
    have k2:¬ (Ze.mk (a:Int) (n:Int))=Ze.mk c.from_ c.name:=fun e=>by injection e with _ e2;omega
    rw [Wt,if_neg k1];cases decide (c.from_ >=0)
    ·rfl
    ·simp only [cond_true];rw [Wt,if_neg k2]
 ·unfold Jm hm;cases hc:cellOf w m n with
  | none=>rfl
  | some c=>
    have hnm:=Qu hc;dsimp only;unfold view Zpy;dsimp only;rw [hnm];congr 1
    ·rw [Wt];by_cases e:m=a
     ·subst e;rw [if_pos rfl,if_pos rfl]
     ·rw [if_neg e,if_neg (fun q=>by injection q with q1 _;omega)]
    ·by_cases e:c.from_= (a:Int)
     ·rw [if_pos e,decide_eq_true (by omega),cond_true,Wt,e,if_pos rfl]
     ·rw [if_neg e];cases decide (c.from_ >=0)
      ·rfl
      ·simp only [cond_true];rw [Wt,if_neg (fun q=>by injection q with q1 _;omega)]
theorem ZvB (c:Zd ->Bool) (l:List Zd) (g:Int):l.foldl (fun(g:Int) x=>bif c x then ZJ (g + 16) else g) (ZJ g)=ZJ (g + 16 * (l.countP c:Int)):=by
 induction l generalizing g with
 | nil=>simp
 | cons x l ih=>
   rw [List.foldl_cons,List.countP_cons];cases hc:c x
   ·simp only [cond_false];rw [ih];simp
   ·simp only [cond_true,if_true];rw [Zkm,ih];congr 1;omega
theorem ZlU {w:Zb} (sh:Szd w) {a n:Nat} (ha:a < w.cells.length) (hn:(n:Int) < w.names):val (ZcA w).1 ⟨a,n⟩=JS w a n∧val (ZcA w).2 ⟨a,n⟩=ZdJ w a n:=by
 have e1:view a n (U0 w)= (List.range w.cells.length).foldl (fun q m=>hm w a n q m) (0,0):=
  UE (view a n) (fun s m _=>Zn1 (by omega) s) ([],[])
 have e2:((List.range w.cells.length).foldl (fun q m=>hm w a n q m) (0,0)).2= (List.range w.cells.length).foldl (fun s k=>ZmR w a n k s) 0:=by
  refine UE (fun q:Int×Int=>q.2) (fun s m _=>?_) (0,0);unfold hm ZmR;cases cellOf w m n with
  | none=>rfl
  | some c=>
    dsimp only;by_cases e:c.from_= (a:Int)
    ·rw [if_pos e];have:(c.from_== (a:Int))=true:=by simp [e]
     rw [this];rfl
    ·rw [if_neg e];have:(c.from_== (a:Int))=false:=by simp [e]
     rw [this];rfl
 have e3:((List.range w.cells.length).foldl (fun q m=>hm w a n q m) (0,0)).1=ZJ (ZpQ w a n):=by
  have f1:((List.range w.cells.length).foldl (fun q m=>hm w a n q m) (0,0)).1= (List.range w.cells.length).foldl (fun(g:Int) m=>match cellOf w m n with | some c=>if m=a then ZJ (g + c.out) else g | none=>g) 0:=by
   refine UE (fun q:Int×Int=>q.1) (fun s m _=>?_) (0,0);unfold hm;cases cellOf w m n with
   | none=>rfl
   | some c=>rfl
  rw [f1]
  have:=Zeq (V:=id) (fun m (g:Int)=>match cellOf w m n with | some c=>if m=a then ZJ (g + c.out) else g | none=>g) (fun g=>match cellOf w a n with | some c=>ZJ (g + c.out) | none=>g) ha (fun i s hi hne=>by
   simp only [id];cases cellOf w i n with
   | none=>rfl
   | some c=>dsimp only;rw [if_neg hne]) (fun s=>by
   simp only [id];cases cellOf w a n with
   | none=>rfl
   | some c=>simp) 0
  simp only [id] at this;rw [this];unfold ZpQ;cases cellOf w a n with
  | none=>exact Zsx.symm
  | some c=>dsimp only;rw [Int.zero_add]
 have e4:view a n (ZcA w)=w.notes.foldl (fun q x=>(bif((x.kind==3) && (x.Zy== (a:Int))) && (x.name== (n:Int)) then ZJ (q.1 + 16) else q.1,Zgl a n x q.2)) (view a n (U0 w)):=by
  refine UE (view a n) (fun s x hx=>?_) (U0 w);have hx:=sh.kind x hx;unfold view Zpx Zgl;by_cases k1:x.kind=1
  ·simp only [k1,beq_self_eq_true,cond_true,Bool.true_and];rw [Wt];have r1:((1:Int)==2)=false:=rfl;have r2:((1:Int)==3)=false:=rfl;simp only [r1,r2,Bool.false_and,Bool.or_false,cond_false];congr 1;by_cases e:Ze.mk (a:Int) (n:Int)=Ze.mk x.via x.name
   ·rw [if_pos e];injection e with z1 z2
    have b:((x.name== (n:Int)) && (x.via== (a:Int)))=true:=by simp [z1,z2]
    rw [b,cond_true,z1,z2]
   ·rw [if_neg e]
    have b:((x.name== (n:Int)) && (x.via== (a:Int)))=false:=by
     rw [Bool.and_eq_false_iff];by_cases z:x.name= (n:Int)
     ·right;simp;intro z2;exact e (by rw [z,z2])
     ·left;simp [z]
    rw [b,cond_false]
  ·by_cases k2:x.kind=2
   ·have r1:((2:Int)==1)=false:=rfl;have r2:((2:Int)==3)=false:=rfl;simp only [k2,r1,r2,beq_self_eq_true,cond_true,cond_false,Bool.true_and,Bool.false_and,Bool.false_or];rw [Wt];congr 1;by_cases e:Ze.mk (a:Int) (n:Int)=Ze.mk x.Zy x.name
    ·rw [if_pos e];injection e with z1 z2
     have b:((x.name== (n:Int)) && (x.Zy== (a:Int)))=true:=by simp [z1,z2]
     rw [b,cond_true,z1,z2]
    ·rw [if_neg e]
     have b:((x.name== (n:Int)) && (x.Zy== (a:Int)))=false:=by
      rw [Bool.and_eq_false_iff];by_cases z:x.name= (n:Int)
      ·right;simp;intro z2;exact e (by rw [z,z2])
      ·left;simp [z]
     rw [b,cond_false]
   ·have q1:(x.kind==1)=false:=by simp [k1]
    have q2:(x.kind==2)=false:=by simp [k2]
    have q3:(x.kind==3)=true:=by
     rcases hx with z | z | z
     ·exact absurd z k1
     ·exact absurd z k2
     ·simp [z]
    simp only [q1,q2,q3,cond_false,Bool.true_and,Bool.false_and,Bool.or_false,Bool.and_false];rw [Wt];congr 1;by_cases e:Ze.mk (a:Int) (n:Int)=Ze.mk x.Zy x.name
    ·rw [if_pos e];injection e with z1 z2
     have b:((x.Zy== (a:Int)) && (x.name== (n:Int)))=true:=by simp [z1,z2]
     rw [b,cond_true,z1,z2]
    ·rw [if_neg e]
     have b:((x.Zy== (a:Int)) && (x.name== (n:Int)))=false:=by
      rw [Bool.and_eq_false_iff];by_cases z:x.name= (n:Int)
      ·left;simp;intro z2;exact e (by rw [z,z2])
      ·right;simp [z]
     rw [b,cond_false]
 constructor
 ·show(view a n (ZcA w)).1=_;rw [e4,UE (fun q:Int×Int=>q.1) (g:=fun(g:Int) (x:Zd)=>bif((x.kind==3) && (x.Zy== (a:Int))) && (x.name== (n:Int)) then ZJ (g + 16) else g) (fun s x _=>rfl),e1,e3,ZvB];unfold JS Zce;congr 1;omega
 ·show(view a n (ZcA w)).2=_;rw [e4,UE (fun q:Int×Int=>q.2) (g:=fun(g:Int) (x:Zd)=>Zgl a n x g) (fun s x _=>rfl),e1,e2]
  rfl
def Y9 (w:Zb) (n h:Int):Nat ->Int ->Bool
 | 0,a=>a==h
 | k + 1,a=>bif a==h then true else match cellOf w a.toNat n with
   | none=>false
   | some c=>bif decide (c.from_ < 0) then false else Y9 w n h k c.from_
def WS (w:Zb) (n h:Int):Bool:= !((List.range w.cells.length).any fun m=>(cellOf w m n).isSome && !(Y9 w n h w.cells.length m))
theorem Shp.from_ {w:Zb} (sh:Shp w) {m:Nat} {n:Int} {c:Za} (h:cellOf w m n=some c) (h0:¬ c.from_ < 0):0 <=c.from_∧c.from_ < (w.cells.length:Int):=by
 obtain⟨row,k,h1,h2⟩:=KY h;have:= (sh.cell m row k c h1 h2).1;unfold WU at this;rw [Bool.and_eq_true] at this;have:=this.2;have e:(c.from_==-1)=false:=by simp;omega
 rw [e] at this;cases hr:c.root
 ·rw [hr] at this;simp only [Bool.or_self,cond_false,Bool.and_eq_true] at this;have:=this.1.1;unfold Zah at this
  simpa using this
 ·rw [hr] at this;simp at this
section
theorem Zok {F:Nat} (hF:1000 <=F) {w:Zb} (sm:Small w) (sh:Shp w) {st:Store} (so:Qk w st) (n h:Int):ZrF F st n h=some (WS w n h):=by
 have hc:=sm.cells;have h6:=sh.c6
 let z:Za:=Za.mk 0 false 0 0 0 false
 have key:∀ (d i F' m:Nat) (next:Int ->Option Bool) (a:Int),i + d=w.cells.length ->d < F' ->0 <=a ->a < (w.cells.length:Int) ->
  loop F' (Zh5 st n h m next) (a,(cellOf w a.toNat n).isSome,(i:Int),((cellOf w a.toNat n).getD z).name,((cellOf w a.toNat n).getD z).root,((cellOf w a.toNat n).getD z).from_,((cellOf w a.toNat n).getD z).has,((cellOf w a.toNat n).getD z).out,((cellOf w a.toNat n).getD z).use)=bif Y9 w n h d a then next (ZJ ((m:Int) + 1)) else some false:=by
  intro d
  induction d with
  | zero=>
    intro i F' m next a hi hF' h0 h1;obtain⟨F',rfl⟩:=Nat.exists_eq_succ_of_ne_zero (n:=F') (by omega);rw [Ya];simp only [Zh5,Y9,so.m];rw [decide_eq_false (by omega),cond_false];have:(a !=h)= !(a==h):=rfl;rw [this];cases a==h <;> rfl
  | succ d ih=>
    intro i F' m next a hi hF' h0 h1;obtain⟨F',rfl⟩:=Nat.exists_eq_succ_of_ne_zero (n:=F') (by omega);rw [Ya];simp only [Zh5,Y9,so.m];rw [decide_eq_true (by omega),cond_true];cases a==h
    ·simp only [cond_false];cases hq:cellOf w a.toNat n with
     | none=>rfl
     | some c=>
       simp only [Option.isSome_some,Bool.not_true,Bool.false_or,Option.getD_some];by_cases hf:c.from_ < 0
       ·rw [decide_eq_true hf];rfl
       ·rw [decide_eq_false hf];simp only [cond_false];have hv:=sh.from_ hq hf;unfold Zae;rw [so.cells,if_pos hv,Option.bind_some,YV (by omega)];exact ih (i + 1) F' m next c.from_ (by omega) (by omega) hv.1 hv.2
    ·rfl
 unfold ZrF;refine(Zbs w.cells.length (fun v (_:Unit)=>v) (Zh6 F st n h) (fun m s next=>bif(cellOf w m n).isSome && !(Y9 w n h w.cells.length m) then some false else next ()) (fun _=>some true) (by omega) (fun m s next hm=>?_) (fun s next=>?_) (by omega) ()).trans ?_
 ·simp only [Zh6,so.m];rw [decide_eq_true (by omega),cond_true];unfold Zae;rw [so.cells,if_pos (by omega),Option.bind_some,Int.toNat_natCast];have:=key w.cells.length 0 F m next (m:Int) (by omega) (by omega) (by omega) (by omega);rw [Int.toNat_natCast] at this;cases hq:cellOf w m n with
  | none=>rfl
  | some c=>
    rw [hq] at this;simp only [Option.isSome_some,Bool.not_true,cond_false,Bool.true_and,Option.getD_some];refine Eq.trans this ?_;cases Y9 w n h w.cells.length m <;> rfl
 ·simp only [Zh6,so.m];rw [decide_eq_false (by omega),cond_false]
 ·rw [KO (r:=some false) (fun _ m=>(cellOf w m n).isSome && !(Y9 w n h w.cells.length m)) (fun _ _ _ _=>rfl),ZeJ];unfold WS;cases (List.range w.cells.length).any fun m=>(cellOf w m n).isSome && !(Y9 w n h w.cells.length m) <;> rfl
end
def ZlD (w:Zb) (m:Nat) (n:Int):Nat:=Zce w m n + (match cellOf w m n with | some c=>bif c.root then 1 else 0 | none=>0)
def WI (w:Zb) (n:Int) (q:Int×Int) (m:Nat):Int×Int:=bif decide ((ZlD w m n:Int) > 0) then(ZJ (q.1 + (ZlD w m n:Int)),(m:Int)) else q
theorem UD {α σ:Type} (P:σ ->Prop) (f:σ ->α ->σ) (l:List α) (h:∀ s x,x ∈ l ->P s ->P (f s x)) (s:σ) (h0:P s):P (l.foldl f s):=by
 induction l generalizing s with
 | nil=>exact h0
 | cons x l ih=>exact ih (fun s y hy=>h s y (by simp [hy])) _ (h s x (by simp) h0)
theorem Zbt {w:Zb} (sh:Shp w) (n:Int):∀ x ∈ YS w n,0 <=x∧x < (w.cells.length:Int):=by
 unfold YS;refine UD (fun s:List Int=>∀ x ∈ s,0 <=x∧x < (w.cells.length:Int)) _ _ (fun s x hx hs=>?_) _ ?_
 ·cases h:(x.kind==3) && (x.name==n)
  ·exact hs
  ·intro y hy;simp only [cond_true,List.mem_append,List.mem_singleton] at hy;rcases hy with hy | hy
   ·exact hs y hy
   ·subst hy;have:=sh.note x hx;unfold WM Zah at this;simp only [Bool.and_eq_true,decide_eq_true_eq] at this;exact this.1.1.1
 ·refine UD (fun s:List Int=>∀ x ∈ s,0 <=x∧x < (w.cells.length:Int)) _ _ (fun s m hm hs=>?_) _ (by simp);rw [List.mem_range] at hm;cases cellOf w m n with
  | none=>exact hs
  | some c=>
    dsimp only;cases c.root
    ·exact hs
    ·intro y hy;simp only [cond_true,List.mem_append,List.mem_singleton] at hy;rcases hy with hy | hy
     ·exact hs y hy
     ·subst hy;omega
theorem Zoz {w:Zb} (sh:Shp w) (n:Int):(YS w n).length <=100:=by
 have h:(YS w n).length <=w.cells.length + w.notes.length:=by
  unfold YS;refine Nat.le_trans (ZjN _ (fun s x=>?_) w.notes _) (Nat.add_le_add_right (Nat.le_trans (ZjN _ (fun s m=>?_) (List.range w.cells.length) []) (by simp)) _)
  ·cases (x.kind==3) && (x.name==n) <;> simp
  ·cases cellOf w m n with
   | none=>simp
   | some c=>dsimp only;cases c.root <;> simp
 have:=sh.c6;have:=sh.notes;omega
theorem ZrS {c:Zd ->Bool} (l:List Zd) (k:Nat):l.foldl (fun(k:Nat) x=>bif c x then k + 1 else k) k=k + l.countP c:=by
 induction l generalizing k with
 | nil=>rfl
 | cons x l ih=>
   rw [List.foldl_cons,ih,List.countP_cons];cases c x <;> simp;omega
theorem Kq {w:Zb} {m:Nat} (hm:m < w.cells.length) (n:Int):(YS w n).count (m:Int)=ZlD w m n:=by
 unfold YS
 rw [UE (fun s:List Int=>s.count (m:Int)) (g:=fun(k:Nat) (x:Zd)=>bif((x.kind==3) && (x.Zy== (m:Int))) && (x.name==n) then k + 1 else k) (fun s x hx=>by
  cases h1:x.kind==3 <;> cases h2:x.name==n <;> cases h3:x.Zy== (m:Int) <;> simp [List.count_append,List.count_singleton,h3])]
 rw [ZrS]
 rw [UE (fun s:List Int=>s.count (m:Int)) (g:=fun(k:Nat) (m':Nat)=>match cellOf w m' n with | some c=>bif c.root && (m'==m) then k + 1 else k | none=>k) (fun s m' hx=>by
  cases cellOf w m' n with
  | none=>rfl
  | some c=>
    dsimp only;cases c.root
    ·rfl
    ·by_cases e:m'=m
     ·subst e;simp
     ·have e1:(m'==m)=false:=by simp [e]
      have e2:¬ (m':Int)= (m:Int):=by omega
      simp [e1,List.count_append,List.count_singleton,e2])]
 have:=Zeq (V:=id) (fun m' (k:Nat)=>match cellOf w m' n with | some c=>bif c.root && (m'==m) then k + 1 else k | none=>k) (fun k=>match cellOf w m n with | some c=>bif c.root then k + 1 else k | none=>k) hm (fun i s hi hne=>by
  simp only [id];cases cellOf w i n with
  | none=>rfl
  | some c=>
    have e1:(i==m)=false:=by simp [hne]
    dsimp only;rw [e1,Bool.and_false];rfl) (fun s=>by
  simp only [id];cases cellOf w m n with
  | none=>rfl
  | some c=>simp) 0
 simp only [id] at this;rw [List.count_nil,this];unfold ZlD Zce;cases cellOf w m n with
 | none=>simp
 | some c=>cases c.root <;> simp <;> omega
theorem Znt (L:List Int) (h:∀ x ∈ L,0 <=x) (M:Nat):L.countP (fun x=>decide (x < ((M + 1:Nat):Int)))=L.countP (fun x=>decide (x < (M:Int))) + L.count (M:Int):=by
 induction L with
 | nil=>rfl
 | cons x L ih=>
   have:=ih (fun y hy=>h y (by simp [hy]));rw [List.countP_cons,List.countP_cons,List.count_cons,this];have h0:=h x (by simp);by_cases e:x= (M:Int)
   ·subst e;have a1:decide ((M:Int) < ((M + 1:Nat):Int))=true:=by simp;omega
    have a2:decide ((M:Int) < (M:Int))=false:=by simp
    rw [a1,a2];simp;omega
   ·have a3:(x== (M:Int))=false:=by simp [e]
    by_cases l:x < (M:Int)
    ·have a1:decide (x < ((M + 1:Nat):Int))=true:=by simp;omega
     have a2:decide (x < (M:Int))=true:=by simp [l]
     rw [a1,a2,a3];simp;omega
    ·have a1:decide (x < ((M + 1:Nat):Int))=false:=by simp;omega
     have a2:decide (x < (M:Int))=false:=by simp;omega
     rw [a1,a2,a3];simp
theorem Ze1 {w:Zb} (sh:Shp w) (n:Int):((List.range w.cells.length).foldl (WI w n) (0,0)).1= ((YS w n).length:Int)∧∀ h,YS w n= [h] ->((List.range w.cells.length).foldl (WI w n) (0,0)).2=h:=by
 have hl:=Zoz sh n;have hr:=Zbt sh n
 have key:∀ M,M <=w.cells.length ->((List.range M).foldl (WI w n) (0,0)).1= ((YS w n).countP (fun x=>decide (x < (M:Int))):Int)∧(((List.range M).foldl (WI w n) (0,0)).1 ≠ 0 ->((List.range M).foldl (WI w n) (0,0)).2 ∈ YS w n):=by
  intro M
  induction M with
  | zero=>
    intro _
    have:(YS w n).countP (fun x=>decide (x < ((0:Nat):Int)))=0:=by
     rw [List.countP_eq_zero];intro x hx;have:= (hr x hx).1;simp;omega
    rw [this];exact⟨rfl,fun h=>absurd rfl h⟩
  | succ M ih=>
    intro hM;obtain⟨i1,i2⟩:=ih (by omega);rw [List.range_succ,List.foldl_append];simp only [List.foldl_cons,List.foldl_nil];rw [Znt _ (fun x hx=>(hr x hx).1)];have hc:=Kq (w:=w) (m:=M) (by omega) n;have hle:=List.countP_le_length (p:=fun x=>decide (x < (M:Int))) (l:=YS w n);have hle2:=List.count_le_length (a:= (M:Int)) (l:=YS w n);generalize (List.range M).foldl (WI w n) (0,0)=q at i1 i2 ⊢;unfold WI;rw [← hc];by_cases h0:(YS w n).count (M:Int)=0
    ·have:decide ((((YS w n).count (M:Int):Nat):Int) > 0)=false:=by simp [h0]
     rw [this,cond_false,h0];exact⟨i1,i2⟩
    ·have:decide ((((YS w n).count (M:Int):Nat):Int) > 0)=true:=decide_eq_true (by omega);rw [this,cond_true];refine⟨?_,fun _=>?_⟩
     ·show ZJ (q.1 + _)=_;rw [i1,YL] <;> omega
     ·have hp:0 < (YS w n).count (M:Int):=Nat.pos_of_ne_zero h0;exact List.count_pos_iff.1 hp
 obtain⟨k1,k2⟩:=key w.cells.length (Nat.le_refl _)
 have e:(YS w n).countP (fun x=>decide (x < (w.cells.length:Int)))= (YS w n).length:=by
  rw [List.countP_eq_length];intro x hx
  simpa using (hr x hx).2
 rw [e] at k1;refine⟨k1,fun h hh=>?_⟩;have:=k2 (by rw [k1,hh];simp);rw [hh] at this
 simpa using this
end Go.Proofs.Ytekpjgmhkkjhgaa
end
section
namespace Go.Proofs.Ytekpjgmhkkjhgaa
open Go.Lf
def Zr4 (w:Zb) (n:Int) (m:Nat):Bool:= (JS w m n !=ZdJ w m n) || decide (JS w m n > 1000000)
def QC (w:Zb) (n:Int):Int×Int:= (List.range w.cells.length).foldl (WI w n) (0,0)
def Wu (w:Zb) (n:Int):Bool:= !((List.range w.cells.length).any (Zr4 w n)) && ((QC w n).1==1 && WS w n (QC w n).2)
def Zaa (w:Zb):Bool:=ZbQ w && (!(anyI (KR w) 0 w.freed) && (Zde w && KL w))
def Zbg (w:Zb):Bool:=Zaa w && !((List.range w.names.toNat).any fun n=>Z6 w n && !(Wu w n))
theorem Zf9 {w:Zb} (h:Zaa w=true):Shp w:=by
 unfold Zaa at h;simp only [Bool.and_eq_true] at h;exact ZsM h.1 h.2.2.1 h.2.2.2
section
theorem Ztu {F:Nat} (hF:1000 <=F) {w:Zb} (sm:Small w) (sh:Shp w) (n:Int):(((YS w n).length:Int)==1)= ((QC w n).1==1)∧((YS w n).length=1 ->YS w n= [(QC w n).2]):=by
 obtain⟨h1,h2⟩:=Ze1 sh n;unfold QC;refine⟨by rw [h1],fun hl=>?_⟩;obtain⟨h,hh⟩:=List.length_eq_one_iff.1 hl;rw [h2 h hh];exact hh
theorem Zxy {F:Nat} (hF:1000 <=F) {w:Zb} (sm:Small w):ZuO F w=some (Zbg w):=by
 unfold ZuO;have hf:=sm.freed;have hc:=sm.cells;have hn:=sm.notes
 have e0:((((((decide ((w.cells.length:Int) < 1)) || (decide ((w.cells.length:Int) > 6))) || (decide (w.names < 0))) || (decide (w.names > 12))) || (decide ((w.notes.length:Int) > 80))) || (decide ((w.freed.length:Int) > w.names)))= !(ZbQ w):=by
  unfold ZbQ;rw [Bool.eq_iff_iff];simp only [Bool.or_eq_true,decide_eq_true_eq,Bool.not_eq_true',← Bool.not_eq_true,Bool.and_eq_true];omega
 rw [e0];cases h0:ZbQ w
 ·unfold Zbg Zaa;rw [h0];rfl
 ·have h0':=h0;unfold ZbQ at h0';simp only [Bool.and_eq_true,decide_eq_true_eq] at h0';have en:((w.names.toNat:Nat):Int)=w.names:=by omega
  simp only [Bool.not_true,cond_false];refine(YU w.freed (fun v (_:Unit)=>v) (Zih F w) (fun k x s next=>bif KR w k x then some false else next ()) (fun _=>bif Zde w && KL w then some (!((List.range w.names.toNat).any fun n=>Z6 w n && !(Wu w n))) else some false) (by omega) (fun k y s next hy hk=>?_) (fun s next=>?_) (by omega) ()).trans ?_
  ·have hk':k < w.freed.length:=by omega
   simp only [Zih,ZU,hy,hk,decide_true,cond_true,Option.bind_some,Zqe _ hk' (by omega)];unfold KR;have a1:decide (y < 0)= !decide (0 <=y):=by rw [← decide_not];exact decide_eq_decide.2 (by omega)
   have a2:decide (y >=w.names)= !decide (y < w.names):=by rw [← decide_not];exact decide_eq_decide.2 (by omega)
   rw [a1,a2];cases decide (0 <=y) <;> cases decide (y < w.names) <;> cases decide ((k:Int) > 0) <;> rfl
  ·simp only [Zih];rw [decide_eq_false (by omega),cond_false,ZrC hF sm _ rfl rfl rfl,Option.bind_some];cases hr:Zde w && KL w
   ·rfl
   ·simp only [Bool.not_true,cond_false,cond_true];rw [Bool.and_eq_true] at hr;have sh:=ZsM h0 hr.1 hr.2;obtain⟨cs,q1,q2⟩:=ZpR hF sm sh;have so:Qk w ⟨(w.cells.length:Int),w.names,cs,w.notes,w.freed⟩:= ⟨rfl,rfl,rfl,rfl,q2⟩
    rw [q1,Option.bind_some,ZqL hF sm sh.szd so,Option.bind_some];generalize hst:(⟨(w.cells.length:Int),w.names,cs,w.notes,w.freed⟩:Store)=st at so;refine(Zbs w.names.toNat (fun v (_:Unit)=>v) (Zig F st (ZcA w)) (fun n s next=>bif Z6 w n && !(Wu w n) then some false else next ()) (fun _=>some true) (by omega) (fun n s next hnn=>?_) (fun s next=>?_) (by omega) ()).trans ?_
    ·have ZAv:(n:Int) < w.names:=by omega
     simp only [Zig,so.n];rw [decide_eq_true ZAv,cond_true,Zfb hF sm st so.n so.freed,Option.bind_some];cases Z6 w n
     ·rfl
     ·simp only [Bool.not_true,cond_false,Bool.true_and];rw [Zox hF sm sh so ZAv,Option.bind_some];obtain⟨n1,n2⟩:=Ztu hF sm sh (n:Int);have e5:(((YS w n).length:Int) !=1)= !((QC w n).1==1):=by rw [← n1];rfl
      rw [e5,Bool.not_not];unfold Wu;cases h1:(QC w n).1==1
      ·simp only [ZmW,Option.bind_some,Bool.not_false,Bool.true_or,cond_true,Bool.false_and,Bool.and_false]
      ·rw [h1] at n1
       have hl:(YS w n).length=1:=by
        have:=eq_of_beq n1;omega
       rw [n2 hl];have eg:Yh [(QC w n).2] 0=some (QC w n).2:=rfl;simp only [ZcS,eg,Option.bind_some,Zok hF sm sh so,Bool.not_true,Bool.false_or,Bool.true_and];cases WS w n (QC w n).2
       ·simp only [Bool.not_false,cond_true,Bool.and_false]
       ·simp only [Bool.not_true,cond_false,Bool.and_true,Bool.not_not];refine(Zbs w.cells.length (fun v (_:Unit)=>v) (Zif st (ZcA w) n next) (fun m s nx=>bif Zr4 w n m then some false else nx ()) (fun _=>next (ZJ ((n:Int) + 1))) (by omega) (fun m s nx hm=>?_) (fun s nx=>?_) (by omega) ()).trans ?_
        ·simp only [Zif,so.m];obtain⟨g1,g2⟩:=ZlU sh.szd hm ZAv;rw [decide_eq_true (by omega),cond_true];have p1:Zaw (ZcA w).1 ⟨(m:Int),(n:Int)⟩ 0=some (JS w m n):=by rw [← g1];rfl
         have p2:Zaw (ZcA w).2 ⟨(m:Int),(n:Int)⟩ 0=some (ZdJ w m n):=by rw [← g2];rfl
         simp only [p1,p2,Option.bind_some,ZmV];unfold Zr4;cases JS w m n !=ZdJ w m n <;> rfl
        ·simp only [Zif,so.m,Zie];rw [decide_eq_false (by omega),cond_false]
        ·rw [KO (r:=some false) (fun _ m=>Zr4 w n m) (fun _ _ _ _=>rfl),ZeJ]
    ·simp only [Zig,so.n];rw [decide_eq_false (by omega),cond_false]
    ·rw [KO (r:=some false) (fun _ (n:Nat)=>Z6 w n && !(Wu w n)) (fun _ _ _ _=>rfl),ZeJ];cases (List.range w.names.toNat).any fun n=>Z6 w n && !(Wu w n) <;> rfl
  ·rw [KO (r:=some false) (KR w) (fun k _ _ _=>by rw [Nat.zero_add])];unfold Zbg Zaa;rw [h0];cases anyI (KR w) 0 w.freed
   ·cases Zde w && KL w <;> rfl
   ·rfl
end
end Go.Proofs.Ytekpjgmhkkjhgaa
end
section
namespace Go.Proofs.Ytekpjgmhkkjhgaa
open Go.Lf
abbrev Row:=List Za
def J9 (r:Row):Prop:=r.Pairwise fun a b=>a.name < b.name
def Ul (r:Row) (n:Int):Option Za:=r.find? fun c=>c.name==n
def put (c:Za):Row ->Row
 | []=>[c]
 | d::r=>if d.name < c.name then d::put c r else if d.name=c.name then c::r else c::d::r
def rmv (n:Int) (r:Row):Row:=r.filter fun c=>!(c.name==n)
theorem Qc {r:Row} {n:Int} {c:Za} (h:Ul r n=some c):c.name=n:=by
 unfold Ul at h;have:=List.find?_some h;simpa using this
theorem Zbv {r:Row} {n:Int} {c:Za} (h:Ul r n=some c):c ∈ r:=List.mem_of_find?_eq_some h
theorem YF (d:Za) (r:Row) (n:Int):Ul (d::r) n=if d.name=n then some d else Ul r n:=by
 unfold Ul;rw [List.find?_cons];by_cases h:d.name=n
 ·have:(d.name==n)=true:=by simp [h]
  rw [this,if_pos h]
 ·have:(d.name==n)=false:=by simp [h]
  rw [this,if_neg h]
theorem Zg0 (n:Int):Ul [] n=none:=rfl
theorem J9.tail {d:Za} {r:Row} (s:J9 (d::r)):J9 r:= (List.pairwise_cons.1 s).2
theorem J9.head {d:Za} {r:Row} (s:J9 (d::r)):∀ c ∈ r,d.name < c.name:= (List.pairwise_cons.1 s).1
theorem Zci {r:Row} {n:Int} (h:∀ c ∈ r,n < c.name):Ul r n=none:=by
 unfold Ul;rw [List.find?_eq_none];intro c hc;have:=h c hc;simp;omega
theorem ZoP {r:Row} (s:J9 r) {c:Za} (h:c ∈ r):Ul r c.name=some c:=by
 induction r with
 | nil=>simp at h
 | cons d r ih=>
   rw [YF];rcases List.mem_cons.1 h with rfl | h
   ·rw [if_pos rfl]
   ·have:=s.head c h;rw [if_neg (by omega)];exact ih s.tail h
theorem Zaj (c:Za) {r:Row} (s:J9 r) (n:Int):Ul (put c r) n=if n=c.name then some c else Ul r n:=by
 induction r with
 | nil=>rw [put,YF,Zg0];by_cases h:n=c.name <;> simp [h];exact fun e=>h e.symm
 | cons d r ih=>
   unfold put;by_cases h1:d.name < c.name
   ·rw [if_pos h1,YF,YF,ih s.tail];by_cases h2:d.name=n
    ·rw [if_pos h2,if_pos h2,if_neg (by omega)]
    ·rw [if_neg h2,if_neg h2]
   ·rw [if_neg h1];by_cases h2:d.name=c.name
    ·rw [if_pos h2,YF,YF];by_cases h3:n=c.name
     ·rw [if_pos h3.symm,if_pos h3]
     ·rw [if_neg (fun e=>h3 e.symm),if_neg h3,if_neg (by omega)]
    ·rw [if_neg h2,YF];by_cases h3:n=c.name
     ·rw [if_pos h3.symm,if_pos h3]
     ·rw [if_neg (fun e=>h3 e.symm),if_neg h3]
theorem Zws {c x:Za} {r:Row} (h:x ∈ put c r):x=c∨x ∈ r:=by
 induction r with
 | nil=>simp [put] at h;exact .inl h
 | cons d r ih=>
   unfold put at h;split at h
   ·rcases List.mem_cons.1 h with rfl | h
    ·exact .inr (by simp)
    ·exact(ih h).imp id fun z=>by simp [z]
   ·split at h
    ·rcases List.mem_cons.1 h with rfl | h
     ·exact .inl rfl
     ·exact .inr (by simp [h])
    ·rcases List.mem_cons.1 h with rfl | h
     ·exact .inl rfl
     ·exact .inr h
theorem J9.put {c:Za} {r:Row} (s:J9 r):J9 (put c r):=by
 induction r with
 | nil=>exact List.pairwise_singleton _ _
 | cons d r ih=>
   unfold Go.Proofs.Ytekpjgmhkkjhgaa.put;by_cases h1:d.name < c.name
   ·rw [if_pos h1];refine List.pairwise_cons.2 ⟨fun x hx=>?_,ih s.tail⟩;rcases Zws hx with rfl | hx
    ·exact h1
    ·exact s.head x hx
   ·rw [if_neg h1];by_cases h2:d.name=c.name
    ·rw [if_pos h2];exact List.pairwise_cons.2 ⟨fun x hx=>by have:=s.head x hx;omega,s.tail⟩
    ·rw [if_neg h2];refine List.pairwise_cons.2 ⟨fun x hx=>?_,s⟩;rcases List.mem_cons.1 hx with rfl | hx
     ·omega
     ·have:=s.head x hx;omega
theorem Zqf (n:Int) (r:Row) (k:Int):Ul (rmv n r) k=if k=n then none else Ul r k:=by
 induction r with
 | nil=>simp [rmv,Ul]
 | cons d r ih=>
   unfold rmv at ih ⊢;rw [List.filter_cons];by_cases h:d.name=n
   ·have:(!(d.name==n))=false:=by simp [h]
    rw [if_neg (by simp [h]),ih,YF];by_cases hk:k=n
    ·rw [if_pos hk,if_pos hk]
    ·rw [if_neg hk,if_neg hk,if_neg (by omega)]
   ·rw [if_pos (by simp [h]),YF,ih,YF];by_cases hk:k=n
    ·rw [if_pos hk,if_pos hk,if_neg (by omega)]
    ·rw [if_neg hk,if_neg hk]
theorem J9.rmv {r:Row} (s:J9 r) (n:Int):J9 (rmv n r):=List.Pairwise.filter _ s
theorem J9.ext:∀ {r q:Row},J9 r ->J9 q ->(∀ n,Ul r n=Ul q n) ->r=q
 | [],[],_,_,_=>rfl
 | [],d::q,_,_,h=>by have:=h d.name;rw [YF,if_pos rfl] at this;simp [Ul] at this
 | d::r,[],_,_,h=>by have:=h d.name;rw [YF,if_pos rfl] at this;simp [Ul] at this
 | d::r,e::q,s,t,h=>by
   have hde:d=e:=by
    have h1:=h d.name;have h2:=h e.name;rw [YF,if_pos rfl,YF] at h1;rw [YF,YF,if_pos rfl] at h2;by_cases hn:e.name=d.name
    ·rw [if_pos hn] at h1;exact Option.some.inj h1
    ·rw [if_neg hn] at h1;rw [if_neg (fun z=>hn z.symm)] at h2;have m1:=t.head d (Zbv h1.symm);have m2:=s.head e (Zbv h2);omega
   subst hde;congr 1;refine J9.ext s.tail t.tail fun n=>?_
   have:=h n;rw [YF,YF] at this;by_cases hn:d.name=n
   ·rw [Zci (fun c hc=>by have:=s.head c hc;omega),Zci (fun c hc=>by have:=t.head c hc;omega)]
   ·rwa [if_neg hn,if_neg hn] at this
def blank (n:Int):Za:= ⟨n,false,-1,0,0,false⟩
def look (r:Row) (n:Int):Za:= (Ul r n).getD (blank n)
def cw (w:Zb) (m:Nat) (r:Row):Zb:= ⟨w.cells.set m r,w.notes,w.names,w.freed⟩
theorem set_self {α:Type} {l:List α} {m:Nat} {x:α} (h:l[m]? =some x):l.set m x=l:=by
 apply List.ext_getElem?;intro k;rw [List.getElem?_set];by_cases hk:m=k
 ·subst hk;have:= (List.getElem?_eq_some_iff.1 h).1;rw [if_pos rfl,if_pos this,h]
 ·rw [if_neg hk]
def Jp (n:Int):List Int ->List Int
 | []=>[n]
 | x::l=>if x > n then n::x::l else x::Jp n l
def Xd (w:Zb) (m:Nat) (n:Int) (c:Za):Zb:=
 bif c.use || (c.out !=0) then w else
  ⟨w.cells.set m (rmv n (rowOf w m)),bif c.root then w.notes else bif decide (c.from_ >=0) then w.notes ++ [⟨2,c.from_,n,0,c.has⟩] else w.notes,w.names,bif c.root then Jp n w.freed else w.freed⟩
theorem JR (r:Row) (n:Int):(look r n).name=n:=by
 unfold look;cases h:Ul r n with
 | none=>rfl
 | some c=>exact Qc h
theorem ZpM {r:Row} (s:J9 r) {c d:Za} (h:c.name=d.name):put c (put d r)=put c r:=by
 refine J9.ext s.put.put s.put fun k=>?_
 rw [Zaj _ s.put,Zaj _ s,Zaj _ s];by_cases hk:k=c.name
 ·rw [if_pos hk,if_pos hk]
 ·rw [if_neg hk,if_neg hk,if_neg (by omega)]
theorem Qq {w:Zb} {m:Nat} (hm:m < w.cells.length) (r:Row):rowOf (cw w m r) m=r:=by
 unfold rowOf cw;simp [hm]
theorem ZgQ {c:Za} (r:Row):(put c r).length <=r.length + 1:=by
 induction r with
 | nil=>simp [put]
 | cons d r ih=>
   unfold put;split
   ·simp;omega
   ·split
    ·simp
    ·simp
def sent (w:Zb) (x:Zd):Zb:= ⟨w.cells,w.notes ++ [x],w.names,w.freed⟩
def Xp (w:Zb) (m:Nat) (n Zy x:Int):Zb:=
 bif Zy != (m:Int) then sent w ⟨2,Zy,n,0,x⟩ else cw w m (put {look (rowOf w m) n with out:=ZJ ((look (rowOf w m) n).out - x)} (rowOf w m))
theorem Small.cw {w:Zb} (s:Small w) {m:Nat} {r:Row} (h:r.length < 1000):Small (cw w m r):=by
 refine⟨by show(w.cells.set m r).length < 1000;simp;exact s.cells,fun q hq=>?_,s.notes,s.freed⟩;have hq:q ∈ w.cells.set m r:=hq;rcases List.mem_or_eq_of_mem_set hq with z | z
 ·exact s.rows q z
 ·rw [z];exact h
def Qe (w:Zb) (x:Zd):Zb:=
 let m:=x.Zy.toNat
 let r:=rowOf w m
 let c:=look r x.name
 let a:=cw w m
 bif x.kind==1 then
  bif(!c.root && (c.from_==-1)) && (x.via !=x.Zy) then a (put ⟨c.name,c.root,x.via,x.w,c.out,true⟩ r)
  else bif(!c.root && decide (c.from_ >=0)) && (c.from_==x.via) then a (put ⟨c.name,c.root,c.from_,ZJ (c.has + x.w),c.out,true⟩ r)
  else Xp (a (put ⟨c.name,c.root,c.from_,c.has,c.out,true⟩ r)) m x.name x.via x.w
 else bif x.kind==2 then
  let d:Za:= ⟨c.name,c.root,c.from_,c.has,ZJ (c.out - x.w),c.use⟩
  Xd (a (put d r)) m x.name d
 else
  let d:Za:= ⟨c.name,true,-1,0,ZJ (c.out + 16),c.use⟩
  let b:=a (put d r)
  let e:=bif decide (c.from_ >=0) then Xp b m x.name c.from_ c.has else b
  Xd e m x.name (look (rowOf e m) x.name)
theorem Yd {w:Zb} {m:Nat} {r:Row}:(cw w m r).cells.length=w.cells.length:=by unfold cw;simp
theorem Zzj (w:Zb) (m:Nat) (r q:Row):cw (cw w m r) m q=cw w m q:=by unfold cw;simp
theorem Zc1 {w:Zb} {m:Nat} (hm:m < w.cells.length) (n Zy x:Int):rowOf (Xp w m n Zy x) m=rowOf w m∨rowOf (Xp w m n Zy x) m=put {look (rowOf w m) n with out:=ZJ ((look (rowOf w m) n).out - x)} (rowOf w m):=by
 unfold Xp;cases (Zy != (m:Int))
 ·right;rw [cond_false,Qq hm]
 ·left;rfl
theorem Zr7 {w:Zb} {m:Nat} (n Zy x:Int):(Xp w m n Zy x).cells.length=w.cells.length:=by
 unfold Xp;cases (Zy != (m:Int))
 ·rw [cond_false,Yd]
 ·rfl
theorem ZnE {w:Zb} {m:Nat} (s:Small w) (hr:(rowOf w m).length < 990) (hn:w.notes.length < 990) (n Zy x:Int):Small (Xp w m n Zy x):=by
 unfold Xp;cases (Zy != (m:Int))
 ·rw [cond_false];exact s.cw (by have:=ZgQ (c:= {look (rowOf w m) n with out:=ZJ ((look (rowOf w m) n).out - x)}) (rowOf w m);omega)
 ·exact⟨s.cells,s.rows,by show(w.notes ++ [_]).length < 1000;simp;omega,s.freed⟩
section
variable {F:Nat} {w:Zb} {m:Nat} {n:Int}
theorem Zfp (hm:m < w.cells.length) (Yu:J9 (rowOf w m)) {d:Za} (hd:d.name=n):Ul (rowOf (cw w m (put d (rowOf w m))) m) n=some d:=by
 rw [Qq hm,Zaj _ Yu,if_pos hd.symm]
theorem Qs {r:Row} {d:Za} (h:Ul r n=some d):look r n=d:=by unfold look;rw [h];rfl
structure At1 (w:Zb) (m:Nat) (n:Int):Prop where
 sm:Small w
 hm:m < w.cells.length
 Yu:J9 (rowOf w m)
 rl:(rowOf w m).length < 950
 nl:w.notes.length < 950
 has:∃ d,Ul (rowOf w m) n=some d
theorem At1.put (sm:Small w) (hm:m < w.cells.length) (Yu:J9 (rowOf w m)) (hr:(rowOf w m).length < 940) (hn:w.notes.length < 940) {d:Za} (hd:d.name=n):At1 (cw w m (put d (rowOf w m))) m n:=by
 have hl:=ZgQ (c:=d) (rowOf w m);exact⟨sm.cw (by omega),by rw [Yd];exact hm,by rw [Qq hm];exact Yu.put,by rw [Qq hm];omega,by show w.notes.length < 950;omega,d,Zfp hm Yu hd⟩
theorem Zvh (sm:Small w) (hm:m < w.cells.length) (Yu:J9 (rowOf w m)) (hr:(rowOf w m).length < 945) (hn:w.notes.length < 945) (Zy x:Int) (hd:∃ d,Ul (rowOf w m) n=some d):At1 (Xp w m n Zy x) m n:=by
 refine⟨ZnE sm (by omega) (by omega) n Zy x,by rw [Zr7];exact hm,?_,?_,?_,?_⟩
 ·rcases Zc1 hm n Zy x with h | h <;> rw [h]
  ·exact Yu
  ·exact Yu.put
 ·have hl:=ZgQ (c:= {look (rowOf w m) n with out:=ZJ ((look (rowOf w m) n).out - x)}) (rowOf w m);rcases Zc1 hm n Zy x with h | h <;> rw [h] <;> omega
 ·unfold Xp;cases (Zy != (m:Int))
  ·rw [cond_false];show w.notes.length < 950;omega
  ·rw [cond_true];show(w.notes ++ [_]).length < 950;simp;omega
 ·rcases Zc1 hm n Zy x with h | h <;> rw [h]
  ·exact hd
  ·exact⟨_,by rw [Zaj _ Yu,if_pos (by exact(JR _ _).symm)]⟩
end
end Go.Proofs.Ytekpjgmhkkjhgaa
end
section
namespace Go.Proofs.Ytekpjgmhkkjhgaa
open Go.Lf
section
variable {w:Zb} {st:Store} {m:Nat} {n:Int}
theorem Y5 (w:Zb) (a:Nat) (b:Int):cellOf w a b=Ul (rowOf w a) b:=rfl
theorem Qk.get (s:Qk w st) (hm:m < w.cells.length):Xr st.cells ⟨m,n⟩=Ul (rowOf w m) n:=by
 rw [s.cells,if_pos (by omega),Int.toNat_natCast,Y5]
theorem ZeD (s:Qk w st) (hm:m < w.cells.length):Zgs st m n=some (look (rowOf w m) n):=by
 unfold Zgs Zae;rw [s.get hm];cases h:Ul (rowOf w m) n with
 | none=>
   rw [show look (rowOf w m) n=blank n by unfold look;rw [h];rfl]
   rfl
 | some c=>
   rw [Qs h]
   rfl
theorem Uy {a:Nat} (h:a ≠ m) (r:Row):rowOf (cw w m r) a=rowOf w a:=by
 unfold rowOf cw;simp only;rw [List.getElem?_set_ne (fun z=>h z.symm)]
theorem MapOf.put {l:List (Ze×Za)} (s:MapOf w l) (hm:m < w.cells.length) (Yu:J9 (rowOf w m)) {c:Za} (hc:c.name=n):MapOf (cw w m (put c (rowOf w m))) (Y4 l ⟨m,n⟩ c):=by
 intro a b;rw [Zfd,Yd,s a b];by_cases ha:0 <=a∧a < (w.cells.length:Int)
 ·rw [if_pos ha,if_pos ha,Y5,Y5];by_cases he:a= (m:Int)
  ·subst he;rw [Int.toNat_natCast,Qq hm,Zaj _ Yu];by_cases hb:b=n
   ·subst hb;rw [if_pos rfl,if_pos hc.symm]
   ·rw [if_neg (fun z=>hb (by injection z)),if_neg (fun z=>hb (z.trans hc))]
  ·rw [if_neg (fun z=>he (by injection z)),Uy (by omega)]
 ·rw [if_neg ha,if_neg ha,if_neg (fun z=>ha (by injection z with z1 _;rw [z1];omega))]
theorem Qk.put (s:Qk w st) (hm:m < w.cells.length) (Yu:J9 (rowOf w m)) {c:Za} (hc:c.name=n):Qk (cw w m (Go.Proofs.Ytekpjgmhkkjhgaa.put c (rowOf w m))) ⟨st.machines,st.names,Y4 st.cells ⟨m,n⟩ c,st.notes,st.freed⟩:=
 ⟨by rw [Yd];exact s.m,s.n,s.notes,s.freed,s.cells.put hm Yu hc⟩
theorem Qk.sent (s:Qk w st) (hn:w.notes.length < 1000) (x:Zd):∃ st',Zal st x=some st'∧Qk (sent w x) st':=by
 unfold Zal;rw [s.notes,XT (by simp;omega) (by decide)];exact⟨_,rfl,s.m,s.n,rfl,s.freed,s.cells⟩
theorem Zr5 (s:Qk w st) (hm:m < w.cells.length) (Yu:J9 (rowOf w m)) (hn:w.notes.length < 1000) (Zy x:Int):∃ st',Zgr st m n Zy x=some st'∧Qk (Xp w m n Zy x) st':=by
 unfold Zgr Xp;cases (Zy != (m:Int))
 ·simp only [cond_false];rw [ZeD s hm,Option.bind_some];exact⟨_,rfl,s.put hm Yu (by exact JR _ _)⟩
 ·simp only [cond_true];obtain⟨st',h1,h2⟩:=s.sent hn ⟨2,Zy,n,0,x⟩;rw [h1];exact⟨st',rfl,h2⟩
end
end Go.Proofs.Ytekpjgmhkkjhgaa
end
section
namespace Go.Proofs.Ytekpjgmhkkjhgaa
open Go.Lf
section
variable {κ ν:Type} [DecidableEq κ]
def UK (l:List (κ×ν)):Prop:= (l.map (·.1)).Nodup
theorem UK.nil:UK ([]:List (κ×ν)):=List.nodup_nil
theorem UK.Y4 {l:List (κ×ν)} (u:UK l) (k:κ) (x:ν):UK (Y4 l k x):=by
 unfold Go.Lf.Y4;cases e:Yc l k with
 | some q=>
   unfold UK at u ⊢
   have:(l.modify q.1 fun p=>(p.1,x)).map (·.1)=l.map (·.1):=by
    apply List.ext_getElem?;intro i;rw [List.getElem?_map,List.getElem?_map,List.getElem?_modify];cases l[i]? with
    | none=>rfl
    | some p=>simp only [Option.map_some];split <;> rfl
   dsimp only;rw [this];exact u
 | none=>
   unfold UK at u ⊢;dsimp only;rw [List.map_append,List.nodup_append];refine⟨u,by simp,fun a ha b hb=>?_⟩;simp at hb;subst hb;obtain⟨p,hp,rfl⟩:=List.mem_map.1 ha;exact Zbq.1 e p hp
theorem UK.ZaR {l:List (κ×ν)} (u:UK l) (k:κ):UK (ZaR l k):=by
 unfold Go.Lf.ZaR;cases e:Yc l k with
 | some q=>
   unfold UK at u ⊢;dsimp only;exact u.sublist ((List.eraseIdx_sublist l q.1).map _)
 | none=>exact u
theorem KN (p:κ×ν) (l:List (κ×ν)) (k:κ):Yc (p::l) k=if p.1=k then some (0,p.2) else(Yc l k).map fun q=>(q.1 + 1,q.2):=rfl
theorem ZjH:∀ {l:List (κ×ν)},UK l ->∀ k k':κ,Xr (ZaR l k) k'=if k'=k then none else Xr l k'
 | [],_,k,k'=>by simp [ZaR,Xr,Yc]
 | p::l,u,k,k'=>by
   have u':p.1 ∉ l.map (·.1)∧UK l:=List.nodup_cons.1 u;have ih:=ZjH u'.2 k k';unfold ZaR Xr at ih ⊢;rw [KN p l k,KN p l k'];have hmm:∀ o:Option (Nat×ν),Option.map (·.2) (Option.map (fun q=>(q.1 + 1,q.2)) o)=Option.map (·.2) o:=fun o=>by cases o <;> rfl
   by_cases hp:p.1=k
   ·rw [if_pos hp];show Option.map _ (Yc ((p::l).eraseIdx 0) k')=_;rw [List.eraseIdx_cons_zero];by_cases hk:k'=k
    ·rw [if_pos hk,hk];have:Yc l k=none:=Zbq.2 fun q hq e=>u'.1 (List.mem_map.2 ⟨q,hq,e.trans hp.symm⟩)
     rw [this];rfl
    ·rw [if_neg hk,if_neg (fun z=>hk (z.symm.trans hp)),hmm]
   ·rw [if_neg hp];cases e:Yc l k with
    | none=>
      rw [e] at ih;dsimp only [Option.map_none] at ih ⊢;rw [KN];by_cases hk:k'=k
      ·rw [if_pos hk] at ih ⊢;rw [if_neg (fun z=>hp (z.trans hk)),hmm];exact ih
      ·rw [if_neg hk]
    | some q=>
      rw [e] at ih;dsimp only [Option.map_some] at ih ⊢;rw [List.eraseIdx_cons_succ,KN];by_cases h3:p.1=k'
      ·rw [if_pos h3,if_neg (fun z=>hp (h3.trans z)),if_pos h3]
      ·rw [if_neg h3,if_neg h3,hmm,hmm];exact ih
end
theorem MapOf.rmv {w:Zb} {m:Nat} {n:Int} {l:List (Ze×Za)} (s:MapOf w l) (u:UK l) (hm:m < w.cells.length):MapOf (cw w m (rmv n (rowOf w m))) (ZaR l ⟨m,n⟩):=by
 intro a b;rw [ZjH u,Yd,s a b];by_cases ha:0 <=a∧a < (w.cells.length:Int)
 ·rw [if_pos ha,if_pos ha,Y5,Y5];by_cases he:a= (m:Int)
  ·subst he;rw [Int.toNat_natCast,Qq hm,Zqf];by_cases hb:b=n
   ·subst hb;rw [if_pos rfl,if_pos rfl]
   ·rw [if_neg (fun z=>hb (by injection z)),if_neg hb]
  ·rw [if_neg (fun z=>he (by injection z)),Uy (by omega)]
 ·rw [if_neg ha,if_neg ha];split <;> rfl
end Go.Proofs.Ytekpjgmhkkjhgaa
end
section
namespace Go.Proofs.Ytekpjgmhkkjhgaa
open Go.Lf
def Asc (l:List Int):Prop:=l.Pairwise (· <=·)
theorem Zwt (a b:Int):Zgp a b=some (decide (a < b)):=by
 unfold Zgp ZjX;simp [gd]
theorem ZhS {x:Int}:∀ {l:List Int},(∀ y ∈ l,y <=x) ->Jp x l=l ++ [x]
 | [],_=>rfl
 | y::l,h=>by
   have:=h y (by simp);rw [Jp,if_neg (by omega),ZhS (fun z hz=>h z (by simp [hz]))];rfl
theorem ZjJ {x y:Int} (h:x < y):∀ {l:List Int},Jp x (l ++ [y])=Jp x l ++ [y]
 | []=>by
   have h':y > x:=h;show(if y > x then x::y:: [] else y::Jp x [])=_;rw [if_pos h'];rfl
 | z::l=>by
   rw [List.cons_append,Jp,Jp];by_cases hz:z > x
   ·rw [if_pos hz,if_pos hz];rfl
   ·rw [if_neg hz,if_neg hz,ZjJ h];rfl
theorem Zel {x z:Int}:∀ {l:List Int},z ∈ Jp x l ->z=x∨z ∈ l
 | [],h=>by simp [Jp] at h;exact .inl h
 | y::l,h=>by
   rw [Jp] at h;split at h
   ·rcases List.mem_cons.1 h with h | h
    ·exact .inl h
    ·exact .inr h
   ·rcases List.mem_cons.1 h with h | h
    ·exact .inr (by simp [h])
    ·exact(Zel h).imp id fun q=>by simp [q]
theorem Asc.Jp {x:Int}:∀ {l:List Int},Asc l ->Asc (Jp x l)
 | [],_=>List.pairwise_singleton _ _
 | y::l,s=>by
   have s':=List.pairwise_cons.1 s;unfold Go.Proofs.Ytekpjgmhkkjhgaa.Jp;by_cases h:y > x
   ·rw [if_pos h];refine List.pairwise_cons.2 ⟨fun z hz=>?_,s⟩;rcases List.mem_cons.1 hz with rfl | hz
    ·omega
    ·have:=s'.1 z hz;omega
   ·rw [if_neg h];refine List.pairwise_cons.2 ⟨fun z hz=>?_,Asc.Jp s'.2⟩;rcases Zel hz with rfl | hz
    ·omega
    ·exact s'.1 z hz
theorem ZhR (x:Int):∀ l:List Int,(Jp x l).length=l.length + 1
 | []=>rfl
 | y::l=>by
   rw [Jp];split
   ·rfl
   ·simp [ZhR x l]
theorem Zqd {α:Type} (p s:List α) (x:α):(p ++ x::s)[p.length]? =some x:=by simp
theorem Zom (i:Int) (next:Int×List Int ->Option (List Int)):∀ (k:Nat) (pre suf:List Int) (x:Int) (F:Nat),pre.length=k ->k < F ->k < 100000 ->Asc pre ->loop F (Zg2 0 i next) ((k:Int),pre ++ x::suf)=next (ZJ (i + 1),Jp x pre ++ suf):=by
 intro k
 induction k with
 | zero=>
   intro pre suf x F hp hF _ _;obtain⟨F,rfl⟩:=Nat.exists_eq_succ_of_ne_zero (n:=F) (by omega);have:pre= []:=List.eq_nil_of_length_eq_zero hp;subst this;rw [Ya]
   rfl
 | succ k ih=>
   intro pre suf x F hp hF hk hs;obtain⟨F,rfl⟩:=Nat.exists_eq_succ_of_ne_zero (n:=F) (by omega)
   obtain⟨p,y,rfl⟩:∃ p y,pre=p ++ [y]:=by
    refine⟨pre.dropLast,pre.getLast (by intro z;rw [z] at hp;simp at hp),?_⟩;exact(List.dropLast_concat_getLast _).symm
   have hpl:p.length=k:=by simpa using hp
   have hs':=List.pairwise_append.1 hs;rw [Ya];have e0:(p ++ [y]) ++ x::suf=p ++ y::x::suf:=by simp
   rw [e0]
   have g1:Yh (p ++ y::x::suf) ((k + 1:Nat):Int)=some x:=by
    rw [ZU,← hpl];rw [List.getElem?_append_right (by omega)];simp
   have g2:Yh (p ++ y::x::suf) (k:Int)=some y:=by rw [ZU,← hpl];exact Zqd _ _ _
   have ew:ZJ (((k + 1:Nat):Int) - 1)= (k:Int):=by rw [Zl7 (by omega) (by omega)];rfl
   have hgt:decide (((k + 1:Nat):Int) > 0)=true:=decide_eq_true (by omega);simp only [Zg2,hgt,gd,cond_true,g1,g2,ew,Option.bind_some,Zwt,Bool.true_and];cases hlt:decide (x < y)
   ·rw [cond_false];have hle:y <=x:=by simpa using hlt
    rw [ZhS (fun z hz=>by
     rcases List.mem_append.1 hz with hz | hz
     ·have:=hs'.2.2 z hz y (by simp);omega
     ·simp at hz;omega)]
    simp
   ·rw [cond_true];have hxy:x < y:=by simpa using hlt
    have s1:Ju (p ++ y::x::suf) ((k + 1:Nat):Int) y=p ++ y::y::suf:=by
     unfold Ju;rw [Int.toNat_natCast,← hpl,List.set_append_right _ _ (by omega)];simp
    have g3:Yh (p ++ y::y::suf) (k:Int)=some y:=by rw [ZU,← hpl];exact Zqd _ _ _
    have s2:Ju (p ++ y::y::suf) (k:Int) x=p ++ x::y::suf:=by
     unfold Ju;rw [Int.toNat_natCast,← hpl,List.set_append_right _ _ (by omega)];simp
    rw [s1,g3,Option.bind_some,s2,ih p (y::suf) x F hpl (by omega) (by omega) hs'.1,ZjJ hxy];simp
theorem ZhC {F:Nat} (hF:100 <=F):∀ (d:Nat) (S rest:List Int) (n F':Nat),rest.length=d ->S.length + d=n ->n <=90 ->d < F' ->Asc S ->loop F' (ZcU F 0 n) ((S.length:Int),S ++ rest)=some (rest.foldl (fun S x=>Jp x S) S):=by
 intro d
 induction d with
 | zero=>
   intro S rest n F' hr hn hn9 hF' hs;obtain⟨F',rfl⟩:=Nat.exists_eq_succ_of_ne_zero (n:=F') (by omega);have:rest= []:=List.eq_nil_of_length_eq_zero hr;subst this;rw [Ya];simp only [ZcU];rw [decide_eq_false (by omega),cond_false];simp
 | succ d ih=>
   intro S rest n F' hr hn hn9 hF' hs;obtain⟨F',rfl⟩:=Nat.exists_eq_succ_of_ne_zero (n:=F') (by omega)
   match rest,hr with
   | x::r,hr=>
     rw [Ya];simp only [ZcU];rw [decide_eq_true (by omega),cond_true,Zom _ _ S.length S r x F rfl (by omega) (by omega) hs,YV (by omega),List.foldl_cons];have:=ih (Jp x S) r n F' (by simpa using hr) (by rw [ZhR];omega) hn9 (by omega) hs.Jp;rw [ZhR] at this;exact this
theorem Zm1:∀ (l S:List Int),Asc (S ++ l) ->l.foldl (fun S x=>Jp x S) S=S ++ l
 | [],S,_=>by simp
 | x::l,S,h=>by
   rw [List.foldl_cons,ZhS (fun y hy=>(List.pairwise_append.1 h).2.2 y hy x (by simp)),Zm1 l _ (by simpa using h)];simp
theorem Zv9 {F:Nat} (hF:100 <=F) {l:List Int} (hl:l.length <=11) (hs:Asc l) (n:Int):Zm7 F (l ++ [n])=some (Jp n l):=by
 have hlen:(l ++ [n]).length=l.length + 1:=by simp
 unfold Zm7 ZuU
 have e1:∃ q,Qa (IntKind.wrap .u64 ((l ++ [n]).length:Int))=some q:=by
  rw [hlen];have hw:∀ k:Nat,k <=12 ->IntKind.wrap .u64 (k:Int)= (k:Int):=by decide
  have:=hw (l.length + 1) (by omega);rw [this];unfold Qa;rw [decide_eq_true (by omega),decide_eq_true (by omega)];exact⟨_,rfl⟩
 obtain⟨q,e1⟩:=e1;rw [e1,Option.bind_some];unfold Zqr;obtain⟨F',rfl⟩:=Nat.exists_eq_succ_of_ne_zero (n:=F) (by omega);rw [Ya];simp only [Zli];have ew:ZJ (((l ++ [n]).length:Int) - 0)= ((l.length + 1:Nat):Int):=by rw [hlen];exact YL (by omega) (by omega)
 rw [ew,decide_eq_true (by omega),cond_true];unfold Zqq;have e2:ZJ ((0:Int) + 1)=1:=by rw [show(0:Int) + 1=1 from rfl];exact YL (by omega) (by omega)
 rw [e2]
 have key:loop (F' + 1) (ZcU (F' + 1) 0 ((l ++ [n]).length:Int)) (1,l ++ [n])=some (Jp n l):=by
  match l,hl,hs,hlen with
  | [],_,_,_=>exact ZhC (F:=F' + 1) hF 0 [n] [] 1 (F' + 1) rfl rfl (by omega) (by omega) (List.pairwise_singleton _ _)
  | x::r,hl,hs,hlen=>
    have:=ZhC (F:=F' + 1) hF (r.length + 1) [x] (r ++ [n]) ((x::r ++ [n]).length) (F' + 1) (by simp) (by simp;omega) (by simp at hl ⊢;omega) (by simp at hl;omega) (List.pairwise_singleton _ _);rw [List.foldl_append,Zm1 r [x] hs] at this;exact this
 rw [key];rfl
def CI (c:Za):Prop:= (c.from_ >=0∧c.root=false)∨(c.from_=-1∧c.has=0)
theorem ZuX {c:Za} {n:Int} (hn:c.name=n) (hu:c.use=false) (ho:c.out=0) (hr:c.root=false) (hi:CI c):Zam c (blank n)= !decide (c.from_ >=0):=by
 unfold Zam blank;rcases hi with⟨h,_⟩ | ⟨h1,h2⟩
 ·rw [decide_eq_true h];have:(c.from_==-1)=false:=by simp;omega
  simp [this]
 ·rw [decide_eq_false (by omega)];simp [hn,hu,ho,hr,h1,h2]
theorem Zac {F:Nat} (hF:100 <=F) {w:Zb} {st:Store} {m:Nat} {n:Int} (s:Qk w st) (u:UK st.cells) (hm:m < w.cells.length) (hnl:w.notes.length < 1000) {c:Za} (hc:Ul (rowOf w m) n=some c) (hi:CI c) (ha:Asc w.freed) (hf:w.freed.length <=11):
 ∃ st',Zgq F st m n=some st'∧Qk (Xd w m n c) st'∧UK st'.cells:=by
 have hcn:=Qc hc;unfold Zgq Xd;rw [ZeD s hm,Qs hc,Option.bind_some];cases hu:(c.use || (c.out !=0))
 ·simp only [cond_false]
  have hu1:c.use=false:=by
   cases h:c.use
   ·rfl
   ·rw [h] at hu;cases hu
  have hu2:c.out=0:=by
   rw [hu1,Bool.false_or] at hu
   simpa using hu
  have hmap:MapOf (cw w m (rmv n (rowOf w m))) (ZaR st.cells ⟨m,n⟩):=s.cells.rmv u hm;cases hr:c.root
  ·simp only [cond_false];unfold Zm8;rw [Option.bind_some];have he:=ZuX hcn hu1 hu2 hr hi;unfold blank at he;rw [he];cases hfr:decide (c.from_ >=0)
   ·refine⟨_,rfl,⟨by show st.machines=_;rw [s.m];simp,s.n,s.notes,s.freed,hmap⟩,u.ZaR _⟩
   ·simp only [Bool.not_true,Bool.not_false,cond_true];unfold Zal;dsimp only;rw [s.notes,XT (by simp;omega) (by decide)];refine⟨_,rfl,⟨by show st.machines=_;rw [s.m];simp,s.n,rfl,s.freed,hmap⟩,u.ZaR _⟩
  ·simp only [cond_true];rw [s.freed,XT (by simp;omega) (by decide),Option.bind_some,Zv9 hF hf ha,Option.bind_some];refine⟨_,rfl,⟨by show st.machines=_;rw [s.m];simp,s.n,s.notes,rfl,hmap⟩,u.ZaR _⟩
 ·simp only [cond_true];exact⟨st,rfl,s,u⟩
theorem CI.blank (n:Int):CI (blank n):= .inr ⟨rfl,rfl⟩
theorem ZqG {F:Nat} {w:Zb} {st:Store} {m:Nat} {n:Int} (s:Qk w st) (u:UK st.cells) (hm:m < w.cells.length) (Yu:J9 (rowOf w m)) (hn:w.notes.length < 1000) (Zy x:Int):∃ st',Zgr st m n Zy x=some st'∧Qk (Xp w m n Zy x) st'∧UK st'.cells:=by
 obtain⟨st',h1,h2⟩:=Zr5 s hm Yu hn Zy x (n:=n);refine⟨st',h1,h2,?_⟩;unfold Zgr Zal at h1;cases ht:(Zy != (m:Int))
 ·rw [ht,cond_false,ZeD s hm,Option.bind_some] at h1;cases h1;exact u.Y4 _ _
 ·rw [ht,cond_true,s.notes,XT (by simp;omega) (by decide)] at h1;cases h1;exact u
theorem Zr6 {w:Zb} {m:Nat} {n:Int} (hm:m < w.cells.length) (Yu:J9 (rowOf w m)) (Zy x:Int) (hi:CI (look (rowOf w m) n)):CI (look (rowOf (Xp w m n Zy x) m) n):=by
 rcases Zc1 hm n Zy x with h | h <;> rw [h]
 ·exact hi
 ·rw [Qs (by rw [Zaj _ Yu,if_pos (by exact(JR _ _).symm)])];exact hi
theorem Zpj {F:Nat} (hF:100 <=F) {w:Zb} {st:Store} (s:Qk w st) (u:UK st.cells) (sm:Small w) {m:Nat} (hm:m < w.cells.length) (hrl:(rowOf w m).length < 900) (hnl:w.notes.length < 900) (x:Zd) (hto:x.Zy= (m:Int)) (Yu:J9 (rowOf w m)) (hi:CI (look (rowOf w m) x.name)) (ha:Asc w.freed) (hf:w.freed.length <=11):
 ∃ st',ZuM F st x=some st'∧Qk (Qe w x) st'∧UK st'.cells:=by
 have hln:=JR (rowOf w m) x.name;have hat:∀ {d:Za},d.name=x.name ->At1 (cw w m (put d (rowOf w m))) m x.name:=fun hd=>At1.put sm hm Yu (by omega) (by omega) hd
 have hst:∀ {d:Za},d.name=x.name ->Qk (cw w m (put d (rowOf w m))) ⟨st.machines,st.names,Y4 st.cells ⟨m,x.name⟩ d,st.notes,st.freed⟩:=fun hd=>s.put hm Yu hd
 unfold ZuM Qe;rw [hto,ZeD s hm];simp only [Option.bind_some,Int.toNat_natCast];obtain⟨c,hcc⟩:∃ c,look (rowOf w m) x.name=c:= ⟨_,rfl⟩
 rw [hcc] at hln hi;simp only [hcc]
 have hlt:decide (c.from_ < 0)= (c.from_==-1):=by
  rcases hi with⟨h,_⟩ | ⟨h,_⟩
  ·rw [decide_eq_false (by omega)];symm;simp;omega
  ·rw [decide_eq_true (by omega),h];rfl
 have hge:(decide (c.from_ >=0) && (c.from_==x.via))= ((!c.root && decide (c.from_ >=0)) && (c.from_==x.via)):=by
  rcases hi with⟨h,h2⟩ | ⟨h,_⟩
  ·rw [h2];simp
  ·rw [decide_eq_false (by omega)];simp
 cases hk1:(x.kind==1)
 ·simp only [cond_false];cases hk2:(x.kind==2)
  ·simp only [cond_false];have h1:=hst (d:= ⟨c.name,true,-1,0,ZJ (c.out + 16),c.use⟩) hln;have hA:=hat (d:= ⟨c.name,true,-1,0,ZJ (c.out + 16),c.use⟩) hln;have u1:=u.Y4 (⟨m,x.name⟩:Ze) (⟨c.name,true,-1,0,ZJ (c.out + 16),c.use⟩:Za);have hd:(⟨c.name,true,-1,0,ZJ (c.out + 16),c.use⟩:Za).name=x.name:=hln;have hlk:=Qs (Zfp hm Yu hd);cases hfr:decide (c.from_ >=0)
   ·simp only [cond_false];unfold Zfz;rw [hto];obtain⟨d,hdd⟩:=hA.has;obtain⟨st',q1,q2,q3⟩:=Zac hF h1 u1 hA.hm (by show w.notes.length < 1000;omega) hdd (by rw [← Qs hdd,hlk];exact .inr ⟨rfl,rfl⟩) ha hf;rw [show st.notes=w.notes from s.notes,show st.freed=w.freed from s.freed] at q1;rw [show st.notes=w.notes from s.notes,show st.freed=w.freed from s.freed];refine⟨st',(congrArg (fun o=>Option.bind o fun x61=>some x61) q1).trans rfl,?_,q3⟩;rw [Qs hdd];exact q2
   ·simp only [cond_true];obtain⟨st1,p1,p2,p3⟩:=ZqG (F:=F) (n:=x.name) h1 u1 hA.hm hA.Yu (by show w.notes.length < 1000;omega) c.from_ c.has;rw [p1,Option.bind_some];have hbh:=Zvh hA.sm hA.hm hA.Yu (by have:=ZgQ (c:= (⟨c.name,true,-1,0,ZJ (c.out + 16),c.use⟩:Za)) (rowOf w m);rw [Qq hm];omega) (by show w.notes.length < 945;omega) c.from_ c.has hA.has;have hci:CI (look (rowOf (Xp (cw w m (put (⟨c.name,true,-1,0,ZJ (c.out + 16),c.use⟩:Za) (rowOf w m))) m x.name c.from_ c.has) m) x.name):=Zr6 hA.hm hA.Yu _ _ (by rw [hlk];exact .inr ⟨rfl,rfl⟩);obtain⟨d,hdd⟩:=hbh.has
    have hfree:(Xp (cw w m (put (⟨c.name,true,-1,0,ZJ (c.out + 16),c.use⟩:Za) (rowOf w m))) m x.name c.from_ c.has).freed=w.freed:=by
     unfold Xp;cases (c.from_ != (m:Int)) <;> rfl
    obtain⟨st',q1,q2,q3⟩:=Zac hF p2 p3 hbh.hm (by have:=hbh.nl;omega) hdd (by rw [← Qs hdd];exact hci) (by rw [hfree];exact ha) (by rw [hfree];exact hf);unfold Zfz;rw [hto];refine⟨st',(congrArg (fun o=>Option.bind o fun x61=>some x61) q1).trans rfl,?_,q3⟩;rw [Qs hdd];exact q2
  ·simp only [cond_true];have h1:=hst (d:= ⟨c.name,c.root,c.from_,c.has,ZJ (c.out - x.w),c.use⟩) hln;have hd:(⟨c.name,c.root,c.from_,c.has,ZJ (c.out - x.w),c.use⟩:Za).name=x.name:=hln;have u1:=u.Y4 (⟨m,x.name⟩:Ze) (⟨c.name,c.root,c.from_,c.has,ZJ (c.out - x.w),c.use⟩:Za);obtain⟨st',q1,q2,q3⟩:=Zac hF h1 u1 (hat hd).hm (by show w.notes.length < 1000;omega) (Zfp hm Yu hd) hi ha hf;exact⟨st',(congrArg (fun o=>Option.bind o fun x61=>some x61) q1).trans rfl,q2,q3⟩
 ·simp only [cond_true];rw [hlt,hge];cases hc1:((!c.root && (c.from_==-1)) && (x.via != (m:Int)))
  ·simp only [cond_false];cases hc2:((!c.root && decide (c.from_ >=0)) && (c.from_==x.via))
   ·simp only [cond_false];have h1:=hst (d:= ⟨c.name,c.root,c.from_,c.has,c.out,true⟩) hln;have hA:=hat (d:= ⟨c.name,c.root,c.from_,c.has,c.out,true⟩) hln;obtain⟨st1,p1,p2,p3⟩:=ZqG (F:=F) (n:=x.name) h1 (u.Y4 _ _) hA.hm hA.Yu (by show w.notes.length < 1000;omega) x.via x.w;exact⟨st1,(congrArg (fun o=>Option.bind o fun x18=>some x18) p1).trans rfl,p2,p3⟩
   ·simp only [cond_true];exact⟨_,rfl,hst (d:= ⟨c.name,c.root,c.from_,ZJ (c.has + x.w),c.out,true⟩) hln,u.Y4 _ _⟩
  ·simp only [cond_true];exact⟨_,rfl,hst (d:= ⟨c.name,c.root,x.via,x.w,c.out,true⟩) hln,u.Y4 _ _⟩
def Zeb (w:Zb) (d:Zn) (m:Nat) (c:Za):Zb:=
 bif decide (c.from_ >=0) && decide (c.has >=2) then sent (cw w m (put ⟨c.name,c.root,c.from_,ZJ (c.has - ZJ (c.has.tdiv 2)),c.out,c.use⟩ (rowOf w m))) ⟨1,d.Zy,d.name,c.from_,ZJ (c.has.tdiv 2)⟩
 else sent (cw w m (put ⟨c.name,c.root,c.from_,c.has,ZJ (c.out + 16),c.use⟩ (rowOf w m))) ⟨1,d.Zy,d.name,d.at_,16⟩
theorem ZHm (a:Int):Zq5 a 2=some (ZJ (a.tdiv 2)):=rfl
theorem ZsP {w:Zb} {st:Store} (s:Qk w st) (u:UK st.cells) {m:Nat} (hm:m < w.cells.length) (Yu:J9 (rowOf w m)) (hnl:w.notes.length < 1000) (d:Zn) (hat:d.at_= (m:Int)) {c:Za} (hc:Ul (rowOf w m) d.name=some c):
 ∃ st',Zna st d=some st'∧Qk (Zeb w d m c) st'∧UK st'.cells:=by
 have hn:=Qc hc;unfold Zna Zeb;rw [hat,ZeD s hm,Qs hc,Option.bind_some];simp only [ZHm,Option.bind_some];cases (decide (c.from_ >=0) && decide (c.has >=2))
 ·simp only [cond_false];unfold ZcV;rw [hat];have h1:=s.put hm Yu (c:= ⟨c.name,c.root,c.from_,c.has,ZJ (c.out + 16),c.use⟩) hn;obtain⟨st',q1,q2⟩:=h1.sent (by show w.notes.length < 1000;exact hnl) ⟨1,d.Zy,d.name,(m:Int),16⟩;refine⟨st',(congrArg (fun o=>Option.bind o fun x21=>some x21) q1).trans rfl,q2,?_⟩;unfold Zal at q1;dsimp only at q1;rw [s.notes,XT (by simp;omega) (by decide)] at q1;cases q1;exact u.Y4 _ _
 ·simp only [cond_true];unfold ZcV;rw [hat];have h1:=s.put hm Yu (c:= ⟨c.name,c.root,c.from_,ZJ (c.has - ZJ (c.has.tdiv 2)),c.out,c.use⟩) hn;obtain⟨st',q1,q2⟩:=h1.sent (by show w.notes.length < 1000;exact hnl) ⟨1,d.Zy,d.name,c.from_,ZJ (c.has.tdiv 2)⟩;refine⟨st',(congrArg (fun o=>Option.bind o fun x21=>some x21) q1).trans rfl,q2,?_⟩;unfold Zal at q1;dsimp only at q1;rw [s.notes,XT (by simp;omega) (by decide)] at q1;cases q1;exact u.Y4 _ _
theorem KG {α:Type} {xs:List α} {a b:Nat} (h1:a <=b) (h2:b <=xs.length):slL xs (a:Int) (b:Int)=some ((xs.take b).drop a):=by
 unfold slL;rw [decide_eq_true (by omega),decide_eq_true (by omega),decide_eq_true (by omega)];simp
theorem Ztb {l:List Zd} {k:Nat} (hk:k < l.length) (hl:l.length < 1000):Zm9 l (k:Int) (ZJ ((k:Int) + 1))=some (l.take k ++ l.drop (k + 1)):=by
 unfold Zm9;have e0:slL l 0 (k:Int)=some ((l.take k).drop 0):=KG (a:=0) (Nat.zero_le k) (by omega);rw [YV (by omega),KG (by omega) (by omega),Option.bind_some,e0,KG (by omega) (Nat.le_refl _)];have:((k:Int)== ((k + 1:Nat):Int))=false:=by simp;omega
 rw [this,cond_false];simp only [Option.bind_some,List.drop_zero,List.take_length];rw [XT (by simp;omega) (by decide)]
 rfl
def Zfa (w:Zb):Za:= ⟨w.names,true,-1,0,0,true⟩
def Zei (w:Zb) (m:Nat):Zb:= ⟨w.cells.set m (put (Zfa w) (rowOf w m)),w.notes,ZJ (w.names + 1),w.freed⟩
theorem Zts {w:Zb} {st:Store} (s:Qk w st) (u:UK st.cells) {m:Nat} (hm:m < w.cells.length) (Yu:J9 (rowOf w m)):Qk (Zei w m) ⟨st.machines,ZJ (st.names + 1),Y4 st.cells ⟨m,w.names⟩ (Zfa w),st.notes,st.freed⟩∧UK (Y4 st.cells (⟨m,w.names⟩:Ze) (Zfa w)):=by
 have h:=s.put hm Yu (c:=Zfa w) (n:=w.names) rfl;refine⟨⟨?_,by show ZJ (st.names + 1)=ZJ (w.names + 1);rw [s.n],s.notes,s.freed,?_⟩,u.Y4 _ _⟩
 ·show st.machines=_;rw [s.m];unfold Zei;simp
 ·exact h.cells
def Zan (c:Za):Za:= ⟨c.name,c.root,c.from_,c.has,c.out,false⟩
def Zgv (w:Zb) (m:Nat) (n:Int) (c:Za):Zb:=Xd (cw w m (put (Zan c) (rowOf w m))) m n (Zan c)
theorem ZrR {F:Nat} (hF:100 <=F) {w:Zb} {st:Store} (s:Qk w st) (u:UK st.cells) {m:Nat} (hm:m < w.cells.length) (Yu:J9 (rowOf w m)) (hnl:w.notes.length < 1000) {n:Int} {c:Za} (hc:Ul (rowOf w m) n=some c) (hi:CI c) (ha:Asc w.freed) (hf:w.freed.length <=11):
 ∃ st',Zgq F ⟨st.machines,st.names,Y4 st.cells ⟨m,n⟩ (Zan c),st.notes,st.freed⟩ m n=some st'∧Qk (Zgv w m n c) st'∧UK st'.cells:=by
 have hn:=Qc hc;have h1:=s.put hm Yu (c:=Zan c) (n:=n) hn;exact Zac hF h1 (u.Y4 _ _) (by rw [Yd];exact hm) hnl (Zfp hm Yu (show(Zan c).name=n from hn)) hi ha hf
def goC (c:Za) (Zy:Int):Za:= ⟨c.name,false,Zy,16,c.out,c.use⟩
def goW (w:Zb) (d:Zn) (m:Nat) (c:Za):Zb:=sent (cw w m (put (goC c d.Zy) (rowOf w m))) ⟨3,d.Zy,d.name,0,16⟩
theorem Zw5 {w:Zb} {st:Store} (s:Qk w st) (u:UK st.cells) {m:Nat} (hm:m < w.cells.length) (Yu:J9 (rowOf w m)) (hnl:w.notes.length < 1000) (d:Zn) {c:Za} (hc:Ul (rowOf w m) d.name=some c):
 ∃ st',Zal ⟨st.machines,st.names,Y4 st.cells ⟨m,d.name⟩ (goC c d.Zy),st.notes,st.freed⟩ ⟨3,d.Zy,d.name,0,16⟩=some st'∧Qk (goW w d m c) st'∧UK st'.cells:=by
 have hn:=Qc hc;have h1:=s.put hm Yu (c:=goC c d.Zy) (n:=d.name) hn;obtain⟨st',q1,q2⟩:=h1.sent (by show w.notes.length < 1000;exact hnl) ⟨3,d.Zy,d.name,0,16⟩;refine⟨st',q1,q2,?_⟩;unfold Zal at q1;dsimp only at q1;rw [s.notes,XT (by simp;omega) (by decide)] at q1;cases q1;exact u.Y4 _ _
end Go.Proofs.Ytekpjgmhkkjhgaa
end
