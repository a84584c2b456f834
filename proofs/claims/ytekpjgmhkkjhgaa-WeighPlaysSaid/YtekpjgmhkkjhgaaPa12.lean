/- Plays Part 12 of the proof. -/
import Derived.Test.YtekpjgmhkkjhgaaPa11
set_option linter.all false
theorem Go.Ne0{n:Nat}(h:n ≠ 0):∃k,n=Nat.succ k:=Nat.exists_eq_succ_of_ne_zero h
section
noncomputable section
namespace Go.Proofs.Ytekpjgmhkkjhgaa
open Go.YD Go.Lf
theorem ZwB {h:H} {r:Bool} (hL:Zzp=some r):Pure XX 14 #[] h (.bool r):=by
 cases hL;intro wm;have e:ev (cfg XW fun _=>false) 1 (.call 14 #[] wm h)=some (.fin (.ret (.bool true)) h):=rfl;exact ZfG (X:=XW) mixed 1 _ _ e
end Go.Proofs.Ytekpjgmhkkjhgaa
end
end
section
namespace Go.Proofs.Ytekpjgmhkkjhgaa
open Go.Lf
def Zeb (F:Nat) (p1:(List Zv)):Int×(List (List Zb))×(List Zd)×Int×(List Int) ->(Int×(List (List Zb))×(List Zd)×Int×(List Int) ->Option (Za×Int×Int)) ->Option (Za×Int×Int):=fun(v41,v43,v48,v52,v53) Zt8=>
 (bif decide (v41 < (p1.length:Int)) then(ZM p1 v41).bind fun x58=>(Zws F (Za.mk v43 v48 v52 v53) x58).bind fun x61=>(bif(x61.2 !=0) then some ((Za.mk v43 v48 v52 v53),v41,x61.2) else Zt8 (ZP (v41 + 1),x61.1.cells,x61.1.notes,x61.1.names,x61.1.freed)) else some ((Za.mk v43 v48 v52 v53),(p1.length:Int),0))
def Zgp (F:Nat) (p0:Za) (p1:(List Zv)):Int ->(Int ->Option (Za×Int×Int)) ->Option (Za×Int×Int):=fun v13 Zib=>
 (bif decide (v13 < (p1.length:Int)) then(ZM p1 v13).bind fun x16=>(ZsG x16 (p0.cells.length:Int)).bind fun x19=>(bif(!x19) then some ((Za.mk [] [] 0 []),0,2) else Zib (ZP (v13 + 1))) else(ZlZ F p0).bind fun x21=>loop F (Zeb F p1) (0,x21.cells,x21.notes,x21.names,x21.freed))
def Zwx (F:Nat) (p0:Za) (p1:(List Zv)):Option (Za×Int×Int):=
 (bif decide ((p1.length:Int) > 200) then some ((Za.mk [] [] 0 []),0,3) else(Zqc F p0).bind fun x6=>(bif(!x6) then some ((Za.mk [] [] 0 []),0,2) else loop F (Zgp F p0 p1) 0))
def Zg1 (F:Nat) (p0:Store) (p1:Int) (p2:Int):Option Store:=
 (Zg3 p0 p1 p2).bind fun x1=>(bif(x1.use || (x1.out !=0)) then some p0 else(bif x1.root then(app 8 p0.freed [p2]).bind fun z8=>(Zn4 F z8).bind fun Uv=>some (Store.mk p0.machines p0.names (ZaY p0.cells (Zg.mk p1 p2)) p0.notes Uv) else(Zn5 p2).bind fun x16=>(bif(!(JX x1 x16)) then(Zav (Store.mk p0.machines p0.names (ZaY p0.cells (Zg.mk p1 p2)) p0.notes p0.freed) (Zd.mk 2 x1.from_ p2 0 x1.has)).bind fun x17=>some x17 else some (Store.mk p0.machines p0.names (ZaY p0.cells (Zg.mk p1 p2)) p0.notes p0.freed))))
end Go.Proofs.Ytekpjgmhkkjhgaa
end
section
set_option maxRecDepth 20000
noncomputable section
namespace Go.Proofs.Ytekpjgmhkkjhgaa
open Go.YD Go.Lf
theorem ZDS {F wm:Nat} {h:H} {p0:Za} {p1:(List Zv)} {Zr:Option Addr} {Zq:Nat} {Zn:Option Addr} {Zm:Nat} {Zl:Option Addr} {Zk:Nat} {Xt:Option Addr} {Xr:Nat} {r:(Za×Int×Int)} (ZK:wm <=h.size) (Zw:Sl (rSl Ze) wm h Zr Zq p0.cells) (ZA:Sl Zf wm h Zn Zm p0.notes) (Zy:Sl (Zz .i64) wm h Zl Zk p0.freed) (QG:Sl WJ wm h Xt Xr p1) (hL:Zwx F p0 p1=some r):
 WR XX 22 #[.agg [.slice Zr p0.cells.length Zq,.slice Zn p0.notes.length Zm,.int .i64 p0.names,.slice Zl p0.freed.length Zk].toArray,.slice Xt p1.length Xr] wm h (CP (fun(v:Value) (Gb:List (Ast wm))=>∃ (YH:Option Addr) (YF:Nat) (YG:Nat) (Xc:Nat ->Option Addr×Nat×Nat) (Y5:Option Addr) (Y1:Nat) (Y3:Nat) (Y4:Option Addr) (Y0:Nat) (Y2:Nat),v= .tuple [.agg [.slice YH YF YG,.slice Y5 Y1 Y3,.int .i64 r.1.names,.slice Y4 Y0 Y2].toArray,.int .i64 r.2.1,.int .i64 r.2.2].toArray∧Gb= [JV wm (Yf Ze) YH YF YG Xc r.1.cells,ow wm Zf Y5 Y1 Y3 r.1.notes,ow wm (Zz .i64) Y4 Y0 Y2 r.1.freed]) [] h):=by
 refine bg Try.ntmps22 ZK ZT.nil ?_;intro T hT hS;unfold Zwx at hL;refine r3 ?_;rintro _ h2 ⟨b1,eb1,rfl,hS⟩;refine r1 ?_;rintro _ h4 ⟨b3,eb3,rfl,hS⟩;refine QC ?_;refine cn hL ?_ ?_
 ·intro hc hL;refine r2 ?_;refine WO.w gN rfl (XH ZcN ZI rfl (cs':= [.slice none 0 0,.slice none 0 0,.int .i64 0,.slice none 0 0]) rfl) ?_;refine r1 ?_;rintro h5 hS;refine r6 ?_;have hS:=hS.Zh8 (e:= (Yf Ze)) (ps:=fun _=>(Yf Ze).dflt);have hS:=hS.nil (e:=Zf);have hS:=hS.nil (e:= (Zz .i64));have hr:=Oi0 hL;subst hr;exact ZX.gen (vs:= [.agg [.slice none 0 0,.slice none 0 0,.int .i64 0,.slice none 0 0].toArray,.int .i64 0,.int .i64 3]) rfl (ZN (Ya rfl fh) (ZU XE YC (hS.Qm k3) (j:=0) rfl rfl (ws:= [.slice none 0 0,.slice none 0 0,.int .i64 0,.slice none 0 0]) rfl) (ZF lk (ZF lk Zu))) rfl ⟨_,⟨none,0,0,(fun _=>(Yf Ze).dflt),none,0,0,none,0,0,rfl,rfl⟩,hT ▸ hS.only (.c k2 (.c k1 (.c k0 .n)))⟩
 ·intro hc hL;refine r6 ?_;obtain⟨x6,hx6,hL⟩:=bind_some hL;refine WO.cp gN rfl (Yx.fn ZA0 (Zc lk Zj)) (Zwz (hS.Qq Zw) (hS.Qq ZA) (hS.Qq Zy) hx6) ?_;refine r3 ?_;refine cn hL ?_ ?_
  ·intro hc hL;refine r2 ?_;refine WO.w gN rfl (XH ZcN ZI rfl (cs':= [.slice none 0 0,.slice none 0 0,.int .i64 0,.slice none 0 0]) rfl) ?_;refine r1 ?_;rintro h7 hS;refine r6 ?_;have hS:=hS.Zh8 (e:= (Yf Ze)) (ps:=fun _=>(Yf Ze).dflt);have hS:=hS.nil (e:=Zf);have hS:=hS.nil (e:= (Zz .i64));have hr:=Oi0 hL;subst hr;exact ZX.gen (vs:= [.agg [.slice none 0 0,.slice none 0 0,.int .i64 0,.slice none 0 0].toArray,.int .i64 0,.int .i64 2]) rfl (ZN (Ya rfl (ZV rfl (Zi rfl fh))) (ZU XE YC (hS.Qm k3) (j:=0) rfl rfl (ws:= [.slice none 0 0,.slice none 0 0,.int .i64 0,.slice none 0 0]) rfl) (ZF lk (ZF lk Zu))) rfl ⟨_,⟨none,0,0,(fun _=>(Yf Ze).dflt),none,0,0,none,0,0,rfl,rfl⟩,hT ▸ hS.only (.c k2 (.c k1 (.c k0 .n)))⟩
  ·intro hc hL;refine r8 ?_;refine r1 ?_;refine WC.loop (WL.lift hL (fun(v13:Int) (s:Fs)=>∃ (fr9:Fr) (h8:H),s= ⟨fr9,[],h8,none⟩∧Sp wm T h [bx wm b1 [.slice Zr p0.cells.length Zq,.slice Zn p0.notes.length Zm,.int .i64 p0.names,.slice Zl p0.freed.length Zk],bx wm b3 [.slice none 0 0,.slice none 0 0,.int .i64 0,.slice none 0 0]] h8∧fr9.at 1= .slice Xt p1.length Xr∧fr9.at 2= .pointer (some ⟨b1,0,none⟩)∧fr9.at 4= .pointer (some ⟨b3,0,none⟩)∧fr9.at 7= .int .i64 v13) ⟨_,_,rfl,hS.only (.c k1 (.c k0 .n)),Yy⟩ ?_);clear hL hS;rintro Zib v13 s ZlI hL ⟨fr9,h8,rfl,hS,e10,e11,e12,e14⟩;dsimp only [Zgp] at hL;refine r8 ?_;refine r1 ?_;refine cn hL ?_ ?_
   ·intro hc hL;refine r4 ?_;refine r1 ?_;refine WC.Yo mixed Kq0 ?_;refine r2 ?_;obtain⟨x16,hx16,hL⟩:=bind_some hL;obtain⟨b17,o18,_,Zvj,ZvR,ZvG,ZBh⟩:=Sl.at_ QG hx16;refine WX.w gN rfl (Zx ZmR Zbp lk lk rfl Zvj hx16) ?_ rfl;refine WX.w gN rfl (XG ZoQ Zbp (ZC fh rfl) (At.fz hS.fz ZvG ZvR) (j:=0) rfl rfl (ws:= [.int .i64 x16.Xf,.int .i64 x16.at_,.int .i64 x16.name,.int .i64 x16.ZH]) rfl) ?_ rfl;refine r3 ?_;obtain⟨x19,Zhc,hL⟩:=bind_some hL;refine WX.cp gN rfl (Yx.fn ZGv (Zc lk (Zc lk Zj))) (ZDK Zhc) ?_ rfl rfl;refine r3 ?_;refine cn hL ?_ ?_
    ·intro hc hL;refine r2 ?_;refine WO.w gN rfl (XH ZcN ZI rfl (cs':= [.slice none 0 0,.slice none 0 0,.int .i64 0,.slice none 0 0]) rfl) ?_;refine r1 ?_;rintro h20 hS;refine r8 ?_;refine r2 ?_;have hS:=hS.Zh8 (e:= (Yf Ze)) (ps:=fun _=>(Yf Ze).dflt);have hS:=hS.nil (e:=Zf);have hS:=hS.nil (e:= (Zz .i64));have hr:=Oi0 hL;subst hr;exact ZX.gen (vs:= [.agg [.slice none 0 0,.slice none 0 0,.int .i64 0,.slice none 0 0].toArray,.int .i64 0,.int .i64 2]) rfl (ZN (Ya rfl (Ya rfl e12)) (ZU XE YC (hS.Qm k3) (j:=0) rfl rfl (ws:= [.slice none 0 0,.slice none 0 0,.int .i64 0,.slice none 0 0]) rfl) (ZF lk (ZF lk Zu))) rfl ⟨_,⟨none,0,0,(fun _=>(Yf Ze).dflt),none,0,0,none,0,0,rfl,rfl⟩,hT ▸ hS.only (.c k2 (.c k1 (.c k0 .n)))⟩
    ·intro hc hL;refine r8 ?_;exact Yc.Yp (ZlI _ _ hL ⟨_,_,rfl,hS.only (.c k0 (.c k0 .n)),Yy⟩)
   ·intro hc hL;refine r8 ?_;obtain⟨x21,Zds,hL⟩:=bind_some hL;refine WO.cl gN rfl (Yx.fn ZuY (Zc lk Zj)) hS .n (fun g' hz hf hO=>Zqa (by rw [hz];exact hS.hw) ((hS.sl Zw).mono hf) ((hS.sl ZA).mono hf) ((hS.sl Zy).mono hf) Zds) ?_;rintro _ h31 _ ⟨a22,n23,c24,ZtQ,a25,n26,c27,a28,n29,c30,rfl,rfl⟩ hS;obtain rfl:=hS.JB k0;obtain rfl:=hS.on k1;obtain rfl:=hS.on k2;refine r1 ?_;rintro _ h34 ⟨b33,ZLg,rfl,hS⟩;refine r1 ?_;rintro h35 hS;refine r8 ?_;refine r1 ?_;refine WC.loop (WL.lift hL (fun(p:Int×(List (List Zb))×(List Zd)×Int×(List Int)) (s:Fs)=>match p with | (v41,v43,v48,v52,v53)=>∃ (Za7:Fr) (h36:H) (a44:Option Addr) (c45:Nat) (n46:Nat) (Zx7:Nat ->Option Addr×Nat×Nat) (a49:Option Addr) (c50:Nat) (n51:Nat) (a54:Option Addr) (c55:Nat) (n56:Nat),s= ⟨Za7,[],h36,none⟩∧Sp wm T h [bx wm b3 [.slice none 0 0,.slice none 0 0,.int .i64 0,.slice none 0 0],JV wm (Yf Ze) a44 n46 c45 Zx7 v43,ow wm Zf a49 n51 c50 v48,ow wm (Zz .i64) a54 n56 c55 v53,bx wm b33 [.slice a44 n46 c45,.slice a49 n51 c50,.int .i64 v52,.slice a54 n56 c55]] h36∧Za7.at 1= .slice Xt p1.length Xr∧Za7.at 4= .pointer (some ⟨b3,0,none⟩)∧Za7.at 8= .pointer (some ⟨b33,0,none⟩)∧Za7.at 9= .int .i64 v41) ⟨_,_,a22,c24,x21.cells.length,ZtQ,a25,c27,x21.notes.length,a28,c30,x21.freed.length,rfl,hS.only (.c k5 (.c k1 (.c k1 (.c k1 (.c k0 .n))))),Yy⟩ ?_);clear hL hS;rintro Zt8 ⟨v41,v43,v48,v52,v53⟩ s Zyv hL ⟨Za7,h36,a44,c45,n46,Zx7,a49,c50,n51,a54,c55,n56,rfl,hS,e38,e39,e40,e42⟩;obtain rfl:=hS.JB k1;obtain rfl:=hS.on k2;obtain rfl:=hS.on k3;dsimp only [Zeb] at hL;refine r8 ?_;refine r1 ?_;refine cn hL ?_ ?_
    ·intro hc hL;refine r4 ?_;refine r1 ?_;refine WC.Yo mixed Kq0 ?_;refine r3 ?_;obtain⟨x58,Zyl,hL⟩:=bind_some hL;obtain⟨b59,o60,_,ZGH,ZHn,ZG3,ZMN⟩:=Sl.at_ QG Zyl;refine WX.w gN rfl (Zx ZmR Zbp lk lk rfl ZGH Zyl) ?_ rfl;refine WX.w gN rfl (XG ZoQ Zbp (ZC fh rfl) (At.fz hS.fz ZG3 ZHn) (j:=0) rfl rfl (ws:= [.int .i64 x58.Xf,.int .i64 x58.at_,.int .i64 x58.name,.int .i64 x58.ZH]) rfl) ?_ rfl;obtain⟨x61,Zsp,hL⟩:=bind_some hL;refine WX.clR gN rfl (Yx.fn ZGu (Zc lk (Zc lk Zj))) hS.hw (ZDI (Nat.le_refl _) (hS.nrd k1 KY) (hS.ord k2) (hS.ord k3) Zsp) ?_ rfl rfl;rintro _ h71 _ ⟨a62,n63,c64,ZFk,a65,n66,c67,a68,n69,c70,rfl,rfl⟩ ZKw;have hS:=hS.clR ZKw (.c (cvN (fun _ _ _ _=>trivial) hS.hw) (.c (cvO (fun _ _ _ _=>trivial) hS.hw) (.c (cvO (fun _ _ _ _=>trivial) hS.hw) .n)));obtain rfl:=hS.JB k0;obtain rfl:=hS.on k1;obtain rfl:=hS.on k2;refine r3 ?_;refine WX.hn gN rfl (ZgP hS ZhK (vs:= [.slice none 0 0,.slice none 0 0,.int .i64 0,.slice none 0 0]) rfl) ?_ rfl;rintro _ h74 ⟨b73,ZPW,rfl,hS⟩;refine WX.hu gN (Zbq hS k0 YC lk lk (vs:= [.slice a62 x61.1.cells.length c64,.slice a65 x61.1.notes.length c67,.int .i64 x61.1.names,.slice a68 x61.1.freed.length c70]) rfl rfl rfl rfl (cs':= [.slice a62 x61.1.cells.length c64,.slice a65 x61.1.notes.length c67,.int .i64 x61.1.names,.slice a68 x61.1.freed.length c70]) rfl) ?_ rfl rfl [] Kq0 Yh.e;rintro h75 hS;refine WX.w gN rfl (Yz lk) ?_ Kq0;refine r8 ?_;refine r1 ?_;refine cn hL ?_ ?_
     ·intro hc hL;refine r6 ?_;rintro h76 hS;refine r8 ?_;refine r3 ?_;have hr:=Oi0 hL;subst hr;exact ZX.gen (vs:= [.agg [.slice a44 v43.length c45,.slice a49 v48.length c50,.int .i64 v52,.slice a54 v53.length c55].toArray,.int .i64 v41,.int .i64 x61.2]) rfl (ZN (Ya rfl (Ya rfl (Ye rfl (ZV rfl e39)))) (ZU XE YC (hS.Qm k0) (j:=0) rfl rfl (ws:= [.slice a44 v43.length c45,.slice a49 v48.length c50,.int .i64 v52,.slice a54 v53.length c55]) rfl) (ZF lk (ZF lk Zu))) rfl ⟨_,⟨a44,v43.length,c45,Zx7,a49,v48.length,c50,a54,v53.length,c55,rfl,rfl⟩,hT ▸ hS.only (.c k5 (.c k5 (.c k5 .n)))⟩
     ·intro hc hL;refine r4 ?_;refine r1 ?_;rintro h77 hS;refine r8 ?_;exact Yc.Yp (Zyv _ _ hL ⟨_,_,a62,c64,x61.1.cells.length,ZFk,a65,c67,x61.1.notes.length,a68,c70,x61.1.freed.length,rfl,hS.only (.c k5 (.c k2 (.c k2 (.c k2 (.c k0 .n))))),Yy⟩)
    ·intro hc hL;refine r8 ?_;refine r3 ?_;rintro h78 hS;refine r4 ?_;refine r1 ?_;have hr:=Oi0 hL;subst hr;exact ZX.gen (vs:= [.agg [.slice a44 v43.length c45,.slice a49 v48.length c50,.int .i64 v52,.slice a54 v53.length c55].toArray,.int .i64 (p1.length:Int),.int .i64 0]) rfl (ZN (Ya rfl (Zi rfl e39)) (ZU XE YC (hS.Qm k0) (j:=0) rfl rfl (ws:= [.slice a44 v43.length c45,.slice a49 v48.length c50,.int .i64 v52,.slice a54 v53.length c55]) rfl) (ZF lk (ZF lk Zu))) rfl ⟨_,⟨a44,v43.length,c45,Zx7,a49,v48.length,c50,a54,v53.length,c55,rfl,rfl⟩,hT ▸ hS.only (.c k1 (.c k1 (.c k1 .n)))⟩
theorem Zl7 {F wm:Nat} {h:H} {p0:Store} {p1 p2:Int} {ZO:Nat} {Zn:Option Addr} {Zm Yt:Nat} {Zl:Option Addr} {Zk Yr XB:Nat} {r:Store} (ZK:wm <=h.size) (hO:ZT (wm:=wm) [bx wm XB [.int .i64 p0.machines,.int .i64 p0.names,.map (some ZO),.slice Zn Yt Zm,.slice Zl Yr Zk],mp wm Zo Zt (some ZO) p0.cells,ow wm Zf Zn Yt Zm p0.notes,ow wm (Zz .i64) Zl Yr Zk p0.freed] h) (hL:Zg1 F p0 p1 p2=some r):
 WR XX 106 #[.pointer (some ⟨XB,0,none⟩),.int .i64 p1,.int .i64 p2] wm h (CP (fun(v:Value) (Gb:List (Ast wm))=>∃ (JO:Nat) (JS:Option Addr) (JN:Nat) (JQ:Nat) (JR:Option Addr) (JM:Nat) (JP:Nat),v= .tuple [].toArray∧Gb= [bx wm XB [.int .i64 r.machines,.int .i64 r.names,.map (some JO),.slice JS JN JQ,.slice JR JM JP],mp wm Zo Zt (some JO) r.cells,ow wm Zf JS JN JQ r.notes,ow wm (Zz .i64) JR JM JP r.freed]) [bx wm XB [.int .i64 p0.machines,.int .i64 p0.names,.map (some ZO),.slice Zn Yt Zm,.slice Zl Yr Zk],mp wm Zo Zt (some ZO) p0.cells,ow wm Zf Zn Yt Zm p0.notes,ow wm (Zz .i64) Zl Yr Zk p0.freed] h):=by
 refine bg Try.ntmps106 ZK hO ?_;intro T hT hS;unfold Zg1 at hL;obtain rfl:=hS.on k2;obtain rfl:=hS.on k3;refine r4 ?_;refine r1 ?_;obtain⟨x1,hx1,hL⟩:=bind_some hL;refine WO.cp gN rfl (Yx.fn ZlM (Zc lk (Zc lk (Zc lk Zj)))) (WR.YP rfl (ZhD (Nat.le_refl _) (hS.Qm k0) (.inl (hS.lt k0)) (hS.mrd k1) (hS.ord k2) (hS.ord k3) hx1)) ?_;refine r1 ?_;rintro _ h3 ⟨b2,eb2,rfl,hS⟩;refine r1 ?_;rintro h4 hS;refine QC ?_;refine r2 ?_;refine cn hL ?_ ?_
 ·intro hc hL;refine r2 ?_;have hr:=Oi0 hL;subst hr;exact ZX.gen (vs:= []) rfl Zu rfl ⟨_,⟨ZO,Zn,p0.notes.length,Zm,Zl,p0.freed.length,Zk,rfl,rfl⟩,hT ▸ hS.only (.c k1 (.c k1 (.c k1 (.c k1 .n))))⟩
 ·intro hc hL;refine r8 ?_;refine r2 ?_;refine WO.w gN rfl (Xn X8 (Zp lk (Zp lk ZI)) rfl (cs':= [.int .i64 p1,.int .i64 p2]) rfl) ?_;refine WO.hw gN (ZB6 (kv:=Zo) (vv:=Zt) (k:= (Zg.mk p1 p2)) hS k2 Y7 rfl Uj (ZC (ZV rfl (Zi rfl fh)) rfl) (ZC fh rfl)) ?_;rintro h5 hS;refine r8 ?_;refine r2 ?_;refine cn hL ?_ ?_
  ·intro hc hL;refine r8 ?_;refine WO.hn gN rfl (ZaQ (e:= (Zz .i64)) hS Xo YB Uh rfl rfl rfl (Zp lk ZI) rfl [((),p2)] rfl (xs:= [p2]) rfl (by intro q hq;simp only [List.mem_cons,List.not_mem_nil,or_false] at hq;subst hq;exact trivial) rfl) ?_;rintro _ h7 ⟨b6,eb6,rfl,hS⟩;obtain⟨z8,hz8,hL⟩:=bind_some hL;refine WO.hv gN rfl (KE (e:= (Zz .i64)) hS k5 Kr lk lk (hS.QL k0) (hS.on k0) hz8) ?_;rintro _ h11 ⟨a9,c10,rfl,hS⟩;refine r3 ?_;rintro h12 hS;refine r6 ?_;refine r1 ?_;obtain⟨Uv,Zhd,hL⟩:=bind_some hL;refine WO.cl gN rfl (Yx.fn ZCN (Zc lk Zj)) hS (.c k1 .n) (fun g' hz hf hO=>Zzx (by rw [hz];exact hS.hw) hO Zhd) ?_;rintro _ h14 _ ⟨rfl,rfl⟩ hS;refine r2 ?_;refine ZX.Yp ?_;have hr:=Oi0 hL;subst hr;exact ZX.gen (vs:= []) rfl Zu rfl ⟨_,⟨ZO,Zn,p0.notes.length,Zm,a9,z8.length,c10,rfl,rfl⟩,hT ▸ hS.only (.c k1 (.c k2 (.c k3 (.c k0 .n))))⟩
  ·intro hc hL;refine r1 ?_;refine WC.Yo mixed Kq0 ?_;refine r2 ?_;obtain⟨x16,hx16,hL⟩:=bind_some hL;refine WX.cp gN rfl (Yx.fn Zu4 (Zc lk Zj)) (WR.YP rfl (ZrC (Nat.le_refl _) hx16)) ?_ rfl rfl;refine WX.w gN rfl (Y6 (ZC (ZV rfl fh) rfl) (ZC fh rfl) (ZjA (xs:= [.int .i64 x1.name,.bool x1.root,.int .i64 x1.from_,.int .i64 x1.has,.int .i64 x1.out,.bool x1.use]) (ys:= [.int .i64 x16.name,.bool x16.root,.int .i64 x16.from_,.int .i64 x16.has,.int .i64 x16.out,.bool x16.use]) (ZBp x1 x16) rfl rfl)) ?_ rfl;refine r3 ?_;refine cn hL ?_ ?_
   ·intro hc hL;refine r6 ?_;refine r1 ?_;refine WO.w gN rfl (XH Zg6 (Zp lk (Zp lk (Zp lk (Zp lk ZI)))) rfl (cs':= [.int .i64 2,.int .i64 x1.from_,.int .i64 p2,.int .i64 0,.int .i64 x1.has]) rfl) ?_;obtain⟨x17,ZCt,hL⟩:=bind_some hL;refine WO.cl gN rfl (Yx.fn ZlL (Zc lk (Zc lk Zj))) hS (.c k2 (.c k0 (.c k1 (.c k1 .n)))) (fun g' hz hf hO=>ZhC (by rw [hz];exact hS.hw) hO ZCt) ?_;rintro _ h25 _ ⟨m18,a19,n20,c21,a22,n23,c24,rfl,rfl⟩ hS;obtain rfl:=hS.on k2;obtain rfl:=hS.on k3;refine r2 ?_;refine ZX.Yp ?_;have hr:=Oi0 hL;subst hr;exact ZX.gen (vs:= []) rfl Zu rfl ⟨_,⟨m18,a19,x17.notes.length,c21,a22,x17.freed.length,c24,rfl,rfl⟩,hT ▸ hS.only (.c k0 (.c k0 (.c k0 (.c k0 .n))))⟩
   ·intro hc hL;refine r2 ?_;refine ZX.Yp ?_;have hr:=Oi0 hL;subst hr;exact ZX.gen (vs:= []) rfl Zu rfl ⟨_,⟨ZO,Zn,p0.notes.length,Zm,Zl,p0.freed.length,Zk,rfl,rfl⟩,hT ▸ hS.only (.c k2 (.c k0 (.c k1 (.c k1 .n))))⟩
end Go.Proofs.Ytekpjgmhkkjhgaa
end
end
section
namespace Go.Proofs.Ytekpjgmhkkjhgaa
open Go.Lf
def Zgh (F:Nat) (p1:Zd):Int×Int×(List (Zg×Zb))×(List Zd)×(List Int) ->Option Store:=fun(v49,v50,v51,v53,v57)=>
 (Zg1 F (Store.mk v49 v50 v51 v53 v57) p1.ZH p1.name).bind fun x61=>some x61
def ZsE (F:Nat) (p0:Store) (p1:Zd):Option Store:=
 (Zg3 p0 p1.ZH p1.name).bind fun x5=>(bif(p1.kind==1) then(bif(((!x5.root) && (decide (x5.from_ < 0))) && (p1.via !=p1.ZH)) then some (Store.mk p0.machines p0.names (Xi p0.cells (Zg.mk p1.ZH p1.name) (Zb.mk x5.name x5.root p1.via p1.w x5.out true)) p0.notes p0.freed) else(bif((decide (x5.from_ >=0)) && (x5.from_==p1.via)) then some (Store.mk p0.machines p0.names (Xi p0.cells (Zg.mk p1.ZH p1.name) (Zb.mk x5.name x5.root x5.from_ (ZP (x5.has + p1.w)) x5.out true)) p0.notes p0.freed) else(Zg2 (Store.mk p0.machines p0.names (Xi p0.cells (Zg.mk p1.ZH p1.name) (Zb.mk x5.name x5.root x5.from_ x5.has x5.out true)) p0.notes p0.freed) p1.ZH p1.name p1.via p1.w).bind fun x18=>some x18)) else(bif(p1.kind==2) then(Zg1 F (Store.mk p0.machines p0.names (Xi p0.cells (Zg.mk p1.ZH p1.name) (Zb.mk x5.name x5.root x5.from_ x5.has (ZP (x5.out - p1.w)) x5.use)) p0.notes p0.freed) p1.ZH p1.name).bind fun x30=>some x30 else(bif decide (x5.from_ >=0) then(Zg2 (Store.mk p0.machines p0.names (Xi p0.cells (Zg.mk p1.ZH p1.name) (Zb.mk x5.name true (-1) 0 (ZP (x5.out + 16)) x5.use)) p0.notes p0.freed) p1.ZH p1.name x5.from_ x5.has).bind fun x71=>(Zgh F p1) (x71.machines,x71.names,x71.cells,x71.notes,x71.freed) else(Zgh F p1) (p0.machines,p0.names,Xi p0.cells (Zg.mk p1.ZH p1.name) (Zb.mk x5.name true (-1) 0 (ZP (x5.out + 16)) x5.use),p0.notes,p0.freed))))
def Zf5:Zg ->Int ->Option Bool:=fun ZIV ZES=>
 (bif decide (ZES > 1000000) then some true else some false)
def ZaH (F:Nat):Int×Int×(List (Zg×Zb))×(List Zd)×(List Int) ->Option (PR Store):=fun(v14,v15,v16,v18,v22)=>
 (bif decide ((v18.length:Int) > 80) then some (.Jz 3) else(ZsD F (Store.mk v14 v15 v16 v18 v22)).bind fun QK=>(Zkx (Zf5) QK.1).bind fun q37=>(bif q37 then some (.Jz 3) else some (.ok (Store.mk v14 v15 v16 v18 v22))))
def Zwh (F:Nat) (p0:Store) (p1:Zv):Option (PR Store):=
 (Zn8 p0 p1).bind fun x3=>prC x3 (fun e5=>some (.Jz e5)) (fun y4=>(bif(p1.Xf==1) then(ZaH F) (p0.machines,ZP (p0.names + 1),Xi p0.cells (Zg.mk p1.at_ p0.names) (Zb.mk p0.names true (-1) 0 0 true),p0.notes,p0.freed) else(bif(p1.Xf==2) then(Zn7 p0 p1).bind fun x103=>(ZaH F) (x103.machines,x103.names,x103.cells,x103.notes,x103.freed) else(bif(p1.Xf==3) then(ZaE p0.cells (Zg.mk p1.at_ p1.name) (Zb.mk 0 false 0 0 0 false)).bind fun x113=>(Zg1 F (Store.mk p0.machines p0.names (Xi p0.cells (Zg.mk p1.at_ p1.name) (Zb.mk x113.name x113.root x113.from_ x113.has x113.out false)) p0.notes p0.freed) p1.at_ p1.name).bind fun ZmL=>(ZaH F) (ZmL.machines,ZmL.names,ZmL.cells,ZmL.notes,ZmL.freed) else(bif(p1.Xf==4) then(ZaE p0.cells (Zg.mk p1.at_ p1.name) (Zb.mk 0 false 0 0 0 false)).bind fun Jy=>(Zav (Store.mk p0.machines p0.names (Xi p0.cells (Zg.mk p1.at_ p1.name) (Zb.mk Jy.name false p1.ZH 16 Jy.out Jy.use)) p0.notes p0.freed) (Zd.mk 3 p1.ZH p1.name 0 16)).bind fun ZmK=>(ZaH F) (ZmK.machines,ZmK.names,ZmK.cells,ZmK.notes,ZmK.freed) else(ZM p0.notes p1.at_).bind fun Zb3=>(Zn6 p0.notes p1.at_ (ZP (p1.at_ + 1))).bind fun ZxL=>(ZsE F (Store.mk p0.machines p0.names p0.cells ZxL p0.freed) Zb3).bind fun ZmJ=>(ZaH F) (ZmJ.machines,ZmJ.names,ZmJ.cells,ZmJ.notes,ZmJ.freed))))))
end Go.Proofs.Ytekpjgmhkkjhgaa
end
section
set_option maxRecDepth 20000
noncomputable section
namespace Go.Proofs.Ytekpjgmhkkjhgaa
open Go.YD Go.Lf
theorem Zwq {F wm:Nat} {h:H} {p0:Store} {p1:Zd} {ZO:Nat} {Zn:Option Addr} {Zm Yt:Nat} {Zl:Option Addr} {Zk Yr XB:Nat} {r:Store} (ZK:wm <=h.size) (hO:ZT (wm:=wm) [bx wm XB [.int .i64 p0.machines,.int .i64 p0.names,.map (some ZO),.slice Zn Yt Zm,.slice Zl Yr Zk],mp wm Zo Zt (some ZO) p0.cells,ow wm Zf Zn Yt Zm p0.notes,ow wm (Zz .i64) Zl Yr Zk p0.freed] h) (hL:ZsE F p0 p1=some r):
 WR XX 66 #[.pointer (some ⟨XB,0,none⟩),.agg [.int .i64 p1.kind,.int .i64 p1.ZH,.int .i64 p1.name,.int .i64 p1.via,.int .i64 p1.w].toArray] wm h (CP (fun(v:Value) (Gb:List (Ast wm))=>∃ (JO:Nat) (JS:Option Addr) (JN:Nat) (JQ:Nat) (JR:Option Addr) (JM:Nat) (JP:Nat),v= .tuple [].toArray∧Gb= [bx wm XB [.int .i64 r.machines,.int .i64 r.names,.map (some JO),.slice JS JN JQ,.slice JR JM JP],mp wm Zo Zt (some JO) r.cells,ow wm Zf JS JN JQ r.notes,ow wm (Zz .i64) JR JM JP r.freed]) [bx wm XB [.int .i64 p0.machines,.int .i64 p0.names,.map (some ZO),.slice Zn Yt Zm,.slice Zl Yr Zk],mp wm Zo Zt (some ZO) p0.cells,ow wm Zf Zn Yt Zm p0.notes,ow wm (Zz .i64) Zl Yr Zk p0.freed] h):=by
 refine bg Try.ntmps66 ZK hO ?_;intro T hT hS;unfold ZsE at hL;obtain rfl:=hS.on k2;obtain rfl:=hS.on k3;refine r3 ?_;rintro _ h2 ⟨b1,eb1,rfl,hS⟩;refine r1 ?_;rintro _ h4 ⟨b3,eb3,rfl,hS⟩;refine r8 ?_;refine r1 ?_;obtain⟨x5,hx5,hL⟩:=bind_some hL;refine WO.cp gN rfl (Yx.fn ZlM (Zc lk (Zc lk (Zc lk Zj)))) (WR.YP rfl (ZhD (Nat.le_refl _) (hS.Qm k2) (.inl (hS.lt k2)) (hS.mrd k3) (hS.ord k4) (hS.ord k5) hx5)) ?_;refine r1 ?_;rintro _ h7 ⟨b6,eb6,rfl,hS⟩;refine r1 ?_;rintro h8 hS;refine r4 ?_;refine WO.w gN rfl (Zee (Zc lk (Zc lk (Zc lk Zj)))) ?_;refine r16 ?_;refine cn hL ?_ ?_
 ·intro hc hL;refine r4 ?_;rintro h9 hS;refine r16 ?_;refine r6 ?_;refine r1 ?_;refine cn hL ?_ ?_
  ·intro hc hL;refine r1 ?_;refine WC.Yo mixed Kq0 ?_;refine r3 ?_;refine WX.wr (fun x=>x=b3) hS gN rfl (fun _ _ hR=>ZE YW (ZC fh rfl) (At.eqv (hR b3 rfl) (hS.Qm k1)) (j:=4) rfl (v:= .int .i64 p1.w) rfl) ?_ rfl rfl;rintro h10 e11 hS;refine r1 ?_;refine WX.hu gN (Zbq hS k0 YB lk lk (vs:= [.int .i64 p1.via]) rfl rfl rfl rfl (cs':= [.int .i64 x5.name,.bool x5.root,.int .i64 p1.via,.int .i64 x5.has,.int .i64 x5.out,.bool true]) rfl) ?_ rfl rfl [3] Kq0 (.c .z (hS.dj (.c k0 (.c k0 .n))) Yh.e);rintro h12 hS;refine WX.w gN rfl (XP ZlR lk) ?_ Kq0;refine WX.hu gN (Zbq hS k0 YB lk lk (vs:= [.int .i64 p1.w]) rfl rfl rfl rfl (cs':= [.int .i64 x5.name,.bool x5.root,.int .i64 p1.via,.int .i64 p1.w,.int .i64 x5.out,.bool true]) rfl) ?_ rfl Kq0 [] Kq0 Yh.e;rintro h13 hS;refine r4 ?_;refine WO.inl gN rfl (Yx.clo (first:= []) (cap:= [.pointer (some ⟨b6,0,none⟩),.pointer (some ⟨b1,0,none⟩),.pointer (some ⟨b3,0,none⟩)]) lk Ziv Zj rfl) (WF.begin (args:= [_,_,_]) (fn:=Try.f104) Kq0 (by exact rfl) Try.ntmps104 (by simp) ?_);simp only [ZQ,ZW,Nat.reduceAdd];refine WC.Yo mixed Kq0 ?_;refine r8 ?_;refine WX.w gN rfl (Xn X8 (Zp lk (Zp lk ZI)) rfl (cs':= [.int .i64 p1.ZH,.int .i64 p1.name]) rfl) ?_ rfl;refine r1 ?_;refine WX.hu gN (Zca (kv:=Zo) (vv:=Zt) (k:= (Zg.mk p1.ZH p1.name)) (v:= (Zb.mk x5.name x5.root p1.via p1.w x5.out true)) hS k4 Y7 Uj (ZC (Ye rfl (ZV rfl fh)) rfl) (ZC (Zi rfl fh) rfl) (ZC fh rfl)) ?_ rfl rfl [] Kq0 Yh.e;rintro h14 hS;refine r1 ?_;refine ZX.Yp ?_;refine ZX.gen (vs:= []) rfl Zu rfl ?_;refine r3 ?_;refine ZX.Yp ?_;have hr:=Oi0 hL;subst hr;exact ZX.gen (vs:= []) rfl Zu rfl ⟨_,⟨ZO,Zn,p0.notes.length,Zm,Zl,p0.freed.length,Zk,rfl,rfl⟩,hT ▸ hS.only (.c k4 (.c k0 (.c k3 (.c k3 .n))))⟩
  ·intro hc hL;refine QC ?_;refine r3 ?_;refine cn hL ?_ ?_
   ·intro hc hL;refine r8 ?_;refine r1 ?_;rintro h15 hS;refine r4 ?_;refine WO.inl gN rfl (Yx.clo (first:= []) (cap:= [.pointer (some ⟨b6,0,none⟩),.pointer (some ⟨b1,0,none⟩),.pointer (some ⟨b3,0,none⟩)]) lk Ziv Zj rfl) (WF.begin (args:= [_,_,_]) (fn:=Try.f104) Kq0 (by exact rfl) Try.ntmps104 (by simp) ?_);simp only [ZQ,ZW,Nat.reduceAdd];refine WC.Yo mixed Kq0 ?_;refine r8 ?_;refine WX.w gN rfl (Xn X8 (Zp lk (Zp lk ZI)) rfl (cs':= [.int .i64 p1.ZH,.int .i64 p1.name]) rfl) ?_ rfl;refine r1 ?_;refine WX.hu gN (Zca (kv:=Zo) (vv:=Zt) (k:= (Zg.mk p1.ZH p1.name)) (v:= (Zb.mk x5.name x5.root x5.from_ (ZP (x5.has + p1.w)) x5.out true)) hS k4 Y7 Uj (ZC (Ye rfl (ZV rfl fh)) rfl) (ZC (Zi rfl fh) rfl) (ZC fh rfl)) ?_ rfl rfl [] Kq0 Yh.e;rintro h16 hS;refine r1 ?_;refine ZX.Yp ?_;refine ZX.gen (vs:= []) rfl Zu rfl ?_;refine r3 ?_;refine ZX.Yp ?_;have hr:=Oi0 hL;subst hr;exact ZX.gen (vs:= []) rfl Zu rfl ⟨_,⟨ZO,Zn,p0.notes.length,Zm,Zl,p0.freed.length,Zk,rfl,rfl⟩,hT ▸ hS.only (.c k4 (.c k0 (.c k3 (.c k3 .n))))⟩
   ·intro hc hL;refine r3 ?_;refine WO.inl gN rfl (Yx.clo (first:= []) (cap:= [.pointer (some ⟨b6,0,none⟩),.pointer (some ⟨b1,0,none⟩),.pointer (some ⟨b3,0,none⟩)]) lk Ziv Zj rfl) (WF.begin (args:= [_,_,_]) (fn:=Try.f104) Kq0 (by exact rfl) Try.ntmps104 (by simp) ?_);simp only [ZQ,ZW,Nat.reduceAdd];refine WC.Yo mixed Kq0 ?_;refine r8 ?_;refine WX.w gN rfl (Xn X8 (Zp lk (Zp lk ZI)) rfl (cs':= [.int .i64 p1.ZH,.int .i64 p1.name]) rfl) ?_ rfl;refine r1 ?_;refine WX.hu gN (Zca (kv:=Zo) (vv:=Zt) (k:= (Zg.mk p1.ZH p1.name)) (v:= (Zb.mk x5.name x5.root x5.from_ x5.has x5.out true)) hS k4 Y7 Uj (ZC (Ye rfl (ZV rfl fh)) rfl) (ZC (Zi rfl fh) rfl) (ZC fh rfl)) ?_ rfl rfl [] Kq0 Yh.e;rintro h17 hS;refine r1 ?_;refine ZX.Yp ?_;refine ZX.gen (vs:= []) rfl Zu rfl ?_;refine QC ?_;obtain⟨x18,Zd5,hL⟩:=bind_some hL;refine WO.cl gN rfl (Yx.fn Zu6 (Zc lk (Zc lk (Zc lk (Zc lk (Zc lk Zj)))))) hS (.c k4 (.c k0 (.c k3 (.c k3 .n)))) (fun g' hz hf hO=>ZrF (by rw [hz];exact hS.hw) hO Zd5) ?_;rintro _ h26 _ ⟨m19,a20,n21,c22,a23,n24,c25,rfl,rfl⟩ hS;obtain rfl:=hS.on k2;obtain rfl:=hS.on k3;refine r3 ?_;refine ZX.Yp ?_;have hr:=Oi0 hL;subst hr;exact ZX.gen (vs:= []) rfl Zu rfl ⟨_,⟨m19,a20,x18.notes.length,c22,a23,x18.freed.length,c25,rfl,rfl⟩,hT ▸ hS.only (.c k0 (.c k0 (.c k0 (.c k0 .n))))⟩
 ·intro hc hL;refine r6 ?_;refine cn hL ?_ ?_
  ·intro hc hL;refine r8 ?_;refine r1 ?_;rintro h28 hS;refine r4 ?_;refine r1 ?_;refine WO.inl gN rfl (Yx.clo (first:= []) (cap:= [.pointer (some ⟨b6,0,none⟩),.pointer (some ⟨b1,0,none⟩),.pointer (some ⟨b3,0,none⟩)]) lk Ziv Zj rfl) (WF.begin (args:= [_,_,_]) (fn:=Try.f104) Kq0 (by exact rfl) Try.ntmps104 (by simp) ?_);simp only [ZQ,ZW,Nat.reduceAdd];refine WC.Yo mixed Kq0 ?_;refine r8 ?_;refine WX.w gN rfl (Xn X8 (Zp lk (Zp lk ZI)) rfl (cs':= [.int .i64 p1.ZH,.int .i64 p1.name]) rfl) ?_ rfl;refine r1 ?_;refine WX.hu gN (Zca (kv:=Zo) (vv:=Zt) (k:= (Zg.mk p1.ZH p1.name)) (v:= (Zb.mk x5.name x5.root x5.from_ x5.has (ZP (x5.out - p1.w)) x5.use)) hS k4 Y7 Uj (ZC (Ye rfl (ZV rfl fh)) rfl) (ZC (Zi rfl fh) rfl) (ZC fh rfl)) ?_ rfl rfl [] Kq0 Yh.e;rintro h29 hS;refine r1 ?_;refine ZX.Yp ?_;refine ZX.gen (vs:= []) rfl Zu rfl ?_;refine r8 ?_;obtain⟨x30,Zf1,hL⟩:=bind_some hL;refine WO.cl gN rfl (Yx.fn ZpT (Zc lk (Zc lk (Zc lk Zj)))) hS (.c k4 (.c k0 (.c k3 (.c k3 .n)))) (fun g' hz hf hO=>Zl7 (by rw [hz];exact hS.hw) hO Zf1) ?_;rintro _ h38 _ ⟨m31,a32,n33,c34,a35,n36,c37,rfl,rfl⟩ hS;obtain rfl:=hS.on k2;obtain rfl:=hS.on k3;refine r2 ?_;refine ZX.Yp ?_;have hr:=Oi0 hL;subst hr;exact ZX.gen (vs:= []) rfl Zu rfl ⟨_,⟨m31,a32,x30.notes.length,c34,a35,x30.freed.length,c37,rfl,rfl⟩,hT ▸ hS.only (.c k0 (.c k0 (.c k0 (.c k0 .n))))⟩
  ·intro hc hL;refine r1 ?_;refine WC.Yo mixed Kq0 ?_;refine QC ?_;rintro h40 hS;refine r2 ?_;rintro h41 hS;refine r2 ?_;rintro h42 hS;refine r8 ?_;refine r1 ?_;rintro h43 hS;refine r4 ?_;refine r1 ?_;refine WO.inl gN rfl (Yx.clo (first:= []) (cap:= [.pointer (some ⟨b6,0,none⟩),.pointer (some ⟨b1,0,none⟩),.pointer (some ⟨b3,0,none⟩)]) lk Ziv Zj rfl) (WF.begin (args:= [_,_,_]) (fn:=Try.f104) Kq0 (by exact rfl) Try.ntmps104 (by simp) ?_);simp only [ZQ,ZW,Nat.reduceAdd];refine WC.Yo mixed Kq0 ?_;refine r8 ?_;refine WX.w gN rfl (Xn X8 (Zp lk (Zp lk ZI)) rfl (cs':= [.int .i64 p1.ZH,.int .i64 p1.name]) rfl) ?_ rfl;refine r1 ?_;refine WX.hu gN (Zca (kv:=Zo) (vv:=Zt) (k:= (Zg.mk p1.ZH p1.name)) (v:= (Zb.mk x5.name true (-1) 0 (ZP (x5.out + 16)) x5.use)) hS k4 Y7 Uj (ZC (Ye rfl (ZV rfl fh)) rfl) (ZC (Zi rfl fh) rfl) (ZC fh rfl)) ?_ rfl rfl [] Kq0 Yh.e;rintro h44 hS;refine r1 ?_;refine ZX.Yp ?_;refine ZX.gen (vs:= []) rfl Zu rfl ?_;refine r2 ?_;refine WC.Ki (r:=r) (fun(p:Int×Int×(List (Zg×Zb))×(List Zd)×(List Int)) (s:Fs)=>match p with | (v49,v50,v51,v53,v57)=>∃ (UX:Fr) (h45:H) (m52:Nat) (a54:Option Addr) (c55:Nat) (n56:Nat) (a58:Option Addr) (c59:Nat) (n60:Nat),s= ⟨UX,[],h45,none⟩∧Sp wm T h [bx wm b1 [.pointer (some ⟨XB,0,none⟩)],mp wm Zo Zt (some m52) v51,ow wm Zf a54 n56 c55 v53,ow wm (Zz .i64) a58 n60 c59 v57,bx wm XB [.int .i64 v49,.int .i64 v50,.map (some m52),.slice a54 n56 c55,.slice a58 n60 c59],bx wm b3 [.int .i64 p1.kind,.int .i64 p1.ZH,.int .i64 p1.name,.int .i64 p1.via,.int .i64 p1.w]] h45∧UX.at 2= .pointer (some ⟨b1,0,none⟩)∧UX.at 3= .pointer (some ⟨b3,0,none⟩)) (Zgh F p1) ?_ ?_
   ·clear hL hS;rintro⟨v49,v50,v51,v53,v57⟩ s hL ⟨UX,h45,m52,a54,c55,n56,a58,c59,n60,rfl,hS,e47,e48⟩;obtain rfl:=hS.on k2;obtain rfl:=hS.on k3;dsimp only [Zgh] at hL;refine r6 ?_;obtain⟨x61,Zsp,hL⟩:=bind_some hL;refine WO.cl gN rfl (Yx.fn ZpT (Zc lk (Zc lk (Zc lk Zj)))) hS (.c k4 (.c k1 (.c k1 (.c k1 .n)))) (fun g' hz hf hO=>Zl7 (by rw [hz];exact hS.hw) hO Zsp) ?_;rintro _ h69 _ ⟨m62,a63,n64,c65,a66,n67,c68,rfl,rfl⟩ hS;obtain rfl:=hS.on k2;obtain rfl:=hS.on k3;refine r2 ?_;refine ZX.Yp ?_;have hr:=Oi0 hL;subst hr;exact ZX.gen (vs:= []) rfl Zu rfl ⟨_,⟨m62,a63,x61.notes.length,c65,a66,x61.freed.length,c68,rfl,rfl⟩,hT ▸ hS.only (.c k0 (.c k0 (.c k0 (.c k0 .n))))⟩
   ·skip;refine r6 ?_;refine cn hL ?_ ?_
    ·intro hc hL;refine r8 ?_;obtain⟨x71,ZJR,hL⟩:=bind_some hL;refine WO.cl gN rfl (Yx.fn Zu6 (Zc lk (Zc lk (Zc lk (Zc lk (Zc lk Zj)))))) hS (.c k4 (.c k0 (.c k3 (.c k3 .n)))) (fun g' hz hf hO=>ZrF (by rw [hz];exact hS.hw) hO ZJR) ?_;rintro _ h79 _ ⟨m72,a73,n74,c75,a76,n77,c78,rfl,rfl⟩ hS;obtain rfl:=hS.on k2;obtain rfl:=hS.on k3;refine r1 ?_;exact Y8.Yp _ hL ⟨_,_,m72,a73,c75,x71.notes.length,a76,c78,x71.freed.length,rfl,hS.only (.c k6 (.c k1 (.c k1 (.c k1 (.c k0 (.c k1 .n)))))),Yy⟩
    ·intro hc hL;refine r1 ?_;exact Y8.Yp _ hL ⟨_,_,ZO,Zn,Zm,p0.notes.length,Zl,Zk,p0.freed.length,rfl,hS.only (.c k3 (.c k0 (.c k3 (.c k3 (.c k2 (.c k1 .n)))))),Yy⟩
theorem Zwg {F wm:Nat} {h:H} {p0:Store} {p1:Zv} {ZO:Nat} {Zn:Option Addr} {Zm Yt:Nat} {Zl:Option Addr} {Zk Yr XB:Nat} {r:(PR Store)} (ZK:wm <=h.size) (hO:ZT (wm:=wm) [bx wm XB [.int .i64 p0.machines,.int .i64 p0.names,.map (some ZO),.slice Zn Yt Zm,.slice Zl Yr Zk],mp wm Zo Zt (some ZO) p0.cells,ow wm Zf Zn Yt Zm p0.notes,ow wm (Zz .i64) Zl Yr Zk p0.freed] h) (hL:Zwh F p0 p1=some r):
 WF XX 95 #[.pointer (some ⟨XB,0,none⟩),.agg [.int .i64 p1.Xf,.int .i64 p1.at_,.int .i64 p1.name,.int .i64 p1.ZH].toArray] wm h (PQ 32 (fun(r:Store) (v:Value) (Gb:List (Ast wm))=>∃ (JO:Nat) (JS:Option Addr) (JN:Nat) (JQ:Nat) (JR:Option Addr) (JM:Nat) (JP:Nat),v= .tuple [].toArray∧Gb= [bx wm XB [.int .i64 r.machines,.int .i64 r.names,.map (some JO),.slice JS JN JQ,.slice JR JM JP],mp wm Zo Zt (some JO) r.cells,ow wm Zf JS JN JQ r.notes,ow wm (Zz .i64) JR JM JP r.freed]) [bx wm XB [.int .i64 p0.machines,.int .i64 p0.names,.map (some ZO),.slice Zn Yt Zm,.slice Zl Yr Zk],mp wm Zo Zt (some ZO) p0.cells,ow wm Zf Zn Yt Zm p0.notes,ow wm (Zz .i64) Zl Yr Zk p0.freed] h r):=by
 refine WF.ZgF (args:= [_,_]) (fn:=Try.f95) Kq0 (by exact rfl) Try.ntmps95 (by simp) ?_;simp only [ZQ,ZW,Nat.reduceAdd];obtain⟨T,hT,hS⟩:∃ T,T=XL (wm:=wm) [bx wm XB [.int .i64 p0.machines,.int .i64 p0.names,.map (some ZO),.slice Zn Yt Zm,.slice Zl Yr Zk],mp wm Zo Zt (some ZO) p0.cells,ow wm Zf Zn Yt Zm p0.notes,ow wm (Zz .i64) Zl Yr Zk p0.freed]∧Sp wm T h [bx wm XB [.int .i64 p0.machines,.int .i64 p0.names,.map (some ZO),.slice Zn Yt Zm,.slice Zl Yr Zk],mp wm Zo Zt (some ZO) p0.cells,ow wm Zf Zn Yt Zm p0.notes,ow wm (Zz .i64) Zl Yr Zk p0.freed] h:= ⟨_,rfl,Sp.start ZK hO⟩
 unfold Zwh at hL;obtain rfl:=hS.on k2;obtain rfl:=hS.on k3;refine r3 ?_;rintro _ h2 ⟨b1,eb1,rfl,hS⟩;refine r6 ?_;obtain⟨x3,hx3,hL⟩:=bind_some hL;rcases x3 with y4 | e5
 ·skip;replace hL:=ZtR hL;refine WO.clR gN rfl (Yx.fn Zu5 (Zc lk (Zc lk Zj))) hS.hw (PQ.ok (ZrD (Nat.le_refl _) (hS.Qm k1) (.inl (hS.lt k1)) (hS.mrd k2) (hS.ord k3) (hS.ord k4) hx3)) ?_;rintro _ h6 _ ⟨rfl,rfl⟩ hR7;have hS:=hS.clR hR7 .n;refine r8 ?_;refine WO.w gN rfl (Xn X8 (Zp lk (Zp lk ZI)) rfl (cs':= [.int .i64 p1.at_,.int .i64 p1.name]) rfl) ?_;refine r1 ?_;rintro _ h9 ⟨b8,eb8,rfl,hS⟩;refine r1 ?_;rintro h10 hS;refine r2 ?_;refine WC.Ki (r:=r) (fun(p:Int×Int×(List (Zg×Zb))×(List Zd)×(List Int)) (s:Fs)=>match p with | (v14,v15,v16,v18,v22)=>∃ (ZDp:Fr) (h11:H) (m17:Nat) (a19:Option Addr) (c20:Nat) (n21:Nat) (a23:Option Addr) (c24:Nat) (n25:Nat),s= ⟨ZDp,[],h11,none⟩∧Sp wm T h [mp wm Zo Zt (some m17) v16,ow wm Zf a19 n21 c20 v18,ow wm (Zz .i64) a23 n25 c24 v22,bx wm XB [.int .i64 v14,.int .i64 v15,.map (some m17),.slice a19 n21 c20,.slice a23 n25 c24]] h11∧ZDp.at 0= .pointer (some ⟨XB,0,none⟩)) (ZaH F) ?_ ?_
  ·clear hL hS;rintro⟨v14,v15,v16,v18,v22⟩ s hL ⟨ZDp,h11,m17,a19,c20,n21,a23,c24,n25,rfl,hS,e13⟩;obtain rfl:=hS.on k1;obtain rfl:=hS.on k2;dsimp only [ZaH] at hL;refine r8 ?_;refine r3 ?_;refine cn hL ?_ ?_
   ·intro hc hL;refine r1 ?_;refine WO.w gN rfl (ZgG lk Kq0) ?_;refine WO.pnc gN lk ?_;refine QM.panic ?_;refine Qa.ofX ?_;refine Zbl.Jz ?_;have hr:=Oi0 hL;subst hr;exact⟨rfl,hT ▸ hS.only .n⟩
   ·intro hc hL;refine r4 ?_;refine r1 ?_;obtain⟨QK,Zf2,hL⟩:=bind_some hL;refine WO.clR gN rfl (Yx.fn ZAV (Zc lk Zj)) hS.hw (Zwo (Nat.le_refl _) (hS.Qm k3) (.inl (hS.lt k3)) (hS.mrd k0) (hS.ord k1) (hS.ord k2) Zf2) ?_;rintro _ h29 _ ⟨m27,m28,rfl,rfl⟩ ZKC;have hS:=hS.clR ZKC (.c (cvM hS.hw) (.c (cvM hS.hw) .n));refine r8 ?_;refine r2 ?_;refine WO.rng gN rfl hS U1 lk (hS.get k0).at_ ?_;rintro h36 b31 ZQG ZNA hS ZKc ZKq;refine r3 ?_;obtain⟨q37,ZJ6,hL⟩:=bind_some hL;refine WC.loop (WL.ZJn [11,137,138,139,140,141,142,143] (pv 32 3) ZJ6 hS k0 fh ZKc ZKq rfl rfl rfl rfl rfl rfl rfl rfl ?_ ?_ ?_)
    ·clear hL hS;rintro⟨ZIV,ZES⟩ p40 hL h41 Wd Zdv hS ZKN;dsimp only [Zf5] at hL;have e45:=Zdv.at (t:=0) rfl (Ya rfl (Ye rfl (ZV rfl (Zi rfl e13))));have e46:=Zdv.at (t:=123) rfl (Ya rfl (Ye rfl (ZV rfl fh)));have e47:=Zdv.at (t:=124) rfl (Ya rfl (Ye rfl (Zi rfl fh)));have e48:=Zdv.at (t:=125) rfl (Ya rfl (Ye rfl fh));have e49:=Zdv.at (t:=126) rfl (Ya rfl (ZV rfl (Zi rfl fh)));have e50:=Zdv.at (t:=127) rfl (Ya rfl (ZV rfl fh));have e51:=Zdv.at (t:=128) rfl (Ya rfl (Zi rfl fh));have e52:=Zdv.at (t:=131) rfl (Ya rfl fh);have e53:=Zdv.at (t:=132) rfl (Ye rfl (ZV rfl (Zi rfl fh)));have e54:=Zdv.at (t:=130) rfl (Ye rfl (ZV rfl fh));have e55:=Zdv.at (t:=133) rfl (Ye rfl (Zi rfl fh));have e56:=Zdv.at (t:=134) rfl (Ye rfl fh);have e57:=Zdv.at (t:=8) rfl (ZV rfl (Zi rfl fh));have e58:=Zdv.at (t:=9) rfl (ZV rfl fh);have e59:=Zdv.at (t:=135) rfl (Zi rfl fh);have e60:=Zdv.at (t:=136) rfl fh;refine r4 ?_;refine WC.Zmn lk rfl ?_;refine r4 ?_;refine r1 ?_;refine WO.w gN rfl (Zw1 lk ZKN) ?_;refine r8 ?_;refine r2 ?_;refine cn hL ?_ ?_
     ·intro hc hL;refine r1 ?_;refine WO.w gN rfl (ZgG lk Kq0) ?_;refine WO.pnc gN lk ?_;refine Wx.panic ?_;have hp:=Oi0 hL;subst hp;exact ZqK.panic (.s rfl (.s rfl (.s rfl (.s rfl (.s rfl (.s rfl (.s rfl (.s rfl .z))))))))
     ·intro hc hL;refine r2 ?_;have hp:=Oi0 hL;subst hp;exact ZqK.Yp (.s rfl (.s rfl (.s rfl (.s rfl (.s rfl (.s rfl (.s rfl .z)))))))
    ·intro ZJ5 h62 ZPK Zdu hS;replace hL:=Wn ZJ5 hL;have e65:=Zdu.at (t:=0) rfl (Ya rfl (Ye rfl (ZV rfl (Zi rfl e13))));have e66:=Zdu.at (t:=123) rfl (Ya rfl (Ye rfl (ZV rfl fh)));have e67:=Zdu.at (t:=124) rfl (Ya rfl (Ye rfl (Zi rfl fh)));have e68:=Zdu.at (t:=125) rfl (Ya rfl (Ye rfl fh));have e69:=Zdu.at (t:=126) rfl (Ya rfl (ZV rfl (Zi rfl fh)));have e70:=Zdu.at (t:=127) rfl (Ya rfl (ZV rfl fh));have e71:=Zdu.at (t:=128) rfl (Ya rfl (Zi rfl fh));have e72:=Zdu.at (t:=131) rfl (Ya rfl fh);have e73:=Zdu.at (t:=132) rfl (Ye rfl (ZV rfl (Zi rfl fh)));have e74:=Zdu.at (t:=130) rfl (Ye rfl (ZV rfl fh));have e75:=Zdu.at (t:=133) rfl (Ye rfl (Zi rfl fh));have e76:=Zdu.at (t:=134) rfl (Ye rfl fh);have e77:=Zdu.at (t:=8) rfl (ZV rfl (Zi rfl fh));have e78:=Zdu.at (t:=9) rfl (ZV rfl fh);have e79:=Zdu.at (t:=135) rfl (Zi rfl fh);have e80:=Zdu.at (t:=136) rfl fh;refine r4 ?_;refine WC.Zgx lk rfl ?_;refine r2 ?_;refine ZAe.exit ?_;refine r1 ?_;refine Qa.Yp ?_;have hr:=Oi0 hL;subst hr;exact Qa.Zv0 rfl Zu rfl ⟨_,⟨m17,a19,v18.length,c20,a23,v22.length,c24,rfl,rfl⟩,hT ▸ hS.only (.c k5 (.c k2 (.c k2 (.c k2 .n))))⟩
    ·intro ZJ4 h82 ZPJ Zdt hS;replace hL:=Wm ZJ4 hL;have e85:=Zdt.at (t:=0) rfl (Ya rfl (Ye rfl (ZV rfl (Zi rfl e13))));have e86:=Zdt.at (t:=123) rfl (Ya rfl (Ye rfl (ZV rfl fh)));have e87:=Zdt.at (t:=124) rfl (Ya rfl (Ye rfl (Zi rfl fh)));have e88:=Zdt.at (t:=125) rfl (Ya rfl (Ye rfl fh));have e89:=Zdt.at (t:=126) rfl (Ya rfl (ZV rfl (Zi rfl fh)));have e90:=Zdt.at (t:=127) rfl (Ya rfl (ZV rfl fh));have e91:=Zdt.at (t:=128) rfl (Ya rfl (Zi rfl fh));have e92:=Zdt.at (t:=131) rfl (Ya rfl fh);have e93:=Zdt.at (t:=132) rfl (Ye rfl (ZV rfl (Zi rfl fh)));have e94:=Zdt.at (t:=130) rfl (Ye rfl (ZV rfl fh));have e95:=Zdt.at (t:=133) rfl (Ye rfl (Zi rfl fh));have e96:=Zdt.at (t:=134) rfl (Ye rfl fh);have e97:=Zdt.at (t:=8) rfl (ZV rfl (Zi rfl fh));have e98:=Zdt.at (t:=9) rfl (ZV rfl fh);have e99:=Zdt.at (t:=135) rfl (Zi rfl fh);have e100:=Zdt.at (t:=136) rfl fh;refine Wx.panic ?_;refine Qa.ofX ?_;refine Zbl.Jz ?_;have hr:=Oi0 hL;subst hr;exact⟨rfl,hT ▸ hS.only .n⟩
  ·skip;refine QC ?_;refine r1 ?_;refine cn hL ?_ ?_
   ·intro hc hL;refine r1 ?_;refine WC.Yo mixed Kq0 ?_;refine r8 ?_;refine r2 ?_;refine WX.w gN rfl (Xn X8 (Zp lk (Zp lk ZI)) rfl (cs':= [.int .i64 p1.at_,.int .i64 p0.names]) rfl) ?_ rfl;refine r4 ?_;refine WX.w gN rfl (XH ZoD (Zp lk (Zp lk (Zp lk (Zp lk ZI)))) rfl (cs':= [.int .i64 p0.names,.bool true,.int .i64 (-1),.int .i64 0,.int .i64 0,.bool true]) rfl) ?_ rfl;refine WX.hu gN (Zca (kv:=Zo) (vv:=Zt) (k:= (Zg.mk p1.at_ p0.names)) (v:= (Zb.mk p0.names true (-1) 0 0 true)) hS k3 Y7 Uj (ZC (Ya rfl (Ye rfl fh)) rfl) (ZC (Ye rfl (Zi rfl fh)) rfl) (ZC fh rfl)) ?_ rfl rfl [] Kq0 Yh.e;rintro ZK5 hS;refine r8 ?_;refine r3 ?_;rintro ZHH hS;refine r2 ?_;exact Y8.Yp _ hL ⟨_,_,ZO,Zn,Zm,p0.notes.length,Zl,Zk,p0.freed.length,rfl,hS.only (.c k1 (.c k3 (.c k3 (.c k0 .n)))),Yy⟩
   ·intro hc hL;refine r6 ?_;refine cn hL ?_ ?_
    ·intro hc hL;refine r3 ?_;obtain⟨x103,ZuE,hL⟩:=bind_some hL;refine WO.cl gN rfl (Yx.fn ZCP (Zc lk (Zc lk Zj))) hS (.c k2 (.c k2 (.c k2 (.c k2 .n)))) (fun g' hz hf hO=>Zzz (by rw [hz];exact hS.hw) hO ZuE) ?_;rintro _ ZK2 _ ⟨ZJt,a105,n106,c107,ZLU,n109,ZLy,rfl,rfl⟩ hS;obtain rfl:=hS.on k2;obtain rfl:=hS.on k3;refine r2 ?_;exact Y8.Yp _ hL ⟨_,_,ZJt,a105,c107,x103.notes.length,ZLU,ZLy,x103.freed.length,rfl,hS.only (.c k1 (.c k1 (.c k1 (.c k0 .n)))),Yy⟩
    ·intro hc hL;refine r6 ?_;refine cn hL ?_ ?_
     ·intro hc hL;refine r1 ?_;refine WC.Yo mixed Kq0 ?_;refine r4 ?_;refine r1 ?_;obtain⟨x113,hx113,hL⟩:=bind_some hL;refine WX.w gN rfl (Zdo (kv:=Zo) (vv:=Zt) (k:= (Zg.mk p1.at_ p1.name)) (z:= (Zb.mk 0 false 0 0 0 false)) Y7 Uj QR (ZC (Zi rfl fh) rfl) (ZC fh rfl) (hS.get k3).at_ hx113 (w:= .agg [.int .i64 x113.name,.bool x113.root,.int .i64 x113.from_,.int .i64 x113.has,.int .i64 x113.out,.bool x113.use].toArray) rfl) ?_ rfl;refine WX.hn gN rfl (ZgP hS QR (vs:= [.int .i64 0,.bool false,.int .i64 0,.int .i64 0,.int .i64 0,.bool false]) rfl) ?_ rfl;rintro _ ZPB ⟨ZQ5,ZNs,rfl,hS⟩;refine WX.hu gN (Zbq hS k0 Z0 lk lk (vs:= [.int .i64 x113.name,.bool x113.root,.int .i64 x113.from_,.int .i64 x113.has,.int .i64 x113.out,.bool x113.use]) rfl rfl rfl rfl (cs':= [.int .i64 x113.name,.bool x113.root,.int .i64 x113.from_,.int .i64 x113.has,.int .i64 x113.out,.bool x113.use]) rfl) ?_ rfl rfl [] Kq0 Yh.e;rintro h116 hS;refine r6 ?_;rintro ZPA hS;refine r3 ?_;refine WC.Yo mixed Kq0 ?_;refine r6 ?_;refine WX.hu gN (Zca (kv:=Zo) (vv:=Zt) (k:= (Zg.mk p1.at_ p1.name)) (v:= (Zb.mk x113.name x113.root x113.from_ x113.has x113.out false)) hS k4 Y7 Uj (ZC (ZV rfl fh) rfl) (ZC (Zi rfl fh) rfl) (ZC fh rfl)) ?_ rfl rfl [] Kq0 Yh.e;rintro ZPz hS;refine r8 ?_;obtain⟨ZmL,ZFP,hL⟩:=bind_some hL;refine WO.cl gN rfl (Yx.fn ZpT (Zc lk (Zc lk (Zc lk Zj)))) hS (.c k4 (.c k0 (.c k3 (.c k3 .n)))) (fun g' hz hf hO=>Zl7 (by rw [hz];exact hS.hw) hO ZFP) ?_;rintro _ h127 _ ⟨ZJs,ZLS,n122,ZLw,a124,n125,ZLv,rfl,rfl⟩ hS;obtain rfl:=hS.on k2;obtain rfl:=hS.on k3;refine r2 ?_;exact Y8.Yp _ hL ⟨_,_,ZJs,ZLS,ZLw,ZmL.notes.length,a124,ZLv,ZmL.freed.length,rfl,hS.only (.c k1 (.c k1 (.c k1 (.c k0 .n)))),Yy⟩
     ·intro hc hL;refine r6 ?_;refine cn hL ?_ ?_
      ·intro hc hL;refine r1 ?_;refine WC.Yo mixed Kq0 ?_;refine r4 ?_;refine r1 ?_;obtain⟨Jy,ZFO,hL⟩:=bind_some hL;refine WX.w gN rfl (Zdo (kv:=Zo) (vv:=Zt) (k:= (Zg.mk p1.at_ p1.name)) (z:= (Zb.mk 0 false 0 0 0 false)) Y7 Uj QR (ZC (Zi rfl fh) rfl) (ZC fh rfl) (hS.get k3).at_ ZFO (w:= .agg [.int .i64 Jy.name,.bool Jy.root,.int .i64 Jy.from_,.int .i64 Jy.has,.int .i64 Jy.out,.bool Jy.use].toArray) rfl) ?_ rfl;refine WX.hn gN rfl (ZgP hS QR (vs:= [.int .i64 0,.bool false,.int .i64 0,.int .i64 0,.int .i64 0,.bool false]) rfl) ?_ rfl;rintro _ ZPx ⟨ZQZ,ZNq,rfl,hS⟩;refine WX.hu gN (Zbq hS k0 Z0 lk lk (vs:= [.int .i64 Jy.name,.bool Jy.root,.int .i64 Jy.from_,.int .i64 Jy.has,.int .i64 Jy.out,.bool Jy.use]) rfl rfl rfl rfl (cs':= [.int .i64 Jy.name,.bool Jy.root,.int .i64 Jy.from_,.int .i64 Jy.has,.int .i64 Jy.out,.bool Jy.use]) rfl) ?_ rfl rfl [] Kq0 Yh.e;rintro ZPw hS;refine r3 ?_;refine WC.Yo mixed Kq0 ?_;refine r1 ?_;refine WX.wr (fun x=>x=b1) hS gN rfl (fun _ _ hR=>ZE YW (ZC fh rfl) (At.eqv (hR b1 rfl) (hS.Qm k2)) (j:=3) rfl (v:= .int .i64 p1.ZH) rfl) ?_ rfl rfl;rintro ZPv ZQn hS;refine r1 ?_;refine WX.hu gN (Zbq hS k0 ZqS lk lk (vs:= [.bool false]) rfl rfl rfl rfl (cs':= [.int .i64 Jy.name,.bool false,.int .i64 Jy.from_,.int .i64 Jy.has,.int .i64 Jy.out,.bool Jy.use]) rfl) ?_ rfl rfl [1] Kq0 (.c .z (hS.dj (.c k0 (.c k1 .n))) Yh.e);rintro ZPt hS;refine WX.w gN rfl (XP Zrp lk) ?_ Kq0;refine WX.hu gN (Zbq hS k0 YB lk lk (vs:= [.int .i64 p1.ZH]) rfl rfl rfl rfl (cs':= [.int .i64 Jy.name,.bool false,.int .i64 p1.ZH,.int .i64 Jy.has,.int .i64 Jy.out,.bool Jy.use]) rfl) ?_ rfl Kq0 [] Kq0 Yh.e;rintro ZPs hS;refine WX.w gN rfl (XP ZlR lk) ?_ Kq0;refine WX.hu gN (Zbq hS k0 YB lk lk (vs:= [.int .i64 16]) rfl rfl rfl rfl (cs':= [.int .i64 Jy.name,.bool false,.int .i64 p1.ZH,.int .i64 16,.int .i64 Jy.out,.bool Jy.use]) rfl) ?_ rfl Kq0 [] Kq0 Yh.e;rintro ZPr hS;refine r3 ?_;refine WC.Yo mixed Kq0 ?_;refine r6 ?_;refine WX.hu gN (Zca (kv:=Zo) (vv:=Zt) (k:= (Zg.mk p1.at_ p1.name)) (v:= (Zb.mk Jy.name false p1.ZH 16 Jy.out Jy.use)) hS k4 Y7 Uj (ZC (ZV rfl fh) rfl) (ZC (Zi rfl fh) rfl) (ZC fh rfl)) ?_ rfl rfl [] Kq0 Yh.e;rintro ZPq hS;refine r8 ?_;refine WO.w gN rfl (XH Zg6 (Zp lk (Zp lk (Zp lk (Zp lk ZI)))) rfl (cs':= [.int .i64 3,.int .i64 p1.ZH,.int .i64 p1.name,.int .i64 0,.int .i64 16]) rfl) ?_;obtain⟨ZmK,ZFN,hL⟩:=bind_some hL;refine WO.cl gN rfl (Yx.fn ZlL (Zc lk (Zc lk Zj))) hS (.c k4 (.c k0 (.c k3 (.c k3 .n)))) (fun g' hz hf hO=>ZhC (by rw [hz];exact hS.hw) hO ZFN) ?_;rintro _ ZK0 _ ⟨ZJr,a141,n142,c143,Zxq,n145,c146,rfl,rfl⟩ hS;obtain rfl:=hS.on k2;obtain rfl:=hS.on k3;refine r2 ?_;exact Y8.Yp _ hL ⟨_,_,ZJr,a141,c143,ZmK.notes.length,Zxq,c146,ZmK.freed.length,rfl,hS.only (.c k1 (.c k1 (.c k1 (.c k0 .n)))),Yy⟩
      ·intro hc hL;refine r1 ?_;refine WC.Yo mixed Kq0 ?_;refine r6 ?_;obtain⟨Zb3,ZAD,hL⟩:=bind_some hL;obtain⟨ZQV,ZOm,_,ZC0,ZDb,ZKH⟩:=Src.at_ (hS.QL k4) ZAD;refine WX.w gN rfl (Zx QJ YN lk lk rfl ZC0 ZAD) ?_ rfl;refine WX.w gN rfl (XG Zbj YN (ZC fh rfl) ZDb (j:=0) rfl rfl (ws:= [.int .i64 Zb3.kind,.int .i64 Zb3.ZH,.int .i64 Zb3.name,.int .i64 Zb3.via,.int .i64 Zb3.w]) rfl) ?_ rfl;refine WX.hn gN rfl (ZgP hS KT (vs:= [.int .i64 0,.int .i64 0,.int .i64 0,.int .i64 0,.int .i64 0]) rfl) ?_ rfl;rintro _ ZPp ⟨ZLJ,ZNp,rfl,hS⟩;refine WX.hu gN (Zbq hS k0 YN lk lk (vs:= [.int .i64 Zb3.kind,.int .i64 Zb3.ZH,.int .i64 Zb3.name,.int .i64 Zb3.via,.int .i64 Zb3.w]) rfl rfl rfl rfl (cs':= [.int .i64 Zb3.kind,.int .i64 Zb3.ZH,.int .i64 Zb3.name,.int .i64 Zb3.via,.int .i64 Zb3.w]) rfl) ?_ rfl rfl [] Kq0 Yh.e;rintro ZPo hS;refine r3 ?_;refine WC.Yo mixed Kq0 ?_;refine r8 ?_;refine r2 ?_;obtain⟨ZxL,ZFL,hL⟩:=bind_some hL;refine WX.cl gN rfl (Yx.fn ZCO (Zc lk (Zc lk (Zc lk Zj)))) hS (.c k5 .n) (fun g' hz hf hO=>Zzy (by rw [hz];exact hS.hw) hO ZFL) ?_ rfl rfl [] Kq0 Yh.e;rintro _ ZKZ _ ⟨a156,n157,ZHY,rfl,rfl⟩ hS;obtain rfl:=hS.on k0;refine WX.w gN rfl (Zqs lk) ?_ Kq0;refine WX.w gN rfl (XP ZlQ lk) ?_ Kq0;refine WX.hu gN (Zbq hS k4 Zpb lk lk (vs:= [.slice a156 ZxL.length ZHY]) rfl rfl rfl rfl (cs':= [.int .i64 p0.machines,.int .i64 p0.names,.map (some ZO),.slice a156 ZxL.length ZHY,.slice Zl p0.freed.length Zk]) rfl) ?_ rfl Kq0 [] Kq0 Yh.e;rintro ZPl hS;refine r4 ?_;refine r1 ?_;obtain⟨ZmJ,ZFK,hL⟩:=bind_some hL;refine WO.cl gN rfl (Yx.fn ZAX (Zc lk (Zc lk Zj))) hS (.c k0 (.c k4 (.c k0 (.c k3 .n)))) (fun g' hz hf hO=>Zwq (by rw [hz];exact hS.hw) hO ZFK) ?_;rintro _ ZHG _ ⟨ZJq,a164,n165,ZD9,a167,n168,ZD8,rfl,rfl⟩ hS;obtain rfl:=hS.on k2;obtain rfl:=hS.on k3;refine r2 ?_;exact Y8.Yp _ hL ⟨_,_,ZJq,a164,ZD9,ZmJ.notes.length,a167,ZD8,ZmJ.freed.length,rfl,hS.only (.c k1 (.c k1 (.c k1 (.c k0 .n)))),Yy⟩
 ·skip;replace hL:=Zq0 hL;refine WO.ZLn gN (Yx.fn Zu5 (Zc lk (Zc lk Zj))) hS.hw hS (ZrD (Nat.le_refl _) (hS.Qm k1) (.inl (hS.lt k1)) (hS.mrd k2) (hS.ord k3) (hS.ord k4) hx3) ?_;rintro ZKY hS;refine QM.panic ?_;refine Qa.ofX ?_;refine Zbl.Jz ?_;have hr:=Oi0 hL;subst hr;exact⟨rfl,hT ▸ hS.only .n⟩
end Go.Proofs.Ytekpjgmhkkjhgaa
end
end
section
namespace Go.Proofs.Ytekpjgmhkkjhgaa
open Go.Lf
def Zi6 (F:Nat):Int×Int×Int×(List (Zg×Zb))×(List Zd)×(List Int) ->(Int×Int×Int×(List (Zg×Zb))×(List Zd)×(List Int) ->Option (Za×Int×Int)) ->Option (Za×Int×Int):=fun(v22,v24,v25,v26,v28,v32) Zuf=>
 (bif decide ((v28.length:Int) > 0) then(ZM v28 0).bind fun x37=>(slL v28 1 (v28.length:Int)).bind fun z43=>(ZsE F (Store.mk v24 v25 v26 z43 v32) x37).bind fun x48=>Zuf (ZP (v22 + 1),x48.machines,x48.names,x48.cells,x48.notes,x48.freed) else(Zj0 F (Store.mk v24 v25 v26 v28 v32)).bind fun x58=>some (x58,v22,0))
def Zww (F:Nat) (p0:Za):Option (Za×Int×Int):=
 (ZsJ F p0).bind fun x5=>(bif(!x5) then some ((Za.mk [] [] 0 []),0,2) else(ZiX F p0).bind fun x7=>loop F (Zi6 F) (0,x7.machines,x7.names,x7.cells,x7.notes,x7.freed))
def ZsH (F:Nat) (p0:Store) (p1:Zv):Option ((Option Store)×Int):=
 (Zwi F p0).bind fun x7=>(Zwh F x7 p1).bind fun x19=>prC x19 (fun e21=>some (none,e21)) (fun y20=>some ((some y20),0))
end Go.Proofs.Ytekpjgmhkkjhgaa
end
section
set_option maxRecDepth 20000
noncomputable section
namespace Go.Proofs.Ytekpjgmhkkjhgaa
open Go.YD Go.Lf
theorem ZDR {F wm:Nat} {h:H} {p0:Za} {Zr:Option Addr} {Zq:Nat} {Zn:Option Addr} {Zm:Nat} {Zl:Option Addr} {Zk:Nat} {r:(Za×Int×Int)} (ZK:wm <=h.size) (Zw:Sl (rSl Ze) wm h Zr Zq p0.cells) (ZA:Sl Zf wm h Zn Zm p0.notes) (Zy:Sl (Zz .i64) wm h Zl Zk p0.freed) (hL:Zww F p0=some r):
 WR XX 23 #[.agg [.slice Zr p0.cells.length Zq,.slice Zn p0.notes.length Zm,.int .i64 p0.names,.slice Zl p0.freed.length Zk].toArray] wm h (CP (fun(v:Value) (Gb:List (Ast wm))=>∃ (YH:Option Addr) (YF:Nat) (YG:Nat) (Xc:Nat ->Option Addr×Nat×Nat) (Y5:Option Addr) (Y1:Nat) (Y3:Nat) (Y4:Option Addr) (Y0:Nat) (Y2:Nat),v= .tuple [.agg [.slice YH YF YG,.slice Y5 Y1 Y3,.int .i64 r.1.names,.slice Y4 Y0 Y2].toArray,.int .i64 r.2.1,.int .i64 r.2.2].toArray∧Gb= [JV wm (Yf Ze) YH YF YG Xc r.1.cells,ow wm Zf Y5 Y1 Y3 r.1.notes,ow wm (Zz .i64) Y4 Y0 Y2 r.1.freed]) [] h):=by
 refine bg Try.ntmps23 ZK ZT.nil ?_;intro T hT hS;unfold Zww at hL;refine r3 ?_;rintro _ h2 ⟨b1,eb1,rfl,hS⟩;refine r1 ?_;rintro _ h4 ⟨b3,eb3,rfl,hS⟩;refine r8 ?_;obtain⟨x5,hx5,hL⟩:=bind_some hL;refine WO.cp gN rfl (Yx.fn ZAZ (Zc lk Zj)) (WR.YP rfl (Zwu (Nat.le_refl _) (hS.Qq Zw) (hS.Qq ZA) (hS.Qq Zy) hx5)) ?_;refine r3 ?_;refine cn hL ?_ ?_
 ·intro hc hL;refine r2 ?_;refine WO.w gN rfl (XH ZcN ZI rfl (cs':= [.slice none 0 0,.slice none 0 0,.int .i64 0,.slice none 0 0]) rfl) ?_;refine r1 ?_;rintro h6 hS;refine r6 ?_;have hS:=hS.Zh8 (e:= (Yf Ze)) (ps:=fun _=>(Yf Ze).dflt);have hS:=hS.nil (e:=Zf);have hS:=hS.nil (e:= (Zz .i64));have hr:=Oi0 hL;subst hr;exact ZX.gen (vs:= [.agg [.slice none 0 0,.slice none 0 0,.int .i64 0,.slice none 0 0].toArray,.int .i64 0,.int .i64 2]) rfl (ZN (Ya rfl fh) (ZU XE YC (hS.Qm k3) (j:=0) rfl rfl (ws:= [.slice none 0 0,.slice none 0 0,.int .i64 0,.slice none 0 0]) rfl) (ZF lk (ZF lk Zu))) rfl ⟨_,⟨none,0,0,(fun _=>(Yf Ze).dflt),none,0,0,none,0,0,rfl,rfl⟩,hT ▸ hS.only (.c k2 (.c k1 (.c k0 .n)))⟩
 ·intro hc hL;refine r4 ?_;refine r1 ?_;obtain⟨x7,hx7,hL⟩:=bind_some hL;refine WO.cl gN rfl (Yx.fn Zri (Zc lk Zj)) hS .n (fun g' hz hf hO=>Zl0 (by rw [hz];exact hS.hw) ((hS.sl Zw).mono hf) ((hS.sl ZA).mono hf) ((hS.sl Zy).mono hf) hx7) ?_;rintro _ h16 _ ⟨b8,m9,a10,n11,c12,a13,n14,c15,rfl,rfl⟩ hS;obtain rfl:=hS.on k2;obtain rfl:=hS.on k3;refine r8 ?_;refine r2 ?_;refine WC.loop (WL.lift hL (fun(p:Int×Int×Int×(List (Zg×Zb))×(List Zd)×(List Int)) (s:Fs)=>match p with | (v22,v24,v25,v26,v28,v32)=>∃ (Zv7:Fr) (h18:H) (m27:Nat) (a29:Option Addr) (c30:Nat) (n31:Nat) (a33:Option Addr) (c34:Nat) (n35:Nat),s= ⟨Zv7,[],h18,none⟩∧Sp wm T h [bx wm b3 [.slice none 0 0,.slice none 0 0,.int .i64 0,.slice none 0 0],mp wm Zo Zt (some m27) v26,ow wm Zf a29 n31 c30 v28,ow wm (Zz .i64) a33 n35 c34 v32,bx wm b8 [.int .i64 v24,.int .i64 v25,.map (some m27),.slice a29 n31 c30,.slice a33 n35 c34]] h18∧Zv7.at 2= .pointer (some ⟨b3,0,none⟩)∧Zv7.at 5= .pointer (some ⟨b8,0,none⟩)∧Zv7.at 6= .int .i64 v22) ⟨_,_,m9,a10,c12,x7.notes.length,a13,c15,x7.freed.length,rfl,hS.only (.c k4 (.c k1 (.c k1 (.c k1 (.c k0 .n))))),Yy⟩ ?_);clear hL hS;rintro Zuf ⟨v22,v24,v25,v26,v28,v32⟩ s ZyD hL ⟨Zv7,h18,m27,a29,c30,n31,a33,c34,n35,rfl,hS,e20,e21,e23⟩;obtain rfl:=hS.on k2;obtain rfl:=hS.on k3;dsimp only [Zi6] at hL;refine r8 ?_;refine r3 ?_;refine cn hL ?_ ?_
  ·intro hc hL;refine r8 ?_;refine r2 ?_;obtain⟨x37,Zpx,hL⟩:=bind_some hL;obtain⟨b38,o39,_,Zvc,ZvK,ZBd⟩:=Src.at_ (hS.QL k2) Zpx;refine WO.w gN rfl (Zx QJ YN lk lk rfl Zvc Zpx) ?_;refine WO.w gN rfl (XG Zbj YN (ZC fh rfl) ZvK (j:=0) rfl rfl (ws:= [.int .i64 x37.kind,.int .i64 x37.ZH,.int .i64 x37.name,.int .i64 x37.via,.int .i64 x37.w]) rfl) ?_;refine r1 ?_;rintro _ h41 ⟨b40,ZP4,rfl,hS⟩;refine r1 ?_;rintro h42 hS;refine r8 ?_;refine r1 ?_;obtain⟨z43,ZJE,hL⟩:=bind_some hL;refine WO.he gN rfl (ZAo (hS.get k3).2 rfl QJ YN (ZC fh rfl) (.inr ⟨_,XD (JJ rfl)⟩) (.inl ⟨rfl,rfl⟩) ZJE) ?_;rintro _ ⟨a44,c45,rfl,ZJY⟩;refine r3 ?_;rintro h47 hS;refine r4 ?_;refine r1 ?_;obtain⟨x48,Znn,hL⟩:=bind_some hL;have hS:=hS.sub k4 ZJY;refine WO.cl gN rfl (Yx.fn ZAX (Zc lk (Zc lk Zj))) hS (.c k1 (.c k3 (.c k0 (.c k2 .n)))) (fun g' hz hf hO=>Zwq (by rw [hz];exact hS.hw) hO Znn) ?_;rintro _ h56 _ ⟨m49,a50,n51,c52,a53,n54,c55,rfl,rfl⟩ hS;obtain rfl:=hS.on k2;obtain rfl:=hS.on k3;refine r8 ?_;exact Yc.Yp (ZyD _ _ hL ⟨_,_,m49,a50,c52,x48.notes.length,a53,c55,x48.freed.length,rfl,hS.only (.c k5 (.c k1 (.c k1 (.c k1 (.c k0 .n))))),Yy⟩)
  ·intro hc hL;refine r8 ?_;obtain⟨x58,Zyl,hL⟩:=bind_some hL;refine WO.clR gN rfl (Yx.fn Znz (Zc lk Zj)) hS.hw (Zi3 (Nat.le_refl _) (hS.Qm k4) (.inl (hS.lt k4)) (hS.mrd k1) (hS.ord k2) (hS.ord k3) Zyl) ?_;rintro _ h68 _ ⟨a59,n60,c61,ZFl,a62,n63,c64,a65,n66,c67,rfl,rfl⟩ ZKx;have hS:=hS.clR ZKx (.c (cvN (fun _ _ _ _=>trivial) hS.hw) (.c (cvO (fun _ _ _ _=>trivial) hS.hw) (.c (cvO (fun _ _ _ _=>trivial) hS.hw) .n)));obtain rfl:=hS.JB k0;obtain rfl:=hS.on k1;obtain rfl:=hS.on k2;refine r2 ?_;rintro h70 hS;refine r4 ?_;refine r1 ?_;have hr:=Oi0 hL;subst hr;exact ZX.gen (vs:= [.agg [.slice a59 x58.cells.length c61,.slice a62 x58.notes.length c64,.int .i64 x58.names,.slice a65 x58.freed.length c67].toArray,.int .i64 v22,.int .i64 0]) rfl (ZN (Ya rfl (ZV rfl (Zi rfl e20))) (ZU XE YC (hS.Qm k0) (j:=0) rfl rfl (ws:= [.slice a59 x58.cells.length c61,.slice a62 x58.notes.length c64,.int .i64 x58.names,.slice a65 x58.freed.length c67]) rfl) (ZF lk (ZF lk Zu))) rfl ⟨_,⟨a59,x58.cells.length,c61,ZFl,a62,x58.notes.length,c64,a65,x58.freed.length,c67,rfl,rfl⟩,hT ▸ hS.only (.c k1 (.c k1 (.c k1 .n)))⟩
theorem Zwt {F wm:Nat} {h:H} {p0:Store} {p1:Zv} {ZO:Option Nat} {Zn:Option Addr} {Zm:Nat} {Zl:Option Addr} {Zk XB UW:Nat} {r:((Option Store)×Int)} (ZK:wm <=h.size) (Xe:At h XB UW [.int .i64 p0.machines,.int .i64 p0.names,.map ZO,.slice Zn p0.notes.length Zm,.slice Zl p0.freed.length Zk]) (Xd:Stb wm h XB) (Zw:UZ Zo Zt wm h ZO p0.cells) (ZA:Sl Zf wm h Zn Zm p0.notes) (Zy:Sl (Zz .i64) wm h Zl Zk p0.freed) (hL:ZsH F p0 p1=some r):
 WR XX 57 #[.pointer (some ⟨XB,UW,none⟩),.agg [.int .i64 p1.Xf,.int .i64 p1.at_,.int .i64 p1.name,.int .i64 p1.ZH].toArray] wm h (CP (fun(v:Value) (Gb:List (Ast wm))=>match r.1 with | some y=>∃ (rb0:Nat) (Zcb:Nat) (Y5:Option Addr) (Y1:Nat) (Y3:Nat) (Y4:Option Addr) (Y0:Nat) (Y2:Nat),v= .tuple [.pointer (some ⟨rb0,0,none⟩),.int .i64 r.2].toArray∧Gb= [bx wm rb0 [.int .i64 y.machines,.int .i64 y.names,.map (some Zcb),.slice Y5 Y1 Y3,.slice Y4 Y0 Y2],mp wm Zo Zt (some Zcb) y.cells,ow wm Zf Y5 Y1 Y3 y.notes,ow wm (Zz .i64) Y4 Y0 Y2 y.freed] | none=>v= .tuple [.pointer none,.int .i64 r.2].toArray∧Gb= []) [] h):=by
 refine WF.ZgF (args:= [_,_]) (fn:=Try.f57) Kq0 (by exact rfl) Try.ntmps57 (by simp) ?_;simp only [ZQ,ZW,Nat.reduceAdd];obtain⟨T,hT,hS⟩:∃ T,T=XL (wm:=wm) []∧Sp wm T h [] h:= ⟨_,rfl,Sp.start ZK ZT.nil⟩
 unfold ZsH at hL;refine r3 ?_;rintro _ h2 ⟨b1,eb1,rfl,hS⟩;refine r1 ?_;rintro _ h4 ⟨b3,eb3,rfl,hS⟩;refine r1 ?_;rintro _ h6 ⟨b5,eb5,rfl,hS⟩;refine r4 ?_;refine WO.w gN rfl (Zee (Zc lk (Zc lk Zj))) ?_;refine WO.dfr gN lk ?_;refine r4 ?_;refine r1 ?_;obtain⟨x7,hx7,hL⟩:=bind_some hL;refine WO.cl gN rfl (Yx.fn ZGk (Zc lk Zj)) hS .n (fun g' hz hf hO=>ZDu (by rw [hz];exact hS.hw) (At.fz hf (Stb.fz hS.fz Xe Xd) (At.fz hS.fz Xd Xe)) (Stb.fz hf (At.fz hS.fz Xd Xe) (Stb.fz hS.fz Xe Xd)) ((hS.ms Zw).fz hf) ((hS.sl ZA).mono hf) ((hS.sl Zy).mono hf) hx7) ?_;rintro _ h16 _ ⟨b8,m9,a10,n11,c12,a13,n14,c15,rfl,rfl⟩ hS;obtain rfl:=hS.on k2;obtain rfl:=hS.on k3;refine r1 ?_;rintro h18 hS;refine r6 ?_;obtain⟨x19,Zhc,hL⟩:=bind_some hL;rcases x19 with y20 | e21
 ·skip;replace hL:=ZtR hL;refine WO.cl gN rfl (Yx.fn ZAS (Zc lk (Zc lk Zj))) hS (.c k1 (.c k1 (.c k1 (.c k1 .n)))) (fun g' hz hf hO=>(PQ.ok (Zwg (by rw [hz];exact hS.hw) hO Zhc))) ?_;rintro _ h29 _ ⟨m22,a23,n24,c25,a26,n27,c28,rfl,rfl⟩ hS;obtain rfl:=hS.on k2;obtain rfl:=hS.on k3;refine r6 ?_;rintro h31 hS;refine r1 ?_;rintro h32 hS;refine r3 ?_;refine Qa.ofP ?_;refine Zbl.dfn (cap:= [.pointer (some ⟨b3,0,none⟩),.pointer (some ⟨b5,0,none⟩)]) (fn2:=Try.f93) Kq0 (by exact rfl) Try.ntmps93 (by simp) rfl ?_;simp only [ZQ,ZW,Nat.reduceAdd];refine DC.seq ?_;refine DC.rec .ret (Tr.set (Tr.set (Tr.set (Tr.set (Tr.set (Tr.set (Tr.set (Tr.set (Tr.set .nil 0 (.pointer (some ⟨b3,0,none⟩))) 1 (.pointer (some ⟨b5,0,none⟩))) 5 (.nilIface)) 6 (.tuple [.int .i64 0,.bool false].toArray)) 4 (.tuple [.int .i64 0,.bool false].toArray)) 7 (.int .i64 0)) 8 (.bool false)) 2 (.int .i64 0)) 3 (.bool false)) (by exact rfl) rfl ?_;refine⟨rfl,?_⟩;refine DC.seq ?_;refine DC.rgn rfl ?_;refine r3 ?_;refine⟨rfl,?_⟩;refine DC.ZwN lk rfl ?_;refine DC.skip ?_;refine⟨rfl,rfl,?_⟩;refine Zbl.ofL ?_ rfl;have hr:=Oi0 hL;subst hr;exact Qa.gen rfl (ZN (Ya rfl fh) (KR Zxd (hS.Qm k1) (j:=0) rfl (v:= .pointer (some ⟨b8,0,none⟩)) rfl) (ZN (Ye rfl (ZV rfl (Zi rfl fh))) (KR Zxe (hS.Qm k0) (j:=0) rfl (v:= .int .i64 0) rfl) Zu)) rfl ⟨_,⟨b8,m22,a23,y20.notes.length,c25,a26,y20.freed.length,c28,rfl,rfl⟩,hT ▸ hS.only (.c k2 (.c k2 (.c k2 (.c k2 .n))))⟩
 ·skip;replace hL:=Zq0 hL;refine WO.clX gN (Yx.fn ZAS (Zc lk (Zc lk Zj))) hS (.c k1 (.c k1 (.c k1 (.c k1 .n)))) (fun g' hz hf hO=>Zwg (by rw [hz];exact hS.hw) hO Zhc) ?_;rintro h33 hS;refine QM.panic ?_;refine Qa.ofX ?_;refine Zbl.dfn (cap:= [.pointer (some ⟨b3,0,none⟩),.pointer (some ⟨b5,0,none⟩)]) (fn2:=Try.f93) Kq0 (by exact rfl) Try.ntmps93 (by simp) rfl ?_;simp only [ZQ,ZW,Nat.reduceAdd];refine DC.seq ?_;refine DC.rec (.rcv (pv 32 e21)) (Tr.set (Tr.set (Tr.set (Tr.set (Tr.set (Tr.set (Tr.set (Tr.set (Tr.set .nil 0 (.pointer (some ⟨b3,0,none⟩))) 1 (.pointer (some ⟨b5,0,none⟩))) 5 (.iface 32 (.int .i64 e21))) 6 (.tuple [.int .i64 e21,.bool true].toArray)) 4 (.tuple [.int .i64 e21,.bool true].toArray)) 7 (.int .i64 e21)) 8 (.bool true)) 2 (.int .i64 e21)) 3 (.bool true)) (by exact rfl) rfl ?_;refine⟨rfl,?_⟩;refine DC.seq ?_;refine DC.rgn rfl ?_;refine r3 ?_;refine⟨rfl,?_⟩;refine DC.ZwM lk rfl ?_;refine DC.rgn rfl ?_;refine r3 ?_;rintro h34 hS;refine r1 ?_;rintro h35 hS;refine r1 ?_;refine⟨rfl,rfl,?_⟩;refine Zbl.ofL ?_ rfl;have hr:=Oi0 hL;subst hr;exact Qa.gen rfl (ZN (Ye rfl (ZV rfl fh)) (KR Zxd (hS.Qm k1) (j:=0) rfl (v:= .pointer none) rfl) (ZN (Ye rfl (Zi rfl fh)) (KR Zxe (hS.Qm k0) (j:=0) rfl (v:= .int .i64 e21) rfl) Zu)) rfl ⟨_,⟨rfl,rfl⟩,hT ▸ hS.only .n⟩
end Go.Proofs.Ytekpjgmhkkjhgaa
end
end
section
namespace Go.Proofs.Ytekpjgmhkkjhgaa
open Go.Lf
def Zi7 (F:Nat) (p1:(List Zv)):Store×Int ->(Store×Int ->Option (Za×Int×Int)) ->Option (Za×Int×Int):=fun(v28,v39) Zud=>
 (bif decide (v39 < (p1.length:Int)) then(ZM p1 v39).bind fun x42=>(ZsH F v28 x42).bind fun x48=>opt x48.1 ((bif(x48.2 !=0) then(Zj0 F v28).bind fun x56=>some (x56,v39,x48.2) else none)) (fun y49=>(bif(x48.2 !=0) then(Zj0 F v28).bind fun x82=>some (x82,v39,x48.2) else Zud (y49,ZP (v39 + 1)))) else(Zj0 F v28).bind fun x95=>some (x95,(p1.length:Int),0))
def K5 (F:Nat) (p0:Za) (p1:(List Zv)):Int ->Option (Za×Int×Int):=fun v10=>
 (bif decide (v10 >=0) then some ((Za.mk [] [] 0 []),0,2) else(ZiX F p0).bind fun Wy=>loop F (Zi7 F p1) (Wy,0))
def Zgq (F:Nat) (p0:Za) (p1:(List Zv)):Int ->(Int ->Option (Za×Int×Int)) ->Option (Za×Int×Int):=fun Zo2 Zq6=>
 (bif decide (Zo2 < (p1.length:Int)) then(ZM p1 Zo2).bind fun Zr0=>(ZsI Zr0 (p0.cells.length:Int)).bind fun ZxN=>(bif(!ZxN) then(K5 F p0 p1) Zo2 else Zq6 (ZP (Zo2 + 1))) else(K5 F p0 p1) (-1))
def Zwy (F:Nat) (p0:Za) (p1:(List Zv)):Option (Za×Int×Int):=
 (bif decide ((p1.length:Int) > 200) then some ((Za.mk [] [] 0 []),0,3) else(ZsJ F p0).bind fun x6=>(bif(!(!x6)) then loop F (Zgq F p0 p1) 0 else some ((Za.mk [] [] 0 []),0,2)))
end Go.Proofs.Ytekpjgmhkkjhgaa
end
section
set_option maxRecDepth 20000
noncomputable section
namespace Go.Proofs.Ytekpjgmhkkjhgaa
open Go.YD Go.Lf
theorem ZDT {F wm:Nat} {h:H} {p0:Za} {p1:(List Zv)} {Zr:Option Addr} {Zq:Nat} {Zn:Option Addr} {Zm:Nat} {Zl:Option Addr} {Zk:Nat} {Xt:Option Addr} {Xr:Nat} {r:(Za×Int×Int)} (ZK:wm <=h.size) (Zw:Sl (rSl Ze) wm h Zr Zq p0.cells) (ZA:Sl Zf wm h Zn Zm p0.notes) (Zy:Sl (Zz .i64) wm h Zl Zk p0.freed) (QG:Sl WJ wm h Xt Xr p1) (hL:Zwy F p0 p1=some r):
 WR XX 21 #[.agg [.slice Zr p0.cells.length Zq,.slice Zn p0.notes.length Zm,.int .i64 p0.names,.slice Zl p0.freed.length Zk].toArray,.slice Xt p1.length Xr] wm h (CP (fun(v:Value) (Gb:List (Ast wm))=>∃ (YH:Option Addr) (YF:Nat) (YG:Nat) (Xc:Nat ->Option Addr×Nat×Nat) (Y5:Option Addr) (Y1:Nat) (Y3:Nat) (Y4:Option Addr) (Y0:Nat) (Y2:Nat),v= .tuple [.agg [.slice YH YF YG,.slice Y5 Y1 Y3,.int .i64 r.1.names,.slice Y4 Y0 Y2].toArray,.int .i64 r.2.1,.int .i64 r.2.2].toArray∧Gb= [JV wm (Yf Ze) YH YF YG Xc r.1.cells,ow wm Zf Y5 Y1 Y3 r.1.notes,ow wm (Zz .i64) Y4 Y0 Y2 r.1.freed]) [] h):=by
 refine bg Try.ntmps21 ZK ZT.nil ?_;intro T hT hS;unfold Zwy at hL;refine r3 ?_;rintro _ h2 ⟨b1,eb1,rfl,hS⟩;refine r1 ?_;rintro _ h4 ⟨b3,eb3,rfl,hS⟩;refine QC ?_;refine cn hL ?_ ?_
 ·intro hc hL;refine r2 ?_;refine WO.w gN rfl (XH ZcN ZI rfl (cs':= [.slice none 0 0,.slice none 0 0,.int .i64 0,.slice none 0 0]) rfl) ?_;refine r1 ?_;rintro h5 hS;refine r6 ?_;have hS:=hS.Zh8 (e:= (Yf Ze)) (ps:=fun _=>(Yf Ze).dflt);have hS:=hS.nil (e:=Zf);have hS:=hS.nil (e:= (Zz .i64));have hr:=Oi0 hL;subst hr;exact ZX.gen (vs:= [.agg [.slice none 0 0,.slice none 0 0,.int .i64 0,.slice none 0 0].toArray,.int .i64 0,.int .i64 3]) rfl (ZN (Ya rfl fh) (ZU XE YC (hS.Qm k3) (j:=0) rfl rfl (ws:= [.slice none 0 0,.slice none 0 0,.int .i64 0,.slice none 0 0]) rfl) (ZF lk (ZF lk Zu))) rfl ⟨_,⟨none,0,0,(fun _=>(Yf Ze).dflt),none,0,0,none,0,0,rfl,rfl⟩,hT ▸ hS.only (.c k2 (.c k1 (.c k0 .n)))⟩
 ·intro hc hL;refine r6 ?_;obtain⟨x6,hx6,hL⟩:=bind_some hL;refine WO.cp gN rfl (Yx.fn ZAZ (Zc lk Zj)) (WR.YP rfl (Zwu (Nat.le_refl _) (hS.Qq Zw) (hS.Qq ZA) (hS.Qq Zy) hx6)) ?_;refine r3 ?_;refine WO.ZiB (Zh.no rfl rfl rfl (Zi rfl fh)) (fun hk7=>?_) (fun hk7=>?_)
  ·replace hL:=Wm hk7 hL;refine WO.w (Zh.on (Zh.no rfl rfl rfl (Zi rfl fh)) hk7) rfl (Zee (Zc lk Zj)) ?_;refine WO.inl (Zh.on (Zh.no rfl rfl rfl (ZV rfl fh)) hk7) rfl (Yx.fn ZGr (Zc (YA (Zi rfl fh) rfl hk7) (Zc lk Zj))) (WF.begin (args:= [_,_]) (fn:=Try.f63) Kq0 (by exact rfl) Try.ntmps63 (by simp) ?_);simp only [ZQ,ZW,Nat.reduceAdd];refine r8 ?_;refine r1 ?_;refine WO.Zuv (r:=r) (fun(v10:Int) (v:Value) (h8:H)=>v= .int .i64 v10∧Sp wm T h [bx wm b1 [.slice Zr p0.cells.length Zq,.slice Zn p0.notes.length Zm,.int .i64 p0.names,.slice Zl p0.freed.length Zk],bx wm b3 [.slice none 0 0,.slice none 0 0,.int .i64 0,.slice none 0 0]] h8) (K5 F p0 p1) gN rfl (Yx.fn ZCV (Zc lk (Zc lk Zj))) ?_ (WF.begin (args:= [_,_]) (fn:=Try.f102) Kq0 (by exact rfl) Try.ntmps102 (by simp) ?_)
   ·clear hL hS;rintro v10 v h8 hL ⟨rfl,hS⟩;dsimp only [K5] at hL;refine r4 ?_;refine r1 ?_;refine ZX.Qz rfl (ZF lk Zu) ?_;refine WO.w gN rfl (Zju lk (ZCe hk7) lk) ?_;refine r2 ?_;refine cn hL ?_ ?_
    ·intro hc hL;refine r2 ?_;refine WO.w gN rfl (XH ZcN ZI rfl (cs':= [.slice none 0 0,.slice none 0 0,.int .i64 0,.slice none 0 0]) rfl) ?_;refine r1 ?_;rintro h11 hS;refine r6 ?_;have hS:=hS.Zh8 (e:= (Yf Ze)) (ps:=fun _=>(Yf Ze).dflt);have hS:=hS.nil (e:=Zf);have hS:=hS.nil (e:= (Zz .i64));have hr:=Oi0 hL;subst hr;exact ZX.gen (vs:= [.agg [.slice none 0 0,.slice none 0 0,.int .i64 0,.slice none 0 0].toArray,.int .i64 0,.int .i64 2]) rfl (ZN (Ya rfl (Ya rfl fh)) (ZU XE YC (hS.Qm k3) (j:=0) rfl rfl (ws:= [.slice none 0 0,.slice none 0 0,.int .i64 0,.slice none 0 0]) rfl) (ZF lk (ZF lk Zu))) rfl ⟨_,⟨none,0,0,(fun _=>(Yf Ze).dflt),none,0,0,none,0,0,rfl,rfl⟩,hT ▸ hS.only (.c k2 (.c k1 (.c k0 .n)))⟩
    ·intro hc hL;refine r4 ?_;refine r1 ?_;obtain⟨Wy,Zio,hL⟩:=bind_some hL;refine WO.cl gN rfl (Yx.fn Zri (Zc lk Zj)) hS .n (fun g' hz hf hO=>Zl0 (by rw [hz];exact hS.hw) ((hS.sl Zw).mono hf) ((hS.sl ZA).mono hf) ((hS.sl Zy).mono hf) Zio) ?_;rintro _ h21 _ ⟨b13,m14,a15,n16,c17,a18,n19,c20,rfl,rfl⟩ hS;obtain rfl:=hS.on k2;obtain rfl:=hS.on k3;refine QC ?_;refine WC.loop (WL.lift hL (fun(p:Store×Int) (s:Fs)=>match p with | (v28,v39)=>∃ (Um:Fr) (h23:H) (b27:Nat) (m29:Nat) (a30:Option Addr) (c31:Nat) (n32:Nat) (a33:Option Addr) (c34:Nat) (n35:Nat),s= ⟨Um,[],h23,none⟩∧Sp wm T h [mp wm Zo Zt (some m29) v28.cells,ow wm Zf a30 n32 c31 v28.notes,ow wm (Zz .i64) a33 n35 c34 v28.freed,bx wm b27 [.int .i64 v28.machines,.int .i64 v28.names,.map (some m29),.slice a30 n32 c31,.slice a33 n35 c34],bx wm b3 [.slice none 0 0,.slice none 0 0,.int .i64 0,.slice none 0 0]] h23∧Um.at 1= .slice Xt p1.length Xr∧Um.at 4= .pointer (some ⟨b3,0,none⟩)∧Um.at 7= .pointer (some ⟨b27,0,none⟩)∧Um.at 27= .slice Xt p1.length Xr∧Um.at 28= .int .i64 (p1.length:Int)∧Um.at 29= .int .i64 v39) ⟨_,_,b13,m14,a15,c17,Wy.notes.length,a18,c20,Wy.freed.length,rfl,hS.only (.c k1 (.c k1 (.c k1 (.c k0 (.c k1 .n))))),Yy⟩ ?_);clear hL hS;rintro Zud ⟨v28,v39⟩ s ZyB hL ⟨Um,h23,b27,m29,a30,c31,n32,a33,c34,n35,rfl,hS,e25,e26,e36,e37,e38,e40⟩;obtain rfl:=hS.on k1;obtain rfl:=hS.on k2;dsimp only [Zi7] at hL;refine r6 ?_;refine cn hL ?_ ?_
     ·intro hc hL;refine r6 ?_;refine r1 ?_;obtain⟨x42,Zhb,hL⟩:=bind_some hL;obtain⟨b43,o44,_,ZnD,ZnN,ZvA,ZGY⟩:=Sl.at_ QG Zhb;refine WO.w gN rfl (Zx ZmR Zbp lk lk rfl ZnD Zhb) ?_;refine WO.w gN rfl (XG ZoQ Zbp (ZC fh rfl) (At.fz hS.fz ZvA ZnN) (j:=0) rfl rfl (ws:= [.int .i64 x42.Xf,.int .i64 x42.at_,.int .i64 x42.name,.int .i64 x42.ZH]) rfl) ?_;refine r1 ?_;rintro _ h46 ⟨b45,ZP3,rfl,hS⟩;refine r2 ?_;rintro h47 hS;refine r6 ?_;obtain⟨x48,Znn,hL⟩:=bind_some hL;rcases ZyO:x48.1 with _ | y49
      ·skip;rw [ZyO] at hL;replace hL:=Zt0 hL;refine WO.clR gN rfl (Yx.fn ZAY (Zc lk (Zc lk Zj))) hS.hw (Zwt (Nat.le_refl _) (hS.Qm k4) (.inl (hS.lt k4)) (hS.mrd k1) (hS.ord k2) (hS.ord k3) Znn) ?_;rintro v53 h51 ZRe ZGU ZKA;rw [ZyO] at ZGU;obtain⟨rfl,rfl⟩:=ZGU;have hS:=hS.clR ZKA .n;refine QC ?_;refine r2 ?_;refine cn hL ?_ ?_
       ·intro hc hL;refine r3 ?_;obtain⟨x56,Zpv,hL⟩:=bind_some hL;refine WO.clR gN rfl (Yx.fn Znz (Zc lk Zj)) hS.hw (Zi3 (Nat.le_refl _) (hS.Qm k4) (.inl (hS.lt k4)) (hS.mrd k1) (hS.ord k2) (hS.ord k3) Zpv) ?_;rintro _ h66 _ ⟨a57,n58,c59,ZFm,a60,n61,c62,a63,n64,c65,rfl,rfl⟩ ZKy;have hS:=hS.clR ZKy (.c (cvN (fun _ _ _ _=>trivial) hS.hw) (.c (cvO (fun _ _ _ _=>trivial) hS.hw) (.c (cvO (fun _ _ _ _=>trivial) hS.hw) .n)));obtain rfl:=hS.JB k0;obtain rfl:=hS.on k1;obtain rfl:=hS.on k2;refine r3 ?_;rintro h68 hS;refine r8 ?_;refine r3 ?_;have hr:=Oi0 hL;subst hr;exact ZX.gen (vs:= [.agg [.slice a57 x56.cells.length c59,.slice a60 x56.notes.length c62,.int .i64 x56.names,.slice a63 x56.freed.length c65].toArray,.int .i64 v39,.int .i64 x48.2]) rfl (ZN (Ya rfl (Ya rfl (Ye rfl (ZV rfl e26)))) (ZU XE YC (hS.Qm k0) (j:=0) rfl rfl (ws:= [.slice a57 x56.cells.length c59,.slice a60 x56.notes.length c62,.int .i64 x56.names,.slice a63 x56.freed.length c65]) rfl) (ZF lk (ZF lk Zu))) rfl ⟨_,⟨a57,x56.cells.length,c59,ZFm,a60,x56.notes.length,c62,a63,x56.freed.length,c65,rfl,rfl⟩,hT ▸ hS.only (.c k1 (.c k1 (.c k1 .n)))⟩
       ·intro hc hL;cases hL
      ·skip;rw [ZyO] at hL;replace hL:=ZtZ hL;refine WO.clR gN rfl (Yx.fn ZAY (Zc lk (Zc lk Zj))) hS.hw (Zwt (Nat.le_refl _) (hS.Qm k4) (.inl (hS.lt k4)) (hS.mrd k1) (hS.ord k2) (hS.ord k3) Znn) ?_;rintro v79 h77 ZRd ZGT ZKv;rw [ZyO] at ZGT;obtain⟨b69,m70,a71,n72,c73,a74,n75,c76,rfl,rfl⟩:=ZGT;have hS:=hS.clR ZKv (.c (cvB hS.hw) (.c (cvM hS.hw) (.c (cvO (fun _ _ _ _=>trivial) hS.hw) (.c (cvO (fun _ _ _ _=>trivial) hS.hw) .n))));obtain rfl:=hS.on k2;obtain rfl:=hS.on k3;refine QC ?_;refine r2 ?_;refine cn hL ?_ ?_
       ·intro hc hL;refine r3 ?_;obtain⟨x82,ZJO,hL⟩:=bind_some hL;refine WO.clR gN rfl (Yx.fn Znz (Zc lk Zj)) hS.hw (Zi3 (Nat.le_refl _) (hS.Qm k8) (.inl (hS.lt k8)) (hS.mrd k5) (hS.ord k6) (hS.ord k7) ZJO) ?_;rintro _ h92 _ ⟨a83,n84,c85,ZFi,a86,n87,c88,a89,n90,c91,rfl,rfl⟩ ZKu;have hS:=hS.clR ZKu (.c (cvN (fun _ _ _ _=>trivial) hS.hw) (.c (cvO (fun _ _ _ _=>trivial) hS.hw) (.c (cvO (fun _ _ _ _=>trivial) hS.hw) .n)));obtain rfl:=hS.JB k0;obtain rfl:=hS.on k1;obtain rfl:=hS.on k2;refine r3 ?_;rintro h94 hS;refine r8 ?_;refine r3 ?_;have hr:=Oi0 hL;subst hr;exact ZX.gen (vs:= [.agg [.slice a83 x82.cells.length c85,.slice a86 x82.notes.length c88,.int .i64 x82.names,.slice a89 x82.freed.length c91].toArray,.int .i64 v39,.int .i64 x48.2]) rfl (ZN (Ya rfl (Ya rfl (Ye rfl (ZV rfl e26)))) (ZU XE YC (hS.Qm k0) (j:=0) rfl rfl (ws:= [.slice a83 x82.cells.length c85,.slice a86 x82.notes.length c88,.int .i64 x82.names,.slice a89 x82.freed.length c91]) rfl) (ZF lk (ZF lk Zu))) rfl ⟨_,⟨a83,x82.cells.length,c85,ZFi,a86,x82.notes.length,c88,a89,x82.freed.length,c91,rfl,rfl⟩,hT ▸ hS.only (.c k1 (.c k1 (.c k1 .n)))⟩
       ·intro hc hL;refine QC ?_;exact Yc.Yp (ZyB _ _ hL ⟨_,_,b69,m70,a71,c73,y49.notes.length,a74,c76,y49.freed.length,rfl,hS.only (.c k1 (.c k1 (.c k1 (.c k0 (.c k5 .n))))),Yy⟩)
     ·intro hc hL;refine r8 ?_;obtain⟨x95,hx95,hL⟩:=bind_some hL;refine WO.clR gN rfl (Yx.fn Znz (Zc lk Zj)) hS.hw (Zi3 (Nat.le_refl _) (hS.Qm k3) (.inl (hS.lt k3)) (hS.mrd k0) (hS.ord k1) (hS.ord k2) hx95) ?_;rintro _ ZK3 _ ⟨a96,n97,c98,ZFg,a99,n100,ZsW,Zke,n103,ZoB,rfl,rfl⟩ ZGS;have hS:=hS.clR ZGS (.c (cvN (fun _ _ _ _=>trivial) hS.hw) (.c (cvO (fun _ _ _ _=>trivial) hS.hw) (.c (cvO (fun _ _ _ _=>trivial) hS.hw) .n)));obtain rfl:=hS.JB k0;obtain rfl:=hS.on k1;obtain rfl:=hS.on k2;refine r3 ?_;rintro ZPF hS;refine r4 ?_;refine r1 ?_;have hr:=Oi0 hL;subst hr;exact ZX.gen (vs:= [.agg [.slice a96 x95.cells.length c98,.slice a99 x95.notes.length ZsW,.int .i64 x95.names,.slice Zke x95.freed.length ZoB].toArray,.int .i64 (p1.length:Int),.int .i64 0]) rfl (ZN (Ye rfl (ZV rfl (Zi rfl e26))) (ZU XE YC (hS.Qm k0) (j:=0) rfl rfl (ws:= [.slice a96 x95.cells.length c98,.slice a99 x95.notes.length ZsW,.int .i64 x95.names,.slice Zke x95.freed.length ZoB]) rfl) (ZF lk (ZF lk Zu))) rfl ⟨_,⟨a96,x95.cells.length,c98,ZFg,a99,x95.notes.length,ZsW,Zke,x95.freed.length,ZoB,rfl,rfl⟩,hT ▸ hS.only (.c k1 (.c k1 (.c k1 .n)))⟩
   ·skip;simp only [ZQ,ZW,Nat.reduceAdd];refine QC ?_;refine r2 ?_;refine WC.loop (WL.lift hL (fun(Zo2:Int) (s:Fs)=>∃ (ZkT:Fr) (ZvV:H),s= ⟨ZkT,[],ZvV,none⟩∧Sp wm T h [bx wm b1 [.slice Zr p0.cells.length Zq,.slice Zn p0.notes.length Zm,.int .i64 p0.names,.slice Zl p0.freed.length Zk],bx wm b3 [.slice none 0 0,.slice none 0 0,.int .i64 0,.slice none 0 0]] ZvV∧ZkT.at 0= .slice Xt p1.length Xr∧ZkT.at 1= .func (.func 64) #[] [.pointer (some ⟨b1,0,none⟩)].toArray∧ZkT.at 7= .int .i64 (p1.length:Int)∧ZkT.at 8= .int .i64 Zo2) ⟨_,_,rfl,hS.only (.c k1 (.c k0 .n)),Yy⟩ ?_);clear hL hS;rintro Zq6 Zo2 s ZuP hL ⟨ZkT,ZvV,rfl,hS,ZQt,ZQs,ZQr,ZQq⟩;dsimp only [Zgq] at hL;refine r6 ?_;refine cn hL ?_ ?_
    ·intro hc hL;refine QC ?_;refine r3 ?_;obtain⟨Zr0,ZAE,hL⟩:=bind_some hL;obtain⟨ZQ3,ZOt,_,ZC3,ZDh,ZC7,ZKL⟩:=Sl.at_ QG ZAE;refine WO.w gN rfl (Zx ZmR Zbp lk lk rfl ZC3 ZAE) ?_;refine WO.w gN rfl (XG ZoQ Zbp (ZC fh rfl) (At.fz hS.fz ZC7 ZDh) (j:=0) rfl rfl (ws:= [.int .i64 Zr0.Xf,.int .i64 Zr0.at_,.int .i64 Zr0.name,.int .i64 Zr0.ZH]) rfl) ?_;refine WO.inl gN rfl (Yx.clo (first:= []) (cap:= [.pointer (some ⟨b1,0,none⟩)]) lk ZGq lks rfl) (WF.begin (args:= [_,_]) (fn:=Try.f64) Kq0 (by exact rfl) Try.ntmps64 (by simp) ?_);simp only [ZQ,ZW,Nat.reduceAdd];refine r3 ?_;rintro _ ZPy ⟨ZQ2,ZNr,rfl,hS⟩;refine r8 ?_;refine r1 ?_;obtain⟨ZxN,Znq,hL⟩:=bind_some hL;refine WO.cp gN rfl (Yx.fn ZGw (Zc lk (Zc lk Zj))) (ZDM Znq) ?_;refine r4 ?_;refine r1 ?_;refine ZX.Qz rfl (ZF lk Zu) ?_;refine r2 ?_;refine cn hL ?_ ?_
     ·intro hc hL;refine QC ?_;exact ZX.Qz rfl (ZF lk Zu) ⟨_,hL,⟨rfl,hS.only (.c k1 (.c k1 .n))⟩⟩
     ·intro hc hL;refine r6 ?_;refine r1 ?_;exact Yc.Yp (ZuP _ _ hL ⟨_,_,rfl,hS.only (.c k1 (.c k1 .n)),Yy⟩)
    ·intro hc hL;refine r8 ?_;refine r3 ?_;exact ZX.Qz rfl (ZF lk Zu) ⟨_,hL,⟨rfl,hS.only (.c k0 (.c k0 .n))⟩⟩
  ·replace hL:=Wn hk7 hL;refine WO.ZjS (Zh.no rfl rfl rfl (Zi rfl fh)) hk7 rfl ?_;refine WO.ZjS (Zh.no rfl rfl rfl (ZV rfl fh)) hk7 rfl ?_;refine WO.w gN rfl (Zjt lk (ZCf hk7) lk) ?_;refine r2 ?_;refine WC.Zmn lk rfl ?_;refine r2 ?_;refine WO.w gN rfl (XH ZcN ZI rfl (cs':= [.slice none 0 0,.slice none 0 0,.int .i64 0,.slice none 0 0]) rfl) ?_;refine r1 ?_;rintro h122 hS;refine r6 ?_;have hS:=hS.Zh8 (e:= (Yf Ze)) (ps:=fun _=>(Yf Ze).dflt);have hS:=hS.nil (e:=Zf);have hS:=hS.nil (e:= (Zz .i64));have hr:=Oi0 hL;subst hr;exact ZX.gen (vs:= [.agg [.slice none 0 0,.slice none 0 0,.int .i64 0,.slice none 0 0].toArray,.int .i64 0,.int .i64 2]) rfl (ZN (Ya rfl (Ya rfl fh)) (ZU XE YC (hS.Qm k3) (j:=0) rfl rfl (ws:= [.slice none 0 0,.slice none 0 0,.int .i64 0,.slice none 0 0]) rfl) (ZF lk (ZF lk Zu))) rfl ⟨_,⟨none,0,0,(fun _=>(Yf Ze).dflt),none,0,0,none,0,0,rfl,rfl⟩,hT ▸ hS.only (.c k2 (.c k1 (.c k0 .n)))⟩
end Go.Proofs.Ytekpjgmhkkjhgaa
end
end
section
namespace Go.Proofs.Ytekpjgmhkkjhgaa
open Go.Lf
def f4L (F:Nat) (p0:Za) (p1:(List Zv)):Option Bool:=
 (ZwC F p0).bind fun x3=>(bif(x3 || (decide ((p1.length:Int) > 220))) then(Zzp).bind fun x4=>some x4 else(Zwy F p0 p1).bind fun x5=>(Zwx F p0 p1).bind fun x20=>(Zww F p0).bind fun x35=>(Zwv F p0).bind fun x50=>(Zqd F x5.1 x20.1).bind fun x65=>(gd ((x65 && (x5.2.1==x20.2.1)) && (x5.2.2==x20.2.2)) (Zqd F x35.1 x50.1) default).bind fun x66=>(gd (((((x65 && (x5.2.1==x20.2.1)) && (x5.2.2==x20.2.2)) && x66) && (x35.2.1==x50.2.1)) && (x35.2.2==x50.2.2)) (Zzp) default).bind fun x67=>some ((((((x65 && (x5.2.1==x20.2.1)) && (x5.2.2==x20.2.2)) && x66) && (x35.2.1==x50.2.1)) && (x35.2.2==x50.2.2)) && x67))
end Go.Proofs.Ytekpjgmhkkjhgaa
end
section
set_option maxRecDepth 20000
noncomputable section
namespace Go.Proofs.Ytekpjgmhkkjhgaa
open Go.YD Go.Lf
theorem ZHM {F wm:Nat} {h:H} {p0:Za} {p1:(List Zv)} {Zr:Option Addr} {Zq:Nat} {Zn:Option Addr} {Zm:Nat} {Zl:Option Addr} {Zk:Nat} {Xt:Option Addr} {Xr:Nat} {r:Bool} (ZK:wm <=h.size) (Zw:Sl (rSl Ze) wm h Zr Zq p0.cells) (ZA:Sl Zf wm h Zn Zm p0.notes) (Zy:Sl (Zz .i64) wm h Zl Zk p0.freed) (QG:Sl WJ wm h Xt Xr p1) (hL:f4L F p0 p1=some r):
 WR XX 4 #[.agg [.slice Zr p0.cells.length Zq,.slice Zn p0.notes.length Zm,.int .i64 p0.names,.slice Zl p0.freed.length Zk].toArray,.slice Xt p1.length Xr] wm h (CP (fun(v:Value) (Gb:List (Ast wm))=>v= .bool r∧Gb= []) [] h):=by
 refine bg Try.ntmps4 ZK ZT.nil ?_;intro T hT hS;unfold f4L at hL;refine r3 ?_;rintro _ h2 ⟨b1,eb1,rfl,hS⟩;refine r6 ?_;refine r1 ?_;obtain⟨x3,hx3,hL⟩:=bind_some hL;refine WO.cp gN rfl (Yx.fn ZGC (Zc lk Zj)) (WR.YP rfl (ZDW (Nat.le_refl _) (hS.Qq Zw) (hS.Qq ZA) (hS.Qq Zy) hx3)) ?_;refine r6 ?_;refine r1 ?_;refine cn hL ?_ ?_
 ·intro hc hL;refine r2 ?_;obtain⟨x4,hx4,hL⟩:=bind_some hL;refine WO.cp gN rfl (Yx.fn ZA2 Zj) (ZwB hx4) ?_;refine r4 ?_;refine r1 ?_;exact rt hL hT hS
 ·intro hc hL;refine r6 ?_;obtain⟨x5,hx5,hL⟩:=bind_some hL;refine WO.cl gN rfl (Yx.fn ZGB (Zc lk (Zc lk Zj))) hS .n (fun g' hz hf hO=>ZDT (by rw [hz];exact hS.hw) ((hS.sl Zw).mono hf) ((hS.sl ZA).mono hf) ((hS.sl Zy).mono hf) ((hS.sl QG).mono hf) hx5) ?_;rintro _ h15 _ ⟨a6,n7,c8,ZN2,a9,n10,c11,a12,n13,c14,rfl,rfl⟩ hS;obtain rfl:=hS.JB k0;obtain rfl:=hS.on k1;obtain rfl:=hS.on k2;refine r4 ?_;refine r1 ?_;rintro _ h18 ⟨b17,ZzL,rfl,hS⟩;refine r1 ?_;rintro h19 hS;refine r8 ?_;obtain⟨x20,Zin,hL⟩:=bind_some hL;refine WO.cl gN rfl (Yx.fn ZGA (Zc lk (Zc lk Zj))) hS .n (fun g' hz hf hO=>ZDS (by rw [hz];exact hS.hw) ((hS.sl Zw).mono hf) ((hS.sl ZA).mono hf) ((hS.sl Zy).mono hf) ((hS.sl QG).mono hf) Zin) ?_;rintro _ h30 _ ⟨a21,n22,c23,ZMb,a24,n25,c26,a27,n28,c29,rfl,rfl⟩ hS;obtain rfl:=hS.JB k0;obtain rfl:=hS.on k1;obtain rfl:=hS.on k2;refine r4 ?_;refine r1 ?_;rintro _ h33 ⟨b32,ZP8,rfl,hS⟩;refine r1 ?_;rintro h34 hS;refine r6 ?_;refine r1 ?_;obtain⟨x35,KL,hL⟩:=bind_some hL;refine WO.cl gN rfl (Yx.fn ZGz (Zc lk Zj)) hS .n (fun g' hz hf hO=>ZDR (by rw [hz];exact hS.hw) ((hS.sl Zw).mono hf) ((hS.sl ZA).mono hf) ((hS.sl Zy).mono hf) KL) ?_;rintro _ h45 _ ⟨a36,n37,c38,ZMa,a39,n40,c41,a42,n43,c44,rfl,rfl⟩ hS;obtain rfl:=hS.JB k0;obtain rfl:=hS.on k1;obtain rfl:=hS.on k2;refine r4 ?_;refine r1 ?_;rintro _ h48 ⟨b47,ZP2,rfl,hS⟩;refine r1 ?_;rintro h49 hS;refine r6 ?_;refine r1 ?_;obtain⟨x50,ZJV,hL⟩:=bind_some hL;refine WO.cl gN rfl (Yx.fn ZGy (Zc lk Zj)) hS .n (fun g' hz hf hO=>ZDQ (by rw [hz];exact hS.hw) ((hS.sl Zw).mono hf) ((hS.sl ZA).mono hf) ((hS.sl Zy).mono hf) ZJV) ?_;rintro _ h60 _ ⟨a51,n52,c53,ZL9,a54,n55,c56,a57,n58,c59,rfl,rfl⟩ hS;simp only [List.cons_append,List.nil_append] at hS;obtain rfl:=hS.JB k0;obtain rfl:=hS.on k1;obtain rfl:=hS.on k2;refine r4 ?_;refine r1 ?_;rintro _ h63 ⟨b62,ZLc,rfl,hS⟩;refine r1 ?_;rintro h64 hS;refine r8 ?_;obtain⟨x65,Zux,hL⟩:=bind_some hL;refine WO.cp gN rfl (Yx.fn ZA1 (Zc lk (Zc lk Zj))) (ZwA (hS.nrd k13 KY) (hS.ord k14) (hS.ord k15) (hS.nrd k9 KY) (hS.ord k10) (hS.ord k11) Zux) ?_;refine QC ?_;refine r1 ?_;obtain⟨x66,Zpu,hL⟩:=Z8 hL;refine WO.gcp (Zh.yes rfl rfl rfl (ZV rfl fh)) rfl (fun hg=>(Yx.fn ZA1 (Zc (YA (Zi rfl fh) rfl hg) (Zc (YA fh rfl hg) Zj)))) (fun hg=>ZwA (hS.nrd k5 KY) (hS.ord k6) (hS.ord k7) (hS.nrd k1 KY) (hS.ord k2) (hS.ord k3) (Zpu hg)) ?_;refine QC ?_;obtain⟨x67,ZJS,hL⟩:=Z8 hL;refine WO.gcp (Zh.yes rfl rfl rfl fh) rfl (fun hg=>(Yx.fn ZA2 Zj)) (fun hg=>ZwB (ZJS hg)) ?_;refine r4 ?_;refine r1 ?_;exact rt hL hT hS
theorem ZHN {F:Nat} {h:H} {p0:Za} {p1:(List Zv)} {Zr:Option Addr} {Zq:Nat} {Zn:Option Addr} {Zm:Nat} {Zl:Option Addr} {Zk:Nat} {Xt:Option Addr} {Xr:Nat} {r:Bool} (Zw:Sl (rSl Ze) h.size h Zr Zq p0.cells) (ZA:Sl Zf h.size h Zn Zm p0.notes) (Zy:Sl (Zz .i64) h.size h Zl Zk p0.freed) (QG:Sl WJ h.size h Xt Xr p1) (hL:f4L F p0 p1=some r):Pure XX 4 #[.agg [.slice Zr p0.cells.length Zq,.slice Zn p0.notes.length Zm,.int .i64 p0.names,.slice Zl p0.freed.length Zk].toArray,.slice Xt p1.length Xr] h (.bool r):=
 WR.YP rfl (ZHM (Nat.le_refl _) Zw ZA Zy QG hL)
end Go.Proofs.Ytekpjgmhkkjhgaa
end
end
section
end
section
namespace Go.Proofs.Ytekpjgmhkkjhgaa
abbrev CV:=Int ->Option Zb
def YE (cv:CV) (m:Int) (o:Option Zb):CV:=fun a=>if a=m then o else cv a
def Qx:Option Zb ->Int | some c=>c.out | none=>0
def UF:Option Zb ->Nat | some c=>if c.root=true then 1 else 0 | none=>0
def Kn (a:Int):Option Zb ->Int | some c=>if c.from_=a then c.has else 0 | none=>0
def U8 (a:Int) (x:Zd):Int:=if(x.kind=1∧x.via=a)∨(x.kind=2∧x.ZH=a) then x.w else 0
def Qj (a:Int) (x:Zd):Int:=if x.kind=3∧x.ZH=a then 16 else 0
def Xb (f:Zd ->Int):List Zd ->Int | []=>0 | x::l=>f x + Xb f l
def Zag (f:Nat ->Int):Nat ->Int | 0=>0 | k + 1=>Zag f k + f k
def Ug:List Zd ->Nat | []=>0 | x::l=>(if x.kind=3 then 1 else 0) + Ug l
def JG (M:Nat) (cv:CV) (ns:List Zd) (a:Int):Int:=Zag (fun m=>Kn a (cv m)) M + Xb (U8 a) ns
def K4 (cv:CV) (ns:List Zd) (a:Int):Int:=Qx (cv a) + Xb (Qj a) ns
theorem Qg (f:Zd ->Int) (l r:List Zd):Xb f (l ++ r)=Xb f l + Xb f r:=by
 induction l with
 | nil=>simp [Xb]
 | cons x l ih=>simp only [List.cons_append,Xb,ih];omega
theorem Zbd (l r:List Zd):Ug (l ++ r)=Ug l + Ug r:=by
 induction l with
 | nil=>simp [Ug]
 | cons x l ih=>simp only [List.cons_append,Ug,ih];omega
theorem QT (f:Zd ->Int) (x:Zd):Xb f [x]=f x:=by simp [Xb]
theorem Zfk (x:Zd):Ug [x]=if x.kind=3 then 1 else 0:=by simp [Ug]
theorem Zb7 {f:Zd ->Int} {l:List Zd} (h:∀ x ∈ l,0 <=f x):0 <=Xb f l:=by
 induction l with
 | nil=>simp [Xb]
 | cons x l ih=>
   have:=h x (by simp);have:=ih fun y hy=>h y (by simp [hy])
   simp only [Xb];omega
theorem ZxS {f:Zd ->Int} {l:List Zd} (h:∀ x ∈ l,0 <=f x) {x:Zd} (hx:x ∈ l):f x <=Xb f l:=by
 induction l with
 | nil=>simp at hx
 | cons y l ih=>
   have h1:=h y (by simp);have h2:=Zb7 fun z hz=>h z (List.mem_cons_of_mem _ hz)
   simp only [Xb];rcases List.mem_cons.1 hx with rfl | hx
   ·omega
   ·have:=ih (fun z hz=>h z (List.mem_cons_of_mem _ hz)) hx;omega
theorem ZfD {f:Zd ->Int} {l r:List Zd} (h:l.Perm r):Xb f l=Xb f r:=by
 induction h with
 | nil=>rfl
 | cons x _ ih=>simp only [Xb,ih]
 | swap x y l=>simp only [Xb];omega
 | trans _ _ i1 i2=>exact i1.trans i2
theorem ZsR {l r:List Zd} (h:l.Perm r):Ug l=Ug r:=by
 induction h with
 | nil=>rfl
 | cons x _ ih=>simp only [Ug,ih]
 | swap x y l=>simp only [Ug];omega
 | trans _ _ i1 i2=>exact i1.trans i2
theorem Zb6 {f:Nat ->Int} {M:Nat} (h:∀ m,m < M ->0 <=f m):0 <=Zag f M:=by
 induction M with
 | zero=>simp [Zag]
 | succ M ih=>
   have:=h M (by omega);have:=ih fun m hm=>h m (by omega)
   simp only [Zag];omega
theorem ZxR {f:Nat ->Int} {M:Nat} (h:∀ m,m < M ->0 <=f m) {m:Nat} (hm:m < M):f m <=Zag f M:=by
 induction M with
 | zero=>omega
 | succ M ih=>
   have h1:=h M (by omega);have h2:=Zb6 fun m (hm:m < M)=>h m (by omega)
   simp only [Zag];by_cases e:m=M
   ·subst e;omega
   ·have:=ih (fun m hm=>h m (by omega)) (by omega);omega
theorem Zo3 {f g:Nat ->Int} {M:Nat} (h:∀ m,m < M ->f m=g m):Zag f M=Zag g M:=by
 induction M with
 | zero=>rfl
 | succ M ih=>simp only [Zag];rw [ih fun m hm=>h m (by omega),h M (by omega)]
theorem Ztx {f g:Nat ->Int} {M k:Nat} (hk:k < M) (h:∀ m,m < M ->m ≠ k ->f m=g m):Zag f M=Zag g M - g k + f k:=by
 induction M with
 | zero=>omega
 | succ M ih=>
   simp only [Zag];by_cases e:k=M
   ·subst e;rw [Zo3 fun m hm=>h m (by omega) (by omega)];omega
   ·rw [ih (by omega) (fun m hm hn=>h m (by omega) hn),h M (by omega) (fun z=>e z.symm)];omega
theorem ZeN {M:Nat} {cv:CV} {ns:List Zd} {m:Int} (h0:0 <=m) (h1:m < M) (o:Option Zb) (a:Int):
 JG M (YE cv m o) ns a=JG M cv ns a - Kn a (cv m) + Kn a o:=by
 unfold JG;have hm:((m.toNat:Nat):Int)=m:=by omega
 rw [Ztx (k:=m.toNat) (g:=fun k=>Kn a (cv k)) (by omega) (fun k hk hne=>by
  unfold YE;rw [if_neg (by omega)])]
 have:YE cv m o ((m.toNat:Nat):Int)=o:=by unfold YE;rw [if_pos hm]
 rw [this,hm];omega
theorem Zc2 (cv:CV) (m:Int) (o:Option Zb):YE cv m o m=o:=by simp [YE]
theorem Zes {cv:CV} {m a:Int} {o:Option Zb} (h:a ≠ m):YE cv m o a=cv a:=by simp [YE,h]
structure Nm (M:Nat) (n:Int) (cv:CV) (ns:List Zd) (h:Int):Prop where
 rng:∀ m c,cv m=some c ->0 <=m∧m < M
 nam:∀ m c,cv m=some c ->c.name=n
 cel:∀ m c,cv m=some c ->(c.root=false∧0 <=c.from_∧c.from_ < M∧c.from_ ≠ m∧1 <=c.has)∨(c.from_=-1∧c.has=0)
 nts:∀ x ∈ ns,(0 <=x.ZH∧x.ZH < M)∧x.name=n∧1 <=x.w∧((x.kind=1∧0 <=x.via∧x.via < M)∨(x.kind=2∧x.via=0)∨(x.kind=3∧x.via=0∧x.w=16∧x.ZH=h))
 hM:0 <=h∧h < M
 rt:∀ m c,cv m=some c ->c.root=true ->m=h
 one:UF (cv h) + Ug ns=1
 acc:∀ a:Int,0 <=a ->a < M ->K4 cv ns a=JG M cv ns a
 lead:∃ dep:Int ->Nat,∀ m c,cv m=some c ->m ≠ h ->0 <=c.from_∧(cv c.from_ ≠ none∨c.from_=h)∧dep c.from_ < dep m
theorem Nm.perm {M:Nat} {n:Int} {cv:CV} {ns ns':List Zd} {h:Int} (H:Nm M n cv ns h) (p:ns.Perm ns'):Nm M n cv ns' h:=
 {H with
  nts:=fun x hx=>H.nts x (p.mem_iff.2 hx)
  one:=by rw [← ZsR p];exact H.one
  acc:=fun a h0 h1=>by
   have:=H.acc a h0 h1;unfold K4 JG at this ⊢;rw [← ZfD p,← ZfD p];exact this}
section
variable {M:Nat} {n:Int} {cv:CV} {ns:List Zd} {h:Int}
theorem Nm.Zcw (H:Nm M n cv ns h) {a:Int} (h0:0 <=a) (m:Int):0 <=Kn a (cv m):=by
 unfold Kn;cases e:cv m with
 | none=>simp
 | some c=>
   dsimp only;split
   ·rcases H.cel m c e with⟨_,_,_,_,h5⟩ | ⟨h1,h2⟩ <;> omega
   ·omega
theorem Nm.ZbB (H:Nm M n cv ns h) (a:Int):∀ x ∈ ns,0 <=U8 a x:=by
 intro x hx;have:= (H.nts x hx).2.2.1;unfold U8;split <;> omega
theorem Nm.Zda (H:Nm M n cv ns h) {m:Int} {c:Zb} (e:cv m=some c) (hf:0 <=c.from_):1 <=c.has∧c.has <=JG M cv ns c.from_:=by
 have hr:=H.rng m c e;have hh:1 <=c.has:=by rcases H.cel m c e with⟨_,_,_,_,h5⟩ | ⟨h1,h2⟩ <;> omega
 refine⟨hh,?_⟩;have h1:=ZxR (f:=fun k=>Kn c.from_ (cv k)) (M:=M) (fun k _=>H.Zcw hf k) (m:=m.toNat) (by omega);have h2:=Zb7 (H.ZbB c.from_);have hm:((m.toNat:Nat):Int)=m:=by omega
 have h3:Kn c.from_ (cv ((m.toNat:Nat):Int))=c.has:=by rw [hm,e];simp [Kn]
 rw [h3] at h1;unfold JG;omega
theorem Nm.UH (H:Nm M n cv ns h) {a:Int} (h0:0 <=a) {x:Zd} (hx:x ∈ ns):U8 a x <=JG M cv ns a:=by
 have h1:=Zb6 (f:=fun k=>Kn a (cv k)) (M:=M) (fun k _=>H.Zcw h0 k);have h2:=ZxS (H.ZbB a) hx;unfold JG;omega
theorem ZmU (H:∀ x ∈ ns,x.kind=3 ->x.ZH=h) (a:Int):Xb (Qj a) ns=if a=h then 16 * (Ug ns:Int) else 0:=by
 induction ns with
 | nil=>simp [Xb,Ug]
 | cons x l ih=>
   have i:=ih fun y hy=>H y (by simp [hy])
   have hx:=H x (by simp);simp only [Xb,Ug];rw [i];unfold Qj;by_cases h3:x.kind=3
   ·have:=hx h3;by_cases ha:a=h
    ·rw [if_pos ⟨h3,by omega⟩,if_pos ha,if_pos ha,if_pos h3];omega
    ·rw [if_neg (by omega),if_neg ha,if_neg ha];omega
   ·rw [if_neg (fun z=>h3 z.1),if_neg h3];split <;> omega
theorem Nm.giv (H:Nm M n cv ns h) (a:Int):K4 cv ns a=Qx (cv a) + if a=h then 16 * (Ug ns:Int) else 0:=by
 unfold K4;rw [ZmU (h:=h) (fun x hx h3=>by rcases(H.nts x hx).2.2.2 with z | z | z <;> omega)]
theorem Nm.Znx (H:Nm M n cv ns h) {a:Int} (h0:0 <=a):0 <=JG M cv ns a:=by
 have h1:=Zb6 (f:=fun k=>Kn a (cv k)) (M:=M) (fun k _=>H.Zcw h0 k);have h2:=Zb7 (H.ZbB a);unfold JG;omega
theorem Nm.there (H:Nm M n cv ns h) {a:Int} (h0:0 <=a) (h1:a < M) (hp:1 <=JG M cv ns a):cv a ≠ none∨a=h:=by
 have:=H.acc a h0 h1;rw [H.giv] at this;by_cases e:a=h
 ·exact .inr e
 ·rw [if_neg e] at this;refine .inl fun z=>?_
  rw [z] at this;simp [Qx] at this;omega
theorem Nm.Zpi (H:Nm M n cv ns h) {m:Int} {c:Zb} (e:cv m=some c):-16 <=c.out∧(m ≠ h ->0 <=c.out)∧(Ug ns=0 ->0 <=c.out):=by
 have hr:=H.rng m c e;have h1:=H.acc m hr.1 hr.2;have h2:=H.Znx hr.1;have h3:=H.one;rw [H.giv,e] at h1;simp only [Qx] at h1;refine⟨?_,fun hm=>?_,fun hc=>?_⟩
 ·split at h1 <;> omega
 ·rw [if_neg hm] at h1;omega
 ·rw [hc] at h1;split at h1 <;> omega
theorem Nm.ZD3 (H:Nm M n cv ns h):Ug ns <=1:=by have:=H.one;omega
theorem Nm.WQ (H:Nm M n cv ns h) {m:Int} {c:Zb} (h0:m=h∨∃ d,cv m=some d∧d.from_=c.from_):
 ∃ dep:Int ->Nat,∀ a d,YE cv m (some c) a=some d ->a ≠ h ->0 <=d.from_∧(YE cv m (some c) d.from_ ≠ none∨d.from_=h)∧dep d.from_ < dep a:=by
 obtain⟨dep,L⟩:=H.lead;refine⟨dep,fun a d hd ha=>?_⟩
 have key:∀ f:Int,(cv f ≠ none∨f=h) ->(YE cv m (some c) f ≠ none∨f=h):=by
  intro f hf;unfold YE;split
  ·exact .inl (by simp)
  ·exact hf
 unfold YE at hd;split at hd
 ·rename_i e;cases hd;rcases h0 with z | ⟨d,z1,z2⟩
  ·exact absurd (e.trans z) ha
  ·obtain⟨l1,l2,l3⟩:=L m d z1 (by rw [← e];exact ha);rw [z2] at l1 l2 l3;exact⟨l1,key _ l2,by rw [e];exact l3⟩
 ·obtain⟨l1,l2,l3⟩:=L a d hd ha;exact⟨l1,key _ l2,l3⟩
end
end Go.Proofs.Ytekpjgmhkkjhgaa
end
section
namespace Go.Proofs.Ytekpjgmhkkjhgaa
def ZwY (n:Int):Zb:= ⟨n,false,-1,0,0,false⟩
section
variable {M:Nat} {n:Int} {cv:CV} {ns ns':List Zd} {h m:Int}
def ZaZ (n:Int) (cv:CV) (m:Int):Zb:= (cv m).getD (ZwY n)
structure Lk (M:Nat) (n:Int) (cv:CV) (h m:Int) (c:Zb):Prop where
 nam:c.name=n
 cel:(c.root=false∧0 <=c.from_∧c.from_ < M∧c.from_ ≠ m∧1 <=c.has)∨(c.from_=-1∧c.has=0)
 out:Qx (cv m)=c.out
 has:∀ a,0 <=a ->Kn a (cv m)=Kn a (some c)
 root:UF (cv m)=UF (some c)
 rt:c.root=true ->m=h
 or:cv m=some c∨(cv m=none∧c.root=false∧c.from_=-1∧c.out=0∧c.use=false)
theorem Nm.look (H:Nm M n cv ns h) (m:Int):Lk M n cv h m (ZaZ n cv m):=by
 unfold ZaZ;cases e:cv m with
 | none=>
   refine⟨rfl,.inr ⟨rfl,rfl⟩,by rw [e];rfl,fun a ha=>?_,by rw [e];rfl,(fun z=>Bool.noConfusion z),.inr ⟨e,rfl,rfl,rfl,rfl⟩⟩;rw [e];show 0=if(-1:Int)=a then(0:Int) else 0
   split <;> rfl
 | some c=>
   refine⟨H.nam m c e,H.cel m c e,by rw [e];rfl,fun a ha=>by rw [e];rfl,by rw [e];rfl,H.rt m c e,.inl e⟩
theorem Nm.put (H:Nm M n cv ns h) (h0:0 <=m) (h1:m < M) {c:Zb} (hn:c.name=n)
 (hc:(c.root=false∧0 <=c.from_∧c.from_ < M∧c.from_ ≠ m∧1 <=c.has)∨(c.from_=-1∧c.has=0))
 (hns:∀ x ∈ ns',(0 <=x.ZH∧x.ZH < M)∧x.name=n∧1 <=x.w∧((x.kind=1∧0 <=x.via∧x.via < M)∨(x.kind=2∧x.via=0)∨(x.kind=3∧x.via=0∧x.w=16∧x.ZH=h)))
 (hrt:c.root=true ->m=h) (hone:(if h=m then UF (some c) else UF (cv h)) + Ug ns'=1)
 (hacc:∀ a:Int,0 <=a ->a < M ->(if a=m then c.out else Qx (cv a)) + Xb (Qj a) ns' + Kn a (cv m) + Xb (U8 a) ns=Qx (cv a) + Xb (Qj a) ns + Kn a (some c) + Xb (U8 a) ns')
 (hl:∃ dep:Int ->Nat,∀ a d,YE cv m (some c) a=some d ->a ≠ h ->0 <=d.from_∧(YE cv m (some c) d.from_ ≠ none∨d.from_=h)∧dep d.from_ < dep a):
 Nm M n (YE cv m (some c)) ns' h where
 rng a d hd:=by
  unfold YE at hd;split at hd
  ·subst_vars;omega
  ·exact H.rng a d hd
 nam a d hd:=by
  unfold YE at hd;split at hd
  ·cases hd;exact hn
  ·exact H.nam a d hd
 cel a d hd:=by
  unfold YE at hd;split at hd
  ·subst_vars;cases hd;exact hc
  ·exact H.cel a d hd
 nts:=hns
 hM:=H.hM
 rt a d hd hr:=by
  unfold YE at hd;split at hd
  ·subst_vars;cases hd;exact hrt hr
  ·exact H.rt a d hd hr
 one:=by
  rw [← hone];unfold YE;split <;> rfl
 acc a a0 a1:=by
  have q:=H.acc a a0 a1;have p:=hacc a a0 a1;rw [ZeN h0 h1];unfold K4 at q ⊢;unfold JG at q ⊢;have:Qx (YE cv m (some c) a)=if a=m then c.out else Qx (cv a):=by unfold YE;split <;> rfl
  rw [this];omega
 lead:=hl
theorem Nm.tail (H:∀ x ∈ ns,(0 <=x.ZH∧x.ZH < M)∧x.name=n∧1 <=x.w∧((x.kind=1∧0 <=x.via∧x.via < M)∨(x.kind=2∧x.via=0)∨(x.kind=3∧x.via=0∧x.w=16∧x.ZH=h))) (hs:∀ x ∈ ns',x ∈ ns):∀ x ∈ ns',(0 <=x.ZH∧x.ZH < M)∧x.name=n∧1 <=x.w∧((x.kind=1∧0 <=x.via∧x.via < M)∨(x.kind=2∧x.via=0)∨(x.kind=3∧x.via=0∧x.w=16∧x.ZH=h)):=fun x hx=>H x (hs x hx)
theorem W9 {x:Zd} (k:x.kind=1) (a:Int):Qj a x=0:=by unfold Qj;rw [if_neg (by omega)]
theorem Zc6 {x:Zd} (k:x.kind=2) (a:Int):Qj a x=0:=by unfold Qj;rw [if_neg (by omega)]
theorem Zlp {x:Zd} (k:x.kind=3) (a:Int):Qj a x=if x.ZH=a then 16 else 0:=by
 unfold Qj;by_cases e:x.ZH=a
 ·rw [if_pos ⟨k,e⟩,if_pos e]
 ·rw [if_neg (fun z=>e z.2),if_neg e]
theorem WZ {x:Zd} (k:x.kind=1) (a:Int):U8 a x=if x.via=a then x.w else 0:=by
 unfold U8;by_cases e:x.via=a
 ·rw [if_pos (.inl ⟨k,e⟩),if_pos e]
 ·rw [if_neg (by rintro(z | z) <;> omega),if_neg e]
theorem ZbC {x:Zd} (k:x.kind=2) (a:Int):U8 a x=if x.ZH=a then x.w else 0:=by
 unfold U8;by_cases e:x.ZH=a
 ·rw [if_pos (.inr ⟨k,e⟩),if_pos e]
 ·rw [if_neg (by rintro(z | z) <;> omega),if_neg e]
theorem Zq4 {x:Zd} (k:x.kind=3) (a:Int):U8 a x=0:=by
 unfold U8;rw [if_neg (by rintro(z | z) <;> omega)]
theorem cnt1 {x:Zd} {l:List Zd} (k:¬ x.kind=3):Ug (x::l)=Ug l:=by simp only [Ug,if_neg k];omega
theorem Qu (a:Int) (c:Zb):Kn a (some c)=if c.from_=a then c.has else 0:=rfl
theorem Nm.use (H:Nm M n cv ns h) {c:Zb} (e:cv m=some c) (u:Bool):Nm M n (YE cv m (some ⟨c.name,c.root,c.from_,c.has,c.out,u⟩)) ns h:=by
 have hr:=H.rng m c e;refine H.put hr.1 hr.2 (by exact H.nam m c e) (by exact H.cel m c e) H.nts (by exact H.rt m c e) ?_ (fun a a0 a1=>?_) (H.WQ (.inr ⟨c,e,rfl⟩))
 ·rw [← H.one];by_cases z:h=m
  ·rw [if_pos z,z,e];rfl
  ·rw [if_neg z]
 ·rw [e];by_cases z:a=m
  ·rw [if_pos z,z,e];simp only [Qx,Qu]
  ·rw [if_neg z];simp only [Qu]
theorem Nm.ZvX {x:Zd} (H:Nm M n cv (x::ns) h) (k:x.kind=1) {c:Zb} (L:Lk M n cv h x.ZH c) (hr:c.root=false) (hf:c.from_=-1) (hv:x.via ≠ x.ZH) (u:Bool):
 Nm M n (YE cv x.ZH (some ⟨c.name,c.root,x.via,x.w,c.out,u⟩)) ns h:=by
 have hx:=H.nts x (by simp);have hvr:0 <=x.via∧x.via < M:=by rcases hx.2.2.2 with z | z | z <;> omega
 have hh:=H.UH hvr.1 (x:=x) (by simp);rw [WZ k,if_pos rfl] at hh;have ht:=H.there hvr.1 hvr.2 (by omega);refine H.put hx.1.1 hx.1.2 L.nam (.inl ⟨hr,hvr.1,hvr.2,hv,hx.2.2.1⟩) (Nm.tail H.nts (by simp_all)) (by rw [hr];simp) ?_ (fun a a0 a1=>?_) ?_
 ·have o:=H.one;rw [cnt1 (by omega)] at o;have:UF (some (Zb.mk c.name c.root x.via x.w c.out u))=UF (some c):=rfl;rw [this];by_cases z:h=x.ZH
  ·rw [if_pos z,← L.root,← z];omega
  ·rw [if_neg z];omega
 ·rw [L.has a a0];simp only [Xb,W9 k,WZ k,Qu,hf];rw [if_neg (by omega:¬ (-1:Int)=a)];by_cases z:a=x.ZH
  ·rw [if_pos z,z,L.out];omega
  ·rw [if_neg z];omega
 ·by_cases z:x.ZH=h
  ·exact H.WQ (.inl z)
  ·obtain⟨dep,l⟩:=H.lead;rcases L.or with e | ⟨e,_⟩
   ·obtain⟨l1,_⟩:=l _ c e z;omega
   refine⟨fun a=>if a=x.ZH then dep x.via + 1 else dep a,fun a d hd ha=>?_⟩;dsimp only;unfold YE at hd;split at hd
   ·rename_i ea;cases hd;refine⟨hvr.1,?_,?_⟩
    ·show YE cv x.ZH _ x.via ≠ none∨x.via=h;rw [Zes hv];exact ht
    ·show(if x.via=x.ZH then _ else dep x.via) < _;rw [if_pos ea,if_neg hv];omega
   ·rename_i ea;obtain⟨l1,l2,l3⟩:=l a d hd ha
    have hne:d.from_ ≠ x.ZH:=by
     intro w;rw [w] at l2;rcases l2 with q | q
     ·exact q e
     ·exact z q
    rw [if_neg hne,if_neg ea,Zes hne];exact⟨l1,l2,l3⟩
theorem Nm.Zsv {x:Zd} (H:Nm M n cv (x::ns) h) (k:x.kind=1) {c:Zb} (L:Lk M n cv h x.ZH c) (hf:0 <=c.from_) (hv:c.from_=x.via) (u:Bool):
 Nm M n (YE cv x.ZH (some ⟨c.name,c.root,c.from_,c.has + x.w,c.out,u⟩)) ns h:=by
 have hx:=H.nts x (by simp);have hce:cv x.ZH=some c:=by rcases L.or with e | ⟨_,_,e,_⟩;exact e;omega
 have Zst:c.root=false∧0 <=c.from_∧c.from_ < M∧c.from_ ≠ x.ZH∧1 <=c.has:=by rcases L.cel with z | z;exact z;omega
 refine H.put hx.1.1 hx.1.2 L.nam (.inl ⟨Zst.1,Zst.2.1,Zst.2.2.1,Zst.2.2.2.1,?_⟩) (Nm.tail H.nts (by simp_all)) L.rt ?_ (fun a a0 a1=>?_) (H.WQ (.inr ⟨c,hce,rfl⟩))
 ·show 1 <=c.has + x.w;omega
 ·have o:=H.one;rw [cnt1 (by omega)] at o;have:UF (some (Zb.mk c.name c.root c.from_ (c.has + x.w) c.out u))=UF (some c):=rfl;rw [this];by_cases z:h=x.ZH
  ·rw [if_pos z,← L.root,← z];omega
  ·rw [if_neg z];omega
 ·rw [L.has a a0];simp only [Xb,W9 k,WZ k,Qu,hv];by_cases z:a=x.ZH
  ·rw [if_pos z,z,L.out];split <;> omega
  ·rw [if_neg z];split <;> omega
theorem Nm.Zsw {x y:Zd} (H:Nm M n cv (x::ns) h) (k:x.kind=1) (hy:y= ⟨2,x.via,n,0,x.w⟩):Nm M n cv (ns ++ [y]) h:=by
 have hx:=H.nts x (by simp);have hvr:0 <=x.via∧x.via < M:=by rcases hx.2.2.2 with z | z | z <;> omega
 refine{H with nts:=fun z hz=>?_,one:= ?_,acc:=fun a a0 a1=>?_}
 ·rcases List.mem_append.1 hz with q | q
  ·exact H.nts z (by simp [q])
  ·rw [List.mem_singleton.1 q,hy];exact⟨hvr,rfl,hx.2.2.1,.inr (.inl ⟨rfl,rfl⟩)⟩
 ·have o:=H.one;rw [cnt1 (by omega)] at o;rw [Zbd,Zfk,hy];simp;omega
 ·have q:=H.acc a a0 a1;unfold K4 JG at q ⊢;simp only [Xb,W9 k,WZ k] at q;have h2:y.kind=2:=by rw [hy]
  rw [Qg,Qg,QT,QT,Zc6 h2,ZbC h2,hy];dsimp only;omega
theorem Nm.ZkI {x:Zd} (H:Nm M n cv (x::ns) h) (k:(x.kind=1∧x.via=x.ZH)∨x.kind=2) {c:Zb} (L:Lk M n cv h x.ZH c) (u:Bool):
 Nm M n (YE cv x.ZH (some ⟨c.name,c.root,c.from_,c.has,c.out - x.w,u⟩)) ns h:=by
 have hx:=H.nts x (by simp);have hh:=H.UH hx.1.1 (x:=x) (by simp)
 have hH:∀ a,U8 a x=if x.ZH=a then x.w else 0:=by
  intro a;rcases k with⟨k,v⟩ | k
  ·rw [WZ k,v]
  ·exact ZbC k a
 have hG:∀ a,Qj a x=0:=by
  intro a;rcases k with⟨k,v⟩ | k
  ·exact W9 k a
  ·exact Zc6 k a
 have hk3:¬ x.kind=3:=by omega
 rw [hH,if_pos rfl] at hh;have ht:=H.there hx.1.1 hx.1.2 (by omega);refine H.put hx.1.1 hx.1.2 L.nam (by exact L.cel) (Nm.tail H.nts (by simp_all)) (by exact L.rt) ?_ (fun a a0 a1=>?_) ?_
 ·have o:=H.one;rw [cnt1 hk3] at o;have:UF (some (Zb.mk c.name c.root c.from_ c.has (c.out - x.w) u))=UF (some c):=rfl;rw [this];by_cases z:h=x.ZH
  ·rw [if_pos z,← L.root,← z];omega
  ·rw [if_neg z];omega
 ·rw [L.has a a0];simp only [Xb,hG,hH,Qu];by_cases z:a=x.ZH
  ·rw [if_pos z,z,L.out,if_pos rfl];omega
  ·rw [if_neg z,if_neg (by omega:¬ x.ZH=a)];omega
 ·refine H.WQ ?_;rcases L.or with e | ⟨e,_⟩
  ·exact .inr ⟨c,e,rfl⟩
  ·rcases ht with z | z
   ·exact absurd e z
   ·exact .inl z
theorem Nm.home {x:Zd} (H:Nm M n cv (x::ns) h) (k:x.kind=3) {c:Zb} (L:Lk M n cv h x.ZH c) (u:Bool) {ys:List Zd}
 (hy:ys=if 0 <=c.from_ then [⟨2,c.from_,n,0,c.has⟩] else []):
 Nm M n (YE cv x.ZH (some ⟨c.name,true,-1,0,c.out + 16,u⟩)) (ns ++ ys) h:=by
 have hx:=H.nts x (by simp);have hh:x.ZH=h:=by rcases hx.2.2.2 with z | z | z <;> omega
 have o:=H.one;simp only [Ug,k,if_true] at o;refine H.put hx.1.1 hx.1.2 L.nam (.inr ⟨rfl,rfl⟩) ?_ (fun _=>hh) ?_ (fun a a0 a1=>?_) (H.WQ (.inl hh))
 ·intro z hz;rcases List.mem_append.1 hz with q | q
  ·exact H.nts z (by simp [q])
  ·rw [hy] at q;split at q
   ·rename_i hf;rw [List.mem_singleton.1 q];rcases L.cel with w | w
    ·exact⟨⟨w.2.1,w.2.2.1⟩,rfl,w.2.2.2.2,.inr (.inl ⟨rfl,rfl⟩)⟩
    ·omega
   ·simp at q
 ·rw [if_pos hh.symm,Zbd,show UF (some (Zb.mk c.name true (-1) 0 (c.out + 16) u))=1 from rfl];have:Ug ys=0:=by rw [hy];split <;> simp [Ug]
  omega
 ·rw [L.has a a0];have hG:Xb (Qj a) ys=0:=by rw [hy];split <;> simp [Xb,Qj]
  have hH:Xb (U8 a) ys=if c.from_=a then c.has else 0:=by
   rw [hy];by_cases hf:0 <=c.from_
   ·rw [if_pos hf,QT,ZbC rfl]
   ·rw [if_neg hf,if_neg (by omega)];rfl
  rw [Qg,Qg,hG,hH];simp only [Xb,Zlp k,Zq4 k,Qu];rw [if_neg (by omega:¬ (-1:Int)=a)];by_cases z:a=x.ZH
  ·rw [if_pos z,z,L.out,if_pos rfl];omega
  ·rw [if_neg z,if_neg (by omega:¬ x.ZH=a)];omega
theorem Nm.gone (H:Nm M n cv ns h) {c:Zb} (e:cv m=some c) (ho:c.out=0) (hr:c.root=false) {ys:List Zd}
 (hy:ys=if 0 <=c.from_ then [⟨2,c.from_,n,0,c.has⟩] else []):Nm M n (YE cv m none) (ns ++ ys) h:=by
 have hm:=H.rng m c e;have Zst:=H.cel m c e;have hG:∀ a,Xb (Qj a) ys=0:=by intro a;rw [hy];split <;> simp [Xb,Qj]
 have hH:∀ a,0 <=a ->Xb (U8 a) ys=Kn a (some c):=by
  intro a a0;rw [hy,Qu];by_cases hf:0 <=c.from_
  ·rw [if_pos hf,QT,ZbC rfl]
  ·rw [if_neg hf,if_neg (by omega)];rfl
 refine⟨?_,?_,?_,?_,H.hM,?_,?_,?_,?_⟩
 ·intro a d hd;unfold YE at hd;split at hd
  ·cases hd
  ·exact H.rng a d hd
 ·intro a d hd;unfold YE at hd;split at hd
  ·cases hd
  ·exact H.nam a d hd
 ·intro a d hd;unfold YE at hd;split at hd
  ·cases hd
  ·exact H.cel a d hd
 ·intro z hz;rcases List.mem_append.1 hz with q | q
  ·exact H.nts z q
  ·rw [hy] at q;split at q
   ·rename_i hf;rw [List.mem_singleton.1 q];rcases Zst with w | w
    ·exact⟨⟨w.2.1,w.2.2.1⟩,rfl,w.2.2.2.2,.inr (.inl ⟨rfl,rfl⟩)⟩
    ·omega
   ·simp at q
 ·intro a d hd;unfold YE at hd;split at hd
  ·cases hd
  ·exact H.rt a d hd
 ·have o:=H.one;have:Ug ys=0:=by rw [hy];split <;> simp [Ug]
  rw [Zbd,this]
  have:UF (YE cv m none h)=UF (cv h):=by
   unfold YE;split
   ·rename_i z;rw [z,e];simp [UF,hr]
   ·rfl
  rw [this];omega
 ·intro a a0 a1;have q:=H.acc a a0 a1;rw [ZeN hm.1 hm.2,e];unfold K4 JG at *;rw [Qg,Qg,hG,hH a a0]
  have:Qx (YE cv m none a)=Qx (cv a):=by
   unfold YE;split
   ·rename_i z;rw [z,e];simp [Qx,ho]
   ·rfl
  rw [this];simp only [Qu] at *;have:Kn a none=0:=rfl;omega
 ·obtain⟨dep,l⟩:=H.lead;refine⟨dep,fun a d hd ha=>?_⟩;unfold YE at hd;split at hd
  ·cases hd
  ·obtain⟨l1,l2,l3⟩:=l a d hd ha;refine⟨l1,?_,l3⟩;by_cases z:d.from_=m
   ·by_cases zh:m=h
    ·exact .inr (z.trans zh)
    ·exfalso;have q:=H.Zda hd l1;rw [z] at q;have p:=H.acc m hm.1 hm.2;rw [H.giv,if_neg zh,e] at p;simp only [Qx] at p;omega
   ·rw [Zes z];exact l2
theorem Nm.last (H:Nm M n cv ns h) {c:Zb} (e:cv m=some c) (ho:c.out=0) (hr:c.root=true):(∀ a,a ≠ m ->cv a=none)∧ns= []:=by
 have hmh:=H.rt m c e hr;subst hmh;have o:=H.one;rw [e] at o;have h0:Ug ns=0:=by simp only [UF,hr,if_true] at o;omega
 have hz:JG M cv ns m=0:=by
  rw [← H.acc m H.hM.1 H.hM.2,H.giv,if_pos rfl,e,h0];simp [Qx,ho]
 obtain⟨dep,l⟩:=H.lead
 have key:∀ k a,dep a <=k ->a ≠ m ->cv a=none:=by
  intro k
  induction k with
  | zero=>
    intro a hk ha;cases ec:cv a with
    | none=>rfl
    | some d=>have:=l a d ec ha;omega
  | succ k ih=>
    intro a hk ha;cases ec:cv a with
    | none=>rfl
    | some d=>
      exfalso;obtain⟨l1,l2,l3⟩:=l a d ec ha;by_cases z:d.from_=m
      ·have:=H.Zda ec l1;rw [z] at this;omega
      ·rcases l2 with l2 | l2
       ·exact l2 (ih _ (by omega) z)
       ·exact z l2
 have k1:∀ a,a ≠ m ->cv a=none:=fun a ha=>key (dep a) a (Nat.le_refl _) ha
 refine⟨k1,?_⟩;cases ns with
 | nil=>rfl
 | cons x l'=>
   exfalso;have hx:=H.nts x (by simp)
   have hk3:¬ x.kind=3:=by
    intro z;simp only [Ug,z,if_true] at h0;omega
   have hbad:∀ a:Int,0 <=a ->a < M ->1 <=JG M cv (x::l') a ->False:=by
    intro a a0 a1 hp;by_cases z:a=m
    ·rw [z] at hp;omega
    ·have:=H.acc a a0 a1;rw [H.giv,if_neg z,k1 a z] at this;simp only [Qx] at this;omega
   rcases hx.2.2.2 with z | z | z
   ·have:=H.UH z.2.1 (x:=x) (by simp);rw [WZ z.1,if_pos rfl] at this;exact hbad _ z.2.1 z.2.2 (by omega)
   ·have:=H.UH hx.1.1 (x:=x) (by simp);rw [ZbC z.1,if_pos rfl] at this;exact hbad _ hx.1.1 hx.1.2 (by omega)
   ·exact hk3 z.1
theorem Nm.ZxY (H:Nm M n cv ns h) {c:Zb} (e:cv m=some c) (hf:0 <=c.from_) {t w:Int} (ht:0 <=t∧t < M) (h1:1 <=w) (h2:w < c.has) {y:Zd} (hy:y= ⟨1,t,n,c.from_,w⟩):
 Nm M n (YE cv m (some ⟨c.name,c.root,c.from_,c.has - w,c.out,c.use⟩)) (ns ++ [y]) h:=by
 have hm:=H.rng m c e;have hc:c.root=false∧0 <=c.from_∧c.from_ < M∧c.from_ ≠ m∧1 <=c.has:=by rcases H.cel m c e with z | z;exact z;omega
 have ky:y.kind=1:=by rw [hy]
 refine H.put hm.1 hm.2 (by exact H.nam m c e) (.inl ⟨hc.1,hc.2.1,hc.2.2.1,hc.2.2.2.1,by show 1 <=c.has - w;omega⟩) ?_ (by exact H.rt m c e) ?_ (fun a a0 a1=>?_) (H.WQ (.inr ⟨c,e,rfl⟩))
 ·intro z hz;rcases List.mem_append.1 hz with q | q
  ·exact H.nts z q
  ·rw [List.mem_singleton.1 q,hy];exact⟨ht,rfl,h1,.inl ⟨rfl,hc.2.1,hc.2.2.1⟩⟩
 ·have o:=H.one;rw [Zbd,Zfk,ky,← o];by_cases z:h=m
  ·rw [if_pos z,z,e];rfl
  ·rw [if_neg z];simp
 ·rw [e,Qg,Qg,QT,QT,W9 ky,WZ ky,hy];simp only [Qu];by_cases z:a=m
  ·rw [if_pos z,z,e];simp only [Qx];split <;> omega
  ·rw [if_neg z];split <;> omega
theorem Nm.Zx0 (H:Nm M n cv ns h) {c:Zb} (e:cv m=some c) {t w:Int} (ht:0 <=t∧t < M) (h1:1 <=w) {y:Zd} (hy:y= ⟨1,t,n,m,w⟩):
 Nm M n (YE cv m (some ⟨c.name,c.root,c.from_,c.has,c.out + w,c.use⟩)) (ns ++ [y]) h:=by
 have hm:=H.rng m c e;have ky:y.kind=1:=by rw [hy]
 refine H.put hm.1 hm.2 (by exact H.nam m c e) (by exact H.cel m c e) ?_ (by exact H.rt m c e) ?_ (fun a a0 a1=>?_) (H.WQ (.inr ⟨c,e,rfl⟩))
 ·intro z hz;rcases List.mem_append.1 hz with q | q
  ·exact H.nts z q
  ·rw [List.mem_singleton.1 q,hy];exact⟨ht,rfl,h1,.inl ⟨rfl,hm⟩⟩
 ·have o:=H.one;rw [Zbd,Zfk,ky,← o];by_cases z:h=m
  ·rw [if_pos z,z,e];rfl
  ·rw [if_neg z];simp
 ·rw [e,Qg,Qg,QT,QT,W9 ky,WZ ky,hy];simp only [Qu];by_cases z:a=m
  ·rw [if_pos z,z,e,if_pos rfl];simp only [Qx];omega
  ·rw [if_neg z,if_neg (by omega:¬ m=a)];omega
theorem Nm.go (H:Nm M n cv ns h) {c:Zb} (e:cv m=some c) (hr:c.root=true) {t:Int} (ht:0 <=t∧t < M) (hne:t ≠ m) {y:Zd} (hy:y= ⟨3,t,n,0,16⟩):
 Nm M n (YE cv m (some ⟨c.name,false,t,16,c.out,c.use⟩)) (ns ++ [y]) t:=by
 have hm:=H.rng m c e;have hmh:=H.rt m c e hr;subst hmh;have hc:c.from_=-1∧c.has=0:=by rcases H.cel m c e with z | z;exact absurd hr (by simp [z.1]);exact z
 have ky:y.kind=3:=by rw [hy]
 have o:=H.one;rw [e] at o;have h0:Ug ns=0:=by simp only [UF,hr,if_true] at o;omega
 have no3:∀ x ∈ ns,¬ x.kind=3:=by
  intro x hx z
  have:∀ l:List Zd,x ∈ l ->1 <=Ug l:=by
   intro l
   induction l with
   | nil=>simp
   | cons w l ih=>
     intro q;simp only [Ug];rcases List.mem_cons.1 q with rfl | q
     ·rw [if_pos z];omega
     ·have:=ih q;omega
  have:=this ns hx;omega
 refine⟨?_,?_,?_,?_,ht,?_,?_,?_,?_⟩
 ·intro a d hd;unfold YE at hd;split at hd
  ·subst_vars;exact hm
  ·exact H.rng a d hd
 ·intro a d hd;unfold YE at hd;split at hd
  ·cases hd;exact H.nam m c e
  ·exact H.nam a d hd
 ·intro a d hd;unfold YE at hd;split at hd
  ·subst_vars;cases hd;exact .inl ⟨rfl,ht.1,ht.2,hne,by show(1:Int) <=16;omega⟩
  ·exact H.cel a d hd
 ·intro z hz;rcases List.mem_append.1 hz with q | q
  ·have:=H.nts z q;refine⟨this.1,this.2.1,this.2.2.1,?_⟩;rcases this.2.2.2 with w | w | w
   ·exact .inl w
   ·exact .inr (.inl w)
   ·exact absurd w.1 (no3 z q)
  ·rw [List.mem_singleton.1 q,hy];exact⟨ht,rfl,by show(1:Int) <=16;omega,.inr (.inr ⟨rfl,rfl,rfl,rfl⟩)⟩
 ·intro a d hd hrd;unfold YE at hd;split at hd
  ·cases hd;cases hrd
  ·rename_i z;exact absurd (H.rt a d hd hrd) z
 ·rw [Zbd,Zfk,if_pos ky,Zes hne,h0]
  have:UF (cv t)=0:=by
   cases ec:cv t with
   | none=>rfl
   | some d=>
     show(if d.root=true then 1 else 0)=0;by_cases z:d.root=true
     ·exact absurd (H.rt t d ec z) hne
     ·rw [if_neg z]
  omega
 ·intro a a0 a1;have q:=H.acc a a0 a1;rw [ZeN hm.1 hm.2,e];unfold K4 JG at *;rw [Qg,Qg,QT,QT,Zlp ky,Zq4 ky,hy];simp only [Qu,hc.1,hc.2] at *
  have:Qx (YE cv m (some ⟨c.name,false,t,16,c.out,c.use⟩) a)=Qx (cv a):=by
   unfold YE;split
   ·rename_i z;rw [z,e];rfl
   ·rfl
  rw [this];rw [if_neg (by omega:¬ (-1:Int)=a)];omega
 ·obtain⟨dep,l⟩:=H.lead;refine⟨fun a=>if a=t then 0 else dep a + 1,fun a d hd ha=>?_⟩;dsimp only;rw [if_neg ha];unfold YE at hd;split at hd
  ·cases hd;dsimp only;rw [if_pos rfl];exact⟨ht.1,.inr rfl,by omega⟩
  ·rename_i z;obtain⟨l1,l2,l3⟩:=l a d hd z;refine⟨l1,?_,?_⟩
   ·by_cases q:d.from_=m
    ·rw [q,Zc2];exact .inl (by simp)
    ·rw [Zes q];rcases l2 with l2 | l2
     ·exact .inl l2
     ·exact absurd l2 q
   ·split <;> omega
theorem Nm.fresh (hm:0 <=m∧m < M):Nm M n (YE (fun _=>none) m (some ⟨n,true,-1,0,0,true⟩)) [] m where
 rng a d hd:=by
  unfold YE at hd;split at hd
  ·subst_vars;exact hm
  ·cases hd
 nam a d hd:=by
  unfold YE at hd;split at hd
  ·cases hd;rfl
  ·cases hd
 cel a d hd:=by
  unfold YE at hd;split at hd
  ·cases hd;exact .inr ⟨rfl,rfl⟩
  ·cases hd
 nts x hx:=by simp at hx
 hM:=hm
 rt a d hd _:=by
  unfold YE at hd;split at hd
  ·assumption
  ·cases hd
 one:=by rw [Zc2];rfl
 acc a a0 a1:=by
  rw [ZeN hm.1 hm.2];unfold K4 JG
  have:Zag (fun m=>Kn a none) M=0:=by
   have:∀ k,Zag (fun m=>Kn a none) k=0:=by
    intro k;induction k with
    | zero=>rfl
    | succ k ih=>simp only [Zag,ih];rfl
   exact this M
  rw [this]
  have:Qx (YE (fun _=>none) m (some ⟨n,true,-1,0,0,true⟩) a)=0:=by
   unfold YE;split <;> rfl
  rw [this,Qu];simp [Xb,Kn]
 lead:= ⟨fun _=>0,fun a d hd ha=>by
  unfold YE at hd;split at hd
  ·rename_i z;exact absurd z ha
  ·cases hd⟩
end
end Go.Proofs.Ytekpjgmhkkjhgaa
end
section
namespace Go.Lf
theorem ZhL (n:Int):ZP n=Int.bmod n 18446744073709551616:=by
 unfold ZP Go.IntKind.wrap;have e1:(2 ^ IntKind.i64.bits:Int)=18446744073709551616:=by decide
 have e2:(2 ^ (IntKind.i64.bits - 1):Int)=9223372036854775808:=by decide
 have e3:IntKind.i64.signed=true:=rfl;rw [e1,e2,e3];dsimp only;unfold Int.bmod;have:=Int.emod_nonneg n (b:=18446744073709551616) (by decide);have:=Int.emod_lt_of_pos n (b:=18446744073709551616) (by decide);simp;split <;> split <;> omega
theorem Zhq (a b:Int):ZP (ZP a + b)=ZP (a + b):=by
 rw [ZhL,ZhL,ZhL];simp
theorem Qf {k:Nat} (h:k < 4611686018427387904):ZP ((k:Int) + 1)= ((k + 1:Nat):Int):=by
 rw [Ja (by omega) (by omega)];rfl
theorem ZmO {k:Nat} (h:k < 4611686018427387904) (h0:0 < k):ZP ((k:Int) - 1)= ((k - 1:Nat):Int):=by
 rw [Ja (by omega) (by omega)];omega
theorem YQ {α:Type} {JK:Nat} {xs ys:List α} (h:xs.length + ys.length <=1000000) (hb:JK <=1000):app JK xs ys=some (xs ++ ys):=
 Zqw (Nat.le_trans (Nat.mul_le_mul (show 2 * (xs.length + ys.length) + 1000 <=2001000 by omega) hb) (by decide))
def iter {α β σ:Type} (g:Nat ->α ->σ ->(σ ->Option β) ->Option β) (d:σ ->Option β):Nat ->List α ->σ ->Option β
 | _,[],s=>d s
 | i,x::l,s=>g i x s (fun s'=>iter g d (i + 1) l s')
theorem Z9 {α β σ γ:Type} (l:List α) (mk:Int ->σ ->γ) (body:γ ->(γ ->Option β) ->Option β) (g:Nat ->α ->σ ->(σ ->Option β) ->Option β) (d:σ ->Option β)
 (hl:l.length < 4611686018427387904)
 (hb:∀ (k:Nat) x s next,l[k]? =some x ->((k:Int) < (l.length:Int)) ->body (mk k s) next=g k x s (fun s'=>next (mk (ZP (k + 1)) s')))
 (he:∀ s next,body (mk l.length s) next=d s) {F:Nat} (hF:l.length < F) (s:σ):loop F body (mk 0 s)=iter g d 0 l s:=by
 have key:∀ (m k F:Nat) s,k + m=l.length ->m < F ->loop F body (mk k s)=iter g d k (l.drop k) s:=by
  intro m
  induction m with
  | zero=>
    intro k F s hk hF;obtain⟨F,rfl⟩:=Ne0 (n:=F) (by omega);have:k=l.length:=by omega
    subst this;rw [Yk,he,List.drop_length];rfl
  | succ m ih=>
    intro k F s hk hF;obtain⟨F,rfl⟩:=Ne0 (n:=F) (by omega);have hlt:k < l.length:=by omega
    rw [Yk,hb k l[k] s _ (by simp [hlt]) (by omega),List.drop_eq_getElem_cons hlt,iter];congr 1;funext s';rw [Qf (by omega)];exact ih (k + 1) F s' (by omega) (by omega)
 have:=key l.length 0 F s (by omega) (by omega)
 simpa using this
theorem QF {β σ γ:Type} (n:Nat) (mk:Int ->σ ->γ) (body:γ ->(γ ->Option β) ->Option β) (g:Nat ->σ ->(σ ->Option β) ->Option β) (d:σ ->Option β)
 (hl:n < 4611686018427387904)
 (hb:∀ (k:Nat) s next,k < n ->body (mk k s) next=g k s (fun s'=>next (mk (ZP (k + 1)) s')))
 (he:∀ s next,body (mk n s) next=d s) {F:Nat} (hF:n < F) (s:σ):loop F body (mk 0 s)=iter (fun _ k s next=>g k s next) d 0 (List.range n) s:=by
 refine Z9 (List.range n) mk body (fun _ k s next=>g k s next) d (by simpa using hl) (fun k x s next hx hk=>?_) (by simpa using he) (by simpa using hF) s;rw [List.length_range] at hk
 have:x=k:=by
  rw [List.getElem?_range (by omega)] at hx
  simpa using hx.symm
 subst this;exact hb _ s next (by omega)
def anyI {α:Type} (c:Nat ->α ->Bool):Nat ->List α ->Bool
 | _,[]=>false
 | i,x::l=>c i x || anyI c (i + 1) l
theorem Zbh {α:Type} {c:Nat ->α ->Bool}:∀ {l:List α} {i:Nat},anyI c i l=true↔∃ j x,l[j]? =some x∧c (i + j) x=true
 | [],i=>by simp [anyI]
 | y::l,i=>by
   unfold anyI;rw [Bool.or_eq_true,Zbh (l:=l)]
   constructor
   ·rintro(h | ⟨j,x,h1,h2⟩)
    ·exact⟨0,y,rfl,h⟩
    ·exact⟨j + 1,x,h1,by rw [← h2];congr 1;omega⟩
   ·rintro⟨j,x,h1,h2⟩;cases j with
    | zero=>simp at h1;subst h1;exact .inl h2
    | succ j=>exact .inr ⟨j,x,by simpa using h1,by rw [← h2];congr 1;omega⟩
theorem Jr {α:Type} (c:α ->Bool) (l:List α) (i:Nat):anyI (fun _ x=>c x) i l=l.any c:=by
 induction l generalizing i with
 | nil=>rfl
 | cons x l ih=>unfold anyI;rw [ih];rfl
theorem Zqz {α:Type} {c c':Nat ->α ->Bool} {l:List α} {i:Nat} (h:∀ j x,l[j]? =some x ->c (i + j) x=c' (i + j) x):anyI c i l=anyI c' i l:=by
 induction l generalizing i with
 | nil=>rfl
 | cons x l ih=>
   unfold anyI;rw [ih (fun j y hy=>by have:=h (j + 1) y (by simpa using hy);rwa [show i + (j + 1)=i + 1 + j by omega] at this)];have:=h 0 x rfl;rw [Nat.add_zero] at this;rw [this]
theorem XO {α β σ:Type} {g:Nat ->α ->σ ->(σ ->Option β) ->Option β} {d:σ ->Option β} {r:Option β} (c:Nat ->α ->Bool) {l:List α} {i:Nat} {s:σ}
 (hg:∀ k x next,l[k]? =some x ->g (i + k) x s next=bif c (i + k) x then r else next s):iter g d i l s=bif anyI c i l then r else d s:=by
 induction l generalizing i with
 | nil=>rfl
 | cons x l ih=>
   unfold iter anyI;have:=hg 0 x (fun s'=>iter g d (i + 1) l s') rfl;rw [Nat.add_zero] at this;rw [this];cases c i x
   ·rw [Cq0,Bool.false_or];exact ih (fun k y next hy=>by rw [show i + 1 + k=i + (k + 1) by omega];exact hg (k + 1) y next (by simpa using hy))
   ·rfl
def foldI {α σ:Type} (f:Nat ->α ->σ ->σ):Nat ->List α ->σ ->σ
 | _,[],s=>s
 | i,x::l,s=>foldI f (i + 1) l (f i x s)
theorem Y9 {α β σ:Type} {g:Nat ->α ->σ ->(σ ->Option β) ->Option β} {d:σ ->Option β} (f:Nat ->α ->σ ->σ) (I:Nat ->σ ->Prop) {l:List α} {i:Nat} {s:σ} (h0:I i s)
 (hg:∀ k x s next,l[k]? =some x ->I (i + k) s ->g (i + k) x s next=next (f (i + k) x s)∧I (i + k + 1) (f (i + k) x s)):iter g d i l s=d (foldI f i l s)∧I (i + l.length) (foldI f i l s):=by
 induction l generalizing i s with
 | nil=>exact⟨rfl,h0⟩
 | cons x l ih=>
   unfold iter foldI;have:=hg 0 x s (fun s'=>iter g d (i + 1) l s') rfl h0;rw [Nat.add_zero] at this;rw [this.1]
   have:=ih this.2 (fun k y s next hy hI=>by
    rw [show i + 1 + k=i + (k + 1) by omega] at hI ⊢;exact hg (k + 1) y s next (by simpa using hy) hI)
   rwa [show i + 1 + l.length=i + (x::l).length by simp;omega] at this
theorem Qb {α σ:Type} (f:α ->σ ->σ) (l:List α) (i:Nat) (s:σ):foldI (fun _=>f) i l s=l.foldl (fun s x=>f x s) s:=by
 induction l generalizing i s with
 | nil=>rfl
 | cons x l ih=>exact ih _ _
theorem ZeY {σ τ:Type} (V:σ ->τ) (f:Nat ->σ ->σ) (h:τ ->τ) {n N:Nat} (hn:n < N) (h1:∀ i s,i < N ->i ≠ n ->V (f i s)=V s) (h2:∀ s,V (f n s)=h (V s)) (s:σ):
 V ((List.range N).foldl (fun s i=>f i s) s)=h (V s):=by
 have key:∀ M,M <=N ->V ((List.range M).foldl (fun s i=>f i s) s)=if n < M then h (V s) else V s:=by
  intro M
  induction M with
  | zero=>intro _;simp
  | succ M ih=>
    intro hM;rw [List.range_succ,List.foldl_append];simp only [List.foldl_cons,List.foldl_nil];by_cases e:M=n
    ·subst e;rw [h2,ih (by omega),if_neg (by omega),if_pos (by omega)]
    ·rw [h1 _ _ (by omega) e,ih (by omega)];by_cases hm:n < M
     ·rw [if_pos hm,if_pos (by omega)]
     ·rw [if_neg hm,if_neg (by omega)]
 rw [key N (Nat.le_refl _),if_pos hn]
end Go.Lf
end
section
end
section
namespace Go.Proofs.Ytekpjgmhkkjhgaa
open Go.Lf
structure Small (w:Za):Prop where
 cells:w.cells.length < 1000
 rows:∀ r ∈ w.cells,r.length < 1000
 notes:w.notes.length < 1000
 freed:w.freed.length < 1000
def rowOf (w:Za) (m:Nat):List Zb:=w.cells[m]?.getD []
def cellOf (w:Za) (m:Nat) (n:Int):Option Zb:= (rowOf w m).find? (fun c=>c.name==n)
theorem Small.row {w:Za} (s:Small w) (m:Nat):(rowOf w m).length < 1000:=by
 unfold rowOf;cases e:w.cells[m]? with
 | none=>simp
 | some r=>exact s.rows r (List.mem_of_getElem? e)
theorem Yn {w:Za} {m:Nat} (h:m < w.cells.length):w.cells[m]? =some (rowOf w m):=by
 unfold rowOf;simp [h]
theorem has_eq {F:Nat} (hF:1000 <=F) {l:List Int} (hl:l.length < 1000) (x:Int):Zn3 F l x=some (l.any fun y=>y==x):=by
 unfold Zn3;refine(Z9 l (fun v (_:Unit)=>v) (ZiU l x) (fun _ y s next=>bif y==x then some true else next ()) (fun _=>some false) (by omega) (fun k y s next hy hk=>?_) (fun s next=>?_) (by omega) ()).trans ?_
 ·simp [ZiU,ZB,hy,hk]
 ·simp [ZiU]
 ·rw [XO (r:=some true) (fun _ y=>y==x) (fun _ _ _ _=>rfl),Jr];cases l.any fun y=>y==x <;> rfl
theorem ZfY {α β σ:Type} {g:Nat ->α ->σ ->(σ ->Option β) ->Option β} {d:σ ->Option β} (r:Nat ->Option β) (c:α ->Bool) {l:List α} {i:Nat} {s:σ}
 (hg:∀ k x next,l[k]? =some x ->g (i + k) x s next=bif c x then r (i + k) else next s):
 (∃ j x,l.find? c=some x∧l[j]? =some x∧iter g d i l s=r (i + j))∨(l.find? c=none∧iter g d i l s=d s):=by
 induction l generalizing i with
 | nil=>exact .inr ⟨rfl,rfl⟩
 | cons x l ih=>
   unfold iter;have:=hg 0 x (fun s'=>iter g d (i + 1) l s') rfl;rw [Nat.add_zero] at this;rw [this];cases hc:c x
   ·rw [Cq0,List.find?_cons,hc];rcases ih (i:=i + 1) (fun k y next hy=>by rw [show i + 1 + k=i + (k + 1) by omega];exact hg (k + 1) y next (by simpa using hy)) with⟨j,y,h1,h2,h3⟩ | ⟨h1,h2⟩
    ·exact .inl ⟨j + 1,y,h1,by simpa using h2,by rw [h3];congr 1;omega⟩
    ·exact .inr ⟨h1,h2⟩
   ·exact .inl ⟨0,x,by rw [List.find?_cons,hc],rfl,rfl⟩
theorem find_eq {F:Nat} (hF:1000 <=F) {w:Za} (sm:Small w) {m:Nat} (hm:m < w.cells.length) (n:Int):
 (∃ (j:Nat) (c:Zb),cellOf w m n=some c∧(rowOf w m)[j]? =some c∧Zdw F w m n=some (j:Int))∨(cellOf w m n=none∧Zdw F w m n=some (-1)):=by
 have hr:=Yn hm;have hl:=sm.row m
 have e:Zdw F w m n=iter (fun k (y:Zb) (_:Unit) next=>bif y.name==n then some (k:Int) else next ()) (fun _=>some (-1)) 0 (rowOf w m) ():=by
  unfold Zdw;refine(Z9 (rowOf w m) (fun v (_:Unit)=>v) (ZiO w m n) _ _ (by omega) (fun k y s next hy hk=>?_) (fun s next=>?_) (by omega) ())
  ·simp only [ZiO,ZB,hr,hy,hk,decide_true,Bq0,Cq1]
  ·simp [ZiO,ZB,hr]
 rw [e];rcases ZfY (l:=rowOf w m) (i:=0) (s:= ()) (d:=fun _=>some (-1)) (g:=fun k (y:Zb) (_:Unit) next=>bif y.name==n then some (k:Int) else next ()) (fun k=>some (k:Int)) (fun c=>c.name==n) (fun _ _ _ _=>rfl) with⟨j,x,h1,h2,h3⟩ | ⟨h1,h2⟩
 ·exact .inl ⟨j,x,h1,h2,by rw [h3,Nat.zero_add]⟩
 ·exact .inr ⟨h1,h2⟩
def ZaG (w:Za) (m n:Int):Nat:=w.notes.countP fun x=>(x.kind==3 && x.ZH==m) && x.name==n
theorem Zqk {α:Type} (c:α ->Bool) (l:List α) (a:Nat) (h:a + l.length < 4611686018427387904):
 l.foldl (fun(s:Int) x=>bif c x then ZP (s + 1) else s) (a:Int)= ((a + l.countP c:Nat):Int):=by
 induction l generalizing a with
 | nil=>rfl
 | cons x l ih=>
   rw [List.foldl_cons,List.countP_cons];simp only [List.length_cons] at h;cases hc:c x
   ·simp only [Cq0];rw [ih a (by omega)];simp
   ·simp only [Cq1,if_true];rw [Qf (by omega),ih (a + 1) (by omega)];congr 1;omega
theorem Znu {F:Nat} (hF:1000 <=F) {w:Za} (sm:Small w) (m n:Int):ZkX F w m n=some (ZaG w m n:Int):=by
 have hl:=sm.notes;unfold ZkX;refine(Z9 w.notes (fun v (s:Int)=>(s,v)) (Ze9 w m n) (fun _ x s next=>next (bif((x.kind==3) && (x.ZH==m)) && (x.name==n) then ZP (s + 1) else s)) (fun s=>some s) (by omega) (fun k y s next hy hk=>?_) (fun s next=>?_) (by omega) 0).trans ?_
 ·simp only [Ze9,ZB,hy,hk,decide_true,Cq1,Bq0,Ze8];cases ((y.kind==3) && (y.ZH==m)) && (y.name==n) <;> rfl
 ·simp [Ze9]
 ·rw [(Y9 (fun _ x s=>bif((x.kind==3) && (x.ZH==m)) && (x.name==n) then ZP (s + 1) else s) (fun _ _=>True) trivial (fun _ _ _ _ _ _=>⟨rfl,trivial⟩)).1];rw [Qb];have:=Zqk (fun x:Zd=>((x.kind==3) && (x.ZH==m)) && (x.name==n)) w.notes 0 (by omega);rw [Nat.zero_add] at this;exact congrArg some this
def Zkv (w:Za) (m:Nat) (n:Int):Int:=match cellOf w m n with | some c=>c.out | none=>0
def XC (w:Za) (m:Nat) (n:Int):Int:=ZP (16 * (ZaG w m n:Int) + Zkv w m n)
theorem ZnU {F:Nat} (hF:1000 <=F) {w:Za} (sm:Small w) {m:Nat} (hm:m < w.cells.length) (n:Int):Zn2 F w m n=some (XC w m n):=by
 unfold Zn2;rw [Znu hF sm];rcases find_eq hF sm hm n with⟨j,c,h1,h2,h3⟩ | ⟨h1,h3⟩
 ·rw [h3];have hj:decide ((j:Int) >=0)=true:=by simp
  simp only [Bq0,hj,Cq1,ZB,Yn hm,h2,Zgc];unfold XC Zkv;rw [h1,Zhq]
 ·rw [h3];simp only [Bq0,Zgc];unfold XC Zkv;rw [h1];simp
def ZeO (w:Za) (m n:Int) (k:Nat) (s:Int):Int:=match cellOf w k n with | some c=>bif c.from_==m then ZP (s + c.has) else s | none=>s
def Za4 (m n:Int) (x:Zd) (s:Int):Int:=bif(x.name==n) && (((x.kind==1) && (x.via==m)) || ((x.kind==2) && (x.ZH==m))) then ZP (s + x.w) else s
def ZbH (w:Za) (m n:Int):Int:=w.notes.foldl (fun s x=>Za4 m n x s) ((List.range w.cells.length).foldl (fun s k=>ZeO w m n k s) 0)
theorem ZyQ {F:Nat} (hF:1000 <=F) {w:Za} (sm:Small w) (m n:Int):Zwn F w m n=some (ZbH w m n):=by
 have hl:=sm.notes;have hc:=sm.cells
 have notes:∀ s:Int,loop F (Zga w m n) (s,0)=some (w.notes.foldl (fun s x=>Za4 m n x s) s):=by
  intro s;refine(Z9 w.notes (fun v (s:Int)=>(s,v)) (Zga w m n) (fun _ x s next=>next (Za4 m n x s)) (fun s=>some s) (by omega) (fun k y s next hy hk=>?_) (fun s next=>?_) (by omega) s).trans ?_
  ·simp only [Zga,ZB,hy,hk,decide_true,Cq1,Bq0,ZiP,Za4];cases (y.name==n) && (((y.kind==1) && (y.via==m)) || ((y.kind==2) && (y.ZH==m))) <;> rfl
  ·simp [Zga]
  ·rw [(Y9 (fun _ x s=>Za4 m n x s) (fun _ _=>True) trivial (fun _ _ _ _ _ _=>⟨rfl,trivial⟩)).1,Qb]
 unfold Zwn;refine(QF w.cells.length (fun v (s:Int)=>(s,v)) (Zgb F w m n) (fun k s next=>next (ZeO w m n k s)) (fun s=>some (w.notes.foldl (fun s x=>Za4 m n x s) s)) (by omega) (fun k s next hk=>?_) (fun s next=>?_) (by omega) 0).trans ?_
 ·have hk':decide ((k:Int) < (w.cells.length:Int))=true:=by simpa using hk
  rcases find_eq hF sm hk n with⟨j,c,h1,h2,h3⟩ | ⟨h1,h3⟩
  ·have hj:decide ((j:Int) >=0)=true:=by simp
   simp only [Zgb,hk',Cq1,h3,Bq0,hj,Zar,ZB,Yn hk,h2,Zf9,ZeO,h1,Bool.true_and];cases c.from_==m <;> rfl
  ·simp only [Zgb,hk',Cq1,h3,Bq0,ZeO,h1,Zf9]
   rfl
 ·simp only [Zgb];rw [decide_eq_false (by omega),Cq0];exact notes s
 ·rw [(Y9 (fun _ k s=>ZeO w m n k s) (fun _ _=>True) trivial (fun _ _ _ _ _ _=>⟨rfl,trivial⟩)).1,Qb]
  rfl
theorem ZbV {α:Type} (g:Bool) (a d:α):gd g (some a) d=some (bif g then a else d):=by cases g <;> rfl
theorem contains_eq {F:Nat} (hF:1000 <=F) {l:List Int} (hl:l.length < 1000) (x:Int):ZsC F l x=some (l.any fun y=>y==x):=by
 unfold ZsC ZrE
 have e:=Z9 l (fun v (_:Unit)=>v) (Zdf l x) (fun k y s next=>bif x==y then some (k:Int) else next ()) (fun _=>some (-1)) (by omega) (fun k y s next hy hk=>by
  simp only [Zdf,ZB,hy,hk,decide_true,Bq0,Cq1]) (fun s next=>by simp [Zdf]) (by omega:l.length < F) ()
 rw [show loop F (Zdf l x) 0=_ from e];rcases ZfY (l:=l) (i:=0) (s:= ()) (d:=fun _=>some (-1)) (g:=fun k (y:Int) (_:Unit) next=>bif x==y then some (k:Int) else next ()) (fun k=>some (k:Int)) (fun c=>x==c) (fun _ _ _ _=>rfl) with⟨j,y,h1,h2,h3⟩ | ⟨h1,h2⟩
 ·rw [h3]
  have:(l.any fun y=>y==x)=true:=by
   rw [List.any_eq_true];have:=List.find?_some h1;exact⟨y,List.mem_of_find?_eq_some h1,by simpa using (by simpa using this:x=y).symm⟩
  rw [this];simp
 ·rw [h2]
  have:(l.any fun y=>y==x)=false:=by
   rw [List.any_eq_false];rw [List.find?_eq_none] at h1;intro y hy;have:=h1 y hy;simp at this ⊢;exact fun e=>this e.symm
  rw [this];rfl
def Yu (w:Za) (n:Int):Bool:= (decide (0 <=n) && decide (n < w.names)) && !(w.freed.any fun y=>y==n)
def Kz (w:Za) (m:Int):Bool:=decide (0 <=m) && decide (m < (w.cells.length:Int))
def Ua (w:Za) (m:Int) (c:Zb):Bool:=
 (Yu w c.name && (decide (-16 <=c.out) && decide (c.out <=1000000)) && (c.use || !(c.out==0))) &&
 (bif c.root || c.from_==-1 then c.from_==-1 && c.has==0 else Kz w c.from_ && !(c.from_==m) && (decide (1 <=c.has) && decide (c.has <=1000000)))
def JE (w:Za) (x:Zd):Bool:=
 (Kz w x.ZH && Yu w x.name && (decide (1 <=x.w) && decide (x.w <=1000000))) &&
 (bif x.kind==1 then Kz w x.via else bif x.kind==2 then x.via==0 else x.kind==3 && x.via==0 && x.w==16)
theorem in_lt (a n:Int) (h0:0 <=n) (h1:n <=1000):ZbM a 0 (ZP (n - 1))=some (decide (0 <=a) && decide (a < n)):=by
 unfold ZbM;rw [Ja (by omega) (by omega)];congr 2;exact decide_eq_decide.2 (by omega)
theorem Znl (a b c:Int):ZbM a b c=some (decide (b <=a) && decide (a <=c)):=rfl
section
theorem ZwR {F:Nat} (hF:1000 <=F) {w:Za} (sm:Small w) (h0:0 <=w.names) (h1:w.names <=1000) (m:Int) (c:Zb):Zwd F w m c=some (Ua w m c):=by
 unfold Zwd;have:=sm.cells;rw [in_lt _ _ h0 h1,in_lt _ _ (by omega) (by omega),Znl,Znl,has_eq hF sm.freed];simp only [ZbV,Bq0];unfold Ua Yu Kz;generalize (w.freed.any fun y=>y==c.name)=fr;generalize (decide (0 <=c.name) && decide (c.name < w.names))=nm;generalize (decide (-16 <=c.out) && decide (c.out <=1000000))=ou;generalize (decide (0 <=c.from_) && decide (c.from_ < (w.cells.length:Int)))=fm;generalize (decide (1 <=c.has) && decide (c.has <=1000000))=ha;generalize (c.out==0)=o0;have:(c.from_ !=m)= !(c.from_==m):=rfl;rw [this];generalize (c.from_==m)=f1;generalize (c.from_==-1)=f2;generalize (c.has==0)=hz;generalize c.use=us;generalize c.root=ro;cases nm <;> cases ou <;> cases us <;> cases o0 <;> cases fr <;> cases ro <;> cases f2 <;> cases fm <;> cases f1 <;> cases ha <;> rfl
theorem ZfS {F:Nat} (hF:1000 <=F) {w:Za} (sm:Small w) (st:Store) (e1:st.names=w.names) (e2:st.freed=w.freed) (n:Int):Zn1 F st n=some (Yu w n):=by
 unfold Zn1 Yu;rw [e1,e2,contains_eq hF sm.freed];simp only [ZbV,Bq0];simp only [ge_iff_le];cases decide (0 <=n) <;> cases decide (n < w.names) <;> cases (w.freed.any fun y=>y==n) <;> rfl
theorem ZfW {w:Za} (sm:Small w) (st:Store) (e1:st.machines= (w.cells.length:Int)) (n:Int):Zjb st n=some (Kz w n):=by
 unfold Zjb Kz;rw [e1]
theorem ZsU {F:Nat} (hF:1000 <=F) {w:Za} (sm:Small w) (st:Store) (e0:st.machines= (w.cells.length:Int)) (e1:st.names=w.names) (e2:st.freed=w.freed) (m:Int) (c:Zb):Zoa F st m c=some (Ua w m c):=by
 unfold Zoa;rw [ZfS hF sm st e1 e2,ZfW sm st e0];simp only [Bq0];unfold Ua;have a1:decide (c.out < -16)= !decide (-16 <=c.out):=by rw [← decide_not];exact decide_eq_decide.2 (by omega)
 have a2:decide (c.out > 1000000)= !decide (c.out <=1000000):=by rw [← decide_not];exact decide_eq_decide.2 (by omega)
 have a3:(c.from_ !=m)= !(c.from_==m):=rfl;rw [a1,a2,a3];simp only [ge_iff_le];generalize Yu w c.name=nm;generalize decide (-16 <=c.out)=oa;generalize decide (c.out <=1000000)=ob;generalize Kz w c.from_=fm;generalize decide (1 <=c.has)=ha;generalize decide (c.has <=1000000)=hb;generalize (c.out==0)=o0;generalize (c.from_==m)=f1;generalize (c.from_==-1)=f2;generalize (c.has==0)=hz;generalize c.use=us;generalize c.root=ro;cases nm <;> cases oa <;> cases ob <;> cases us <;> cases o0 <;> cases ro <;> cases f2 <;> cases fm <;> cases f1 <;> cases ha <;> cases hb <;> rfl
theorem Zt3 {F:Nat} (hF:1000 <=F) {w:Za} (sm:Small w) (h0:0 <=w.names) (h1:w.names <=1000) (x:Zd):Zwc F w x=some (JE w x):=by
 unfold Zwc;have:=sm.cells;rw [in_lt _ _ h0 h1,in_lt _ _ (by omega) (by omega),in_lt _ _ (by omega) (by omega),Znl,has_eq hF sm.freed];simp only [ZbV,Bq0];unfold JE Yu Kz;generalize (w.freed.any fun y=>y==x.name)=fr;generalize (decide (0 <=x.name) && decide (x.name < w.names))=nm;generalize (decide (0 <=x.ZH) && decide (x.ZH < (w.cells.length:Int)))=tm;generalize (decide (0 <=x.via) && decide (x.via < (w.cells.length:Int)))=vm;generalize (decide (1 <=x.w) && decide (x.w <=1000000))=ha;generalize (x.kind==1)=k1;generalize (x.kind==2)=k2;generalize (x.kind==3)=k3;generalize (x.via==0)=v0;generalize (x.w==16)=w16;cases nm <;> cases fr <;> cases tm <;> cases vm <;> cases ha <;> cases k1 <;> cases k2 <;> cases k3 <;> cases v0 <;> cases w16 <;> rfl
theorem Zsh {F:Nat} (hF:1000 <=F) {w:Za} (sm:Small w) (st:Store) (e0:st.machines= (w.cells.length:Int)) (e1:st.names=w.names) (e2:st.freed=w.freed) (x:Zd):Zn9 F st x=some (JE w x):=by
 unfold Zn9;rw [ZfS hF sm st e1 e2,ZfW sm st e0,ZfW sm st e0];simp only [ZbV,Bq0];unfold JE;have a1:decide (x.w < 1)= !decide (1 <=x.w):=by rw [← decide_not];exact decide_eq_decide.2 (by omega)
 have a2:decide (x.w > 1000000)= !decide (x.w <=1000000):=by rw [← decide_not];exact decide_eq_decide.2 (by omega)
 rw [a1,a2];generalize Yu w x.name=nm;generalize Kz w x.ZH=tm;generalize Kz w x.via=vm;generalize decide (1 <=x.w)=ha;generalize decide (x.w <=1000000)=hb;generalize (x.kind==1)=k1;generalize (x.kind==2)=k2;generalize (x.kind==3)=k3;generalize (x.via==0)=v0;generalize (x.w==16)=w16;cases nm <;> cases tm <;> cases vm <;> cases ha <;> cases hb <;> cases k1 <;> cases k2 <;> cases k3 <;> cases v0 <;> cases w16 <;> rfl
end
end Go.Proofs.Ytekpjgmhkkjhgaa
end
section
namespace Go.Proofs.Ytekpjgmhkkjhgaa
open Go.Lf
def Qi {α:Type} [Inhabited α] (l:List α) (k:Nat):α:=l[k-1]?.getD default
theorem Zhz {α:Type} [Inhabited α] (g:Bool) {l:List α} {k:Nat} (hk:k < l.length) (hl:l.length < 4611686018427387904):
 gd (g && decide ((k:Int) > 0)) (ZM l (ZP ((k:Int) - 1))) default=some (bif g && decide ((k:Int) > 0) then Qi l k else default):=by
 cases g
 ·rfl
 ·by_cases h:0 < k
  ·have:decide ((k:Int) > 0)=true:=by simp;omega
   rw [this,Bool.true_and,Zar,ZmO (by omega) h,ZB,Cq1];unfold Qi;have:k - 1 < l.length:=by omega
   simp [this]
  ·have:decide ((k:Int) > 0)=false:=by simp;omega
   rw [this];rfl
def QY (w:Za) (k:Nat) (x:Int):Bool:= !(decide (0 <=x) && decide (x < w.names)) || (decide ((k:Int) > 0) && decide (x <=Qi w.freed k))
def Jc (w:Za) (m:Nat) (row:List Zb) (k:Nat) (c:Zb):Bool:= !(Ua w m c) || (decide ((k:Int) > 0) && decide (c.name <= (Qi row k).name))
def Ud (w:Za):Bool:= (decide (1 <= (w.cells.length:Int)) && decide ((w.cells.length:Int) <=6)) && (decide (0 <=w.names) && decide (w.names <=12)) && (decide ((w.notes.length:Int) <=80) && decide ((w.freed.length:Int) <=w.names))
def KX (w:Za):Bool:= !(anyI (fun m row=>anyI (Jc w m row) 0 row) 0 w.cells)
def ZdR (w:Za):Bool:= !(anyI (fun m row=>decide ((row.length:Int) > w.names) || anyI (Jc w m row) 0 row) 0 w.cells)
def JA (w:Za):Bool:= !(w.notes.any fun x=>!(JE w x))
section
theorem Zr5 {F:Nat} (hF:1000 <=F) {w:Za} (sm:Small w):Zwr F w=some (Ud w && (!(anyI (QY w) 0 w.freed) && (ZdR w && JA w))):=by
 unfold Zwr;have hc:=sm.cells;have hn:=sm.notes;have hf:=sm.freed;rw [Znl,Znl];simp only [ZbV,Bq0];cases hs:Ud w
 ·have:((((!(decide (1 <= (w.cells.length:Int)) && decide ((w.cells.length:Int) <=6))) || !(bif !(!(decide (1 <= (w.cells.length:Int)) && decide ((w.cells.length:Int) <=6))) then(decide (0 <=w.names) && decide (w.names <=12)) else default)) || decide ((w.notes.length:Int) > 80)) || decide ((w.freed.length:Int) > w.names))=true:=by
   unfold Ud at hs;have a1:decide ((w.notes.length:Int) > 80)= !decide ((w.notes.length:Int) <=80):=by rw [← decide_not];exact decide_eq_decide.2 (by omega)
   have a2:decide ((w.freed.length:Int) > w.names)= !decide ((w.freed.length:Int) <=w.names):=by rw [← decide_not];exact decide_eq_decide.2 (by omega)
   rw [a1,a2]
   revert hs
   generalize decide (1 <= (w.cells.length:Int))=b1;generalize decide ((w.cells.length:Int) <=6)=b2;generalize decide (0 <=w.names)=b3;generalize decide (w.names <=12)=b4;generalize decide ((w.notes.length:Int) <=80)=b5;generalize decide ((w.freed.length:Int) <=w.names)=b6
   revert b1 b2 b3 b4 b5 b6
   decide
  rw [this];rfl
 ·have hs':=hs;unfold Ud at hs;simp only [Bool.and_eq_true,decide_eq_true_eq] at hs;obtain⟨⟨⟨b1,b2⟩,b3,b4⟩,b5,b6⟩:=hs
  have:((((!(decide (1 <= (w.cells.length:Int)) && decide ((w.cells.length:Int) <=6))) || !(bif !(!(decide (1 <= (w.cells.length:Int)) && decide ((w.cells.length:Int) <=6))) then(decide (0 <=w.names) && decide (w.names <=12)) else default)) || decide ((w.notes.length:Int) > 80)) || decide ((w.freed.length:Int) > w.names))=false:=by
   rw [decide_eq_true b1,decide_eq_true b2,decide_eq_true b3,decide_eq_true b4,decide_eq_false (by omega:¬ (w.notes.length:Int) > 80),decide_eq_false (by omega:¬ (w.freed.length:Int) > w.names)]
   rfl
  rw [this,Cq0,Bool.true_and]
  have e3:loop F (Zgl F w) 0=some (JA w):=by
   refine(Z9 w.notes (fun v (_:Unit)=>v) (Zgl F w) (fun _ x s next=>bif !(JE w x) then some false else next ()) (fun _=>some true) (by omega) (fun k y s next hy hk=>?_) (fun s next=>?_) (by omega) ()).trans ?_
   ·simp only [Zgl,ZB,hy,hk,decide_true,Cq1,Bq0,Zt3 hF sm b3 (by omega)]
   ·simp [Zgl]
   ·rw [XO (r:=some false) (fun _ x=>!(JE w x)) (fun _ _ _ _=>rfl),Jr];unfold JA;cases w.notes.any fun x=>!(JE w x) <;> rfl
  have e2:∀ (m:Nat) (row:List Zb) (next:Int ->Option Bool),row.length < 1000 ->loop F (Zgm F w m next row) 0=bif anyI (Jc w m row) 0 row then some false else next (ZP ((m:Int) + 1)):=by
   intro m row next hr;refine(Z9 row (fun v (_:Unit)=>v) (Zgm F w m next row) (fun k c s nx=>bif Jc w m row k c then some false else nx ()) (fun _=>next (ZP ((m:Int) + 1))) (by omega) (fun k y s nx hy hk=>?_) (fun s nx=>?_) (by omega) ()).trans ?_
   ·have hk':k < row.length:=by omega
    simp only [Zgm,ZB,hy,hk,decide_true,Cq1,Bq0,ZwR hF sm b3 (by omega),Zhz _ hk' (by omega),ZbV];unfold Jc;cases Ua w m y <;> cases decide ((k:Int) > 0) <;> rfl
   ·simp [Zgm]
   ·rw [XO (r:=some false) (Jc w m row) (fun k _ _ _=>by rw [Nat.zero_add])]
  have e1:loop F (Zgn F w) 0=some (ZdR w && JA w):=by
   refine(Z9 w.cells (fun v (_:Unit)=>v) (Zgn F w) (fun m row s next=>bif decide ((row.length:Int) > w.names) || anyI (Jc w m row) 0 row then some false else next ()) (fun _=>some (JA w)) (by omega) (fun k y s next hy hk=>?_) (fun s next=>?_) (by omega) ()).trans ?_
   ·have hr:=sm.rows y (List.mem_of_getElem? hy);simp only [Zgn,ZB,hy,hk,decide_true,Cq1,Bq0];rw [e2 k y next hr];cases decide ((y.length:Int) > w.names) <;> rfl
   ·simp only [Zgn];rw [decide_eq_false (by omega),Cq0,e3]
   ·rw [XO (r:=some false) (fun m row=>decide ((row.length:Int) > w.names) || anyI (Jc w m row) 0 row) (fun k _ _ _=>by rw [Nat.zero_add])];unfold ZdR;cases anyI (fun m (row:List Zb)=>decide ((row.length:Int) > w.names) || anyI (Jc w m row) 0 row) 0 w.cells <;> rfl
  refine(Z9 w.freed (fun v (_:Unit)=>v) (ZiV F w) (fun k x s next=>bif QY w k x then some false else next ()) (fun _=>some (ZdR w && JA w)) (by omega) (fun k y s next hy hk=>?_) (fun s next=>?_) (by omega) ()).trans ?_
  ·have hk':k < w.freed.length:=by omega
   simp only [ZiV,ZB,hy,hk,decide_true,Cq1,Bq0,in_lt _ _ b3 (by omega:w.names <=1000),Zhz _ hk' (by omega),ZbV];unfold QY;cases (decide (0 <=y) && decide (y < w.names)) <;> cases decide ((k:Int) > 0) <;> rfl
  ·simp only [ZiV];rw [decide_eq_false (by omega),Cq0,e1]
  ·rw [XO (r:=some false) (QY w) (fun k _ _ _=>by rw [Nat.zero_add])];cases anyI (QY w) 0 w.freed <;> rfl
theorem Zsy {F:Nat} (hF:1000 <=F) {w:Za} (sm:Small w) (st:Store) (e0:st.machines= (w.cells.length:Int)) (e1:st.names=w.names) (e2:st.freed=w.freed):Zwk F st w=some (KX w && JA w):=by
 have hc:=sm.cells;have hn:=sm.notes
 have l2:loop F (Zf7 F st w) 0=some (JA w):=by
  refine(Z9 w.notes (fun v (_:Unit)=>v) (Zf7 F st w) (fun _ x s next=>bif !(JE w x) then some false else next ()) (fun _=>some true) (by omega) (fun k y s next hy hk=>?_) (fun s next=>?_) (by omega) ()).trans ?_
  ·simp only [Zf7,ZB,hy,hk,decide_true,Cq1,Bq0,Zsh hF sm st e0 e1 e2]
  ·simp [Zf7]
  ·rw [XO (r:=some false) (fun _ x=>!(JE w x)) (fun _ _ _ _=>rfl),Jr];unfold JA;cases w.notes.any fun x=>!(JE w x) <;> rfl
 have l1:∀ (m:Nat) (row:List Zb) (next:Int ->Option Bool),row.length < 1000 ->loop F (Zf8 F st m next row) 0=bif anyI (Jc w m row) 0 row then some false else next (ZP ((m:Int) + 1)):=by
  intro m row next hr;refine(Z9 row (fun v (_:Unit)=>v) (Zf8 F st m next row) (fun k c s nx=>bif Jc w m row k c then some false else nx ()) (fun _=>next (ZP ((m:Int) + 1))) (by omega) (fun k y s nx hy hk=>?_) (fun s nx=>?_) (by omega) ()).trans ?_
  ·have hk':k < row.length:=by omega
   simp only [Zf8,ZB,hy,hk,decide_true,Cq1,Bq0,ZsU hF sm st e0 e1 e2,Zhz _ hk' (by omega),ZbV];unfold Jc;cases Ua w m y <;> cases decide ((k:Int) > 0) <;> rfl
  ·simp [Zf8]
  ·rw [XO (r:=some false) (Jc w m row) (fun k _ _ _=>by rw [Nat.zero_add])]
 unfold Zwk;refine(Z9 w.cells (fun v (_:Unit)=>v) (ZiN F st w) (fun m row s next=>bif anyI (Jc w m row) 0 row then some false else next ()) (fun _=>some (JA w)) (by omega) (fun k y s next hy hk=>?_) (fun s next=>?_) (by omega) ()).trans ?_
 ·have hr:=sm.rows y (List.mem_of_getElem? hy);simp only [ZiN,ZB,hy,hk,decide_true,Cq1,Bq0];exact l1 k y next hr
 ·simp only [ZiN];rw [decide_eq_false (by omega),Cq0,l2]
 ·rw [XO (r:=some false) (fun m row=>anyI (Jc w m row) 0 row) (fun k _ _ _=>by rw [Nat.zero_add])];unfold KX;cases anyI (fun m (row:List Zb)=>anyI (Jc w m row) 0 row) 0 w.cells <;> rfl
end
end Go.Proofs.Ytekpjgmhkkjhgaa
end
section
namespace Go.Proofs.Ytekpjgmhkkjhgaa
open Go.Lf
structure Shp (w:Za):Prop where
 c1:1 <=w.cells.length
 c6:w.cells.length <=6
 n0:0 <=w.names
 n12:w.names <=12
 notes:w.notes.length <=80
 cell:∀ (m:Nat) (row:List Zb) (k:Nat) (c:Zb),w.cells[m]? =some row ->row[k]? =some c ->Ua w m c=true∧(0 < k ->(Qi row k).name < c.name)
 note:∀ x ∈ w.notes,JE w x=true
theorem Zqo {w:Za} {m:Int} {c:Zb} (h:Ua w m c=true):0 <=c.name∧c.name < w.names:=by
 unfold Ua Yu at h;simp only [Bool.and_eq_true,decide_eq_true_eq] at h;exact⟨h.1.1.1.1.1,h.1.1.1.1.2⟩
theorem rows_ok {w:Za} (h:KX w=true) (m:Nat) (row:List Zb) (k:Nat) (c:Zb) (hm:w.cells[m]? =some row) (hk:row[k]? =some c):Ua w m c=true∧(0 < k ->(Qi row k).name < c.name):=by
 unfold KX at h;rw [Bool.not_eq_true',← Bool.not_eq_true] at h;have h1:¬ Jc w m row k c=true:=fun hb=>h (Zbh.2 ⟨m,row,hm,by rw [Nat.zero_add];exact Zbh.2 ⟨k,c,hk,by rw [Nat.zero_add];exact hb⟩⟩)
 unfold Jc at h1;rw [Bool.or_eq_true,Bool.and_eq_true,decide_eq_true_eq,decide_eq_true_eq,Bool.not_eq_true'] at h1;refine⟨?_,fun h0=>?_⟩
 ·cases hc:Ua w m c
  ·exact absurd (.inl hc) h1
  ·rfl
 ·by_cases hl:(Qi row k).name < c.name
  ·exact hl
  ·exact absurd (.inr ⟨by omega,by omega⟩) h1
theorem asc {row:List Zb} (h:∀ k c,row[k]? =some c ->0 < k ->(Qi row k).name < c.name):∀ (k j:Nat) (c d:Zb),j < k ->row[k]? =some c ->row[j]? =some d ->d.name < c.name:=by
 intro k
 induction k with
 | zero=>intro j c d h0;omega
 | succ k ih=>
   intro j c d hj hc hd;have hlt:k + 1 < row.length:= (List.getElem?_eq_some_iff.1 hc).1;have hp:=h (k + 1) c hc (by omega)
   have e:row[k]? =some (Qi row (k + 1)):=by
    unfold Qi;have:k < row.length:=by omega
    simp [this]
   by_cases hjk:j=k
   ·subst hjk;rw [e] at hd;cases hd;exact hp
   ·have:=ih j _ d (by omega) e hd;omega
theorem Zz0 {row:List Zb} {n:Int} (h:∀ k c,row[k]? =some c ->(0 <=c.name∧c.name < n)∧(0 < k ->(Qi row k).name < c.name)) (h0:0 <=n):(row.length:Int) <=n:=by
 have key:∀ (k:Nat) (c:Zb),row[k]? =some c ->(k:Int) <=c.name:=by
  intro k
  induction k with
  | zero=>intro c hc;exact(h 0 c hc).1.1
  | succ k ih=>
    intro c hc;have hlt:k + 1 < row.length:= (List.getElem?_eq_some_iff.1 hc).1
    have e:row[k]? =some (Qi row (k + 1)):=by
     unfold Qi;have:k < row.length:=by omega
     simp [this]
    have:=ih _ e;have:= (h (k + 1) c hc).2 (by omega);omega
 by_cases hz:row.length=0
 ·omega
 ·have hlt:row.length - 1 < row.length:=by omega
  have e:row[row.length - 1]? =some row[row.length - 1]:=by simp [hlt]
  have:=key _ _ e;have:= (h _ _ e).1.2;omega
theorem Zx1 {w:Za} (h0:0 <=w.names):ZdR w=KX w:=by
 cases h:KX w
 ·unfold KX at h;unfold ZdR;rw [Bool.not_eq_false'] at h ⊢;rw [Zbh] at h ⊢;obtain⟨j,x,h1,h2⟩:=h;exact⟨j,x,h1,by rw [h2,Bool.or_true]⟩
 ·have h':=h;unfold KX at h;unfold ZdR;rw [Bool.not_eq_true'] at h ⊢;rw [← h];refine Zqz fun j row hj=>?_
  have:decide ((row.length:Int) > w.names)=false:=by
   have:=Zz0 (row:=row) (n:=w.names) (fun k c hk=>⟨Zqo (rows_ok h' j row k c hj hk).1,(rows_ok h' j row k c hj hk).2⟩) h0;exact decide_eq_false (by omega)
  rw [this,Bool.false_or]
theorem ZtD {w:Za} (h1:Ud w=true) (h2:KX w=true) (h3:JA w=true):Shp w:=by
 unfold Ud at h1;simp only [Bool.and_eq_true,decide_eq_true_eq] at h1;obtain⟨⟨⟨b1,b2⟩,b3,b4⟩,b5,b6⟩:=h1;refine⟨by omega,by omega,b3,b4,by omega,rows_ok h2,fun x hx=>?_⟩;unfold JA at h3;rw [Bool.not_eq_true',List.any_eq_false] at h3;have:=h3 x hx
 simpa using this
theorem Zr2 {row:List Zb} (h:∀ k c,row[k]? =some c ->0 < k ->(Qi row k).name < c.name) {k:Nat} {c:Zb} (hc:row[k]? =some c) (n:Int):
 (row.take (k + 1)).find? (fun x=>x.name==n)=if n=c.name then some c else(row.take k).find? (fun x=>x.name==n):=by
 have hlt:k < row.length:= (List.getElem?_eq_some_iff.1 hc).1
 have e:row.take (k + 1)=row.take k ++ [c]:=by
  rw [List.take_add_one,hc];rfl
 rw [e,List.find?_append];by_cases hn:n=c.name
 ·subst hn;rw [if_pos rfl]
  have:(row.take k).find? (fun x=>x.name==c.name)=none:=by
   rw [List.find?_eq_none];intro x hx;obtain⟨j,hj⟩:=List.mem_iff_getElem?.1 hx;have hjk:j < k:=by have:= (List.getElem?_eq_some_iff.1 hj).1;rw [List.length_take] at this;omega
   rw [List.getElem?_take_of_lt hjk] at hj;have:=asc h k j c x hjk hc hj;simp;omega
  rw [this];simp
 ·rw [if_neg hn];have: [c].find? (fun x=>x.name==n)=none:=by simp;exact fun e=>hn e.symm
  rw [this];cases (row.take k).find? (fun x=>x.name==n) <;> rfl
def MapOf (w:Za) (l:List (Zg×Zb)):Prop:=∀ a b:Int,XF l ⟨a,b⟩=if 0 <=a∧a < (w.cells.length:Int) then cellOf w a.toNat b else none
theorem Zq2 {F:Nat} (hF:1000 <=F) {w:Za} (sm:Small w) (sh:Shp w):∃ cs,ZiX F w=some ⟨(w.cells.length:Int),w.names,cs,w.notes,w.freed⟩∧MapOf w cs:=by
 have hc:=sm.cells;have hn:=sm.notes;have hf:=sm.freed;unfold ZiX Zp6 Zp5;rw [YQ (by simp only [List.length_nil];omega) (by decide),YQ (by simp only [List.length_nil];omega) (by decide)];simp only [Bq0,List.nil_append]
 let I:Nat ->List (Zg×Zb) ->Prop:=fun m l=>∀ a b:Int,XF l ⟨a,b⟩=if 0 <=a∧a < (m:Int) then cellOf w a.toNat b else none
 have inner:∀ (m:Nat) (row:List Zb) (next:Int×(List (Zg×Zb)) ->Option Store) (l:List (Zg×Zb)),w.cells[m]? =some row ->I m l ->∃ l',I (m + 1) l'∧loop F (ZaJ m next row) (0,l)=next (ZP ((m:Int) + 1),l'):=by
  intro m row next l hm hI;have hr:=sm.rows row (List.mem_of_getElem? hm);have hro:rowOf w m=row:=by unfold rowOf;rw [hm];rfl
  have hasc:∀ k c,row[k]? =some c ->0 < k ->(Qi row k).name < c.name:=fun k c hk=>(sh.cell m row k c hm hk).2
  let J:Nat ->List (Zg×Zb) ->Prop:=fun k l'=>∀ a b:Int,XF l' ⟨a,b⟩=if a= (m:Int) then(row.take k).find? (fun x=>x.name==b) else XF l ⟨a,b⟩
  have e:=Z9 row (fun v s=>(v,s)) (ZaJ m next row) (fun _ c s nx=>nx (Xi s (Zg.mk m c.name) c)) (fun s=>next (ZP ((m:Int) + 1),s)) (by omega) (fun k y s nx hy hk=>by
   simp only [ZaJ,ZB,hy,hk,decide_true,Cq1,Bq0]) (fun s nx=>by simp only [ZaJ];rw [decide_eq_false (by omega),Cq0]) (by omega:row.length < F) l
  obtain⟨e2,hJ⟩:=Y9 (d:=fun s=>next (ZP ((m:Int) + 1),s)) (g:=fun(_:Nat) (c:Zb) s nx=>nx (Xi s (Zg.mk m c.name) c)) (fun _ c s=>Xi s (Zg.mk m c.name) c) J (l:=row) (i:=0) (s:=l) (fun a b=>by
   by_cases ha:a= (m:Int)
   ·rw [if_pos ha,hI a b,if_neg (by omega)];simp
   ·rw [if_neg ha]) (fun k c s nx hk hJ=>⟨rfl,fun a b=>by
    rw [Nat.zero_add] at hJ ⊢;rw [ZfU];by_cases ha:a= (m:Int)
    ·subst ha;rw [if_pos rfl,Zr2 hasc hk];by_cases hb:b=c.name
     ·rw [if_pos hb,hb,if_pos rfl]
     ·rw [if_neg hb,if_neg (fun q=>hb (by injection q)),hJ,if_pos rfl]
    ·rw [if_neg ha,if_neg (fun q=>ha (by injection q)),hJ,if_neg ha]⟩)
  refine⟨_,fun a b=>?_,e.trans e2⟩;rw [Nat.zero_add] at hJ;rw [hJ a b];by_cases ha:a= (m:Int)
  ·subst ha;rw [if_pos rfl,if_pos (by omega),List.take_length];unfold cellOf;rw [Int.toNat_natCast,hro]
  ·rw [if_neg ha,hI a b];by_cases hz:0 <=a∧a < (m:Int)
   ·rw [if_pos hz,if_pos (by omega)]
   ·rw [if_neg hz,if_neg (by omega)]
 have key:∀ (d m:Nat) (F':Nat) (l:List (Zg×Zb)),m + d=w.cells.length ->d < F' ->I m l ->∃ cs,loop F' (ZaK F w w.notes w.freed) ((m:Int),l)=some ⟨(w.cells.length:Int),w.names,cs,w.notes,w.freed⟩∧MapOf w cs:=by
  intro d
  induction d with
  | zero=>
    intro m F' l hm hF' hI;obtain⟨F',rfl⟩:=Ne0 (n:=F') (by omega);have:m=w.cells.length:=by omega
    subst this;refine⟨l,?_,hI⟩;rw [Yk];simp only [ZaK];rw [decide_eq_false (by omega),Cq0]
  | succ d ih=>
    intro m F' l hm hF' hI;obtain⟨F',rfl⟩:=Ne0 (n:=F') (by omega);have hlt:m < w.cells.length:=by omega
    obtain⟨l',h1,h2⟩:=inner m w.cells[m] (loop F' (ZaK F w w.notes w.freed)) l (by simp [hlt]) hI;obtain⟨cs,h3,h4⟩:=ih (m + 1) F' l' (by omega) (by omega) h1;refine⟨cs,?_,h4⟩;rw [Yk];have hg:w.cells[m]? =some w.cells[m]:=by simp [hlt]
    simp only [ZaK,ZB,hg,Bq0];rw [decide_eq_true (by omega),Cq1,h2,Qf (by omega),h3]
 exact key w.cells.length 0 F [] (by omega) (by omega) (fun a b=>by rw [if_neg (by omega)];rfl)
def JC {σ:Type} (w:Za) (y:Int ->Zb ->σ ->σ) (m:Nat) (n:Nat) (s:σ):σ:=match cellOf w m n with | some c=>y m c s | none=>s
theorem Q7 {w:Za} {m:Nat} {n:Int} {c:Zb} (h:cellOf w m n=some c):c.name=n:=by
 unfold cellOf at h;have:=List.find?_some h
 simpa using this
theorem K9 {w:Za} {m:Nat} {n:Int} {c:Zb} (h:cellOf w m n=some c):∃ (row:List Zb) (k:Nat),w.cells[m]? =some row∧row[k]? =some c:=by
 unfold cellOf rowOf at h;have:=List.mem_of_find?_eq_some h;cases e:w.cells[m]? with
 | none=>rw [e] at this;simp at this
 | some row=>
   rw [e] at this;obtain⟨k,hk⟩:=List.mem_iff_getElem?.1 this;exact⟨row,k,rfl,hk⟩
structure Qo (w:Za) (st:Store):Prop where
 m:st.machines= (w.cells.length:Int)
 n:st.names=w.names
 notes:st.notes=w.notes
 freed:st.freed=w.freed
 cells:MapOf w st.cells
structure Szd (w:Za):Prop where
 c6:w.cells.length <=6
 n0:0 <=w.names
 n12:w.names <=12
 kind:∀ x ∈ w.notes,x.kind=1∨x.kind=2∨x.kind=3
theorem Shp.szd {w:Za} (sh:Shp w):Szd w:= ⟨sh.c6,sh.n0,sh.n12,fun x hx=>by
 have hx:=sh.note x hx;by_cases k1:x.kind=1
 ·exact .inl k1
 ·by_cases k2:x.kind=2
  ·exact .inr (.inl k2)
  ·have q1:(x.kind==1)=false:=by simp [k1]
   have q2:(x.kind==2)=false:=by simp [k2]
   unfold JE at hx;rw [q1,q2] at hx;simp at hx;exact .inr (.inr hx.2.1.1)⟩
section
theorem Zmy {F:Nat} (hF:1000 <=F) {w:Za} (sm:Small w) (sh:Szd w) {st:Store} (so:Qo w st) {σ β:Type} (I:Nat ->σ ->Prop) (hI:∀ i s,I i s ->I (i + 1) s) {z:Zb} {E:σ ->Option β} {B1:Int×σ ->(Int×σ ->Option β) ->Option β} {B2:Int ->(Int×σ ->Option β) ->Int×σ ->(Int×σ ->Option β) ->Option β} {Y:Int ->Zb ->σ ->(σ ->Option β) ->Option β} (y':Int ->Zb ->σ ->σ)
 (hB1:∀ v s next,B1 (v,s) next=bif decide (v < st.machines) then loop F (B2 v next) (0,s) else E s)
 (hB2:∀ v0 next v s nx,B2 v0 next (v,s) nx=bif decide (v < st.names) then(Zal st.cells (Zg.mk v0 v) z).bind fun x=>bif x.2 then Y v0 x.1 s (fun s'=>nx (ZP (v + 1),s')) else nx (ZP (v + 1),s) else next (ZP (v0 + 1),s))
 (hy:∀ i (a:Nat) c s k,a < w.cells.length ->i < 100 ->I i s ->Y a c s k=k (y' a c s)∧I (i + 1) (y' a c s)) (s0:σ) (h0:I 0 s0):
 loop F B1 (0,s0)=E ((List.range w.cells.length).foldl (fun s m=>(List.range w.names.toNat).foldl (fun s n=>JC w y' m n s) s) s0)∧
 I (w.cells.length * w.names.toNat) ((List.range w.cells.length).foldl (fun s m=>(List.range w.names.toNat).foldl (fun s n=>JC w y' m n s) s) s0):=by
 have hc:=sh.c6;have hn:=sh.n0;have hn2:=sh.n12;have en:((w.names.toNat:Nat):Int)=w.names:=by omega
 have inner:∀ (m:Nat) (next:Int×σ ->Option β) (s:σ),m < w.cells.length ->I (m * w.names.toNat) s ->
  loop F (B2 m next) (0,s)=next (ZP ((m:Int) + 1),(List.range w.names.toNat).foldl (fun s n=>JC w y' m n s) s)∧I ((m + 1) * w.names.toNat) ((List.range w.names.toNat).foldl (fun s n=>JC w y' m n s) s):=by
  intro m next s hm hs
  have e:=QF w.names.toNat (fun v s=>(v,s)) (B2 m next) (fun k s nx=>match cellOf w m k with | some c=>Y m c s nx | none=>nx s) (fun s=>next (ZP ((m:Int) + 1),s)) (by omega) (fun k s nx hk=>by
   rw [hB2,so.n];rw [decide_eq_true (by omega),Cq1];unfold Zal;rw [so.cells,if_pos (by omega),Int.toNat_natCast];cases cellOf w m k with
   | some c=>rfl
   | none=>rfl) (fun s nx=>by rw [hB2,so.n];rw [decide_eq_false (by omega),Cq0]) (by omega:w.names.toNat < F) s
  obtain⟨e2,h2⟩:=Y9 (d:=fun s=>next (ZP ((m:Int) + 1),s)) (g:=fun(_:Nat) (k:Nat) s nx=>match cellOf w m k with | some c=>Y m c s nx | none=>nx s) (fun _ k s=>JC w y' m k s) (fun k s=>I (m * w.names.toNat + k) s) (l:=List.range w.names.toNat) (i:=0) (s:=s) hs (fun k x s nx hx hs=>by
   have hk:k < w.names.toNat:=by
    have:= (List.getElem?_eq_some_iff.1 hx).1
    simpa using this
   have:x=k:=by
    rw [List.getElem?_range hk] at hx
    simpa using hx.symm
   subst this;rw [Nat.zero_add] at hs ⊢
   have hb:m * w.names.toNat + x < 100:=by
    have:=Nat.mul_le_mul (show m <=5 by omega) (show w.names.toNat <=12 by omega);omega
   unfold JC;cases cellOf w m x with
   | some c=>
     obtain⟨q1,q2⟩:=hy _ m c s nx hm hb hs;dsimp only;rw [q1];exact⟨rfl,q2⟩
   | none=>exact⟨rfl,hI _ _ hs⟩)
  rw [Qb] at e2 h2;refine⟨e.trans e2,?_⟩;rw [List.length_range,Nat.zero_add] at h2;rw [Nat.add_mul,Nat.one_mul];exact h2
 have key:∀ (d m F':Nat) (s:σ),m + d=w.cells.length ->d < F' ->I (m * w.names.toNat) s ->
  loop F' B1 ((m:Int),s)=E ((List.range' m d).foldl (fun s m=>(List.range w.names.toNat).foldl (fun s n=>JC w y' m n s) s) s)∧I (w.cells.length * w.names.toNat) ((List.range' m d).foldl (fun s m=>(List.range w.names.toNat).foldl (fun s n=>JC w y' m n s) s) s):=by
  intro d
  induction d with
  | zero=>
    intro m F' s hm hF' hs;obtain⟨F',rfl⟩:=Ne0 (n:=F') (by omega);have:m=w.cells.length:=by omega
    subst this;rw [Yk,hB1,so.m];rw [decide_eq_false (by omega),Cq0];exact⟨rfl,hs⟩
  | succ d ih=>
    intro m F' s hm hF' hs;obtain⟨F',rfl⟩:=Ne0 (n:=F') (by omega);obtain⟨h1,h2⟩:=inner m (loop F' B1) s (by omega) hs;obtain⟨h3,h4⟩:=ih (m + 1) F' _ (by omega) (by omega) h2;rw [Yk,List.range'_succ,List.foldl_cons];refine⟨?_,h4⟩;rw [hB1,so.m];rw [decide_eq_true (by omega),Cq1,h1,Qf (by omega)];exact h3
 have:=key w.cells.length 0 F s0 (by omega) (by omega) (by rw [Nat.zero_mul];exact h0);rw [← List.range_eq_range'] at this;exact this
end
theorem fold_congr {σ:Type} {f g:σ ->Nat ->σ} {N:Nat} (h:∀ s m,m < N ->f s m=g s m) (s:σ):(List.range N).foldl f s= (List.range N).foldl g s:=by
 have:∀ M,M <=N ->(List.range M).foldl f s= (List.range M).foldl g s:=by
  intro M
  induction M with
  | zero=>intro _;rfl
  | succ M ih=>
    intro hM;rw [List.range_succ,List.foldl_append,List.foldl_append,ih (by omega)];simp only [List.foldl_cons,List.foldl_nil];exact h _ _ (by omega)
 exact this N (Nat.le_refl _)
theorem UJ {σ τ α:Type} (V:σ ->τ) {f:σ ->α ->σ} {g:τ ->α ->τ} {l:List α} (h:∀ s x,x ∈ l ->V (f s x)=g (V s) x) (s:σ):V (l.foldl f s)=l.foldl g (V s):=by
 induction l generalizing s with
 | nil=>rfl
 | cons x l ih=>
   rw [List.foldl_cons,List.foldl_cons,ih (fun s y hy=>h s y (by simp [hy])),h s x (by simp)]
def Xy (w:Za) (n:Int):List Int:=
 w.notes.foldl (fun(s:List Int) (x:Zd)=>bif(x.kind==3) && (x.name==n) then s ++ [x.ZH] else s)
   ((List.range w.cells.length).foldl (fun(s:List Int) (m:Nat)=>match cellOf w m n with | some c=>bif c.root then s ++ [(m:Int)] else s | none=>s) [])
theorem ZkH {α:Type} (f:List Int ->α ->List Int) (hf:∀ s x,(f s x).length <=s.length + 1) (l:List α) (s:List Int):(l.foldl f s).length <=s.length + l.length:=by
 induction l generalizing s with
 | nil=>simp
 | cons x l ih=>
   rw [List.foldl_cons];have:=ih (f s x);have:=hf s x;simp only [List.length_cons];omega
section
theorem ZpG {F:Nat} (hF:1000 <=F) {w:Za} (sm:Small w) (sh:Shp w) {st:Store} (so:Qo w st) {n:Nat} (hn:(n:Int) < w.names):Zwj F st n=some (Xy w n):=by
 unfold Zwj
 let y':Int ->Zb ->List Int ->List Int:=fun a c s=>bif(c.name== (n:Int)) && c.root then s ++ [a] else s
 obtain⟨h1,h2⟩:=Zmy hF sm sh.szd so (z:=Zb.mk 0 false 0 0 0 false) (fun i (s:List Int)=>s.length <=i) (fun i s h=>Nat.le_succ_of_le h) (E:=Zf6 F st n) (B1:=Zp3 F st n) (B2:=Zp2 F st n) (Y:=fun a c s k=>bif(c.name== (n:Int)) && c.root then(app 8 s [a]).bind k else k s) y' (fun v s next=>rfl) (fun v0 next v s nx=>rfl) (fun i a c s k _ hi hs=>by
  simp only [y'];cases ((c.name== (n:Int)) && c.root)
  ·exact⟨rfl,Nat.le_succ_of_le hs⟩
  ·simp only [Cq1];rw [YQ (by simp;omega) (by decide)];exact⟨rfl,by simp;omega⟩) [] (Nat.le_refl _)
 rw [h1]
 have e:(List.range w.cells.length).foldl (fun s (m:Nat)=>(List.range w.names.toNat).foldl (fun s n=>JC w y' m n s) s) []= (List.range w.cells.length).foldl (fun s (m:Nat)=>match cellOf w m n with | some c=>bif c.root then s ++ [(m:Int)] else s | none=>s) []:=by
  refine fold_congr (fun s m hm=>?_) _;refine ZeY (V:=id) (fun i s=>JC w y' m i s) (fun s=>match cellOf w m n with | some c=>bif c.root then s ++ [(m:Int)] else s | none=>s) (n:=n) (N:=w.names.toNat) (by omega) (fun i s hi hne=>?_) (fun s=>?_) s
  ·simp only [id,JC];cases hc:cellOf w m i with
   | none=>rfl
   | some c=>
     have:=Q7 hc;have hb:(c.name== (n:Int))=false:=by rw [this];simp;omega
     simp only [y',hb];rfl
  ·simp only [id,JC];cases hc:cellOf w m n with
   | none=>rfl
   | some c=>
     have:=Q7 hc;have hb:(c.name== (n:Int))=true:=by rw [this];simp
     simp only [y',hb];rfl
 rw [e];rw [e] at h2;unfold Zf6;have hlen:=Nat.mul_le_mul sh.c6 (show w.names.toNat <=12 by have:=sh.n12;have:=sh.n0;omega);have hno:=sm.notes;refine(Z9 w.notes (fun v (s:List Int)=>(v,s)) (ZiM st n) (fun _ x s next=>bif(x.kind==3) && (x.name== (n:Int)) then(app 8 s [x.ZH]).bind next else next s) (fun s=>some s) (by omega) (fun k y s next hy hk=>?_) (fun s next=>?_) (by omega) _).trans ?_
 ·simp only [ZiM,so.notes,ZB,hy,hk,decide_true,Cq1,Bq0,ZiL]
 ·simp only [ZiM,so.notes];rw [decide_eq_false (by omega),Cq0]
 ·rw [(Y9 (fun _ (x:Zd) s=>bif(x.kind==3) && (x.name== (n:Int)) then s ++ [x.ZH] else s) (fun k (s:List Int)=>s.length <=72 + k) (by simp at h2 ⊢;omega) (fun k x s next hx hs=>by
   have:= (List.getElem?_eq_some_iff.1 hx).1;cases ((x.kind==3) && (x.name== (n:Int)))
   ·exact⟨rfl,by simp;omega⟩
   ·simp only [Cq1];rw [YQ (by simp;omega) (by decide)];exact⟨rfl,by simp;omega⟩)).1,Qb]
  rfl
end
end Go.Proofs.Ytekpjgmhkkjhgaa
end
section
namespace Go.Proofs.Ytekpjgmhkkjhgaa
open Go.Lf
abbrev Acc:=List (Zg×Int)
def val (v:Acc) (k:Zg):Int:= (XF v k).getD 0
def upd (v:Acc) (k:Zg) (x:Int):Acc:=Xi (Kl v k 0) k (ZP (val v k + x))
theorem WY (v:Acc) (k k':Zg) (x:Int):val (upd v k x) k'=if k'=k then ZP (val v k + x) else val v k':=by
 unfold val upd;rw [ZfU,Zkz];by_cases h:k'=k
 ·rw [if_pos h,if_pos h];rfl
 ·rw [if_neg h,if_neg h,if_neg h]
theorem Ztv:ZP 0=0:=Ja (by decide) (by decide)
def ZqE (a:Int) (c:Zb) (q:Acc×Acc):Acc×Acc:= (upd q.1 ⟨a,c.name⟩ c.out,bif decide (c.from_ >=0) then upd q.2 ⟨c.from_,c.name⟩ c.has else q.2)
def ZqD (x:Zd) (q:Acc×Acc):Acc×Acc:=bif x.kind==1 then(q.1,upd q.2 ⟨x.via,x.name⟩ x.w) else bif x.kind==2 then(q.1,upd q.2 ⟨x.ZH,x.name⟩ x.w) else(upd q.1 ⟨x.ZH,x.name⟩ 16,q.2)
def Ws (w:Za):Acc×Acc:= (List.range w.cells.length).foldl (fun s m=>(List.range w.names.toNat).foldl (fun s n=>JC w ZqE m n s) s) ([],[])
def ZcT (w:Za):Acc×Acc:=w.notes.foldl (fun q x=>ZqD x q) (Ws w)
def view (a n:Int) (q:Acc×Acc):Int×Int:= (val q.1 ⟨a,n⟩,val q.2 ⟨a,n⟩)
theorem ZrU {F:Nat} (hF:1000 <=F) {w:Za} (sm:Small w) (sh:Szd w) {st:Store} (so:Qo w st):ZsD F st=some (ZcT w):=by
 unfold ZsD;have hno:=sm.notes
 obtain⟨h1,_⟩:=Zmy hF sm sh so (z:=Zb.mk 0 false 0 0 0 false) (fun _ (_:Acc×Acc)=>True) (fun _ _ _=>trivial) (E:=Zge F st) (B1:=Zp9 F st) (B2:=Zp8 F st) (Y:=fun a c s k=>bif decide (c.from_ >=0) then k (upd s.1 ⟨a,c.name⟩ c.out,upd s.2 ⟨c.from_,c.name⟩ c.has) else k (upd s.1 ⟨a,c.name⟩ c.out,s.2)) ZqE (fun v s next=>rfl) (fun v0 next v s nx=>by obtain⟨a,b⟩:=s;rfl) (fun i a c s k _ _ _=>⟨by
  unfold ZqE;cases decide (c.from_ >=0) <;> rfl,trivial⟩) ([],[]) trivial
 rw [h1];unfold Zge;refine(Z9 w.notes (fun v (s:Acc×Acc)=>(v,s.1,s.2)) (ZiQ st) (fun _ x s next=>next (ZqD x s)) (fun s=>some s) (by omega) (fun k y s next hy hk=>?_) (fun s next=>?_) (by omega) (Ws w)).trans ?_
 ·simp only [ZiQ,so.notes,ZB,hy,hk,decide_true,Cq1,Bq0,Zgd,ZaE,ZqD];cases y.kind==1
  ·cases y.kind==2 <;> rfl
  ·rfl
 ·simp only [ZiQ,so.notes];rw [decide_eq_false (by omega),Cq0]
 ·rw [(Y9 (fun _ (x:Zd) s=>ZqD x s) (fun _ _=>True) trivial (fun _ _ _ _ _ _=>⟨rfl,trivial⟩)).1,Qb]
  rfl
def hm (w:Za) (a n:Nat) (q:Int×Int) (m:Nat):Int×Int:=match cellOf w m n with
 | some c=>(if m=a then ZP (q.1 + c.out) else q.1,if c.from_= (a:Int) then ZP (q.2 + c.has) else q.2)
 | none=>q
theorem Zo1 {w:Za} {a n m:Nat} (hn:n < w.names.toNat) (q:Acc×Acc):
 view a n ((List.range w.names.toNat).foldl (fun s n=>JC w ZqE m n s) q)=hm w a n (view a n q) m:=by
 refine ZeY (view a n) (fun i s=>JC w ZqE m i s) (fun q=>hm w a n q m) hn (fun i s hi hne=>?_) (fun s=>?_) q
 ·unfold JC;cases hc:cellOf w m i with
  | none=>rfl
  | some c=>
    have hnm:=Q7 hc;dsimp only;unfold view ZqE;have k1:¬ (Zg.mk (a:Int) (n:Int))=Zg.mk (m:Int) c.name:=fun e=>by injection e with _ e2;omega
    have k2:¬ (Zg.mk (a:Int) (n:Int))=Zg.mk c.from_ c.name:=fun e=>by injection e with _ e2;omega
    rw [WY,if_neg k1];cases decide (c.from_ >=0)
    ·rfl
    ·simp only [Cq1];rw [WY,if_neg k2]
 ·unfold JC hm;cases hc:cellOf w m n with
  | none=>rfl
  | some c=>
    have hnm:=Q7 hc;dsimp only;unfold view ZqE;dsimp only;rw [hnm];congr 1
    ·rw [WY];by_cases e:m=a
     ·subst e;rw [if_pos rfl,if_pos rfl]
     ·rw [if_neg e,if_neg (fun q=>by injection q with q1 _;omega)]
    ·by_cases e:c.from_= (a:Int)
     ·rw [if_pos e,decide_eq_true (by omega),Cq1,WY,e,if_pos rfl]
     ·rw [if_neg e];cases decide (c.from_ >=0)
      ·rfl
      ·simp only [Cq1];rw [WY,if_neg (fun q=>by injection q with q1 _;omega)]
theorem Zxj (c:Zd ->Bool) (l:List Zd) (g:Int):l.foldl (fun(g:Int) x=>bif c x then ZP (g + 16) else g) (ZP g)=ZP (g + 16 * (l.countP c:Int)):=by
 induction l generalizing g with
 | nil=>simp
 | cons x l ih=>
   rw [List.foldl_cons,List.countP_cons];cases hc:c x
   ·simp only [Cq0];rw [ih];simp
   ·simp only [Cq1,if_true];rw [Zhq,ih];congr 1;omega
theorem ZmC {w:Za} (sh:Szd w) {a n:Nat} (ha:a < w.cells.length) (hn:(n:Int) < w.names):val (ZcT w).1 ⟨a,n⟩=XC w a n∧val (ZcT w).2 ⟨a,n⟩=ZbH w a n:=by
 have e1:view a n (Ws w)= (List.range w.cells.length).foldl (fun q m=>hm w a n q m) (0,0):=
  UJ (view a n) (fun s m _=>Zo1 (by omega) s) ([],[])
 have e2:((List.range w.cells.length).foldl (fun q m=>hm w a n q m) (0,0)).2= (List.range w.cells.length).foldl (fun s k=>ZeO w a n k s) 0:=by
  refine UJ (fun q:Int×Int=>q.2) (fun s m _=>?_) (0,0);unfold hm ZeO;cases cellOf w m n with
  | none=>rfl
  | some c=>
    dsimp only;by_cases e:c.from_= (a:Int)
    ·rw [if_pos e];have:(c.from_== (a:Int))=true:=by simp [e]
     rw [this];rfl
    ·rw [if_neg e];have:(c.from_== (a:Int))=false:=by simp [e]
     rw [this];rfl
 have e3:((List.range w.cells.length).foldl (fun q m=>hm w a n q m) (0,0)).1=ZP (Zkv w a n):=by
  have f1:((List.range w.cells.length).foldl (fun q m=>hm w a n q m) (0,0)).1= (List.range w.cells.length).foldl (fun(g:Int) m=>match cellOf w m n with | some c=>if m=a then ZP (g + c.out) else g | none=>g) 0:=by
   refine UJ (fun q:Int×Int=>q.1) (fun s m _=>?_) (0,0);unfold hm;cases cellOf w m n with
   | none=>rfl
   | some c=>rfl
  rw [f1]
  have:=ZeY (V:=id) (fun m (g:Int)=>match cellOf w m n with | some c=>if m=a then ZP (g + c.out) else g | none=>g) (fun g=>match cellOf w a n with | some c=>ZP (g + c.out) | none=>g) ha (fun i s hi hne=>by
   simp only [id];cases cellOf w i n with
   | none=>rfl
   | some c=>dsimp only;rw [if_neg hne]) (fun s=>by
   simp only [id];cases cellOf w a n with
   | none=>rfl
   | some c=>simp) 0
  simp only [id] at this;rw [this];unfold Zkv;cases cellOf w a n with
  | none=>exact Ztv.symm
  | some c=>dsimp only;rw [Int.zero_add]
 have e4:view a n (ZcT w)=w.notes.foldl (fun q x=>(bif((x.kind==3) && (x.ZH== (a:Int))) && (x.name== (n:Int)) then ZP (q.1 + 16) else q.1,Za4 a n x q.2)) (view a n (Ws w)):=by
  refine UJ (view a n) (fun s x hx=>?_) (Ws w);have hx:=sh.kind x hx;unfold view ZqD Za4;by_cases k1:x.kind=1
  ·simp only [k1,beq_self_eq_true,Cq1,Bool.true_and];rw [WY];have r1:((1:Int)==2)=false:=rfl;have r2:((1:Int)==3)=false:=rfl;simp only [r1,r2,Bool.false_and,Bool.or_false,Cq0];congr 1;by_cases e:Zg.mk (a:Int) (n:Int)=Zg.mk x.via x.name
   ·rw [if_pos e];injection e with z1 z2
    have b:((x.name== (n:Int)) && (x.via== (a:Int)))=true:=by simp [z1,z2]
    rw [b,Cq1,z1,z2]
   ·rw [if_neg e]
    have b:((x.name== (n:Int)) && (x.via== (a:Int)))=false:=by
     rw [Bool.and_eq_false_iff];by_cases z:x.name= (n:Int)
     ·right;simp;intro z2;exact e (by rw [z,z2])
     ·left;simp [z]
    rw [b,Cq0]
  ·by_cases k2:x.kind=2
   ·have r1:((2:Int)==1)=false:=rfl;have r2:((2:Int)==3)=false:=rfl;simp only [k2,r1,r2,beq_self_eq_true,Cq1,Cq0,Bool.true_and,Bool.false_and,Bool.false_or];rw [WY];congr 1;by_cases e:Zg.mk (a:Int) (n:Int)=Zg.mk x.ZH x.name
    ·rw [if_pos e];injection e with z1 z2
     have b:((x.name== (n:Int)) && (x.ZH== (a:Int)))=true:=by simp [z1,z2]
     rw [b,Cq1,z1,z2]
    ·rw [if_neg e]
     have b:((x.name== (n:Int)) && (x.ZH== (a:Int)))=false:=by
      rw [Bool.and_eq_false_iff];by_cases z:x.name= (n:Int)
      ·right;simp;intro z2;exact e (by rw [z,z2])
      ·left;simp [z]
     rw [b,Cq0]
   ·have q1:(x.kind==1)=false:=by simp [k1]
    have q2:(x.kind==2)=false:=by simp [k2]
    have q3:(x.kind==3)=true:=by
     rcases hx with z | z | z
     ·exact absurd z k1
     ·exact absurd z k2
     ·simp [z]
    simp only [q1,q2,q3,Cq0,Bool.true_and,Bool.false_and,Bool.or_false,Bool.and_false];rw [WY];congr 1;by_cases e:Zg.mk (a:Int) (n:Int)=Zg.mk x.ZH x.name
    ·rw [if_pos e];injection e with z1 z2
     have b:((x.ZH== (a:Int)) && (x.name== (n:Int)))=true:=by simp [z1,z2]
     rw [b,Cq1,z1,z2]
    ·rw [if_neg e]
     have b:((x.ZH== (a:Int)) && (x.name== (n:Int)))=false:=by
      rw [Bool.and_eq_false_iff];by_cases z:x.name= (n:Int)
      ·left;simp;intro z2;exact e (by rw [z,z2])
      ·right;simp [z]
     rw [b,Cq0]
 constructor
 ·show(view a n (ZcT w)).1=_;rw [e4,UJ (fun q:Int×Int=>q.1) (g:=fun(g:Int) (x:Zd)=>bif((x.kind==3) && (x.ZH== (a:Int))) && (x.name== (n:Int)) then ZP (g + 16) else g) (fun s x _=>rfl),e1,e3,Zxj];unfold XC ZaG;congr 1;omega
 ·show(view a n (ZcT w)).2=_;rw [e4,UJ (fun q:Int×Int=>q.2) (g:=fun(g:Int) (x:Zd)=>Za4 a n x g) (fun s x _=>rfl),e1,e2]
  rfl
def YV (w:Za) (n h:Int):Nat ->Int ->Bool
 | 0,a=>a==h
 | k + 1,a=>bif a==h then true else match cellOf w a.toNat n with
   | none=>false
   | some c=>bif decide (c.from_ < 0) then false else YV w n h k c.from_
def U9 (w:Za) (n h:Int):Bool:= !((List.range w.cells.length).any fun m=>(cellOf w m n).isSome && !(YV w n h w.cells.length m))
theorem Shp.from_ {w:Za} (sh:Shp w) {m:Nat} {n:Int} {c:Zb} (h:cellOf w m n=some c) (h0:¬ c.from_ < 0):0 <=c.from_∧c.from_ < (w.cells.length:Int):=by
 obtain⟨row,k,h1,h2⟩:=K9 h;have:= (sh.cell m row k c h1 h2).1;unfold Ua at this;rw [Bool.and_eq_true] at this;have:=this.2;have e:(c.from_==-1)=false:=by simp;omega
 rw [e] at this;cases hr:c.root
 ·rw [hr] at this;simp only [Bool.or_self,Cq0,Bool.and_eq_true] at this;have:=this.1.1;unfold Kz at this
  simpa using this
 ·rw [hr] at this;simp at this
section
theorem Zsn {F:Nat} (hF:1000 <=F) {w:Za} (sm:Small w) (sh:Shp w) {a:Int} (h0:0 <=a) (h1:a < (w.cells.length:Int)) (h n:Int):Zoc F w a h n=some (YV w n h w.cells.length a):=by
 have hc:=sm.cells
 have key:∀ (d i F':Nat) (a:Int),i + d=w.cells.length ->d + 2 < F' ->0 <=a ->a < (w.cells.length:Int) ->loop F' (Zdj F w h n) (a,(i:Int))=some (YV w n h d a):=by
  intro d
  induction d with
  | zero=>
    intro i F' a hi hF' h0 h1;obtain⟨F',rfl⟩:=Ne0 (n:=F') (by omega);rw [Yk];simp only [Zdj,YV];rw [decide_eq_true (by omega),Cq1];have ea:((a.toNat:Nat):Int)=a:=by omega
    cases a==h
    ·simp only [Cq0];rcases find_eq hF sm (m:=a.toNat) (by omega) n with⟨j,c,q1,q2,q3⟩ | ⟨q1,q3⟩
     ·rw [ea] at q3;have hg:=Yn (w:=w) (m:=a.toNat) (by omega);rw [q3];have e1:decide ((j:Int) < 0)=false:=by simp
      have e2:ZM w.cells a=some (rowOf w a.toNat):=by have q:=ZB w.cells a.toNat;rw [ea] at q;rw [q];exact hg
      simp only [Bq0,e1,Bool.not_false,Zar,e2,ZB,q2,Bool.false_or];cases decide (c.from_ < 0)
      ·simp only [Cq0];obtain⟨F',rfl⟩:=Ne0 (n:=F') (by omega);rw [Yk];simp only [Zdj];rw [Qf (by omega),decide_eq_false (by omega),Cq0]
      ·rfl
     ·rw [ea] at q3;rw [q3];rfl
    ·rfl
  | succ d ih=>
    intro i F' a hi hF' h0 h1;obtain⟨F',rfl⟩:=Ne0 (n:=F') (by omega);rw [Yk];simp only [Zdj,YV];rw [decide_eq_true (by omega),Cq1];have ea:((a.toNat:Nat):Int)=a:=by omega
    cases a==h
    ·simp only [Cq0];rcases find_eq hF sm (m:=a.toNat) (by omega) n with⟨j,c,q1,q2,q3⟩ | ⟨q1,q3⟩
     ·rw [ea] at q3;have hg:=Yn (w:=w) (m:=a.toNat) (by omega);rw [q3,q1];have e1:decide ((j:Int) < 0)=false:=by simp
      have e2:ZM w.cells a=some (rowOf w a.toNat):=by have q:=ZB w.cells a.toNat;rw [ea] at q;rw [q];exact hg
      simp only [Bq0,e1,Bool.not_false,Zar,e2,ZB,q2,Bool.false_or];by_cases hf:c.from_ < 0
      ·rw [decide_eq_true hf];rfl
      ·rw [decide_eq_false hf];simp only [Cq0];have:=sh.from_ q1 hf;rw [Qf (by omega)];exact ih (i + 1) F' c.from_ (by omega) (by omega) this.1 this.2
     ·rw [ea] at q3;rw [q3,q1];rfl
    ·rfl
 have:=sh.c6;exact key w.cells.length 0 F a (by omega) (by omega) h0 h1
theorem Zpq {F:Nat} (hF:1000 <=F) {w:Za} (sm:Small w) (sh:Shp w) {st:Store} (so:Qo w st) (n h:Int):ZsB F st n h=some (U9 w n h):=by
 have hc:=sm.cells;have h6:=sh.c6
 let z:Zb:=Zb.mk 0 false 0 0 0 false
 have key:∀ (d i F' m:Nat) (next:Int ->Option Bool) (a:Int),i + d=w.cells.length ->d < F' ->0 <=a ->a < (w.cells.length:Int) ->
  loop F' (ZiJ st n h m next) (a,(cellOf w a.toNat n).isSome,(i:Int),((cellOf w a.toNat n).getD z).name,((cellOf w a.toNat n).getD z).root,((cellOf w a.toNat n).getD z).from_,((cellOf w a.toNat n).getD z).has,((cellOf w a.toNat n).getD z).out,((cellOf w a.toNat n).getD z).use)=bif YV w n h d a then next (ZP ((m:Int) + 1)) else some false:=by
  intro d
  induction d with
  | zero=>
    intro i F' m next a hi hF' h0 h1;obtain⟨F',rfl⟩:=Ne0 (n:=F') (by omega);rw [Yk];simp only [ZiJ,YV,so.m];rw [decide_eq_false (by omega),Cq0];have:(a !=h)= !(a==h):=rfl;rw [this];cases a==h <;> rfl
  | succ d ih=>
    intro i F' m next a hi hF' h0 h1;obtain⟨F',rfl⟩:=Ne0 (n:=F') (by omega);rw [Yk];simp only [ZiJ,YV,so.m];rw [decide_eq_true (by omega),Cq1];cases a==h
    ·simp only [Cq0];cases hq:cellOf w a.toNat n with
     | none=>rfl
     | some c=>
       simp only [Option.isSome_some,Bool.not_true,Bool.false_or,Option.getD_some];by_cases hf:c.from_ < 0
       ·rw [decide_eq_true hf];rfl
       ·rw [decide_eq_false hf];simp only [Cq0];have hv:=sh.from_ hq hf;unfold Zal;rw [so.cells,if_pos hv,Bq0,Qf (by omega)];exact ih (i + 1) F' m next c.from_ (by omega) (by omega) hv.1 hv.2
    ·rfl
 unfold ZsB;refine(QF w.cells.length (fun v (_:Unit)=>v) (ZiK F st n h) (fun m s next=>bif(cellOf w m n).isSome && !(YV w n h w.cells.length m) then some false else next ()) (fun _=>some true) (by omega) (fun m s next hm=>?_) (fun s next=>?_) (by omega) ()).trans ?_
 ·simp only [ZiK,so.m];rw [decide_eq_true (by omega),Cq1];unfold Zal;rw [so.cells,if_pos (by omega),Bq0,Int.toNat_natCast];have:=key w.cells.length 0 F m next (m:Int) (by omega) (by omega) (by omega) (by omega);rw [Int.toNat_natCast] at this;cases hq:cellOf w m n with
  | none=>rfl
  | some c=>
    rw [hq] at this;simp only [Option.isSome_some,Bool.not_true,Cq0,Bool.true_and,Option.getD_some];refine Eq.trans this ?_;cases YV w n h w.cells.length m <;> rfl
 ·simp only [ZiK,so.m];rw [decide_eq_false (by omega),Cq0]
 ·rw [XO (r:=some false) (fun _ m=>(cellOf w m n).isSome && !(YV w n h w.cells.length m)) (fun _ _ _ _=>rfl),Jr];unfold U9;cases (List.range w.cells.length).any fun m=>(cellOf w m n).isSome && !(YV w n h w.cells.length m) <;> rfl
end
def Zgz (w:Za) (m:Nat) (n:Int):Nat:=ZaG w m n + (match cellOf w m n with | some c=>bif c.root then 1 else 0 | none=>0)
def Qw (w:Za) (n:Int) (q:Int×Int) (m:Nat):Int×Int:=bif decide ((Zgz w m n:Int) > 0) then(ZP (q.1 + (Zgz w m n:Int)),(m:Int)) else q
theorem UI {α σ:Type} (P:σ ->Prop) (f:σ ->α ->σ) (l:List α) (h:∀ s x,x ∈ l ->P s ->P (f s x)) (s:σ) (h0:P s):P (l.foldl f s):=by
 induction l generalizing s with
 | nil=>exact h0
 | cons x l ih=>exact ih (fun s y hy=>h s y (by simp [hy])) _ (h s x (by simp) h0)
theorem ZeJ {w:Za} (sh:Shp w) (n:Int):∀ x ∈ Xy w n,0 <=x∧x < (w.cells.length:Int):=by
 unfold Xy;refine UI (fun s:List Int=>∀ x ∈ s,0 <=x∧x < (w.cells.length:Int)) _ _ (fun s x hx hs=>?_) _ ?_
 ·cases h:(x.kind==3) && (x.name==n)
  ·exact hs
  ·intro y hy;simp only [Cq1,List.mem_append,List.mem_singleton] at hy;rcases hy with hy | hy
   ·exact hs y hy
   ·subst hy;have:=sh.note x hx;unfold JE Kz at this;simp only [Bool.and_eq_true,decide_eq_true_eq] at this;exact this.1.1.1
 ·refine UI (fun s:List Int=>∀ x ∈ s,0 <=x∧x < (w.cells.length:Int)) _ _ (fun s m hm hs=>?_) _ (by simp);rw [List.mem_range] at hm;cases cellOf w m n with
  | none=>exact hs
  | some c=>
    dsimp only;cases c.root
    ·exact hs
    ·intro y hy;simp only [Cq1,List.mem_append,List.mem_singleton] at hy;rcases hy with hy | hy
     ·exact hs y hy
     ·subst hy;omega
theorem ZpI {w:Za} (sh:Shp w) (n:Int):(Xy w n).length <=100:=by
 have h:(Xy w n).length <=w.cells.length + w.notes.length:=by
  unfold Xy;refine Nat.le_trans (ZkH _ (fun s x=>?_) w.notes _) (Nat.add_le_add_right (Nat.le_trans (ZkH _ (fun s m=>?_) (List.range w.cells.length) []) (by simp)) _)
  ·cases (x.kind==3) && (x.name==n) <;> simp
  ·cases cellOf w m n with
   | none=>simp
   | some c=>dsimp only;cases c.root <;> simp
 have:=sh.c6;have:=sh.notes;omega
theorem ZsP {c:Zd ->Bool} (l:List Zd) (k:Nat):l.foldl (fun(k:Nat) x=>bif c x then k + 1 else k) k=k + l.countP c:=by
 induction l generalizing k with
 | nil=>rfl
 | cons x l ih=>
   rw [List.foldl_cons,ih,List.countP_cons];cases c x <;> simp;omega
theorem ZeK {w:Za} {m:Nat} (hm:m < w.cells.length) (n:Int):(Xy w n).count (m:Int)=Zgz w m n:=by
 unfold Xy
 rw [UJ (fun s:List Int=>s.count (m:Int)) (g:=fun(k:Nat) (x:Zd)=>bif((x.kind==3) && (x.ZH== (m:Int))) && (x.name==n) then k + 1 else k) (fun s x hx=>by
  cases h1:x.kind==3 <;> cases h2:x.name==n <;> cases h3:x.ZH== (m:Int) <;> simp [List.count_append,List.count_singleton,h3])]
 rw [ZsP]
 rw [UJ (fun s:List Int=>s.count (m:Int)) (g:=fun(k:Nat) (m':Nat)=>match cellOf w m' n with | some c=>bif c.root && (m'==m) then k + 1 else k | none=>k) (fun s m' hx=>by
  cases cellOf w m' n with
  | none=>rfl
  | some c=>
    dsimp only;cases c.root
    ·rfl
    ·by_cases e:m'=m
     ·subst e;simp
     ·have e1:(m'==m)=false:=by simp [e]
      have e2:¬ (m':Int)= (m:Int):=by omega
      simp [e1,List.count_append,List.count_singleton,e2])]
 have:=ZeY (V:=id) (fun m' (k:Nat)=>match cellOf w m' n with | some c=>bif c.root && (m'==m) then k + 1 else k | none=>k) (fun k=>match cellOf w m n with | some c=>bif c.root then k + 1 else k | none=>k) hm (fun i s hi hne=>by
  simp only [id];cases cellOf w i n with
  | none=>rfl
  | some c=>
    have e1:(i==m)=false:=by simp [hne]
    dsimp only;rw [e1,Bool.and_false];rfl) (fun s=>by
  simp only [id];cases cellOf w m n with
  | none=>rfl
  | some c=>simp) 0
 simp only [id] at this;rw [List.count_nil,this];unfold Zgz ZaG;cases cellOf w m n with
 | none=>simp
 | some c=>cases c.root <;> simp <;> omega
theorem Zow (L:List Int) (h:∀ x ∈ L,0 <=x) (M:Nat):L.countP (fun x=>decide (x < ((M + 1:Nat):Int)))=L.countP (fun x=>decide (x < (M:Int))) + L.count (M:Int):=by
 induction L with
 | nil=>rfl
 | cons x L ih=>
   have:=ih (fun y hy=>h y (by simp [hy]));rw [List.countP_cons,List.countP_cons,List.count_cons,this];have h0:=h x (by simp);by_cases e:x= (M:Int)
   ·subst e;have a1:decide ((M:Int) < ((M + 1:Nat):Int))=true:=by simp;omega
    have a2:decide ((M:Int) < (M:Int))=false:=by simp
    rw [a1,a2];simp;omega
   ·have a3:(x== (M:Int))=false:=by simp [e]
    by_cases l:x < (M:Int)
    ·have a1:decide (x < ((M + 1:Nat):Int))=true:=by simp;omega
     have a2:decide (x < (M:Int))=true:=by simp [l]
     rw [a1,a2,a3];simp;omega
    ·have a1:decide (x < ((M + 1:Nat):Int))=false:=by simp;omega
     have a2:decide (x < (M:Int))=false:=by simp;omega
     rw [a1,a2,a3];simp
theorem Zkp {w:Za} (sh:Shp w) (n:Int):((List.range w.cells.length).foldl (Qw w n) (0,0)).1= ((Xy w n).length:Int)∧∀ h,Xy w n= [h] ->((List.range w.cells.length).foldl (Qw w n) (0,0)).2=h:=by
 have hl:=ZpI sh n;have hr:=ZeJ sh n
 have key:∀ M,M <=w.cells.length ->((List.range M).foldl (Qw w n) (0,0)).1= ((Xy w n).countP (fun x=>decide (x < (M:Int))):Int)∧(((List.range M).foldl (Qw w n) (0,0)).1 ≠ 0 ->((List.range M).foldl (Qw w n) (0,0)).2 ∈ Xy w n):=by
  intro M
  induction M with
  | zero=>
    intro _
    have:(Xy w n).countP (fun x=>decide (x < ((0:Nat):Int)))=0:=by
     rw [List.countP_eq_zero];intro x hx;have:= (hr x hx).1;simp;omega
    rw [this];exact⟨rfl,fun h=>absurd rfl h⟩
  | succ M ih=>
    intro hM;obtain⟨i1,i2⟩:=ih (by omega);rw [List.range_succ,List.foldl_append];simp only [List.foldl_cons,List.foldl_nil];rw [Zow _ (fun x hx=>(hr x hx).1)];have hc:=ZeK (w:=w) (m:=M) (by omega) n;have hle:=List.countP_le_length (p:=fun x=>decide (x < (M:Int))) (l:=Xy w n);have hle2:=List.count_le_length (a:= (M:Int)) (l:=Xy w n);generalize (List.range M).foldl (Qw w n) (0,0)=q at i1 i2 ⊢;unfold Qw;rw [← hc];by_cases h0:(Xy w n).count (M:Int)=0
    ·have:decide ((((Xy w n).count (M:Int):Nat):Int) > 0)=false:=by simp [h0]
     rw [this,Cq0,h0];exact⟨i1,i2⟩
    ·have:decide ((((Xy w n).count (M:Int):Nat):Int) > 0)=true:=decide_eq_true (by omega);rw [this,Cq1];refine⟨?_,fun _=>?_⟩
     ·show ZP (q.1 + _)=_;rw [i1,Ja] <;> omega
     ·have hp:0 < (Xy w n).count (M:Int):=Nat.pos_of_ne_zero h0;exact List.count_pos_iff.1 hp
 obtain⟨k1,k2⟩:=key w.cells.length (Nat.le_refl _)
 have e:(Xy w n).countP (fun x=>decide (x < (w.cells.length:Int)))= (Xy w n).length:=by
  rw [List.countP_eq_length];intro x hx
  simpa using (hr x hx).2
 rw [e] at k1;refine⟨k1,fun h hh=>?_⟩;have:=k2 (by rw [k1,hh];simp);rw [hh] at this
 simpa using this
end Go.Proofs.Ytekpjgmhkkjhgaa
end
section
namespace Go.Proofs.Ytekpjgmhkkjhgaa
open Go.Lf
theorem Zly {α β σ:Type} {g:Nat ->α ->σ ->(σ ->Option β) ->Option β} {d:σ ->Option β} {r:Option β} (c:Nat ->α ->Bool) (f:Nat ->α ->σ ->σ) {l:List α} {i:Nat} {s:σ}
 (hg:∀ k x s next,l[k]? =some x ->g (i + k) x s next=bif c (i + k) x then r else next (f (i + k) x s)):iter g d i l s=bif anyI c i l then r else d (foldI f i l s):=by
 induction l generalizing i s with
 | nil=>rfl
 | cons x l ih=>
   unfold iter anyI foldI;have:=hg 0 x s (fun s'=>iter g d (i + 1) l s') rfl;rw [Nat.add_zero] at this;rw [this];cases c i x
   ·rw [Cq0,Bool.false_or];exact ih (fun k y s next hy=>by rw [show i + 1 + k=i + (k + 1) by omega];exact hg (k + 1) y s next (by simpa using hy))
   ·rfl
def Zjs (w:Za) (n:Int) (m:Nat):Bool:= (XC w m n !=ZbH w m n) || decide (XC w m n > 1000000)
def Jd (w:Za) (n:Int):Int×Int:= (List.range w.cells.length).foldl (Qw w n) (0,0)
def JD (w:Za) (n:Int):Bool:= !((List.range w.cells.length).any (Zjs w n)) && ((Jd w n).1==1 && U9 w n (Jd w n).2)
def U4 (w:Za):Bool:=Ud w && (!(anyI (QY w) 0 w.freed) && (KX w && JA w))
def Uf (w:Za):Bool:=U4 w && !((List.range w.names.toNat).any fun n=>Yu w n && !(JD w n))
theorem Zb8 {w:Za} (h:U4 w=true):Shp w:=by
 unfold U4 at h;simp only [Bool.and_eq_true] at h;exact ZtD h.1 h.2.2.1 h.2.2.2
section
theorem Zr9 {F:Nat} (hF:1000 <=F) {w:Za} (sm:Small w) (sh:Shp w) (n:Int):ZsF F w n=some (JD w n):=by
 have hc:=sm.cells;unfold ZsF
 have e1:∀ h:Int,loop F (Zgk F w n h) 0=some (U9 w n h):=by
  intro h;refine(QF w.cells.length (fun v (_:Unit)=>v) (Zgk F w n h) (fun m s next=>bif(cellOf w m n).isSome && !(YV w n h w.cells.length m) then some false else next ()) (fun _=>some true) (by omega) (fun m s next hm=>?_) (fun s next=>?_) (by omega) ()).trans ?_
  ·simp only [Zgk];rw [decide_eq_true (by omega),Cq1];rcases find_eq hF sm hm n with⟨j,c,q1,q2,q3⟩ | ⟨q1,q3⟩
   ·rw [q3,q1];have e1:decide ((j:Int) >=0)=true:=by simp
    simp only [Bq0,e1,Zar,Bool.true_and,Option.isSome_some,Zsn hF sm sh (show(0:Int) <= (m:Int) by omega) (show(m:Int) < w.cells.length by omega)]
   ·rw [q3,q1];rfl
  ·simp only [Zgk];rw [decide_eq_false (by omega),Cq0]
  ·rw [XO (r:=some false) (fun _ m=>(cellOf w m n).isSome && !(YV w n h w.cells.length m)) (fun _ _ _ _=>rfl),Jr];unfold U9;cases (List.range w.cells.length).any fun m=>(cellOf w m n).isSome && !(YV w n h w.cells.length m) <;> rfl
 refine(QF w.cells.length (fun v (q:Int×Int)=>(q.1,q.2,v)) (ZiT F w n) (fun m q next=>bif Zjs w n m then some false else next (Qw w n q m)) (fun q=>bif q.1 !=1 then some false else some (U9 w n q.2)) (by omega) (fun m q next hm=>?_) (fun q next=>?_) (by omega) (0,0)).trans ?_
 ·simp only [ZiT];rw [decide_eq_true (by omega),Cq1,Znu hF sm,Bq0]
  have j1:∀ a b:Int,Zgi F w n m (fun s'=>next s') (a,b)=bif Zjs w n m then some false else next (a,b,ZP ((m:Int) + 1)):=by
   intro a b;simp only [Zgi];rw [ZnU hF sm hm,ZyQ hF sm];simp only [Bq0,ZbV];unfold Zjs;cases XC w m n !=ZbH w m n <;> rfl
  have j0:∀ k:Nat,k=Zgz w m n ->Zgj F w n q.1 q.2 m (fun s'=>next s') (k:Int)=bif Zjs w n m then some false else next ((Qw w n q m).1,(Qw w n q m).2,ZP ((m:Int) + 1)):=by
   intro k hk;subst hk;simp only [Zgj,Qw];cases decide ((Zgz w m n:Int) > 0)
   ·exact j1 _ _
   ·exact j1 _ _
  have hh:ZaG w m n < 1000:=Nat.lt_of_le_of_lt List.countP_le_length sm.notes;rcases find_eq hF sm hm n with⟨j,c,q1,q2,q3⟩ | ⟨q1,q3⟩
  ·have e1:decide ((j:Int) >=0)=true:=by simp
   simp only [q3,Bq0,e1,Zar,ZB,Yn hm,q2,Bool.true_and];cases hr:c.root
   ·rw [Cq0];exact j0 _ (by unfold Zgz;rw [q1];simp [hr])
   ·rw [Cq1,Qf (by omega)];exact j0 _ (by unfold Zgz;rw [q1];simp [hr])
  ·simp only [q3,Bq0];exact j0 _ (by unfold Zgz;rw [q1];simp)
 ·simp only [ZiT];rw [decide_eq_false (by omega),Cq0,e1]
 ·rw [Zly (r:=some false) (fun _ m=>Zjs w n m) (fun _ m q=>Qw w n q m) (fun _ _ _ _ _=>rfl),Jr,Qb];unfold JD Jd;generalize (List.range w.cells.length).foldl (Qw w n) (0,0)=q;cases (List.range w.cells.length).any fun m=>Zjs w n m
  ·have:(q.1 !=1)= !(q.1==1):=rfl;rw [this];cases q.1==1 <;> rfl
  ·rfl
theorem right_eq {F:Nat} (hF:1000 <=F) {w:Za} (sm:Small w):Zqc F w=some (Uf w):=by
 unfold Zqc;rw [Zr5 hF sm,Bq0];have hf:=sm.freed;by_cases h0:Ud w=true
 ·have h0':=h0;unfold Ud at h0';simp only [Bool.and_eq_true,decide_eq_true_eq] at h0';have hrow:=Zx1 (w:=w) (by omega);rw [hrow];have e:(Ud w && (!(anyI (QY w) 0 w.freed) && (KX w && JA w)))=U4 w:=rfl;rw [e];unfold Uf;cases hs:U4 w
  ·rfl
  ·have sh:=Zb8 hs;have en:((w.names.toNat:Nat):Int)=w.names:=by omega
   simp only [Bool.not_true,Cq0,Bool.true_and];refine(QF w.names.toNat (fun v (_:Unit)=>v) (Zi8 F w) (fun n s next=>bif Yu w n && !(JD w n) then some false else next ()) (fun _=>some true) (by omega) (fun n s next hn=>?_) (fun s next=>?_) (by omega) ()).trans ?_
   ·simp only [Zi8];rw [decide_eq_true (by omega),Cq1,has_eq hF hf,Zr9 hF sm sh];simp only [Bq0,ZbV];unfold Yu;rw [decide_eq_true (show(0:Int) <= (n:Int) by omega),decide_eq_true (show(n:Int) < w.names by omega)];cases (w.freed.any fun y=>y== (n:Int)) <;> rfl
   ·simp only [Zi8];rw [decide_eq_false (by omega),Cq0]
   ·rw [XO (r:=some false) (fun _ (n:Nat)=>Yu w n && !(JD w n)) (fun _ _ _ _=>rfl),Jr];cases (List.range w.names.toNat).any fun n=>Yu w n && !(JD w n) <;> rfl
 ·have h0:Ud w=false:=by simpa using h0
  unfold Uf U4;rw [h0];rfl
theorem Zul {F:Nat} (hF:1000 <=F) {w:Za} (sm:Small w) (sh:Shp w) (n:Int):(((Xy w n).length:Int)==1)= ((Jd w n).1==1)∧((Xy w n).length=1 ->Xy w n= [(Jd w n).2]):=by
 obtain⟨h1,h2⟩:=Zkp sh n;unfold Jd;refine⟨by rw [h1],fun hl=>?_⟩;obtain⟨h,hh⟩:=List.length_eq_one_iff.1 hl;rw [h2 h hh];exact hh
theorem Zrr {F:Nat} (hF:1000 <=F) {w:Za} (sm:Small w):ZsJ F w=some (Uf w):=by
 unfold ZsJ;have hf:=sm.freed;have hc:=sm.cells;have hn:=sm.notes
 have e0:((((((decide ((w.cells.length:Int) < 1)) || (decide ((w.cells.length:Int) > 6))) || (decide (w.names < 0))) || (decide (w.names > 12))) || (decide ((w.notes.length:Int) > 80))) || (decide ((w.freed.length:Int) > w.names)))= !(Ud w):=by
  unfold Ud;rw [Bool.eq_iff_iff];simp only [Bool.or_eq_true,decide_eq_true_eq,Bool.not_eq_true',← Bool.not_eq_true,Bool.and_eq_true];omega
 rw [e0];cases h0:Ud w
 ·unfold Uf U4;rw [h0];rfl
 ·have h0':=h0;unfold Ud at h0';simp only [Bool.and_eq_true,decide_eq_true_eq] at h0';have en:((w.names.toNat:Nat):Int)=w.names:=by omega
  simp only [Bool.not_true,Cq0];refine(Z9 w.freed (fun v (_:Unit)=>v) (Zi2 F w) (fun k x s next=>bif QY w k x then some false else next ()) (fun _=>bif KX w && JA w then some (!((List.range w.names.toNat).any fun n=>Yu w n && !(JD w n))) else some false) (by omega) (fun k y s next hy hk=>?_) (fun s next=>?_) (by omega) ()).trans ?_
  ·have hk':k < w.freed.length:=by omega
   simp only [Zi2,ZB,hy,hk,decide_true,Cq1,Bq0,Zhz _ hk' (by omega)];unfold QY;have a1:decide (y < 0)= !decide (0 <=y):=by rw [← decide_not];exact decide_eq_decide.2 (by omega)
   have a2:decide (y >=w.names)= !decide (y < w.names):=by rw [← decide_not];exact decide_eq_decide.2 (by omega)
   rw [a1,a2];cases decide (0 <=y) <;> cases decide (y < w.names) <;> cases decide ((k:Int) > 0) <;> rfl
  ·simp only [Zi2];rw [decide_eq_false (by omega),Cq0,Zsy hF sm _ rfl rfl rfl,Bq0];cases hr:KX w && JA w
   ·rfl
   ·simp only [Bool.not_true,Cq0,Cq1];rw [Bool.and_eq_true] at hr;have sh:=ZtD h0 hr.1 hr.2;obtain⟨cs,q1,q2⟩:=Zq2 hF sm sh;have so:Qo w ⟨(w.cells.length:Int),w.names,cs,w.notes,w.freed⟩:= ⟨rfl,rfl,rfl,rfl,q2⟩
    rw [q1,Bq0,ZrU hF sm sh.szd so,Bq0];generalize hst:(⟨(w.cells.length:Int),w.names,cs,w.notes,w.freed⟩:Store)=st at so;refine(QF w.names.toNat (fun v (_:Unit)=>v) (Zi1 F st (ZcT w)) (fun n s next=>bif Yu w n && !(JD w n) then some false else next ()) (fun _=>some true) (by omega) (fun n s next hnn=>?_) (fun s next=>?_) (by omega) ()).trans ?_
    ·have ZCy:(n:Int) < w.names:=by omega
     simp only [Zi1,so.n];rw [decide_eq_true ZCy,Cq1,ZfS hF sm st so.n so.freed,Bq0];cases Yu w n
     ·rfl
     ·simp only [Bool.not_true,Cq0,Bool.true_and];rw [ZpG hF sm sh so ZCy,Bq0];obtain⟨n1,n2⟩:=Zul hF sm sh (n:Int);have e5:(((Xy w n).length:Int) !=1)= !((Jd w n).1==1):=by rw [← n1];rfl
      rw [e5,Bool.not_not];unfold JD;cases h1:(Jd w n).1==1
      ·simp only [Zv1,Bq0,Bool.not_false,Bool.true_or,Cq1,Bool.false_and,Bool.and_false]
      ·rw [h1] at n1
       have hl:(Xy w n).length=1:=by
        have:=eq_of_beq n1;omega
       rw [n2 hl];have eg:ZM [(Jd w n).2] 0=some (Jd w n).2:=rfl;simp only [Zar,eg,Bq0,Zpq hF sm sh so,Bool.not_true,Bool.false_or,Bool.true_and];cases U9 w n (Jd w n).2
       ·simp only [Bool.not_false,Cq1,Bool.and_false]
       ·simp only [Bool.not_true,Cq0,Bool.and_true,Bool.not_not];refine(QF w.cells.length (fun v (_:Unit)=>v) (Zi0 st (ZcT w) n next) (fun m s nx=>bif Zjs w n m then some false else nx ()) (fun _=>next (ZP ((n:Int) + 1))) (by omega) (fun m s nx hm=>?_) (fun s nx=>?_) (by omega) ()).trans ?_
        ·simp only [Zi0,so.m];obtain⟨g1,g2⟩:=ZmC sh.szd hm ZCy;rw [decide_eq_true (by omega),Cq1];have p1:ZaE (ZcT w).1 ⟨(m:Int),(n:Int)⟩ 0=some (XC w m n):=by rw [← g1];rfl
         have p2:ZaE (ZcT w).2 ⟨(m:Int),(n:Int)⟩ 0=some (ZbH w m n):=by rw [← g2];rfl
         simp only [p1,p2,Bq0,ZbV];unfold Zjs;cases XC w m n !=ZbH w m n <;> rfl
        ·simp only [Zi0,so.m,ZiZ];rw [decide_eq_false (by omega),Cq0]
        ·rw [XO (r:=some false) (fun _ m=>Zjs w n m) (fun _ _ _ _=>rfl),Jr]
    ·simp only [Zi1,so.n];rw [decide_eq_false (by omega),Cq0]
    ·rw [XO (r:=some false) (fun _ (n:Nat)=>Yu w n && !(JD w n)) (fun _ _ _ _=>rfl),Jr];cases (List.range w.names.toNat).any fun n=>Yu w n && !(JD w n) <;> rfl
  ·rw [XO (r:=some false) (QY w) (fun k _ _ _=>by rw [Nat.zero_add])];unfold Uf U4;rw [h0];cases anyI (QY w) 0 w.freed
   ·cases KX w && JA w <;> rfl
   ·rfl
end
end Go.Proofs.Ytekpjgmhkkjhgaa
end
section
namespace Go.Proofs.Ytekpjgmhkkjhgaa
open Go.Lf
abbrev Row:=List Zb
def Ub (r:Row):Prop:=r.Pairwise fun a b=>a.name < b.name
def Ju (r:Row) (n:Int):Option Zb:=r.find? fun c=>c.name==n
def put (c:Zb):Row ->Row
 | []=>[c]
 | d::r=>if d.name < c.name then d::put c r else if d.name=c.name then c::r else c::d::r
def KQ (n:Int) (r:Row):Row:=r.filter fun c=>!(c.name==n)
theorem QA {r:Row} {n:Int} {c:Zb} (h:Ju r n=some c):c.name=n:=by
 unfold Ju at h;have:=List.find?_some h;simpa using this
theorem Zdb {r:Row} {n:Int} {c:Zb} (h:Ju r n=some c):c ∈ r:=List.mem_of_find?_eq_some h
theorem YT (d:Zb) (r:Row) (n:Int):Ju (d::r) n=if d.name=n then some d else Ju r n:=by
 unfold Ju;rw [List.find?_cons];by_cases h:d.name=n
 ·have:(d.name==n)=true:=by simp [h]
  rw [this,if_pos h]
 ·have:(d.name==n)=false:=by simp [h]
  rw [this,if_neg h]
theorem ZlP (n:Int):Ju [] n=none:=rfl
theorem Ub.tail {d:Zb} {r:Row} (s:Ub (d::r)):Ub r:= (List.pairwise_cons.1 s).2
theorem Ub.head {d:Zb} {r:Row} (s:Ub (d::r)):∀ c ∈ r,d.name < c.name:= (List.pairwise_cons.1 s).1
theorem ZcB {r:Row} {n:Int} (h:∀ c ∈ r,n < c.name):Ju r n=none:=by
 unfold Ju;rw [List.find?_eq_none];intro c hc;have:=h c hc;simp;omega
theorem Zp0 {r:Row} (s:Ub r) {c:Zb} (h:c ∈ r):Ju r c.name=some c:=by
 induction r with
 | nil=>simp at h
 | cons d r ih=>
   rw [YT];rcases List.mem_cons.1 h with rfl | h
   ·rw [if_pos rfl]
   ·have:=s.head c h;rw [if_neg (by omega)];exact ih s.tail h
theorem Wh (c:Zb) {r:Row} (s:Ub r) (n:Int):Ju (put c r) n=if n=c.name then some c else Ju r n:=by
 induction r with
 | nil=>rw [put,YT,ZlP];by_cases h:n=c.name <;> simp [h];exact fun e=>h e.symm
 | cons d r ih=>
   unfold put;by_cases h1:d.name < c.name
   ·rw [if_pos h1,YT,YT,ih s.tail];by_cases h2:d.name=n
    ·rw [if_pos h2,if_pos h2,if_neg (by omega)]
    ·rw [if_neg h2,if_neg h2]
   ·rw [if_neg h1];by_cases h2:d.name=c.name
    ·rw [if_pos h2,YT,YT];by_cases h3:n=c.name
     ·rw [if_pos h3.symm,if_pos h3]
     ·rw [if_neg (fun e=>h3 e.symm),if_neg h3,if_neg (by omega)]
    ·rw [if_neg h2,YT];by_cases h3:n=c.name
     ·rw [if_pos h3.symm,if_pos h3]
     ·rw [if_neg (fun e=>h3 e.symm),if_neg h3]
theorem Zyg {c x:Zb} {r:Row} (h:x ∈ put c r):x=c∨x ∈ r:=by
 induction r with
 | nil=>simp [put] at h;exact .inl h
 | cons d r ih=>
   unfold put at h;split at h
   ·rcases List.mem_cons.1 h with rfl | h
    ·exact .inr (by simp)
    ·exact(ih h).imp id fun z=>by simp [z]
   ·split at h
    ·rcases List.mem_cons.1 h with rfl | h
     ·exact .inl rfl
     ·exact .inr (by simp [h])
    ·rcases List.mem_cons.1 h with rfl | h
     ·exact .inl rfl
     ·exact .inr h
theorem Ub.put {c:Zb} {r:Row} (s:Ub r):Ub (put c r):=by
 induction r with
 | nil=>exact List.pairwise_singleton _ _
 | cons d r ih=>
   unfold Go.Proofs.Ytekpjgmhkkjhgaa.put;by_cases h1:d.name < c.name
   ·rw [if_pos h1];refine List.pairwise_cons.2 ⟨fun x hx=>?_,ih s.tail⟩;rcases Zyg hx with rfl | hx
    ·exact h1
    ·exact s.head x hx
   ·rw [if_neg h1];by_cases h2:d.name=c.name
    ·rw [if_pos h2];exact List.pairwise_cons.2 ⟨fun x hx=>by have:=s.head x hx;omega,s.tail⟩
    ·rw [if_neg h2];refine List.pairwise_cons.2 ⟨fun x hx=>?_,s⟩;rcases List.mem_cons.1 hx with rfl | hx
     ·omega
     ·have:=s.head x hx;omega
theorem Zro (n:Int) (r:Row) (k:Int):Ju (KQ n r) k=if k=n then none else Ju r k:=by
 induction r with
 | nil=>simp [KQ,Ju]
 | cons d r ih=>
   unfold KQ at ih ⊢;rw [List.filter_cons];by_cases h:d.name=n
   ·have:(!(d.name==n))=false:=by simp [h]
    rw [if_neg (by simp [h]),ih,YT];by_cases hk:k=n
    ·rw [if_pos hk,if_pos hk]
    ·rw [if_neg hk,if_neg hk,if_neg (by omega)]
   ·rw [if_pos (by simp [h]),YT,ih,YT];by_cases hk:k=n
    ·rw [if_pos hk,if_pos hk,if_neg (by omega)]
    ·rw [if_neg hk,if_neg hk]
theorem Ub.KQ {r:Row} (s:Ub r) (n:Int):Ub (KQ n r):=List.Pairwise.filter _ s
theorem Ub.ext:∀ {r q:Row},Ub r ->Ub q ->(∀ n,Ju r n=Ju q n) ->r=q
 | [],[],_,_,_=>rfl
 | [],d::q,_,_,h=>by have:=h d.name;rw [YT,if_pos rfl] at this;simp [Ju] at this
 | d::r,[],_,_,h=>by have:=h d.name;rw [YT,if_pos rfl] at this;simp [Ju] at this
 | d::r,e::q,s,t,h=>by
   have hde:d=e:=by
    have h1:=h d.name;have h2:=h e.name;rw [YT,if_pos rfl,YT] at h1;rw [YT,YT,if_pos rfl] at h2;by_cases hn:e.name=d.name
    ·rw [if_pos hn] at h1;exact Oi0 h1
    ·rw [if_neg hn] at h1;rw [if_neg (fun z=>hn z.symm)] at h2;have m1:=t.head d (Zdb h1.symm);have m2:=s.head e (Zdb h2);omega
   subst hde;congr 1;refine Ub.ext s.tail t.tail fun n=>?_
   have:=h n;rw [YT,YT] at this;by_cases hn:d.name=n
   ·rw [ZcB (fun c hc=>by have:=s.head c hc;omega),ZcB (fun c hc=>by have:=t.head c hc;omega)]
   ·rwa [if_neg hn,if_neg hn] at this
theorem Zew {r:Row} (s:Ub r) {k:Nat} {c c':Zb} (hk:r[k]? =some c) (hn:c'.name=c.name):r.set k c'=put c' r:=by
 induction r generalizing k with
 | nil=>simp at hk
 | cons d r ih=>
   cases k with
   | zero=>
     simp at hk;subst hk;rw [List.set_cons_zero,put,if_neg (by omega),if_pos hn.symm]
   | succ k=>
     rw [List.getElem?_cons_succ] at hk;have:=s.head c (List.mem_of_getElem? hk);rw [List.set_cons_succ,put,if_pos (by omega),ih s.tail hk]
def blank (n:Int):Zb:= ⟨n,false,-1,0,0,false⟩
def look (r:Row) (n:Int):Zb:= (Ju r n).getD (blank n)
def Zef (r:Row) (n:Int):Row:=match Ju r n with
 | some _=>r
 | none=>put (blank n) r
def cw (w:Za) (m:Nat) (r:Row):Za:= ⟨w.cells.set m r,w.notes,w.names,w.freed⟩
def JI (n:Int) (c:Zb) (s:Int×Row):Int×Row:=bif decide (s.1 < 0) && decide (c.name > n) then(s.2.length,(s.2 ++ [blank n]) ++ [c]) else(s.1,s.2 ++ [c])
def Zmv (n:Int) (s:Int×Row):Row×Int:=bif decide (s.1 < 0) then(s.2 ++ [blank n],s.2.length) else(s.2,s.1)
theorem ZoK (n:Int):∀ (r acc:Row) (i:Int),0 <=i ->r.foldl (fun s c=>JI n c s) (i,acc)= (i,acc ++ r)
 | [],acc,i,h=>by simp
 | c::r,acc,i,h=>by
   rw [List.foldl_cons]
   have:JI n c (i,acc)= (i,acc ++ [c]):=by
    unfold JI;rw [show decide (i < 0)=false from decide_eq_false (by omega)];rfl
   rw [this,ZoK n r _ i h,List.append_assoc];rfl
theorem ZtP {c:Zb}:∀ {r:Row},(∀ x ∈ r,c.name < x.name) ->put c r=c::r
 | [],_=>rfl
 | d::r,h=>by
   have:=h d (by simp);rw [put,if_neg (by omega),if_neg (by omega)]
theorem ZoJ (n:Int):∀ (r acc:Row),Ub r ->Ju r n=none ->∃ k:Nat,Zmv n (r.foldl (fun s c=>JI n c s) (-1,acc))= (acc ++ put (blank n) r,((acc.length + k:Nat):Int))∧(put (blank n) r)[k]? =some (blank n)
 | [],acc,_,_=>⟨0,by simp [Zmv,put],rfl⟩
 | c::r,acc,s,h=>by
   rw [YT] at h;have hne:c.name ≠ n:=fun z=>by rw [if_pos z] at h;cases h
   rw [if_neg hne] at h;rw [List.foldl_cons];by_cases hc:c.name > n
   ·have e:JI n c (-1,acc)= ((acc.length:Int),(acc ++ [blank n]) ++ [c]):=by
     unfold JI;rw [show decide (c.name > n)=true from decide_eq_true hc];rfl
    rw [e,ZoK n r _ _ (by omega)];refine⟨0,?_,?_⟩
    ·have hp:put (blank n) (c::r)=blank n::c::r:=ZtP fun x hx=>by
      have hb:(blank n).name=n:=rfl;rcases List.mem_cons.1 hx with rfl | hx
      ·omega
      ·have:=s.head x hx;omega
     unfold Zmv;rw [show decide ((acc.length:Int) < 0)=false from decide_eq_false (by omega),hp];simp
    ·rw [ZtP fun x hx=>by
      have hb:(blank n).name=n:=rfl;rcases List.mem_cons.1 hx with rfl | hx
      ·omega
      ·have:=s.head x hx;omega]
     rfl
   ·have e:JI n c (-1,acc)= (-1,acc ++ [c]):=by
     unfold JI;rw [show decide (c.name > n)=false from decide_eq_false hc,Bool.and_false];rfl
    rw [e];obtain⟨k,h1,h2⟩:=ZoJ n r (acc ++ [c]) s.tail h
    have hp:put (blank n) (c::r)=c::put (blank n) r:=by
     rw [put,if_pos (by show c.name < n;omega)]
    refine⟨k + 1,?_,?_⟩
    ·rw [h1,hp];simp only [List.append_assoc,List.singleton_append,List.length_append,List.length_cons,List.length_nil];congr 2;omega
    ·rw [hp];exact h2
theorem set_self {α:Type} {l:List α} {m:Nat} {x:α} (h:l[m]? =some x):l.set m x=l:=by
 apply List.ext_getElem?;intro k;rw [List.getElem?_set];by_cases hk:m=k
 ·subst hk;have:= (List.getElem?_eq_some_iff.1 h).1;rw [if_pos rfl,if_pos this,h]
 ·rw [if_neg hk]
theorem ZzP {w:Za} {m:Nat} (hm:m < w.cells.length):cw w m (rowOf w m)=w:=by
 unfold cw;rw [set_self (Yn hm)]
theorem Zw2 {F:Nat} (hF:1000 <=F) {w:Za} (sm:Small w) {m:Nat} (hm:m < w.cells.length) (n:Int) (Xh:Ub (rowOf w m)):
 ∃ k:Nat,Zjd F w m n=some (cw w m (Zef (rowOf w m) n),(k:Int))∧(Zef (rowOf w m) n)[k]? =some (look (rowOf w m) n):=by
 have hr:=Yn hm;have hl:=sm.row m;rcases find_eq hF sm hm n with⟨j,c,h1,h2,h3⟩ | ⟨h1,h2⟩
 ·have hf:Ju (rowOf w m) n=some c:=h1;refine⟨j,?_,?_⟩
  ·unfold Zjd;rw [h3,Bq0,show decide ((j:Int) >=0)=true from decide_eq_true (by omega),Cq1];unfold Zef;rw [hf,ZzP hm]
  ·unfold Zef look;rw [hf];exact h2
 ·have hf:Ju (rowOf w m) n=none:=h1;obtain⟨k,k1,k2⟩:=ZoJ n (rowOf w m) [] Xh hf;refine⟨k,?_,?_⟩
  ·unfold Zjd;rw [h2,Bq0,show decide ((-1:Int) >=0)=false from rfl,Cq0];have hb:48 <=1000:=by decide
   refine(Z9 (rowOf w m) (fun v (s:Int×Row)=>(s.1,s.2,v)) (Ze4 w m n) (fun _ c s next=>bif decide (s.1 < 0) && decide (c.name > n) then(app 48 s.2 [blank n]).bind fun z=>(app 48 z [c]).bind fun z2=>next (s.2.length,z2) else(app 48 s.2 [c]).bind fun z2=>next (s.1,z2))
    (fun s=>bif decide (s.1 < 0) then(app 48 s.2 [blank n]).bind fun z=>some (cw w m z,(s.2.length:Int)) else some (cw w m s.2,s.1)) (by omega) (fun k y s next hy hk=>?_) (fun s next=>?_) (by omega) (-1,[])).trans ?_
   ·simp only [Ze4,Ze3,ZB,hr,hy,hk,decide_true,Bq0,Cq1]
    rfl
   ·simp only [Ze4,Ze2,ZB,hr,Bq0];rw [decide_eq_false (by omega),Cq0]
    rfl
   ·rw [(Y9 (fun _ c s=>JI n c s) (fun k (s:Int×Row)=>s.2.length <=2 * k) (Nat.le_refl _) (fun k x s next hx hs=>by
     have:= (List.getElem?_eq_some_iff.1 hx).1;unfold JI;cases (decide (s.1 < 0) && decide (x.name > n))
     ·simp only [Cq0];rw [YQ (by simp;omega) hb];exact⟨rfl,by simp;omega⟩
     ·simp only [Cq1];rw [YQ (by simp;omega) hb,Bq0,YQ (by simp;omega) hb];exact⟨rfl,by simp;omega⟩)).1,Qb]
    have hlen:= (Y9 (d:=fun(_:Int×Row)=>(none:Option Unit)) (g:=fun _ c s next=>next (JI n c s)) (fun _ c s=>JI n c s) (fun k (s:Int×Row)=>s.2.length <=2 * k) (l:=rowOf w m) (i:=0) (s:= (-1,[])) (Nat.le_refl _) (fun k x s next hx hs=>⟨rfl,by
     unfold JI;cases (decide (s.1 < 0) && decide (x.name > n)) <;> simp <;> omega⟩)).2
    rw [Qb] at hlen;generalize (rowOf w m).foldl (fun s c=>JI n c s) (-1,[])=s at k1 hlen;unfold Zmv at k1;cases hs:decide (s.1 < 0) with
    | true=>
      rw [hs,Cq1] at k1;rw [Cq1,YQ (by simp;omega) hb,Bq0];have e1:=congrArg Prod.fst k1;have e2:=congrArg Prod.snd k1;dsimp only at e1 e2;rw [e1,e2];unfold Zef;rw [hf];simp
    | false=>
      rw [hs,Cq0] at k1;rw [Cq0];have e1:=congrArg Prod.fst k1;have e2:=congrArg Prod.snd k1;dsimp only at e1 e2;rw [e1,e2];unfold Zef;rw [hf];simp
  ·unfold Zef look;rw [hf];exact k2
def Q5 (n:Int):List Int ->List Int
 | []=>[n]
 | x::l=>if x > n then n::x::l else x::Q5 n l
def Jq (n:Int) (x:Int) (s:List Int×Bool):List Int×Bool:=bif(!s.2) && decide (x > n) then((s.1 ++ [n]) ++ [x],true) else(s.1 ++ [x],s.2)
theorem ZkS (n:Int):∀ (l acc:List Int),l.foldl (fun s c=>Jq n c s) (acc,true)= (acc ++ l,true)
 | [],acc=>by simp
 | c::l,acc=>by
   rw [List.foldl_cons];have:Jq n c (acc,true)= (acc ++ [c],true):=rfl;rw [this,ZkS n l,List.append_assoc];rfl
theorem ZkR (n:Int):∀ (l acc:List Int),(bif !(l.foldl (fun s c=>Jq n c s) (acc,false)).2 then(l.foldl (fun s c=>Jq n c s) (acc,false)).1 ++ [n] else(l.foldl (fun s c=>Jq n c s) (acc,false)).1)=acc ++ Q5 n l
 | [],acc=>rfl
 | c::l,acc=>by
   rw [List.foldl_cons];by_cases hc:c > n
   ·have e:Jq n c (acc,false)= ((acc ++ [n]) ++ [c],true):=by
     unfold Jq;rw [decide_eq_true hc];rfl
    rw [e,ZkS,Q5,if_pos hc];simp
   ·have e:Jq n c (acc,false)= (acc ++ [c],false):=by
     unfold Jq;rw [decide_eq_false hc];rfl
    rw [e,ZkR n l,Q5,if_neg hc,List.append_assoc];rfl
theorem free_eq {F:Nat} (hF:1000 <=F) {l:List Int} (hl:l.length < 1000) (n:Int):ZkW F l n=some (Q5 n l):=by
 have hb:8 <=1000:=by decide
 unfold ZkW
 refine(Z9 l (fun v (s:List Int×Bool)=>(s.1,s.2,v)) (Ze1 l n) (fun _ x s next=>bif(!s.2) && decide (x > n) then(app 8 s.1 [n]).bind fun z=>(app 8 z [x]).bind fun z2=>next (z2,true) else(app 8 s.1 [x]).bind fun z2=>next (z2,s.2))
  (fun s=>bif !s.2 then(app 8 s.1 [n]).bind fun z=>some z else some s.1) (by omega) (fun k y s next hy hk=>?_) (fun s next=>?_) (by omega) ([],false)).trans ?_
 ·obtain⟨s1,s2⟩:=s;simp only [Ze1,Ze0,ZB,hy,hk,decide_true,Cq1];cases s2
  ·simp only [gd,Bool.not_false,Cq1,Bq0]
  ·simp only [gd,Bool.not_true,Cq0,Bq0,Bool.false_and]
 ·simp only [Ze1,ZeZ];rw [decide_eq_false (by omega),Cq0]
 ·obtain⟨h1,h2⟩:=Y9 (d:=fun s:List Int×Bool=>bif !s.2 then(app 8 s.1 [n]).bind fun z=>some z else some s.1) (g:=fun _ x s next=>bif(!s.2) && decide (x > n) then(app 8 s.1 [n]).bind fun z=>(app 8 z [x]).bind fun z2=>next (z2,true) else(app 8 s.1 [x]).bind fun z2=>next (z2,s.2)) (fun _ c s=>Jq n c s) (fun k (s:List Int×Bool)=>s.1.length <=2 * k) (l:=l) (i:=0) (s:= ([],false)) (Nat.le_refl _) (fun k x s next hx hs=>by
   have:= (List.getElem?_eq_some_iff.1 hx).1;unfold Jq;cases ((!s.2) && decide (x > n))
   ·simp only [Cq0];rw [YQ (by simp;omega) hb];exact⟨rfl,by simp;omega⟩
   ·simp only [Cq1];rw [YQ (by simp;omega) hb,Bq0,YQ (by simp;omega) hb];exact⟨rfl,by simp;omega⟩)
  rw [h1];rw [Qb] at h2 ⊢;have:=ZkR n l [];rw [List.nil_append] at this;rw [← this];cases hs: !(l.foldl (fun s c=>Jq n c s) ([],false)).2
  ·rfl
  ·simp only [Cq1];rw [YQ (by simp;omega) hb];rfl
def XT (w:Za) (m:Nat) (n:Int) (c:Zb):Za:=
 bif c.use || (c.out !=0) then w else
  ⟨w.cells.set m (KQ n (rowOf w m)),bif c.root then w.notes else bif decide (c.from_ >=0) then w.notes ++ [⟨2,c.from_,n,0,c.has⟩] else w.notes,w.names,bif c.root then Q5 n w.freed else w.freed⟩
theorem ZqW {n:Int}:∀ {r:Row} {k:Nat} {c:Zb},Ub r ->r[k]? =some c ->c.name=n ->r.take k ++ r.drop (k + 1)=KQ n r
 | [],_,_,_,h,_=>by simp at h
 | d::r,0,c,s,h,hn=>by
   simp at h;subst h;have:KQ n (d::r)=KQ n r:=by unfold KQ;rw [List.filter_cons,if_neg (by simp [hn])]
   rw [this]
   have:KQ n r=r:=by
    unfold KQ;rw [List.filter_eq_self];intro x hx;have:=s.head x hx;simp;omega
   rw [this];rfl
 | d::r,k + 1,c,s,h,hn=>by
   rw [List.getElem?_cons_succ] at h;have:=s.head c (List.mem_of_getElem? h);have e:KQ n (d::r)=d::KQ n r:=by unfold KQ;rw [List.filter_cons,if_pos (by simp;omega)]
   rw [e,← ZqW s.tail h hn];rfl
def Zbo (k:Nat) (i:Nat) (c:Zb) (s:Row):Row:=bif((i:Int) != (k:Int)) then s ++ [c] else s
theorem Zko (k:Nat):∀ (r:Row) (i:Nat) (acc:Row),foldI (Zbo k) i r acc=acc ++ (if k < i then r else r.take (k - i) ++ r.drop (k - i + 1))
 | [],i,acc=>by simp [foldI]
 | c::r,i,acc=>by
   rw [foldI,Zko k r];by_cases h:k < i
   ·have:Zbo k i c acc=acc ++ [c]:=by
     unfold Zbo;have:((i:Int) != (k:Int))=true:=by simp;omega
     rw [this];rfl
    rw [this,if_pos (by omega),if_pos h];simp
   ·by_cases h2:k=i
    ·subst h2;have:Zbo k k c acc=acc:=by unfold Zbo;simp
     rw [this,if_pos (by omega),if_neg h];simp
    ·have:Zbo k i c acc=acc ++ [c]:=by
      unfold Zbo;have:((i:Int) != (k:Int))=true:=by simp;omega
      rw [this];rfl
     rw [this,if_neg (by omega),if_neg h];obtain⟨d,rfl⟩:∃ d,k=i + (d + 1):= ⟨k - i - 1,by omega⟩
     have e1:i + (d + 1) - (i + 1)=d:=by omega
     have e2:i + (d + 1) - i=d + 1:=by omega
     rw [e1,e2];simp
theorem Zr6 {F:Nat} (hF:1000 <=F) {w:Za} (sm:Small w) {m:Nat} (hm:m < w.cells.length) {n:Int} (Xh:Ub (rowOf w m)) {c:Zb} (hc:Ju (rowOf w m) n=some c):Ze7 F w m n=some (XT w m n c):=by
 have hr:=Yn hm;have hl:=sm.row m;have hno:=sm.notes;rcases find_eq hF sm hm n with⟨j,c',h1,h2,h3⟩ | ⟨h1,_⟩
 ·have hcc:c'=c:=by
   have:Ju (rowOf w m) n=some c':=h1;rw [hc] at this;exact(Oi0 this).symm
  subst hcc;unfold Ze7 XT;rw [h3,Bq0,ZB,hr,Bq0,ZB,h2,Bq0];cases hu:(c'.use || (c'.out !=0))
  ·rw [Cq0,Cq0]
   refine(Z9 (rowOf w m) (fun v (s:Row)=>(s,v)) (Ze6 F w m n j c') (fun i x s next=>bif((i:Int) != (j:Int)) then(app 48 s [x]).bind fun z=>next z else next s)
    (fun s=>bif c'.root then(ZkW F w.freed n).bind fun x=>Wi w m s (w.notes,x) else bif decide (c'.from_ >=0) then(app 40 w.notes [(Zd.mk 2 c'.from_ n 0 c'.has)]).bind fun z=>Wi w m s (z,w.freed) else Wi w m s (w.notes,w.freed)) (by omega) (fun k y s next hy hk=>?_) (fun s next=>?_) (by omega) []).trans ?_
   ·simp only [Ze6,Ze5,ZB,hr,hy,hk,decide_true,Bq0,Cq1]
   ·simp only [Ze6,ZB,hr,Bq0];rw [decide_eq_false (by omega),Cq0]
   ·refine(Y9 (i:=0) (s:= []) (l:=rowOf w m) (Zbo j) (fun k (s:Row)=>s.length <=k) (Nat.le_refl _) (fun k x s next hx hs=>by
     have:= (List.getElem?_eq_some_iff.1 hx).1;unfold Zbo;rw [Nat.zero_add] at hs ⊢;cases ((k:Int) != (j:Int))
     ·exact⟨rfl,by simp;omega⟩
     ·simp only [Cq1];rw [YQ (by simp;omega) (by decide)];exact⟨rfl,by simp;omega⟩)).1.trans ?_
    rw [Zko];rw [if_neg (by omega),List.nil_append,Nat.sub_zero,ZqW Xh h2 (QA hc)];cases c'.root
    ·simp only [Cq0];cases decide (c'.from_ >=0)
     ·simp only [Cq0,Wi,YK,Int.toNat_natCast]
     ·simp only [Cq1];rw [YQ (by simp;omega) (by decide)];simp only [Bq0,Wi,YK,Int.toNat_natCast]
    ·simp only [Cq1];rw [free_eq hF sm.freed];simp only [Bq0,Wi,YK,Int.toNat_natCast]
  ·rfl
 ·exfalso;have:Ju (rowOf w m) n=none:=h1;rw [this] at hc;cases hc
theorem WN (r:Row) (n:Int):(look r n).name=n:=by
 unfold look;cases h:Ju r n with
 | none=>rfl
 | some c=>exact QA h
theorem Ub.ask {r:Row} (s:Ub r) (n:Int):Ub (Zef r n):=by
 unfold Zef;cases Ju r n
 ·exact s.put
 ·exact s
theorem ZyX {r:Row} (s:Ub r) (n k:Int):Ju (Zef r n) k=if k=n then some (look r n) else Ju r k:=by
 unfold Zef look;cases h:Ju r n with
 | none=>
   dsimp only;rw [Wh _ s];rfl
 | some c=>
   dsimp only;by_cases hk:k=n
   ·rw [if_pos hk,hk,h];rfl
   ·rw [if_neg hk]
theorem Zx6 {r:Row} (s:Ub r) {n:Int} {c:Zb} (hc:c.name=n):put c (Zef r n)=put c r:=by
 refine Ub.ext (s.ask n).put s.put fun k=>?_
 rw [Wh _ (s.ask n),Wh _ s,ZyX s];by_cases hk:k=c.name
 ·rw [if_pos hk,if_pos hk]
 ·rw [if_neg hk,if_neg hk,if_neg (by omega)]
theorem ZqX {r:Row} (s:Ub r) {c d:Zb} (h:c.name=d.name):put c (put d r)=put c r:=by
 refine Ub.ext s.put.put s.put fun k=>?_
 rw [Wh _ s.put,Wh _ s,Wh _ s];by_cases hk:k=c.name
 ·rw [if_pos hk,if_pos hk]
 ·rw [if_neg hk,if_neg hk,if_neg (by omega)]
theorem ZrQ {r:Row} (s:Ub r) {n:Int} {k:Nat} {c x:Zb} (hk:(Zef r n)[k]? =some x) (hx:x.name=n) (hc:c.name=n):(Zef r n).set k c=put c r:=by
 rw [Zew (s.ask n) hk (by omega),Zx6 s hc]
theorem Qh {w:Za} {m:Nat} (hm:m < w.cells.length) (r:Row):rowOf (cw w m r) m=r:=by
 unfold rowOf cw;simp [hm]
theorem ZlN {w:Za} {m:Nat} (hm:m < w.cells.length) (r:Row):(cw w m r).cells[m]? =some r:=by
 unfold cw;simp [hm]
theorem ZfE (w:Za) (m:Nat) (r q:Row):(cw w m r).cells.set m q=w.cells.set m q:=by
 unfold cw;simp
theorem Zex {c:Zb} (r:Row):(put c r).length <=r.length + 1:=by
 induction r with
 | nil=>simp [put]
 | cons d r ih=>
   unfold put;split
   ·simp;omega
   ·split
    ·simp
    ·simp
def sent (w:Za) (x:Zd):Za:= ⟨w.cells,w.notes ++ [x],w.names,w.freed⟩
def Qr (w:Za) (m:Nat) (n ZH x:Int):Za:=
 bif ZH != (m:Int) then sent w ⟨2,ZH,n,0,x⟩ else cw w m (put {look (rowOf w m) n with out:=ZP ((look (rowOf w m) n).out - x)} (rowOf w m))
theorem back_eq {F:Nat} (hF:1000 <=F) {w:Za} (sm:Small w) {m:Nat} (hm:m < w.cells.length) (n:Int) (Xh:Ub (rowOf w m)) (ZH x:Int):Zjc F w m n ZH x=some (Qr w m n ZH x):=by
 have hno:=sm.notes;unfold Zjc Qr;cases ht:(ZH != (m:Int))
 ·rw [Cq0,Cq0];obtain⟨k,h1,h2⟩:=Zw2 hF sm hm n Xh;rw [h1,Bq0];dsimp only;rw [ZB,ZlN hm,Bq0,Bq0,ZB,h2,Bq0,Bq0];simp only [YK,Int.toNat_natCast];rw [ZfE,ZrQ Xh h2 (WN _ _) (by exact WN _ _)]
  rfl
 ·rw [Cq1,Cq1,YQ (by simp;omega) (by decide)]
  rfl
theorem Small.cw {w:Za} (s:Small w) {m:Nat} {r:Row} (h:r.length < 1000):Small (cw w m r):=by
 refine⟨by show(w.cells.set m r).length < 1000;simp;exact s.cells,fun q hq=>?_,s.notes,s.freed⟩;have hq:q ∈ w.cells.set m r:=hq;rcases List.mem_or_eq_of_mem_set hq with z | z
 ·exact s.rows q z
 ·rw [z];exact h
def Qt (w:Za) (x:Zd):Za:=
 let m:=x.ZH.toNat
 let r:=rowOf w m
 let c:=look r x.name
 let a:=cw w m
 bif x.kind==1 then
  bif(!c.root && (c.from_==-1)) && (x.via !=x.ZH) then a (put ⟨c.name,c.root,x.via,x.w,c.out,true⟩ r)
  else bif(!c.root && decide (c.from_ >=0)) && (c.from_==x.via) then a (put ⟨c.name,c.root,c.from_,ZP (c.has + x.w),c.out,true⟩ r)
  else Qr (a (put ⟨c.name,c.root,c.from_,c.has,c.out,true⟩ r)) m x.name x.via x.w
 else bif x.kind==2 then
  let d:Zb:= ⟨c.name,c.root,c.from_,c.has,ZP (c.out - x.w),c.use⟩
  XT (a (put d r)) m x.name d
 else
  let d:Zb:= ⟨c.name,true,-1,0,ZP (c.out + 16),c.use⟩
  let b:=a (put d r)
  let e:=bif decide (c.from_ >=0) then Qr b m x.name c.from_ c.has else b
  XT e m x.name (look (rowOf e m) x.name)
theorem Yg {w:Za} {m:Nat} {r:Row}:(cw w m r).cells.length=w.cells.length:=by unfold cw;simp
theorem ZBr (w:Za) (m:Nat) (r q:Row):cw (cw w m r) m q=cw w m q:=by unfold cw;simp
theorem Zdn {w:Za} {m:Nat} (hm:m < w.cells.length) (n ZH x:Int):rowOf (Qr w m n ZH x) m=rowOf w m∨rowOf (Qr w m n ZH x) m=put {look (rowOf w m) n with out:=ZP ((look (rowOf w m) n).out - x)} (rowOf w m):=by
 unfold Qr;cases (ZH != (m:Int))
 ·right;rw [Cq0,Qh hm]
 ·left;rfl
theorem Zs2 {w:Za} {m:Nat} (n ZH x:Int):(Qr w m n ZH x).cells.length=w.cells.length:=by
 unfold Qr;cases (ZH != (m:Int))
 ·rw [Cq0,Yg]
 ·rfl
theorem ZoH {w:Za} {m:Nat} (s:Small w) (hr:(rowOf w m).length < 990) (hn:w.notes.length < 990) (n ZH x:Int):Small (Qr w m n ZH x):=by
 unfold Qr;cases (ZH != (m:Int))
 ·rw [Cq0];exact s.cw (by have:=Zex (c:= {look (rowOf w m) n with out:=ZP ((look (rowOf w m) n).out - x)}) (rowOf w m);omega)
 ·exact⟨s.cells,s.rows,by show(w.notes ++ [_]).length < 1000;simp;omega,s.freed⟩
section
variable {F:Nat} {w:Za} {m:Nat} {n:Int}
theorem ZcC (hm:m < w.cells.length) (Xh:Ub (rowOf w m)) {d:Zb} (hd:d.name=n):Ju (rowOf (cw w m (put d (rowOf w m))) m) n=some d:=by
 rw [Qh hm,Wh _ Xh,if_pos hd.symm]
theorem QN {r:Row} {d:Zb} (h:Ju r n=some d):look r n=d:=by unfold look;rw [h];rfl
theorem Zpc (hF:1000 <=F) (sm:Small w) (hm:m < w.cells.length) (Xh:Ub (rowOf w m)) {d:Zb} (hd:Ju (rowOf w m) n=some d):Ze7 F w m n=some (XT w m n (look (rowOf w m) n)):=by
 rw [QN hd];exact Zr6 hF sm hm Xh hd
structure At1 (w:Za) (m:Nat) (n:Int):Prop where
 sm:Small w
 hm:m < w.cells.length
 Xh:Ub (rowOf w m)
 rl:(rowOf w m).length < 950
 nl:w.notes.length < 950
 has:∃ d,Ju (rowOf w m) n=some d
theorem At1.settle (hF:1000 <=F) (a:At1 w m n):Ze7 F w m n=some (XT w m n (look (rowOf w m) n)):=let⟨_,hd⟩:=a.has;Zpc hF a.sm a.hm a.Xh hd
theorem At1.put (sm:Small w) (hm:m < w.cells.length) (Xh:Ub (rowOf w m)) (hr:(rowOf w m).length < 940) (hn:w.notes.length < 940) {d:Zb} (hd:d.name=n):At1 (cw w m (put d (rowOf w m))) m n:=by
 have hl:=Zex (c:=d) (rowOf w m);exact⟨sm.cw (by omega),by rw [Yg];exact hm,by rw [Qh hm];exact Xh.put,by rw [Qh hm];omega,by show w.notes.length < 950;omega,d,ZcC hm Xh hd⟩
theorem At1.back (hF:1000 <=F) (a:At1 w m n) (ZH x:Int):Zjc F w m n ZH x=some (Qr w m n ZH x):=back_eq hF a.sm a.hm n a.Xh ZH x
theorem ZoG (sm:Small w) (hm:m < w.cells.length) (Xh:Ub (rowOf w m)) (hr:(rowOf w m).length < 945) (hn:w.notes.length < 945) (ZH x:Int) (hd:∃ d,Ju (rowOf w m) n=some d):At1 (Qr w m n ZH x) m n:=by
 refine⟨ZoH sm (by omega) (by omega) n ZH x,by rw [Zs2];exact hm,?_,?_,?_,?_⟩
 ·rcases Zdn hm n ZH x with h | h <;> rw [h]
  ·exact Xh
  ·exact Xh.put
 ·have hl:=Zex (c:= {look (rowOf w m) n with out:=ZP ((look (rowOf w m) n).out - x)}) (rowOf w m);rcases Zdn hm n ZH x with h | h <;> rw [h] <;> omega
 ·unfold Qr;cases (ZH != (m:Int))
  ·rw [Cq0];show w.notes.length < 950;omega
  ·rw [Cq1];show(w.notes ++ [_]).length < 950;simp;omega
 ·rcases Zdn hm n ZH x with h | h <;> rw [h]
  ·exact hd
  ·exact⟨_,by rw [Wh _ Xh,if_pos (by exact(WN _ _).symm)]⟩
end
theorem ZwV {F:Nat} (hF:1000 <=F) {w:Za} (sm:Small w) {m:Nat} (hm:m < w.cells.length) (hrl:(rowOf w m).length < 900) (hnl:w.notes.length < 900) (x:Zd) (hto:x.ZH= (m:Int)) (Xh:Ub (rowOf w m)):Zje F w x=some (Qt w x):=by
 obtain⟨k,h1,h2⟩:=Zw2 hF sm hm x.name Xh;have hln:=WN (rowOf w m) x.name;have hcell:∀ c:Zb,c.name=x.name ->(Zef (rowOf w m) x.name).set k c=put c (rowOf w m):=fun c hc=>ZrQ Xh h2 hln hc
 have hat:∀ {d:Zb},d.name=x.name ->At1 (cw w m (put d (rowOf w m))) m x.name:=fun hd=>At1.put sm hm Xh (by omega) (by omega) hd
 unfold Zje Qt;rw [hto,h1];simp only [Bq0,ZB,ZlN hm,h2,Int.toNat_natCast];obtain⟨c,hcc⟩:∃ c,look (rowOf w m) x.name=c:= ⟨_,rfl⟩
 rw [hcc] at h2 hln;simp only [hcc];cases hk1:(x.kind==1)
 ·simp only [Cq0];cases hk2:(x.kind==2)
  ·simp only [Cq0,YK,Int.toNat_natCast,ZfE];rw [hcell _ (by exact hln)];have ha:=hat (d:= ⟨c.name,true,-1,0,ZP (c.out + 16),c.use⟩) hln;cases hf:decide (c.from_ >=0)
   ·simp only [Cq0];unfold Zdg;rw [hto];exact(congrArg (fun o=>Option.bind o fun Zb4=>some Zb4) (ha.settle hF)).trans rfl
   ·simp only [Cq1];have hb:=ha.back hF c.from_ c.has;have hbh:=ZoG ha.sm ha.hm ha.Xh (by have:=Zex (c:= (⟨c.name,true,-1,0,ZP (c.out + 16),c.use⟩:Zb)) (rowOf w m);rw [Qh hm];omega) (by show w.notes.length < 945;omega) c.from_ c.has ha.has;refine(congrArg (fun o=>Option.bind o _) hb).trans ?_;rw [Bq0];unfold Zdg;rw [hto];exact(congrArg (fun o=>Option.bind o fun Zb4=>some Zb4) (hbh.settle hF)).trans rfl
  ·simp only [Cq1,YK,Int.toNat_natCast,ZfE];rw [hcell _ (by exact hln)];have ha:=hat (d:= ⟨c.name,c.root,c.from_,c.has,ZP (c.out - x.w),c.use⟩) hln;refine(congrArg (fun o=>Option.bind o fun Zb4=>some Zb4) (ha.settle hF)).trans ?_;rw [Bq0];have hd:(⟨c.name,c.root,c.from_,c.has,ZP (c.out - x.w),c.use⟩:Zb).name=x.name:=hln;rw [QN (ZcC hm Xh hd)]
 ·simp only [Cq1];cases hc1:((!c.root && (c.from_==-1)) && (x.via != (m:Int)))
  ·simp only [Cq0];cases hc2:((!c.root && decide (c.from_ >=0)) && (c.from_==x.via))
   ·simp only [Cq0,YK,Int.toNat_natCast,ZfE];rw [hcell _ (by exact hln)];have ha:=hat (d:= ⟨c.name,c.root,c.from_,c.has,c.out,true⟩) hln;exact(congrArg (fun o=>Option.bind o fun Zb4=>some Zb4) (ha.back hF x.via x.w)).trans rfl
   ·simp only [Cq1];unfold Zdh;rw [hto];simp only [Bq0,ZB,ZlN hm,h2,YK,Int.toNat_natCast,ZfE];rw [hcell _ (by exact hln)]
    rfl
  ·simp only [Cq1];unfold Zdh;rw [hto];simp only [Bq0,ZB,ZlN hm,h2,YK,Int.toNat_natCast,ZfE];rw [hcell _ (by exact hln)]
   rfl
end Go.Proofs.Ytekpjgmhkkjhgaa
end
section
namespace Go.Proofs.Ytekpjgmhkkjhgaa
open Go.Lf
section
variable {w:Za} {st:Store} {m:Nat} {n:Int}
theorem QH (w:Za) (a:Nat) (b:Int):cellOf w a b=Ju (rowOf w a) b:=rfl
theorem Qo.get (s:Qo w st) (hm:m < w.cells.length):XF st.cells ⟨m,n⟩=Ju (rowOf w m) n:=by
 rw [s.cells,if_pos (by omega),Int.toNat_natCast,QH]
theorem Zfm (s:Qo w st) (hm:m < w.cells.length):Zg3 st m n=some (look (rowOf w m) n):=by
 unfold Zg3 Zal;rw [s.get hm];cases h:Ju (rowOf w m) n with
 | none=>
   rw [show look (rowOf w m) n=blank n by unfold look;rw [h];rfl]
   rfl
 | some c=>
   rw [QN h]
   rfl
theorem UE {a:Nat} (h:a ≠ m) (r:Row):rowOf (cw w m r) a=rowOf w a:=by
 unfold rowOf cw;simp only;rw [List.getElem?_set_ne (fun z=>h z.symm)]
theorem MapOf.put {l:List (Zg×Zb)} (s:MapOf w l) (hm:m < w.cells.length) (Xh:Ub (rowOf w m)) {c:Zb} (hc:c.name=n):MapOf (cw w m (put c (rowOf w m))) (Xi l ⟨m,n⟩ c):=by
 intro a b;rw [ZfU,Yg,s a b];by_cases ha:0 <=a∧a < (w.cells.length:Int)
 ·rw [if_pos ha,if_pos ha,QH,QH];by_cases he:a= (m:Int)
  ·subst he;rw [Int.toNat_natCast,Qh hm,Wh _ Xh];by_cases hb:b=n
   ·subst hb;rw [if_pos rfl,if_pos hc.symm]
   ·rw [if_neg (fun z=>hb (by injection z)),if_neg (fun z=>hb (z.trans hc))]
  ·rw [if_neg (fun z=>he (by injection z)),UE (by omega)]
 ·rw [if_neg ha,if_neg ha,if_neg (fun z=>ha (by injection z with z1 _;rw [z1];omega))]
theorem Qo.put (s:Qo w st) (hm:m < w.cells.length) (Xh:Ub (rowOf w m)) {c:Zb} (hc:c.name=n):Qo (cw w m (Go.Proofs.Ytekpjgmhkkjhgaa.put c (rowOf w m))) ⟨st.machines,st.names,Xi st.cells ⟨m,n⟩ c,st.notes,st.freed⟩:=
 ⟨by rw [Yg];exact s.m,s.n,s.notes,s.freed,s.cells.put hm Xh hc⟩
theorem Qo.sent (s:Qo w st) (hn:w.notes.length < 1000) (x:Zd):∃ st',Zav st x=some st'∧Qo (sent w x) st':=by
 unfold Zav;rw [s.notes,YQ (by simp;omega) (by decide)];exact⟨_,rfl,s.m,s.n,rfl,s.freed,s.cells⟩
theorem Zs0 (s:Qo w st) (hm:m < w.cells.length) (Xh:Ub (rowOf w m)) (hn:w.notes.length < 1000) (ZH x:Int):∃ st',Zg2 st m n ZH x=some st'∧Qo (Qr w m n ZH x) st':=by
 unfold Zg2 Qr;cases (ZH != (m:Int))
 ·simp only [Cq0];rw [Zfm s hm,Bq0];exact⟨_,rfl,s.put hm Xh (by exact WN _ _)⟩
 ·simp only [Cq1];obtain⟨st',h1,h2⟩:=s.sent hn ⟨2,ZH,n,0,x⟩;rw [h1];exact⟨st',rfl,h2⟩
end
end Go.Proofs.Ytekpjgmhkkjhgaa
end
