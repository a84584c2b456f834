/- Orders Part 13 of the proof. -/
import Derived.Test.YtbmbbcaaimehkaaGreatOa12
set_option linter.all false
set_option maxHeartbeats 2000000
section
noncomputable section
namespace Go.Proofs.YtbmbbcaaimehkaaGreat
open Go.Yr Go.Lf
theorem ZvR {h:H} {r:Bool} (hL:ZDu=some r):Pure XX 14 #[] h (.bool r):=by
 cases hL;intro wm;have e:ev (cfg XW fun _=>false) 1 (.call 14 #[] wm h)=some (.fin (.ret (.bool true)) h):=rfl;exact ZdQ (X:=XW) mixed 1 _ _ e
end Go.Proofs.YtbmbbcaaimehkaaGreat
end
end
section
namespace Go.Proofs.YtbmbbcaaimehkaaGreat
open Go.Lf
def Zhn (F:Nat) (p0:Zb) (p1:(List QF)) (p2:(List (List Int))):Int ->(Int ->Option Bool) ->Option Bool:=fun v9 Zgs=>
 (bif decide (v9 < (p2.length:Int)) then(ZN p2 v9).bind fun x12=>(ZrB F x12).bind fun XQ=>(bif(!XQ) then some false else Zgs (Xl (v9 + 1))) else(ZvM F p0).bind fun x18=>some (x18 && (decide ((p1.length:Int) <=80))))
def ZvP (F:Nat) (p0:Zb) (p1:(List QF)) (p2:(List (List Int))):Option Bool:=
 loop F (Zhn F p0 p1 p2) 0
def Zd8 (p1:Zc):Int×Int×Int×Int×Int×Int×Int×Int ->Option Bool:=fun(v11,v12,v13,v14,v15,v16,v17,v18)=>
 some ((((QZ (Zj.mk v11 v12 v13 v14 v15) p1.Zu) && (v16==p1.place)) && (v17==p1.at_)) && (v18==p1.age))
def ZvC (p0:ZQ) (p1:Zc):Option Bool:=
 (Zkf p0 p1.ZR).bind fun x3=>(bif(!x3) then some false else(bif((p1.kind !=2) && (decide ((Xl ((p1.places.length:Int) + (p1.ZW.length:Int))) > 0))) then some false else(bif(p1.kind==1) then(Zrv p0 p1.ZR p1.Zu).bind fun x20=>(bif(!x20) then some false else(Zd8 p1) (p1.Zu.msg,p1.Zu.place,p1.Zu.from_,p1.Zu.age,p1.Zu.hops,0,0,0)) else(bif(p1.kind==3) then(gd (!(p1.at_==p1.ZR)) (Zoy p0 p1.place) default).bind fun x28=>(gd (!((p1.at_==p1.ZR) || (!x28))) (Zkg p0 p1.place p1.at_ p1.age) default).bind fun x29=>(bif(((p1.at_==p1.ZR) || (!x28)) || (!x29)) then some false else(Zd8 p1) (0,0,0,0,0,p1.place,p1.at_,p1.age)) else(Zd8 p1) (0,0,0,0,0,0,0,0)))))
end Go.Proofs.YtbmbbcaaimehkaaGreat
end
section
set_option maxRecDepth 20000
noncomputable section
namespace Go.Proofs.YtbmbbcaaimehkaaGreat
open Go.Yr Go.Lf
theorem ZDr {F wm:Nat} {h:H} {p0:Zb} {p1:(List QF)} {p2:(List (List Int))} {Zi:Option Addr} {Zh:Nat} {Zr:Option Addr} {Zp:Nat} {Zn:Option Addr} {Zm:Nat} {Zq:Option Addr} {Zo:Nat} {Zl:Option Addr} {Zk:Nat} {Xd:Option Addr} {Xc:Nat} {Zb6:Option Addr} {Zb4:Nat} {r:Bool} (ZV:wm <=h.size) (Zz:Sl (Zy .i64) wm h Zi Zh p0.Zv) (ZL:Sl (Z6 (Zy .i64)) wm h Zr Zp p0.boxes) (ZK:Sl (Z6 Zd) wm h Zn Zm p0.entries) (ZM:Sl (Z6 Zf) wm h Zq Zo p0.held) (ZJ:Sl Zg wm h Zl Zk p0.wire) (QW:Sl ZnL wm h Xd Xc p1) (Zd4:Sl (Z6 (Zy .i64)) wm h Zb6 Zb4 p2) (hL:ZvP F p0 p1 p2=some r):
 WR XX 28 #[.agg [.slice Zi p0.Zv.length Zh,.slice Zr p0.boxes.length Zp,.slice Zn p0.entries.length Zm,.slice Zq p0.held.length Zo,.slice Zl p0.wire.length Zk,.int .i64 p0.said].toArray,.slice Xd p1.length Xc,.slice Zb6 p2.length Zb4] wm h (CP (fun(v:Value) (Gb:List (Ast wm))=>v= .bool r∧Gb= []) [] h):=by
 refine bg Tryz.ntmps28 ZV Ye.nil ?_;intro T hT hS;unfold ZvP at hL;refine r3 ?_;rintro _ h2 ⟨b1,eb1,rfl,hS⟩;refine XA ?_;refine WC.loop (WL.lift hL (fun(v9:Int) (s:Fs)=>∃ (Uf:Fr) (h3:H),s= ⟨Uf,[],h3,none⟩∧Sp wm T h [bx wm b1 [.slice Zi p0.Zv.length Zh,.slice Zr p0.boxes.length Zp,.slice Zn p0.entries.length Zm,.slice Zq p0.held.length Zo,.slice Zl p0.wire.length Zk,.int .i64 p0.said]] h3∧Uf.at 1= .slice Xd p1.length Xc∧Uf.at 3= .pointer (some ⟨b1,0,none⟩)∧Uf.at 9= .slice Zb6 p2.length Zb4∧Uf.at 10= .int .i64 (p2.length:Int)∧Uf.at 11= .int .i64 v9) ⟨_,_,rfl,hS.only (.c k0 .n),YB⟩ ?_);clear hL hS;rintro Zgs v9 s Zj7 hL ⟨Uf,h3,rfl,hS,e5,e6,e7,e8,e10⟩;dsimp only [Zhn] at hL;refine r6 ?_;refine cn hL ?_ ?_
 ·intro hc hL;refine r6 ?_;obtain⟨x12,Zt5,hL⟩:=bind_some hL;obtain⟨b13,o14,⟨a15,c16⟩,ZuM,Zvc,ZuY,ZuQ⟩:=Sl.at_ Zd4 Zt5;refine WO.w gN rfl (ZC Zao Jr lk lk rfl ZuM Zt5) ?_;have Zz1:Sl (Zy .i64) wm h a15 c16 x12:=ZuQ;refine WO.w gN rfl (ZU Zci (Yh fh rfl) (At.fz hS.fz ZuY Zvc) (j:=0) rfl (v:= .slice a15 x12.length c16) rfl) ?_;refine r6 ?_;obtain⟨XQ,Zmd,hL⟩:=bind_some hL;refine WO.cp gN rfl (XP.fn ZGw (Ze lk ZH)) (WR.XY rfl (ZDo (Nat.le_refl _) (hS.YE Zz1) Zmd)) ?_;refine r3 ?_;refine cn hL ?_ ?_
  ·intro hc hL;refine r8 ?_;refine r3 ?_;exact rt hL hT hS
  ·intro hc hL;refine r6 ?_;refine r1 ?_;exact Ya.Y4 (Zj7 _ _ hL ⟨_,_,rfl,hS.only (.c k0 .n),YB⟩)
 ·intro hc hL;refine r8 ?_;obtain⟨x18,ZKN,hL⟩:=bind_some hL;refine WO.cp gN rfl (XP.fn ZGy (Ze lk ZH)) (WR.XY rfl (ZDq (Nat.le_refl _) (hS.YE Zz) (hS.YE ZL) (hS.YE ZK) (hS.YE ZM) (hS.YE ZJ) ZKN)) ?_;refine r8 ?_;refine r1 ?_;exact rt hL hT hS
theorem ZC7 {wm:Nat} {h:H} {p0:ZQ} {p1:Zc} {Zi:Option Addr} {Zh:Nat} {Zr:Option Addr} {Zp:Nat} {Zn:Option Addr} {Zm:Nat} {Zq:Option Addr} {Zo:Nat} {Zl:Option Addr} {Zk:Nat} {Z9:Option Addr} {Z8 YR UE:Nat} {Xd:Option Addr} {Xc:Nat} {Ztm:Option Addr} {Ztl:Nat} {r:Bool} (ZV:wm <=h.size) (Xx:At h YR UE [.slice Zi p0.Za.Zv.length Zh,.slice Zr p0.Za.boxes.length Zp,.slice Zn p0.Za.entries.length Zm,.slice Zq p0.Za.held.length Zo,.slice Zl p0.Za.wire.length Zk,.int .i64 p0.Za.said,.slice Z9 p0.YH.length Z8]) (Xw:KU wm h YR) (Zz:Sl (Zy .i64) wm h Zi Zh p0.Za.Zv) (ZL:Sl (Z6 (Zy .i64)) wm h Zr Zp p0.Za.boxes) (ZK:Sl (Z6 Zd) wm h Zn Zm p0.Za.entries) (ZM:Sl (Z6 Zf) wm h Zq Zo p0.Za.held) (ZJ:Sl Zg wm h Zl Zk p0.Za.wire) (YW:Sl Xb wm h Z9 Z8 p0.YH) (QW:Sl (Zy .i64) wm h Xd Xc p1.places) (ZKW:Sl (Zy .i64) wm h Ztm Ztl p1.ZW) (hL:ZvC p0 p1=some r):
 WR XX 73 #[.pointer (some ⟨YR,UE,none⟩),.agg [.int .i64 p1.kind,.int .i64 p1.ZR,.int .i64 p1.Zu.msg,.int .i64 p1.Zu.place,.int .i64 p1.Zu.from_,.int .i64 p1.Zu.age,.int .i64 p1.Zu.hops,.slice Xd p1.places.length Xc,.slice Ztm p1.ZW.length Ztl,.int .i64 p1.place,.int .i64 p1.at_,.int .i64 p1.age].toArray] wm h (CP (fun(v:Value) (Gb:List (Ast wm))=>v= .bool r∧Gb= []) [] h):=by
 refine bg Tryz.ntmps73 ZV Ye.nil ?_;intro T hT hS;unfold ZvC at hL;refine r3 ?_;rintro _ h2 ⟨b1,eb1,rfl,hS⟩;refine r8 ?_;refine r1 ?_;obtain⟨x3,hx3,hL⟩:=bind_some hL;refine WO.cp gN rfl (XP.fn Zut (Ze lk (Ze lk ZH))) (Zoz (At.fz hS.fz Xw Xx) (KU.up hS.hw (KU.fz hS.fz Xx Xw)) (hS.YE Zz) (hS.YE ZL) (hS.YE ZK) (hS.YE ZM) (hS.YE ZJ) (hS.YE YW) hx3) ?_;refine r3 ?_;refine cn hL ?_ ?_
 ·intro hc hL;refine r6 ?_;refine r1 ?_;exact rt hL hT hS
 ·intro hc hL;refine r8 ?_;refine WO.w gN rfl (Qy Zv4 (ZG lk (ZG lk Yi)) rfl (cs':= [.int .i64 p1.kind,.int .i64 p1.ZR,.int .i64 0,.int .i64 0,.int .i64 0,.int .i64 0,.int .i64 0,.slice none 0 0,.slice none 0 0,.int .i64 0,.int .i64 0,.int .i64 0]) rfl) ?_;refine r1 ?_;rintro _ h5 ⟨b4,eb4,rfl,hS⟩;refine r1 ?_;rintro h6 hS;refine r16 ?_;refine r4 ?_;refine cn hL ?_ ?_
  ·intro hc hL;refine r6 ?_;refine r1 ?_;exact rt hL hT hS
  ·intro hc hL;refine r2 ?_;refine WC.Zco (r:=r) (fun(p:Int×Int×Int×Int×Int×Int×Int×Int) (s:Fs)=>match p with | (v11,v12,v13,v14,v15,v16,v17,v18)=>∃ (fr8:Fr) (h7:H),s= ⟨fr8,[],h7,none⟩∧Sp wm T h [bx wm b1 [.int .i64 p1.kind,.int .i64 p1.ZR,.int .i64 p1.Zu.msg,.int .i64 p1.Zu.place,.int .i64 p1.Zu.from_,.int .i64 p1.Zu.age,.int .i64 p1.Zu.hops,.slice Xd p1.places.length Xc,.slice Ztm p1.ZW.length Ztl,.int .i64 p1.place,.int .i64 p1.at_,.int .i64 p1.age],bx wm b4 [.int .i64 p1.kind,.int .i64 p1.ZR,.int .i64 v11,.int .i64 v12,.int .i64 v13,.int .i64 v14,.int .i64 v15,.slice none 0 0,.slice none 0 0,.int .i64 v16,.int .i64 v17,.int .i64 v18]] h7∧fr8.at 3= .pointer (some ⟨b1,0,none⟩)∧fr8.at 5= .pointer (some ⟨b4,0,none⟩)) (Zd8 p1) ?_ ?_
   ·clear hL hS;rintro⟨v11,v12,v13,v14,v15,v16,v17,v18⟩ s hL ⟨fr8,h7,rfl,hS,e9,e10⟩;dsimp only [Zd8] at hL;refine r6 ?_;refine WO.w gN rfl (JA (Yh (YP rfl fh) rfl) (Yh fh rfl) (Znd (xs:= [.int .i64 v11,.int .i64 v12,.int .i64 v13,.int .i64 v14,.int .i64 v15]) (ys:= [.int .i64 p1.Zu.msg,.int .i64 p1.Zu.place,.int .i64 p1.Zu.from_,.int .i64 p1.Zu.age,.int .i64 p1.Zu.hops]) (ZAu (Zj.mk v11 v12 v13 v14 v15) p1.Zu) rfl rfl)) ?_;refine r16 ?_;refine r8 ?_;refine r1 ?_;exact rt hL hT hS
   ·skip;refine XA ?_;refine r1 ?_;refine cn hL ?_ ?_
    ·intro hc hL;refine r6 ?_;rintro h19 hS;refine r8 ?_;refine r1 ?_;obtain⟨x20,ZKM,hL⟩:=bind_some hL;refine WO.cp gN rfl (XP.fn Zz9 (Ze lk (Ze lk (Ze lk ZH)))) (WR.XY rfl (ZvB (Nat.le_refl _) (At.fz hS.fz Xw Xx) (KU.up hS.hw (KU.fz hS.fz Xx Xw)) (hS.YE Zz) (hS.YE ZL) (hS.YE ZK) (hS.YE ZM) (hS.YE ZJ) (hS.YE YW) ZKM)) ?_;refine r3 ?_;refine cn hL ?_ ?_
     ·intro hc hL;refine r6 ?_;refine r1 ?_;refine XO.ret ?_;exact rt hL hT hS
     ·intro hc hL;refine r2 ?_;exact XO.Y4 _ hL ⟨_,_,rfl,hS.only (.c k1 (.c k0 .n)),YB⟩
    ·intro hc hL;refine r6 ?_;refine cn hL ?_ ?_
     ·intro hc hL;refine r1 ?_;refine WC.XD mixed Kq0 ?_;refine r3 ?_;refine WX.wr (fun x=>x=b1) hS gN rfl (fun _ _ hR=>ZU Xr (Yh fh rfl) (At.eqv (hR b1 rfl) (hS.atB k1)) (j:=10) rfl (v:= .int .i64 p1.at_) rfl) ?_ rfl rfl;rintro h21 e22 hS;refine r1 ?_;refine WX.wr (fun x=>x=b1) hS gN rfl (fun _ _ hR=>ZU Xr (Yh fh rfl) (At.eqv (hR b1 rfl) (hS.atB k1)) (j:=11) rfl (v:= .int .i64 p1.age) rfl) ?_ rfl rfl;rintro h23 e24 hS;refine r1 ?_;refine WX.hu gN (ZbW hS k0 YN lk lk (vs:= [.int .i64 p1.place]) rfl rfl rfl rfl (cs':= [.int .i64 p1.kind,.int .i64 p1.ZR,.int .i64 0,.int .i64 0,.int .i64 0,.int .i64 0,.int .i64 0,.slice none 0 0,.slice none 0 0,.int .i64 p1.place,.int .i64 0,.int .i64 0]) rfl) ?_ rfl rfl [3,5] Kq0 (.c (.s .z) (hS.dj (.c k0 (.c k0 .n))) (.c .z (hS.dj (.c k0 (.c k0 .n))) Y3.e));rintro h25 hS;refine WX.w gN rfl (Ky Zp8 lk) ?_ Kq0;refine WX.hu gN (ZbW hS k0 YN lk lk (vs:= [.int .i64 p1.at_]) rfl rfl rfl rfl (cs':= [.int .i64 p1.kind,.int .i64 p1.ZR,.int .i64 0,.int .i64 0,.int .i64 0,.int .i64 0,.int .i64 0,.slice none 0 0,.slice none 0 0,.int .i64 p1.place,.int .i64 p1.at_,.int .i64 0]) rfl) ?_ rfl Kq0 [5] Kq0 (.c .z (hS.dj (.c k0 (.c k0 .n))) Y3.e);rintro h26 hS;refine WX.w gN rfl (Ky Zp7 lk) ?_ Kq0;refine WX.hu gN (ZbW hS k0 YN lk lk (vs:= [.int .i64 p1.age]) rfl rfl rfl rfl (cs':= [.int .i64 p1.kind,.int .i64 p1.ZR,.int .i64 0,.int .i64 0,.int .i64 0,.int .i64 0,.int .i64 0,.slice none 0 0,.slice none 0 0,.int .i64 p1.place,.int .i64 p1.at_,.int .i64 p1.age]) rfl) ?_ rfl Kq0 [] Kq0 Y3.e;rintro h27 hS;refine XA ?_;refine r1 ?_;obtain⟨x28,hx28,hL⟩:=Yf hL;refine WO.gcp (Zt.no rfl rfl rfl (YP rfl (ZA rfl fh))) rfl (fun hg=>(XP.fn Zz7 (Ze (YL (YP rfl fh) rfl hg) (Ze (YL fh rfl hg) ZH)))) (fun hg=>Zvv (At.fz hS.fz Xw Xx) (KU.up hS.hw (KU.fz hS.fz Xx Xw)) (hS.YE Zz) (hS.YE ZL) (hS.YE ZK) (hS.YE ZM) (hS.YE ZJ) (hS.YE YW) (hx28 hg)) ?_;refine r8 ?_;refine r2 ?_;obtain⟨x29,hx29,hL⟩:=Yf hL;refine WO.gcp (Zt.no rfl rfl rfl (YU rfl (YP rfl (ZA rfl fh)))) rfl (fun hg=>(XP.fn Zuu (Ze (YL (YU rfl (YP rfl fh)) rfl hg) (Ze (YL (YU rfl fh) rfl hg) (Ze (YL (YP rfl fh) rfl hg) (Ze (YL fh rfl hg) ZH)))))) (fun hg=>ZoA (At.fz hS.fz Xw Xx) (KU.up hS.hw (KU.fz hS.fz Xx Xw)) (hS.YE Zz) (hS.YE ZL) (hS.YE ZK) (hS.YE ZM) (hS.YE ZJ) (hS.YE YW) (hx29 hg)) ?_;refine r4 ?_;refine cn hL ?_ ?_
      ·intro hc hL;refine r6 ?_;refine r1 ?_;refine XO.ret ?_;exact rt hL hT hS
      ·intro hc hL;refine r2 ?_;exact XO.Y4 _ hL ⟨_,_,rfl,hS.only (.c k1 (.c k0 .n)),YB⟩
     ·intro hc hL;refine r2 ?_;exact XO.Y4 _ hL ⟨_,_,rfl,hS.only (.c k1 (.c k0 .n)),YB⟩
end Go.Proofs.YtbmbbcaaimehkaaGreat
end
end
section
namespace Go.Proofs.YtbmbbcaaimehkaaGreat
open Go.Lf
def Zek (YZ:(ZQ×Bool)) (v59:Int) (ZjM:(Int ->Option Int)) (x62:(List Zj)):Int ->(Int ->Option Int) ->Option Int:=fun v76 Ztw=>
 (bif decide (v76 < (x62.length:Int)) then(ZN x62 v76).bind fun x79=>(Zrv YZ.1 v59 x79).bind fun x85=>(gd (!(!x85)) (ZN YZ.1.YH x79.place) default).bind fun x86=>(bif((!x85) || (!(Zdo x86 (Yl.mk v59 false x79.age)))) then some 2 else Ztw (Xl (v76 + 1))) else ZjM (Xl (v59 + 1)))
def Zel (F:Nat) (p0:Zb) (YZ:(ZQ×Bool)):Int ->(Int ->Option Int) ->Option Int:=fun v59 ZjM=>
 (bif decide (v59 < (p0.held.length:Int)) then(ZN p0.held v59).bind fun x62=>loop F (Zek YZ v59 ZjM x62) 0 else some 0)
def Zhl (F:Nat) (p0:Zb) (YZ:(ZQ×Bool)):Int ->(Int ->Option Int) ->Option Int:=fun v40 ZtC=>
 (bif decide (v40 < (p0.wire.length:Int)) then(ZN p0.wire v40).bind fun x43=>(ZvC YZ.1 x43).bind fun x53=>(bif(!x53) then some 2 else ZtC (Xl (v40 + 1))) else loop F (Zel F p0 YZ) 0)
def ZmG (F:Nat) (p0:Zb):Option Int:=
 (ZvE F p0).bind fun x3=>(gd (!(!x3)) (Zry F p0) default).bind fun x4=>(bif((!x3) || (!x4)) then some 2 else(mkL (Yl.mk 0 false 0) 24 (p0.Zv.length:Int) (p0.Zv.length:Int)).bind fun z5=>(ZvD F (ZQ.mk p0 z5)).bind fun YZ=>(gd (!(!YZ.2)) (Zrx F YZ.1) default).bind fun x32=>(gd (!((!YZ.2) || (!x32))) (Zrw F YZ.1) default).bind fun x33=>(bif(((!YZ.2) || (!x32)) || (!x33)) then some 2 else loop F (Zhl F p0 YZ) 0))
def Zej (v11:Int) (X8:(Int×Int ->Option (Int×Int))):Int ->Option (Int×Int):=fun v17=>
 X8 (v17,Xl (v11 + 1))
def Zkx (F:Nat) (p0:Zb):Int×Int ->(Int×Int ->Option (Int×Int)) ->Option (Int×Int):=fun(v7,v11) X8=>
 (bif decide (v11 < (p0.wire.length:Int)) then(ZN p0.wire v11).bind fun x22=>(bif(x22.kind==1) then(Zik F p0 x22.Zu.place).bind fun x32=>(Zej v11 X8) (Xl (v7 + (Xl (2 * (Xl (x32.1.age - x22.Zu.age)))))) else(Zej v11 X8) v7) else some (v7,0))
def ZvK (F:Nat) (p0:Zb):Option (Int×Int):=
 (ZmG F p0).bind fun x3=>(bif(x3 !=0) then some (0,2) else loop F (Zkx F p0) ((p0.wire.length:Int),0))
end Go.Proofs.YtbmbbcaaimehkaaGreat
end
section
set_option maxRecDepth 20000
noncomputable section
namespace Go.Proofs.YtbmbbcaaimehkaaGreat
open Go.Yr Go.Lf
theorem ZvL {F wm:Nat} {h:H} {p0:Zb} {Zi:Option Addr} {Zh:Nat} {Zr:Option Addr} {Zp:Nat} {Zn:Option Addr} {Zm:Nat} {Zq:Option Addr} {Zo:Nat} {Zl:Option Addr} {Zk:Nat} {r:Int} (ZV:wm <=h.size) (Zz:Sl (Zy .i64) wm h Zi Zh p0.Zv) (ZL:Sl (Z6 (Zy .i64)) wm h Zr Zp p0.boxes) (ZK:Sl (Z6 Zd) wm h Zn Zm p0.entries) (ZM:Sl (Z6 Zf) wm h Zq Zo p0.held) (ZJ:Sl Zg wm h Zl Zk p0.wire) (hL:ZmG F p0=some r):
 WR XX 36 #[.agg [.slice Zi p0.Zv.length Zh,.slice Zr p0.boxes.length Zp,.slice Zn p0.entries.length Zm,.slice Zq p0.held.length Zo,.slice Zl p0.wire.length Zk,.int .i64 p0.said].toArray] wm h (CP (fun(v:Value) (Gb:List (Ast wm))=>v= .int .i64 r∧Gb= []) [] h):=by
 refine bg Tryz.ntmps36 ZV Ye.nil ?_;intro T hT hS;unfold ZmG at hL;refine r3 ?_;rintro _ h2 ⟨b1,eb1,rfl,hS⟩;refine r6 ?_;refine r1 ?_;obtain⟨x3,hx3,hL⟩:=bind_some hL;refine WO.cp gN rfl (XP.fn ZGo (Ze lk ZH)) (WR.XY rfl (ZDf (Nat.le_refl _) (hS.YE Zz) (hS.YE ZL) (hS.YE ZK) (hS.YE ZM) (hS.YE ZJ) hx3)) ?_;refine r3 ?_;obtain⟨x4,hx4,hL⟩:=Yf hL;refine WO.gcp (Zt.no rfl rfl rfl (ZA rfl fh)) rfl (fun hg=>(XP.fn ZGn (Ze (YL fh rfl hg) ZH))) (fun hg=>ZDe (hS.YE Zz) (hS.YE ZL) (hS.YE ZK) (hS.YE ZM) (hS.YE ZJ) (hx4 hg)) ?_;refine r4 ?_;refine cn hL ?_ ?_
 ·intro hc hL;refine r6 ?_;refine r1 ?_;exact rt hL hT hS
 ·intro hc hL;refine r3 ?_;refine WC.XD mixed Kq0 ?_;refine r4 ?_;obtain⟨z5,hz5,hL⟩:=bind_some hL;refine WX.hn gN rfl (ZsW (e:=Xb) (x0:= (Yl.mk 0 false 0)) () hS Zf4 Uj (ZyX) Zjm rfl rfl (Yh fh rfl) (Yh fh rfl) rfl trivial hz5) ?_ rfl;rintro _ h7 ⟨b6,c8,eb6,rfl,hS⟩;refine WX.w gN rfl (Qy ZDP (ZG lk (ZG lk Yi)) rfl (cs':= [.slice Zi p0.Zv.length Zh,.slice Zr p0.boxes.length Zp,.slice Zn p0.entries.length Zm,.slice Zq p0.held.length Zo,.slice Zl p0.wire.length Zk,.int .i64 p0.said,.slice (some ⟨b6,0,none⟩) z5.length c8]) rfl) ?_ rfl;refine WX.hn gN rfl (Zzx hS lk (vs:= [.slice Zi p0.Zv.length Zh,.slice Zr p0.boxes.length Zp,.slice Zn p0.entries.length Zm,.slice Zq p0.held.length Zo,.slice Zl p0.wire.length Zk,.int .i64 p0.said,.slice (some ⟨b6,0,none⟩) z5.length c8]) rfl) ?_ rfl;rintro _ h10 ⟨b9,eb9,rfl,hS⟩;refine r6 ?_;refine r1 ?_;obtain⟨YZ,Zfn,hL⟩:=bind_some hL;refine WO.cl gN rfl (XP.fn ZGm (Ze lk ZH)) hS (.c k0 (.c k0 .n)) (fun g' hz hf hO=>ZDc (p0:= (ZQ.mk p0 z5)) (by rw [hz];exact hS.hw) ((hS.sl Zz).mono hf) ((hS.sl ZL).mono hf) ((hS.sl ZK).mono hf) ((hS.sl ZM).mono hf) ((hS.sl ZJ).mono hf) hO Zfn) ?_;rintro _ h30 _ ⟨a12,c14,a15,c17,a18,c20,a21,c23,a24,c26,a27,n28,c29,rfl,rfl⟩ hS;obtain rfl:=hS.on k6;refine r3 ?_;obtain⟨x32,hx32,hL⟩:=Yf hL;refine WO.gcp (Zt.no rfl rfl rfl (ZA rfl fh)) rfl (fun hg=>(XP.fn ZGl (Ze (YL fh rfl hg) ZH))) (fun hg=>ZDb (hS.atB k0) (.inl (hS.lt k0)) (hS.Qm k1) (hS.Qm k2) (hS.Qm k3) (hS.Qm k4) (hS.Qm k5) (hS.ord k6) (hx32 hg)) ?_;refine r4 ?_;obtain⟨x33,ZKL,hL⟩:=Yf hL;refine WO.gcp (Zt.no rfl rfl rfl (ZA rfl fh)) rfl (fun hg=>(XP.fn ZGk (Ze (YL fh rfl hg) ZH))) (fun hg=>ZC9 (hS.atB k0) (.inl (hS.lt k0)) (hS.Qm k1) (hS.Qm k2) (hS.Qm k3) (hS.Qm k4) (hS.Qm k5) (hS.ord k6) (ZKL hg)) ?_;refine r4 ?_;refine cn hL ?_ ?_
  ·intro hc hL;refine r6 ?_;refine r1 ?_;exact rt hL hT hS
  ·intro hc hL;refine XA ?_;refine WC.loop (WL.lift hL (fun(v40:Int) (s:Fs)=>∃ (Zor:Fr) (h34:H),s= ⟨Zor,[],h34,none⟩∧Sp wm T h [bx wm b1 [.slice Zi p0.Zv.length Zh,.slice Zr p0.boxes.length Zp,.slice Zn p0.entries.length Zm,.slice Zq p0.held.length Zo,.slice Zl p0.wire.length Zk,.int .i64 p0.said],bx wm b9 [.slice a12 YZ.1.Za.Zv.length c14,.slice a15 YZ.1.Za.boxes.length c17,.slice a18 YZ.1.Za.entries.length c20,.slice a21 YZ.1.Za.held.length c23,.slice a24 YZ.1.Za.wire.length c26,.int .i64 YZ.1.Za.said,.slice a27 YZ.1.YH.length c29],Jy wm (Z6 (Zy .i64)) (a12,c14) YZ.1.Za.Zv,Jy wm (Z6 (Z6 (Zy .i64))) (a15,c17) YZ.1.Za.boxes,Jy wm (Z6 (Z6 Zd)) (a18,c20) YZ.1.Za.entries,Jy wm (Z6 (Z6 Zf)) (a21,c23) YZ.1.Za.held,Jy wm (Z6 Zg) (a24,c26) YZ.1.Za.wire,ow wm Xb a27 YZ.1.YH.length c29 YZ.1.YH] h34∧Zor.at 1= .pointer (some ⟨b1,0,none⟩)∧Zor.at 3= .pointer (some ⟨b9,0,none⟩)∧Zor.at 39= .slice Zl p0.wire.length Zk∧Zor.at 40= .int .i64 (p0.wire.length:Int)∧Zor.at 41= .int .i64 v40) ⟨_,_,rfl,hS.only (.c k7 (.c k0 (.c k0 (.c k0 (.c k0 (.c k0 (.c k0 (.c k0 .n)))))))),YB⟩ ?_);clear hL hS;rintro ZtC v40 s Zx3 hL ⟨Zor,h34,rfl,hS,e36,e37,e38,e39,e41⟩;dsimp only [Zhl] at hL;refine r6 ?_;refine cn hL ?_ ?_
   ·intro hc hL;refine r6 ?_;obtain⟨x43,Zn3,hL⟩:=bind_some hL;obtain⟨b44,o45,⟨⟨a46,c47⟩,⟨a48,c49⟩⟩,ZuD,Zu5,ZHD,ZuO⟩:=Sl.at_ ZJ Zn3;refine WO.w gN rfl (ZC Ja YF lk lk rfl ZuD Zn3) ?_;have ZFK:Sl (Zy .i64) wm h a46 c47 x43.places:=ZuO.1;have Zmi:Sl (Zy .i64) wm h a48 c49 x43.ZW:=ZuO.2;refine WO.w gN rfl (YX Km YF (Yh fh rfl) (At.fz hS.fz ZHD Zu5) (j:=0) rfl rfl (ws:= [.int .i64 x43.kind,.int .i64 x43.ZR,.int .i64 x43.Zu.msg,.int .i64 x43.Zu.place,.int .i64 x43.Zu.from_,.int .i64 x43.Zu.age,.int .i64 x43.Zu.hops,.slice a46 x43.places.length c47,.slice a48 x43.ZW.length c49,.int .i64 x43.place,.int .i64 x43.at_,.int .i64 x43.age]) rfl) ?_;refine r1 ?_;rintro _ h51 ⟨b50,ZQW,rfl,hS⟩;refine r1 ?_;rintro h52 hS;refine r6 ?_;obtain⟨x53,ZKK,hL⟩:=bind_some hL;refine WO.cp gN rfl (XP.fn ZGj (Ze lk (Ze lk ZH))) (WR.XY rfl (ZC7 (Nat.le_refl _) (hS.atB k2) (.inl (hS.lt k2)) (hS.Qm k3) (hS.Qm k4) (hS.Qm k5) (hS.Qm k6) (hS.Qm k7) (hS.ord k8) (hS.YE ZFK) (hS.YE Zmi) ZKK)) ?_;refine r3 ?_;refine cn hL ?_ ?_
    ·intro hc hL;refine r8 ?_;refine r3 ?_;exact rt hL hT hS
    ·intro hc hL;refine r6 ?_;refine r1 ?_;exact Ya.Y4 (Zx3 _ _ hL ⟨_,_,rfl,hS.only (.c k1 (.c k1 (.c k1 (.c k1 (.c k1 (.c k1 (.c k1 (.c k1 .n)))))))),YB⟩)
   ·intro hc hL;refine XA ?_;refine r3 ?_;refine WC.loop (WL.lift hL (fun(v59:Int) (s:Fs)=>∃ (ZbY:Fr) (h54:H),s= ⟨ZbY,[],h54,none⟩∧Sp wm T h [bx wm b9 [.slice a12 YZ.1.Za.Zv.length c14,.slice a15 YZ.1.Za.boxes.length c17,.slice a18 YZ.1.Za.entries.length c20,.slice a21 YZ.1.Za.held.length c23,.slice a24 YZ.1.Za.wire.length c26,.int .i64 YZ.1.Za.said,.slice a27 YZ.1.YH.length c29],Jy wm (Z6 (Zy .i64)) (a12,c14) YZ.1.Za.Zv,Jy wm (Z6 (Z6 (Zy .i64))) (a15,c17) YZ.1.Za.boxes,Jy wm (Z6 (Z6 Zd)) (a18,c20) YZ.1.Za.entries,Jy wm (Z6 (Z6 Zf)) (a21,c23) YZ.1.Za.held,Jy wm (Z6 Zg) (a24,c26) YZ.1.Za.wire,ow wm Xb a27 YZ.1.YH.length c29 YZ.1.YH] h54∧ZbY.at 3= .pointer (some ⟨b9,0,none⟩)∧ZbY.at 51= .slice Zq p0.held.length Zo∧ZbY.at 52= .int .i64 (p0.held.length:Int)∧ZbY.at 53= .int .i64 v59) ⟨_,_,rfl,hS.only (.c k1 (.c k1 (.c k1 (.c k1 (.c k1 (.c k1 (.c k1 .n))))))),YB⟩ ?_);clear hL hS;rintro ZjM v59 s ZxX hL ⟨ZbY,h54,rfl,hS,e56,e57,e58,e60⟩;dsimp only [Zel] at hL;refine r6 ?_;refine cn hL ?_ ?_
    ·intro hc hL;refine r6 ?_;refine r1 ?_;obtain⟨x62,ZFj,hL⟩:=bind_some hL;obtain⟨b63,o64,⟨a65,c66⟩,ZGO,ZH0,ZHt,ZHa⟩:=Sl.at_ ZM ZFj;refine WO.w gN rfl (ZC WZ QO lk lk rfl ZGO ZFj) ?_;have ZFH:Sl Zf wm h a65 c66 x62:=ZHa;refine WO.w gN rfl (ZU Zch (Yh fh rfl) (At.fz hS.fz ZHt ZH0) (j:=0) rfl (v:= .slice a65 x62.length c66) rfl) ?_;refine XA ?_;refine WC.loop (WL.lift hL (fun(v76:Int) (s:Fs)=>∃ (Zaz:Fr) (h67:H),s= ⟨Zaz,[],h67,none⟩∧Sp wm T h [bx wm b9 [.slice a12 YZ.1.Za.Zv.length c14,.slice a15 YZ.1.Za.boxes.length c17,.slice a18 YZ.1.Za.entries.length c20,.slice a21 YZ.1.Za.held.length c23,.slice a24 YZ.1.Za.wire.length c26,.int .i64 YZ.1.Za.said,.slice a27 YZ.1.YH.length c29],Jy wm (Z6 (Zy .i64)) (a12,c14) YZ.1.Za.Zv,Jy wm (Z6 (Z6 (Zy .i64))) (a15,c17) YZ.1.Za.boxes,Jy wm (Z6 (Z6 Zd)) (a18,c20) YZ.1.Za.entries,Jy wm (Z6 (Z6 Zf)) (a21,c23) YZ.1.Za.held,Jy wm (Z6 Zg) (a24,c26) YZ.1.Za.wire,ow wm Xb a27 YZ.1.YH.length c29 YZ.1.YH] h67∧Zaz.at 3= .pointer (some ⟨b9,0,none⟩)∧Zaz.at 6= .int .i64 v59∧Zaz.at 51= .slice Zq p0.held.length Zo∧Zaz.at 52= .int .i64 (p0.held.length:Int)∧Zaz.at 53= .int .i64 v59∧Zaz.at 58= .slice a65 x62.length c66∧Zaz.at 59= .int .i64 (x62.length:Int)∧Zaz.at 60= .int .i64 v76) ⟨_,_,rfl,hS.only (.c k0 (.c k0 (.c k0 (.c k0 (.c k0 (.c k0 (.c k0 .n))))))),YB⟩ ?_);clear hL hS;rintro Ztw v76 s ZxT hL ⟨Zaz,h67,rfl,hS,e69,e70,e71,e72,e73,e74,e75,e77⟩;dsimp only [Zek] at hL;refine r6 ?_;refine cn hL ?_ ?_
     ·intro hc hL;refine r6 ?_;obtain⟨x79,ZxH,hL⟩:=bind_some hL;obtain⟨b80,o81,_,ZGK,ZHW,ZHp,ZNz⟩:=Sl.at_ ZFH ZxH;refine WO.w gN rfl (ZC Zan JU lk lk rfl ZGK ZxH) ?_;refine WO.w gN rfl (YX Zji JU (Yh fh rfl) (At.fz hS.fz ZHp ZHW) (j:=0) rfl rfl (ws:= [.int .i64 x79.msg,.int .i64 x79.place,.int .i64 x79.from_,.int .i64 x79.age,.int .i64 x79.hops]) rfl) ?_;refine r1 ?_;rintro _ h83 ⟨b82,ZQM,rfl,hS⟩;refine r1 ?_;rintro h84 hS;refine r3 ?_;refine WC.XD mixed Kq0 ?_;refine r3 ?_;obtain⟨x85,ZKF,hL⟩:=bind_some hL;refine WX.cp gN rfl (XP.fn Zz9 (Ze lk (Ze lk (Ze lk ZH)))) (WR.XY rfl (ZvB (Nat.le_refl _) (hS.atB k1) (.inl (hS.lt k1)) (hS.Qm k2) (hS.Qm k3) (hS.Qm k4) (hS.Qm k5) (hS.Qm k6) (hS.ord k7) ZKF)) ?_ rfl rfl;refine r8 ?_;obtain⟨x86,ZFf,hL⟩:=Yf hL;obtain⟨b87,o88,_,hQ⟩:=Src.atG (fun hg=>(hS.JP k7)) ZFf;have ZGI:=fun hg=>(hQ hg).1
      have ZHU:=fun hg=>(hQ hg).2.1
      have ZNx:=fun hg=>(hQ hg).2.2
      refine WX.gv (Zt.no rfl rfl rfl (YU rfl (YP rfl fh))) rfl (fun hg=>(ZC Zf4 Uj (YL (YP rfl fh) rfl hg) (YL fh rfl hg) rfl (ZGI hg) (ZFf hg))) ?_ rfl;refine WX.gv (Zt.no rfl rfl rfl (YU rfl (YP rfl (ZA rfl fh)))) rfl (fun hg=>(YX Zk0 Uj (YL fh rfl hg) (ZHU hg) (j:=0) rfl rfl (ws:= [.int .i64 x86.machine,.bool x86.here,.int .i64 x86.age]) rfl)) ?_ rfl;refine r3 ?_;refine WX.gv (Zt.no rfl rfl rfl (YK rfl (YP rfl (ZA rfl fh)))) rfl (fun hg=>(Qy ZoX (ZG (YL (YP rfl fh) rfl hg) (ZG lk (ZG (YL fh rfl hg) Yi))) rfl (cs':= [.int .i64 v59,.bool false,.int .i64 x79.age]) rfl)) ?_ rfl;refine WX.gv (Zt.no rfl rfl rfl (YK rfl (YU rfl fh))) rfl (fun hg=>(JA (YL (YU rfl fh) rfl hg) (YL fh rfl hg) (Znc (xs:= [.int .i64 x86.machine,.bool x86.here,.int .i64 x86.age]) (ys:= [.int .i64 v59,.bool false,.int .i64 x79.age]) (ZDx x86 (Yl.mk v59 false x79.age)) rfl rfl))) ?_ rfl;refine r3 ?_;refine cn hL ?_ ?_
      ·intro hc hL;refine XA ?_;refine r3 ?_;exact rt hL hT hS
      ·intro hc hL;refine r6 ?_;refine r1 ?_;exact Ya.Y4 (ZxT _ _ hL ⟨_,_,rfl,hS.only (.c k1 (.c k1 (.c k1 (.c k1 (.c k1 (.c k1 (.c k1 .n))))))),YB⟩)
     ·intro hc hL;refine r8 ?_;refine r2 ?_;exact Ya.Y4 (ZxX _ _ hL ⟨_,_,rfl,hS.only (.c k0 (.c k0 (.c k0 (.c k0 (.c k0 (.c k0 (.c k0 .n))))))),YB⟩)
    ·intro hc hL;refine r8 ?_;refine r3 ?_;exact rt hL hT hS
theorem ZDp {F wm:Nat} {h:H} {p0:Zb} {Zi:Option Addr} {Zh:Nat} {Zr:Option Addr} {Zp:Nat} {Zn:Option Addr} {Zm:Nat} {Zq:Option Addr} {Zo:Nat} {Zl:Option Addr} {Zk:Nat} {r:(Int×Int)} (ZV:wm <=h.size) (Zz:Sl (Zy .i64) wm h Zi Zh p0.Zv) (ZL:Sl (Z6 (Zy .i64)) wm h Zr Zp p0.boxes) (ZK:Sl (Z6 Zd) wm h Zn Zm p0.entries) (ZM:Sl (Z6 Zf) wm h Zq Zo p0.held) (ZJ:Sl Zg wm h Zl Zk p0.wire) (hL:ZvK F p0=some r):
 WR XX 39 #[.agg [.slice Zi p0.Zv.length Zh,.slice Zr p0.boxes.length Zp,.slice Zn p0.entries.length Zm,.slice Zq p0.held.length Zo,.slice Zl p0.wire.length Zk,.int .i64 p0.said].toArray] wm h (CP (fun(v:Value) (Gb:List (Ast wm))=>v= .tuple [.int .i64 r.1,.int .i64 r.2].toArray∧Gb= []) [] h):=by
 refine bg Tryz.ntmps39 ZV Ye.nil ?_;intro T hT hS;unfold ZvK at hL;refine r3 ?_;rintro _ h2 ⟨b1,eb1,rfl,hS⟩;refine r8 ?_;obtain⟨x3,hx3,hL⟩:=bind_some hL;refine WO.cp gN rfl (XP.fn ZAc (Ze lk ZH)) (WR.XY rfl (ZvL (Nat.le_refl _) (hS.YE Zz) (hS.YE ZL) (hS.YE ZK) (hS.YE ZM) (hS.YE ZJ) hx3)) ?_;refine r3 ?_;refine cn hL ?_ ?_
 ·intro hc hL;refine r8 ?_;have hr:=Oi0 hL;subst hr;exact YJ.gen (vs:= [.int .i64 0,.int .i64 2]) rfl (Z0 lk (Z0 lk ZX)) rfl ⟨_,⟨rfl,rfl⟩,hT ▸ hS.only .n⟩
 ·intro hc hL;refine r16 ?_;refine r4 ?_;refine WC.loop (WL.lift hL (fun(p:Int×Int) (s:Fs)=>match p with | (v7,v11)=>∃ (fr5:Fr) (h4:H),s= ⟨fr5,[],h4,none⟩∧Sp wm T h [bx wm b1 [.slice Zi p0.Zv.length Zh,.slice Zr p0.boxes.length Zp,.slice Zn p0.entries.length Zm,.slice Zq p0.held.length Zo,.slice Zl p0.wire.length Zk,.int .i64 p0.said]] h4∧fr5.at 1= .pointer (some ⟨b1,0,none⟩)∧fr5.at 4= .int .i64 v7∧fr5.at 16= .slice Zl p0.wire.length Zk∧fr5.at 17= .int .i64 (p0.wire.length:Int)∧fr5.at 18= .int .i64 v11) ⟨_,_,rfl,hS.only (.c k0 .n),YB⟩ ?_);clear hL hS;rintro X8 ⟨v7,v11⟩ s JY hL ⟨fr5,h4,rfl,hS,e6,e8,e9,e10,e12⟩;dsimp only [Zkx] at hL;refine r6 ?_;refine cn hL ?_ ?_
  ·intro hc hL;refine r2 ?_;refine WC.Zco (r:=r) (fun(v17:Int) (s:Fs)=>∃ (ZaB:Fr) (h14:H),s= ⟨ZaB,[],h14,none⟩∧Sp wm T h [bx wm b1 [.slice Zi p0.Zv.length Zh,.slice Zr p0.boxes.length Zp,.slice Zn p0.entries.length Zm,.slice Zq p0.held.length Zo,.slice Zl p0.wire.length Zk,.int .i64 p0.said]] h14∧ZaB.at 1= .pointer (some ⟨b1,0,none⟩)∧ZaB.at 4= .int .i64 v17∧ZaB.at 16= .slice Zl p0.wire.length Zk∧ZaB.at 17= .int .i64 (p0.wire.length:Int)∧ZaB.at 18= .int .i64 v11) (Zej v11 X8) ?_ ?_
   ·clear hL hS;rintro v17 s hL ⟨ZaB,h14,rfl,hS,e16,e18,e19,e20,e21⟩;dsimp only [Zej] at hL;refine r4 ?_;exact Ya.Y4 (JY _ _ hL ⟨_,_,rfl,hS.only (.c k0 .n),YB⟩)
   ·skip;refine r3 ?_;obtain⟨x22,ZFt,hL⟩:=bind_some hL;obtain⟨b23,o24,⟨⟨a25,c26⟩,⟨a27,c28⟩⟩,ZG3,ZIg,ZHK,ZAk⟩:=Sl.at_ ZJ ZFt;refine WO.w gN rfl (ZC Ja YF lk lk rfl ZG3 ZFt) ?_;have ZNg:Sl (Zy .i64) wm h a25 c26 x22.places:=ZAk.1;have ZFN:Sl (Zy .i64) wm h a27 c28 x22.ZW:=ZAk.2;refine WO.w gN rfl (YX Km YF (Yh fh rfl) (At.fz hS.fz ZHK ZIg) (j:=0) rfl rfl (ws:= [.int .i64 x22.kind,.int .i64 x22.ZR,.int .i64 x22.Zu.msg,.int .i64 x22.Zu.place,.int .i64 x22.Zu.from_,.int .i64 x22.Zu.age,.int .i64 x22.Zu.hops,.slice a25 x22.places.length c26,.slice a27 x22.ZW.length c28,.int .i64 x22.place,.int .i64 x22.at_,.int .i64 x22.age]) rfl) ?_;refine r1 ?_;rintro _ h30 ⟨b29,ZDz,rfl,hS⟩;refine r1 ?_;rintro h31 hS;refine r8 ?_;refine r1 ?_;refine cn hL ?_ ?_
    ·intro hc hL;refine r6 ?_;obtain⟨x32,hx32,hL⟩:=bind_some hL;refine WO.cl gN rfl (XP.fn Zuv (Ze lk (Ze lk ZH))) hS .n (fun g' hz hf hO=>ZoD (by rw [hz];exact hS.hw) ((hS.sl Zz).mono hf) ((hS.sl ZL).mono hf) ((hS.sl ZK).mono hf) ((hS.sl ZM).mono hf) ((hS.sl ZJ).mono hf) hx32) ?_;rintro _ h33 _ ⟨rfl,rfl⟩ hS;refine r4 ?_;rintro _ h36 ⟨b35,ZQ2,rfl,hS⟩;refine r1 ?_;rintro h37 hS;refine r16 ?_;exact XO.Y4 _ hL ⟨_,_,rfl,hS.only (.c k2 .n),YB⟩
    ·intro hc hL;refine r2 ?_;exact XO.Y4 _ hL ⟨_,_,rfl,hS.only (.c k1 .n),YB⟩
  ·intro hc hL;refine XA ?_;refine r1 ?_;have hr:=Oi0 hL;subst hr;exact YJ.gen (vs:= [.int .i64 v7,.int .i64 0]) rfl (Z0 lk (Z0 lk ZX)) rfl ⟨_,⟨rfl,rfl⟩,hT ▸ hS.only .n⟩
end Go.Proofs.YtbmbbcaaimehkaaGreat
end
end
section
namespace Go.Proofs.YtbmbbcaaimehkaaGreat
open Go.Lf
def Zem (F:Nat) (v36:Int) (v38:(List Int)) (v42:(List (List Int))) (v47:(List (List Zx))) (v52:(List (List Zj))) (v57:(List Zc)) (v61:Int) (v62:(List ZI)) (Wy:(Int×(List Int)×(List (List Int))×(List (List Zx))×(List (List Zj))×(List Zc)×Int×(List ZI) ->Option (Zb×(List ZI)×Int×Int))):Int ->Option (Zb×(List ZI)×Int×Int):=fun v73=>
 (Zrz F (Yj.mk (Zb.mk v38 v42 v47 v52 v57 v61) v62) v73).bind fun x75=>Wy (Xl (v36 + 1),x75.Za.Zv,x75.Za.boxes,x75.Za.entries,x75.Za.held,x75.Za.wire,x75.Za.said,x75.events)
def Zky (F:Nat) (p1:(List Int)):Int×(List Int)×(List (List Int))×(List (List Zx))×(List (List Zj))×(List Zc)×Int×(List ZI) ->(Int×(List Int)×(List (List Int))×(List (List Zx))×(List (List Zj))×(List Zc)×Int×(List ZI) ->Option (Zb×(List ZI)×Int×Int)) ->Option (Zb×(List ZI)×Int×Int):=fun(v36,v38,v42,v47,v52,v57,v61,v62) Wy=>
 (bif decide ((v57.length:Int) > 0) then(bif decide (v36 < (p1.length:Int)) then(ZN p1 v36).bind fun x96=>(ZqU x96 (v57.length:Int)).bind fun x99=>(Zem F v36 v38 v42 v47 v52 v57 v61 v62 Wy) x99 else(Zem F v36 v38 v42 v47 v52 v57 v61 v62 Wy) 0) else some ((Zb.mk v38 v42 v47 v52 v57 v61),v62,v36,0))
def Zbi (F:Nat) (p0:Zb) (p1:(List Int)):Int ->Option (Zb×(List ZI)×Int×Int):=fun v9=>
 (bif decide (v9 >=0) then some ((Zb.mk [] [] [] [] [] 0),[],0,2) else(ZvJ F p0).bind fun YZ=>loop F (Zky F p1) (0,YZ.Zv,YZ.boxes,YZ.entries,YZ.held,YZ.wire,YZ.said,[]))
def Zhm (F:Nat) (p0:Zb) (p1:(List Int)):Int ->(Int ->Option (Zb×(List ZI)×Int×Int)) ->Option (Zb×(List ZI)×Int×Int):=fun Znw ZpM=>
 (bif decide (Znw < (p1.length:Int)) then(ZN p1 Znw).bind fun ZAL=>(bif decide (ZAL < 0) then(Zbi F p0 p1) Znw else ZpM (Xl (Znw + 1))) else(Zbi F p0 p1) (-1))
def ZrD (F:Nat) (p0:Zb) (p1:(List Int)):Option (Zb×(List ZI)×Int×Int):=
 (ZmG F p0).bind fun x5=>(bif(!((x5 !=0) || (decide ((p1.length:Int) > 80)))) then loop F (Zhm F p0 p1) 0 else some ((Zb.mk [] [] [] [] [] 0),[],0,2))
end Go.Proofs.YtbmbbcaaimehkaaGreat
end
section
set_option maxRecDepth 20000
noncomputable section
namespace Go.Proofs.YtbmbbcaaimehkaaGreat
open Go.Yr Go.Lf
theorem ZvO {F wm:Nat} {h:H} {p0:Zb} {p1:(List Int)} {Zi:Option Addr} {Zh:Nat} {Zr:Option Addr} {Zp:Nat} {Zn:Option Addr} {Zm:Nat} {Zq:Option Addr} {Zo:Nat} {Zl:Option Addr} {Zk:Nat} {Xd:Option Addr} {Xc:Nat} {r:(Zb×(List ZI)×Int×Int)} (ZV:wm <=h.size) (Zz:Sl (Zy .i64) wm h Zi Zh p0.Zv) (ZL:Sl (Z6 (Zy .i64)) wm h Zr Zp p0.boxes) (ZK:Sl (Z6 Zd) wm h Zn Zm p0.entries) (ZM:Sl (Z6 Zf) wm h Zq Zo p0.held) (ZJ:Sl Zg wm h Zl Zk p0.wire) (QW:Sl (Zy .i64) wm h Xd Xc p1) (hL:ZrD F p0 p1=some r):
 WR XX 30 #[.agg [.slice Zi p0.Zv.length Zh,.slice Zr p0.boxes.length Zp,.slice Zn p0.entries.length Zm,.slice Zq p0.held.length Zo,.slice Zl p0.wire.length Zk,.int .i64 p0.said].toArray,.slice Xd p1.length Xc] wm h (CP (fun(v:Value) (Gb:List (Ast wm))=>∃ (XV:Option Addr) (XT:Nat) (XU:Nat) (ZlN:Option Addr) (ZlB:Nat) (ZlI:Nat) (ZjF:Nat ->Option Addr×Nat×Nat) (ZlM:Option Addr) (ZlA:Nat) (ZlH:Nat) (ZjE:Nat ->Option Addr×Nat×Nat) (ZlL:Option Addr) (Zlz:Nat) (ZlG:Nat) (ZjD:Nat ->Option Addr×Nat×Nat) (ZlK:Option Addr) (Zly:Nat) (ZlF:Nat) (ZzA:Option Addr) (Zzy:Nat) (Zzz:Nat),v= .tuple [.agg [.slice XV XT XU,.slice ZlN ZlB ZlI,.slice ZlM ZlA ZlH,.slice ZlL Zlz ZlG,.slice ZlK Zly ZlF,.int .i64 r.1.said].toArray,.slice ZzA Zzy Zzz,.int .i64 r.2.2.1,.int .i64 r.2.2.2].toArray∧Gb= [ow wm (Zy .i64) XV XT XU r.1.Zv,XK wm (Z5 (Zy .i64)) ZlN ZlB ZlI ZjF r.1.boxes,XK wm (Z5 Zd) ZlM ZlA ZlH ZjE r.1.entries,XK wm (Z5 Zf) ZlL Zlz ZlG ZjD r.1.held,ow wm Zg ZlK Zly ZlF r.1.wire,ow wm Z7 ZzA Zzy Zzz r.2.1]) [] h):=by
 refine bg Tryz.ntmps30 ZV Ye.nil ?_;intro T hT hS;unfold ZrD at hL;refine r3 ?_;rintro _ h2 ⟨b1,eb1,rfl,hS⟩;refine r1 ?_;rintro _ h4 ⟨b3,eb3,rfl,hS⟩;refine r8 ?_;refine r1 ?_;obtain⟨x5,hx5,hL⟩:=bind_some hL;refine WO.cp gN rfl (XP.fn ZAc (Ze lk ZH)) (WR.XY rfl (ZvL (Nat.le_refl _) (hS.YE Zz) (hS.YE ZL) (hS.YE ZK) (hS.YE ZM) (hS.YE ZJ) hx5)) ?_;refine r8 ?_;refine WO.ZCP (Zt.no rfl rfl rfl (ZA rfl fh)) (fun hk6=>?_) (fun hk6=>?_)
 ·replace hL:=Zdr hk6 hL;refine WO.inl (Zt.on (Zt.no rfl rfl rfl (ZA rfl fh)) hk6) rfl (XP.fn ZGr (Ze (YL fh rfl hk6) (Ze ZLT ZH))) (WF.begin (args:= [_,_]) (fn:=Tryz.f63) Kq0 (by exact rfl) Tryz.ntmps63 (by simp) ?_);simp only [Y9,Xz,Nat.reduceAdd];refine r8 ?_;refine r1 ?_;refine WO.ZBg (r:=r) (fun(v9:Int) (v:Value) (h7:H)=>v= .int .i64 v9∧Sp wm T h [bx wm b1 [.slice Zi p0.Zv.length Zh,.slice Zr p0.boxes.length Zp,.slice Zn p0.entries.length Zm,.slice Zq p0.held.length Zo,.slice Zl p0.wire.length Zk,.int .i64 p0.said],bx wm b3 [.slice none 0 0,.slice none 0 0,.slice none 0 0,.slice none 0 0,.slice none 0 0,.int .i64 0]] h7) (Zbi F p0 p1) gN rfl (XP.fn ZGd (Ze lk (Ze lk ZH))) ?_ (WF.begin (args:= [_,_]) (fn:=Tryz.f87) Kq0 (by exact rfl) Tryz.ntmps87 (by simp) ?_)
  ·clear hL hS;rintro v9 v h7 hL ⟨rfl,hS⟩;dsimp only [Zbi] at hL;refine r4 ?_;refine r1 ?_;refine YJ.UC rfl (Z0 lk ZX) ?_;refine WO.w gN rfl (ZDT lk (ZA7 hk6) lk) ?_;refine r2 ?_;refine cn hL ?_ ?_
   ·intro hc hL;refine r2 ?_;refine WO.w gN rfl (Qy Zv6 Yi rfl (cs':= [.slice none 0 0,.slice none 0 0,.slice none 0 0,.slice none 0 0,.slice none 0 0,.int .i64 0]) rfl) ?_;refine r1 ?_;rintro h10 hS;refine r6 ?_;refine r1 ?_;have hS:=hS.nil (e:= (Zy .i64));have hS:=hS.ZjJ (e:= (Z5 (Zy .i64))) (ps:=fun _=>(Z5 (Zy .i64)).dflt);have hS:=hS.ZjJ (e:= (Z5 Zd)) (ps:=fun _=>(Z5 Zd).dflt);have hS:=hS.ZjJ (e:= (Z5 Zf)) (ps:=fun _=>(Z5 Zf).dflt);have hS:=hS.nil (e:=Zg);have hS:=hS.nil (e:=Z7);have hr:=Oi0 hL;subst hr;exact YJ.gen (vs:= [.agg [.slice none 0 0,.slice none 0 0,.slice none 0 0,.slice none 0 0,.slice none 0 0,.int .i64 0].toArray,.slice none 0 0,.int .i64 0,.int .i64 2]) rfl (U0 (YK rfl (YK rfl (YP rfl (ZA rfl fh)))) (U1 Zm9 Zcn (hS.atB k6) (j:=0) rfl rfl (ws:= [.slice none 0 0,.slice none 0 0,.slice none 0 0,.slice none 0 0,.slice none 0 0,.int .i64 0]) rfl) (Z0 lk (Z0 lk (Z0 lk ZX)))) rfl ⟨_,⟨none,0,0,none,0,0,(fun _=>(Z5 (Zy .i64)).dflt),none,0,0,(fun _=>(Z5 Zd).dflt),none,0,0,(fun _=>(Z5 Zf).dflt),none,0,0,none,0,0,rfl,rfl⟩,hT ▸ hS.only (.c k5 (.c k4 (.c k3 (.c k2 (.c k1 (.c k0 .n))))))⟩
   ·intro hc hL;refine r4 ?_;refine r1 ?_;obtain⟨YZ,Zfn,hL⟩:=bind_some hL;refine WO.cl gN rfl (XP.fn ZGu (Ze lk ZH)) hS .n (fun g' hz hf hO=>ZDl (by rw [hz];exact hS.hw) ((hS.sl Zz).mono hf) ((hS.sl ZL).mono hf) ((hS.sl ZK).mono hf) ((hS.sl ZM).mono hf) ((hS.sl ZJ).mono hf) Zfn) ?_;rintro _ h27 _ ⟨a12,n13,c14,a15,n16,c17,ZET,a18,n19,c20,Zpx,a21,n22,c23,ZER,a24,n25,c26,rfl,rfl⟩ hS;obtain rfl:=hS.on k0;obtain rfl:=hS.Xu k1;obtain rfl:=hS.Xu k2;obtain rfl:=hS.Xu k3;obtain rfl:=hS.on k4;refine WO.w gN rfl (Qy ZDQ (ZG lk Yi) rfl (cs':= [.slice a12 YZ.Zv.length c14,.slice a15 YZ.boxes.length c17,.slice a18 YZ.entries.length c20,.slice a21 YZ.held.length c23,.slice a24 YZ.wire.length c26,.int .i64 YZ.said,.slice none 0 0]) rfl) ?_;refine r1 ?_;rintro _ h30 ⟨b29,ZDz,rfl,hS⟩;refine r8 ?_;refine r2 ?_;have hS:=hS.nil (e:=Z7);refine WC.loop (WL.lift hL (fun(p:Int×(List Int)×(List (List Int))×(List (List Zx))×(List (List Zj))×(List Zc)×Int×(List ZI)) (s:Fs)=>match p with | (v36,v38,v42,v47,v52,v57,v61,v62)=>∃ (Zro:Fr) (h31:H) (a39:Option Addr) (c40:Nat) (n41:Nat) (a43:Option Addr) (c44:Nat) (n45:Nat) (Zxx:Nat ->Option Addr×Nat×Nat) (a48:Option Addr) (c49:Nat) (n50:Nat) (Zxw:Nat ->Option Addr×Nat×Nat) (a53:Option Addr) (c54:Nat) (n55:Nat) (Zxv:Nat ->Option Addr×Nat×Nat) (a58:Option Addr) (c59:Nat) (n60:Nat) (a63:Option Addr) (c64:Nat) (n65:Nat),s= ⟨Zro,[],h31,none⟩∧Sp wm T h [bx wm b3 [.slice none 0 0,.slice none 0 0,.slice none 0 0,.slice none 0 0,.slice none 0 0,.int .i64 0],ow wm (Zy .i64) a39 n41 c40 v38,XK wm (Z5 (Zy .i64)) a43 n45 c44 Zxx v42,XK wm (Z5 Zd) a48 n50 c49 Zxw v47,XK wm (Z5 Zf) a53 n55 c54 Zxv v52,ow wm Zg a58 n60 c59 v57,ow wm Z7 a63 n65 c64 v62,bx wm b29 [.slice a39 n41 c40,.slice a43 n45 c44,.slice a48 n50 c49,.slice a53 n55 c54,.slice a58 n60 c59,.int .i64 v61,.slice a63 n65 c64]] h31∧Zro.at 1= .slice Xd p1.length Xc∧Zro.at 4= .pointer (some ⟨b3,0,none⟩)∧Zro.at 8= .pointer (some ⟨b29,0,none⟩)∧Zro.at 9= .int .i64 v36) ⟨_,_,a12,c14,YZ.Zv.length,a15,c17,YZ.boxes.length,ZET,a18,c20,YZ.entries.length,Zpx,a21,c23,YZ.held.length,ZER,a24,c26,YZ.wire.length,none,0,0,rfl,hS.only (.c k8 (.c k2 (.c k2 (.c k2 (.c k2 (.c k2 (.c k0 (.c k0 .n)))))))),YB⟩ ?_);clear hL hS;rintro Wy ⟨v36,v38,v42,v47,v52,v57,v61,v62⟩ s ZjZ hL ⟨Zro,h31,a39,c40,n41,a43,c44,n45,Zxx,a48,c49,n50,Zxw,a53,c54,n55,Zxv,a58,c59,n60,a63,c64,n65,rfl,hS,e33,e34,e35,e37⟩;obtain rfl:=hS.on k1;obtain rfl:=hS.Xu k2;obtain rfl:=hS.Xu k3;obtain rfl:=hS.Xu k4;obtain rfl:=hS.on k5;obtain rfl:=hS.on k6;dsimp only [Zky] at hL;refine XA ?_;refine cn hL ?_ ?_
    ·intro hc hL;refine r8 ?_;refine WC.Zco (r:=r) (fun(v73:Int) (s:Fs)=>∃ (Zaz:Fr) (h67:H),s= ⟨Zaz,[],h67,none⟩∧Sp wm T h [bx wm b3 [.slice none 0 0,.slice none 0 0,.slice none 0 0,.slice none 0 0,.slice none 0 0,.int .i64 0],bx wm b29 [.slice a39 v38.length c40,.slice a43 v42.length c44,.slice a48 v47.length c49,.slice a53 v52.length c54,.slice a58 v57.length c59,.int .i64 v61,.slice a63 v62.length c64],ow wm (Zy .i64) a39 v38.length c40 v38,XK wm (Z5 (Zy .i64)) a43 v42.length c44 Zxx v42,XK wm (Z5 Zd) a48 v47.length c49 Zxw v47,XK wm (Z5 Zf) a53 v52.length c54 Zxv v52,ow wm Zg a58 v57.length c59 v57,ow wm Z7 a63 v62.length c64 v62] h67∧Zaz.at 1= .slice Xd p1.length Xc∧Zaz.at 4= .pointer (some ⟨b3,0,none⟩)∧Zaz.at 8= .pointer (some ⟨b29,0,none⟩)∧Zaz.at 9= .int .i64 v36∧Zaz.at 10= .int .i64 v73) (Zem F v36 v38 v42 v47 v52 v57 v61 v62 Wy) ?_ ?_
     ·clear hL hS;rintro v73 s hL ⟨Zaz,h67,rfl,hS,e69,e70,e71,e72,e74⟩;dsimp only [Zem] at hL;refine r4 ?_;obtain⟨x75,ZKI,hL⟩:=bind_some hL;refine WO.cl gN rfl (XP.fn ZGp (Ze lk (Ze lk ZH))) hS (.c k1 (.c k1 (.c k1 (.c k1 (.c k1 (.c k1 (.c k1 .n))))))) (fun g' hz hf hO=>ZDg (p0:= (Yj.mk (Zb.mk v38 v42 v47 v52 v57 v61) v62)) (by rw [hz];exact hS.hw) hO ZKI) ?_;rintro _ h94 _ ⟨a76,n77,c78,a79,n80,c81,ZEL,a82,n83,c84,ZEK,a85,n86,c87,ZEJ,a88,n89,c90,a91,n92,c93,rfl,rfl⟩ hS;obtain rfl:=hS.on k1;obtain rfl:=hS.Xu k2;obtain rfl:=hS.Xu k3;obtain rfl:=hS.Xu k4;obtain rfl:=hS.on k5;obtain rfl:=hS.on k6;refine r8 ?_;exact Ya.Y4 (ZjZ _ _ hL ⟨_,_,a76,c78,x75.Za.Zv.length,a79,c81,x75.Za.boxes.length,ZEL,a82,c84,x75.Za.entries.length,ZEK,a85,c87,x75.Za.held.length,ZEJ,a88,c90,x75.Za.wire.length,a91,c93,x75.events.length,rfl,hS.only (.c k7 (.c k1 (.c k1 (.c k1 (.c k1 (.c k1 (.c k1 (.c k0 .n)))))))),YB⟩)
     ·skip;refine r8 ?_;refine cn hL ?_ ?_
      ·intro hc hL;refine WC.XD mixed Kq0 ?_;refine r2 ?_;obtain⟨x96,hx96,hL⟩:=bind_some hL;obtain⟨b97,o98,_,ZGD,ZHP,ZHm,ZNt⟩:=Sl.at_ QW hx96;refine WX.w gN rfl (ZC YG YN lk lk rfl ZGD hx96) ?_ rfl;refine WX.w gN rfl (ZU Xr (Yh fh rfl) (At.fz hS.fz ZHm ZHP) (j:=0) rfl (v:= .int .i64 x96) rfl) ?_ rfl;refine r6 ?_;obtain⟨x99,hx99,hL⟩:=bind_some hL;refine WX.w gN rfl (JA (Yh (YU rfl (YP rfl fh)) rfl) (Yh fh rfl) (Zr3 hx99)) ?_ rfl;refine r2 ?_;exact XO.Y4 _ hL ⟨_,_,rfl,hS.only (.c k0 (.c k6 (.c k0 (.c k0 (.c k0 (.c k0 (.c k0 (.c k0 .n)))))))),YB⟩
      ·intro hc hL;refine r1 ?_;exact XO.Y4 _ hL ⟨_,_,rfl,hS.only (.c k0 (.c k6 (.c k0 (.c k0 (.c k0 (.c k0 (.c k0 (.c k0 .n)))))))),YB⟩
    ·intro hc hL;refine r6 ?_;refine WC.XD mixed Kq0 ?_;refine r6 ?_;refine r1 ?_;refine WX.wr (fun x=>x=b29) hS gN rfl (fun _ _ hR=>ZU ZAA (Yh fh rfl) (At.eqv (hR b29 rfl) (hS.atB k7)) (j:=6) rfl (v:= .slice a63 v62.length c64) rfl) ?_ rfl rfl;rintro ZQC ZDC hS;refine r1 ?_;refine WX.hu gN (ZbW hS k0 Zcn lk lk (vs:= [.slice a39 v38.length c40,.slice a43 v42.length c44,.slice a48 v47.length c49,.slice a53 v52.length c54,.slice a58 v57.length c59,.int .i64 v61]) rfl rfl rfl rfl (cs':= [.slice a39 v38.length c40,.slice a43 v42.length c44,.slice a48 v47.length c49,.slice a53 v52.length c54,.slice a58 v57.length c59,.int .i64 v61]) rfl) ?_ rfl rfl [7] Kq0 (.c .z (hS.dj (.c k0 (.c k6 .n))) Y3.e);rintro ZIp hS;refine WX.w gN rfl (KS lk) ?_ Kq0;refine WX.w gN rfl (KS lk) ?_ Kq0;refine WX.w gN rfl (KS lk) ?_ Kq0;refine r3 ?_;have hr:=Oi0 hL;subst hr;exact YJ.gen (vs:= [.agg [.slice a39 v38.length c40,.slice a43 v42.length c44,.slice a48 v47.length c49,.slice a53 v52.length c54,.slice a58 v57.length c59,.int .i64 v61].toArray,.slice a63 v62.length c64,.int .i64 v36,.int .i64 0]) rfl (U0 (YK rfl (YK rfl (YP rfl (ZA rfl e34)))) (U1 Zm9 Zcn (hS.atB k0) (j:=0) rfl rfl (ws:= [.slice a39 v38.length c40,.slice a43 v42.length c44,.slice a48 v47.length c49,.slice a53 v52.length c54,.slice a58 v57.length c59,.int .i64 v61]) rfl) (Z0 lk (Z0 lk (Z0 lk ZX)))) rfl ⟨_,⟨a39,v38.length,c40,a43,v42.length,c44,Zxx,a48,v47.length,c49,Zxw,a53,v52.length,c54,Zxv,a58,v57.length,c59,a63,v62.length,c64,rfl,rfl⟩,hT ▸ hS.only (.c k1 (.c k1 (.c k1 (.c k1 (.c k1 (.c k1 .n))))))⟩
  ·skip;simp only [Y9,Xz,Nat.reduceAdd];refine XA ?_;refine r2 ?_;refine WC.loop (WL.lift hL (fun(Znw:Int) (s:Fs)=>∃ (Zi5:Fr) (ZCO:H),s= ⟨Zi5,[],ZCO,none⟩∧Sp wm T h [bx wm b1 [.slice Zi p0.Zv.length Zh,.slice Zr p0.boxes.length Zp,.slice Zn p0.entries.length Zm,.slice Zq p0.held.length Zo,.slice Zl p0.wire.length Zk,.int .i64 p0.said],bx wm b3 [.slice none 0 0,.slice none 0 0,.slice none 0 0,.slice none 0 0,.slice none 0 0,.int .i64 0]] ZCO∧Zi5.at 0= .slice Xd p1.length Xc∧Zi5.at 1= .func (.func 64) #[] [].toArray∧Zi5.at 7= .int .i64 (p1.length:Int)∧Zi5.at 8= .int .i64 Znw) ⟨_,_,rfl,hS.only (.c k1 (.c k0 .n)),YB⟩ ?_);clear hL hS;rintro ZpM Znw s Zum hL ⟨Zi5,ZCO,rfl,hS,ZDB,ZL8,ZIB,e109⟩;dsimp only [Zhm] at hL;refine r6 ?_;refine cn hL ?_ ?_
   ·intro hc hL;refine XA ?_;refine r3 ?_;obtain⟨ZAL,ZzW,hL⟩:=bind_some hL;obtain⟨ZSH,ZPk,_,ZB0,ZCE,ZCh,ZLC⟩:=Sl.at_ QW ZzW;refine WO.w gN rfl (ZC YG YN lk lk rfl ZB0 ZzW) ?_;refine WO.w gN rfl (ZU Xr (Yh fh rfl) (At.fz hS.fz ZCh ZCE) (j:=0) rfl (v:= .int .i64 ZAL) rfl) ?_;refine WO.inl gN rfl (XP.clo (first:= []) (cap:= []) lk ZGq lks rfl) (WF.begin (args:= [_]) (fn:=Tryz.f64) Kq0 (by exact rfl) Tryz.ntmps64 (by simp) ?_);simp only [Y9,Xz,Nat.reduceAdd];refine XA ?_;refine r1 ?_;refine YJ.UC rfl (Z0 lk ZX) ?_;refine r2 ?_;refine cn hL ?_ ?_
    ·intro hc hL;refine XA ?_;exact YJ.UC rfl (Z0 lk ZX) ⟨_,hL,⟨rfl,hS.only (.c k0 (.c k0 .n))⟩⟩
    ·intro hc hL;refine r6 ?_;refine r1 ?_;exact Ya.Y4 (Zum _ _ hL ⟨_,_,rfl,hS.only (.c k0 (.c k0 .n)),YB⟩)
   ·intro hc hL;refine r8 ?_;refine r3 ?_;exact YJ.UC rfl (Z0 lk ZX) ⟨_,hL,⟨rfl,hS.only (.c k0 (.c k0 .n))⟩⟩
 ·replace hL:=Zds hk6 hL;refine WO.ZE1 (Zt.no rfl rfl rfl (ZA rfl fh)) hk6 rfl ?_;refine WO.w gN rfl (ZDS lk (ZA8 hk6) lk) ?_;refine r2 ?_;refine WC.ZkO lk rfl ?_;refine r2 ?_;refine WO.w gN rfl (Qy Zv6 Yi rfl (cs':= [.slice none 0 0,.slice none 0 0,.slice none 0 0,.slice none 0 0,.slice none 0 0,.int .i64 0]) rfl) ?_;refine r1 ?_;rintro ZQA hS;refine r6 ?_;refine r1 ?_;have hS:=hS.nil (e:= (Zy .i64));have hS:=hS.ZjJ (e:= (Z5 (Zy .i64))) (ps:=fun _=>(Z5 (Zy .i64)).dflt);have hS:=hS.ZjJ (e:= (Z5 Zd)) (ps:=fun _=>(Z5 Zd).dflt);have hS:=hS.ZjJ (e:= (Z5 Zf)) (ps:=fun _=>(Z5 Zf).dflt);have hS:=hS.nil (e:=Zg);have hS:=hS.nil (e:=Z7);have hr:=Oi0 hL;subst hr;exact YJ.gen (vs:= [.agg [.slice none 0 0,.slice none 0 0,.slice none 0 0,.slice none 0 0,.slice none 0 0,.int .i64 0].toArray,.slice none 0 0,.int .i64 0,.int .i64 2]) rfl (U0 (YK rfl (YK rfl (YP rfl (ZA rfl fh)))) (U1 Zm9 Zcn (hS.atB k6) (j:=0) rfl rfl (ws:= [.slice none 0 0,.slice none 0 0,.slice none 0 0,.slice none 0 0,.slice none 0 0,.int .i64 0]) rfl) (Z0 lk (Z0 lk (Z0 lk ZX)))) rfl ⟨_,⟨none,0,0,none,0,0,(fun _=>(Z5 (Zy .i64)).dflt),none,0,0,(fun _=>(Z5 Zd).dflt),none,0,0,(fun _=>(Z5 Zf).dflt),none,0,0,none,0,0,rfl,rfl⟩,hT ▸ hS.only (.c k5 (.c k4 (.c k3 (.c k2 (.c k1 (.c k0 .n))))))⟩
end Go.Proofs.YtbmbbcaaimehkaaGreat
end
end
section
namespace Go.Proofs.YtbmbbcaaimehkaaGreat
open Go.Lf
end Go.Proofs.YtbmbbcaaimehkaaGreat
end
section
set_option maxRecDepth 20000
noncomputable section
namespace Go.Proofs.YtbmbbcaaimehkaaGreat
open Go.Yr Go.Lf
end Go.Proofs.YtbmbbcaaimehkaaGreat
end
end
section
namespace Go.Proofs.YtbmbbcaaimehkaaGreat
open Go.Lf
def ZkB (F:Nat) (p0:Zb) (x7:(Zb×(List ZI)×Int×Int)) (x43:(Zb×(List ZI)×Int×Int)):Int ->(Int ->Option Bool) ->Option Bool:=fun v87 Ztu=>
 (bif decide (v87 < (p0.Zv.length:Int)) then(ZrC F x7.1 v87).bind fun x90=>(ZrC F x43.1 v87).bind fun x91=>(gd (!((((!x90.2.1) || (!x91.2.1)) || (x90.1 !=x91.1)) || (x90.2.2 !=x91.2.2))) (ZN x7.1.Zv v87) default).bind fun x92=>(gd (!((((!x90.2.1) || (!x91.2.1)) || (x90.1 !=x91.1)) || (x90.2.2 !=x91.2.2))) (ZN x43.1.Zv v87) default).bind fun x95=>(gd (!(((((!x90.2.1) || (!x91.2.1)) || (x90.1 !=x91.1)) || (x90.2.2 !=x91.2.2)) || (x92 !=x95))) (ZN x7.1.boxes v87) default).bind fun x98=>(gd (!(((((!x90.2.1) || (!x91.2.1)) || (x90.1 !=x91.1)) || (x90.2.2 !=x91.2.2)) || (x92 !=x95))) (ZN x43.1.boxes v87) default).bind fun x103=>(gd (!(((((!x90.2.1) || (!x91.2.1)) || (x90.1 !=x91.1)) || (x90.2.2 !=x91.2.2)) || (x92 !=x95))) (ZrA F x98 x103) default).bind fun ZEq=>(bif((((((!x90.2.1) || (!x91.2.1)) || (x90.1 !=x91.1)) || (x90.2.2 !=x91.2.2)) || (x92 !=x95)) || (!ZEq)) then some false else Ztu (Xl (v87 + 1))) else(ZDu).bind fun Zf0=>some Zf0)
def ZvS (F:Nat) (p0:Zb) (p1:(List Int)) (p2:(List Int)):Option Bool:=
 (ZvP F p0 [] [p1,p2]).bind fun x5=>(bif(!x5) then(ZDu).bind fun x6=>some x6 else(ZrD F p0 p1).bind fun x7=>(ZrD F p0 p2).bind fun x43=>(ZvK F p0).bind fun x79=>(gd (!(((x7.2.2.2 !=0) || (x43.2.2.2 !=0)) || (x79.2 !=0))) (ZkA F x7.1) default).bind fun x80=>(gd (!((((x7.2.2.2 !=0) || (x43.2.2.2 !=0)) || (x79.2 !=0)) || (!x80))) (ZkA F x43.1) default).bind fun x81=>(bif(((((((((x7.2.2.2 !=0) || (x43.2.2.2 !=0)) || (x79.2 !=0)) || (!x80)) || (!x81)) || (decide (x7.2.2.1 > x79.1))) || (decide (x43.2.2.1 > x79.1))) || ((x7.1.Zv.length:Int) != (p0.Zv.length:Int))) || ((x43.1.Zv.length:Int) != (p0.Zv.length:Int))) then some false else loop F (ZkB F p0 x7 x43) 0))
end Go.Proofs.YtbmbbcaaimehkaaGreat
end
section
set_option maxRecDepth 20000
noncomputable section
namespace Go.Proofs.YtbmbbcaaimehkaaGreat
open Go.Yr Go.Lf
theorem ZDv {F wm:Nat} {h:H} {p0:Zb} {p1 p2:(List Int)} {Zi:Option Addr} {Zh:Nat} {Zr:Option Addr} {Zp:Nat} {Zn:Option Addr} {Zm:Nat} {Zq:Option Addr} {Zo:Nat} {Zl:Option Addr} {Zk:Nat} {Xd:Option Addr} {Xc:Nat} {Zb6:Option Addr} {Zb4:Nat} {r:Bool} (ZV:wm <=h.size) (Zz:Sl (Zy .i64) wm h Zi Zh p0.Zv) (ZL:Sl (Z6 (Zy .i64)) wm h Zr Zp p0.boxes) (ZK:Sl (Z6 Zd) wm h Zn Zm p0.entries) (ZM:Sl (Z6 Zf) wm h Zq Zo p0.held) (ZJ:Sl Zg wm h Zl Zk p0.wire) (QW:Sl (Zy .i64) wm h Xd Xc p1) (Zd4:Sl (Zy .i64) wm h Zb6 Zb4 p2) (hL:ZvS F p0 p1 p2=some r):
 WR XX 13 #[.agg [.slice Zi p0.Zv.length Zh,.slice Zr p0.boxes.length Zp,.slice Zn p0.entries.length Zm,.slice Zq p0.held.length Zo,.slice Zl p0.wire.length Zk,.int .i64 p0.said].toArray,.slice Xd p1.length Xc,.slice Zb6 p2.length Zb4] wm h (CP (fun(v:Value) (Gb:List (Ast wm))=>v= .bool r∧Gb= []) [] h):=by
 refine bg Tryz.ntmps13 ZV Ye.nil ?_;intro T hT hS;unfold ZvS at hL;refine r3 ?_;rintro _ h2 ⟨b1,eb1,rfl,hS⟩;refine r8 ?_;refine r1 ?_;refine WO.hn gN rfl (ZbX (e:= (Z6 (Zy .i64))) hS Zao Jr Znq rfl rfl rfl (ZG (Yh (ZA rfl fh) rfl) (ZG (Yh fh rfl) Yi)) rfl [((Xd,Xc),p1),((Zb6,Zb4),p2)] rfl (xs:= [p1,p2]) rfl (by intro q hq;simp only [List.mem_cons,List.not_mem_nil,or_false] at hq;rcases hq with rfl | rfl <;> first | exact(hS.sl QW) | exact(hS.sl Zd4)) rfl) ?_;rintro _ h4 ⟨b3,eb3,rfl,hS⟩;obtain⟨x5,hx5,hL⟩:=bind_some hL;refine WO.cp gN rfl (XP.fn ZGz (Ze (Yh (YP rfl (ZA rfl fh)) rfl) (Ze (evC rfl) (Ze (Yh fh rfl) ZH)))) (WR.XY rfl (ZDr (Nat.le_refl _) (hS.YE Zz) (hS.YE ZL) (hS.YE ZK) (hS.YE ZM) (hS.YE ZJ) Sl.nil (hS.ord k0) hx5)) ?_;refine r3 ?_;refine cn hL ?_ ?_
 ·intro hc hL;refine r2 ?_;obtain⟨x6,hx6,hL⟩:=bind_some hL;refine WO.cp gN rfl (XP.fn ZAf ZH) (ZvR hx6) ?_;refine r4 ?_;refine r1 ?_;exact rt hL hT hS
 ·intro hc hL;refine r6 ?_;obtain⟨x7,hx7,hL⟩:=bind_some hL;refine WO.cl gN rfl (XP.fn ZAe (Ze (Yh (ZA rfl fh) rfl) (Ze (Yh fh rfl) ZH))) hS .n (fun g' hz hf hO=>ZvO (by rw [hz];exact hS.hw) ((hS.sl Zz).mono hf) ((hS.sl ZL).mono hf) ((hS.sl ZK).mono hf) ((hS.sl ZM).mono hf) ((hS.sl ZJ).mono hf) ((hS.sl QW).mono hf) hx7) ?_;rintro _ h26 _ ⟨a8,n9,c10,a11,n12,c13,ZM3,a14,n15,c16,ZM2,a17,n18,c19,ZM1,a20,n21,c22,a23,n24,c25,rfl,rfl⟩ hS;obtain rfl:=hS.on k0;obtain rfl:=hS.Xu k1;obtain rfl:=hS.Xu k2;obtain rfl:=hS.Xu k3;obtain rfl:=hS.on k4;obtain rfl:=hS.on k5;refine WO.fzn hS k0 ?_;rintro h28 ⟨ZPP,hS⟩;refine WO.Zrk hS k1 ?_;rintro h30 ⟨ZPO,hS⟩;refine WO.Zrk hS k2 ?_;rintro h32 ⟨ZPN,hS⟩;refine WO.Zrk hS k3 ?_;rintro h34 ⟨ZPM,hS⟩;refine WO.fzn hS k4 ?_;rintro h36 ⟨ZPL,hS⟩;refine WO.fzn hS k5 ?_;rintro h38 ⟨ZPK,hS⟩;refine r6 ?_;rintro _ h41 ⟨b40,ZLZ,rfl,hS⟩;refine r1 ?_;rintro h42 hS;refine r8 ?_;refine r1 ?_;obtain⟨x43,Zn3,hL⟩:=bind_some hL;refine WO.cl gN rfl (XP.fn ZAe (Ze (Yh (ZA rfl fh) rfl) (Ze (Yh fh rfl) ZH))) hS .n (fun g' hz hf hO=>ZvO (by rw [hz];exact hS.hw) ((hS.sl Zz).mono hf) ((hS.sl ZL).mono hf) ((hS.sl ZK).mono hf) ((hS.sl ZM).mono hf) ((hS.sl ZJ).mono hf) ((hS.sl Zd4).mono hf) Zn3) ?_;rintro _ h62 _ ⟨a44,n45,c46,a47,n48,c49,ZM0,a50,n51,c52,ZMZ,a53,n54,c55,ZMY,a56,n57,c58,a59,n60,c61,rfl,rfl⟩ hS;simp only [List.cons_append,List.nil_append] at hS;obtain rfl:=hS.on k0;obtain rfl:=hS.Xu k1;obtain rfl:=hS.Xu k2;obtain rfl:=hS.Xu k3;obtain rfl:=hS.on k4;obtain rfl:=hS.on k5;refine WO.fzn hS k0 ?_;rintro h64 ⟨ZPJ,hS⟩;refine WO.Zrk hS k1 ?_;rintro h66 ⟨ZPI,hS⟩;refine WO.Zrk hS k2 ?_;rintro h68 ⟨ZPH,hS⟩;refine WO.Zrk hS k3 ?_;rintro h70 ⟨ZPF,hS⟩;refine WO.fzn hS k4 ?_;rintro h72 ⟨ZPD,hS⟩;refine WO.fzn hS k5 ?_;rintro h74 ⟨ZPC,hS⟩;refine r6 ?_;rintro _ h77 ⟨b76,ZLX,rfl,hS⟩;refine r1 ?_;rintro h78 hS;refine r8 ?_;obtain⟨x79,ZxH,hL⟩:=bind_some hL;refine WO.cp gN rfl (XP.fn ZGx (Ze (Yh fh rfl) ZH)) (WR.XY rfl (ZDp (Nat.le_refl _) (hS.YE Zz) (hS.YE ZL) (hS.YE ZK) (hS.YE ZM) (hS.YE ZJ) ZxH)) ?_;refine r16 ?_;refine r6 ?_;obtain⟨x80,ZKH,hL⟩:=Yf hL;refine WO.gcp (Zt.no rfl rfl rfl (ZA rfl fh)) rfl (fun hg=>(XP.fn Zux (Ze (YL fh rfl hg) ZH))) (fun hg=>ZoG (hS.Qm k13) (hS.Qm k12) (hS.Qm k11) (hS.Qm k10) (hS.Qm k9) (ZKH hg)) ?_;refine r4 ?_;obtain⟨x81,ZKG,hL⟩:=Yf hL;refine WO.gcp (Zt.no rfl rfl rfl (ZA rfl fh)) rfl (fun hg=>(XP.fn Zux (Ze (YL fh rfl hg) ZH))) (fun hg=>ZoG (hS.Qm k6) (hS.Qm k5) (hS.Qm k4) (hS.Qm k3) (hS.Qm k2) (ZKG hg)) ?_;refine r16 ?_;refine r16 ?_;refine cn hL ?_ ?_
  ·intro hc hL;refine r6 ?_;refine r1 ?_;exact rt hL hT hS
  ·intro hc hL;refine XA ?_;refine WC.loop (WL.lift hL (fun(v87:Int) (s:Fs)=>∃ (Zdg:Fr) (h82:H),s= ⟨Zdg,[],h82,none⟩∧Sp wm T h [bx wm b40 [.slice a8 x7.1.Zv.length c10,.slice a11 x7.1.boxes.length c13,.slice a14 x7.1.entries.length c16,.slice a17 x7.1.held.length c19,.slice a20 x7.1.wire.length c22,.int .i64 x7.1.said],bx wm b76 [.slice a44 x43.1.Zv.length c46,.slice a47 x43.1.boxes.length c49,.slice a50 x43.1.entries.length c52,.slice a53 x43.1.held.length c55,.slice a56 x43.1.wire.length c58,.int .i64 x43.1.said],Jy wm (Z6 (Zy .i64)) (a8,c10) x7.1.Zv,Jy wm (Z6 (Z6 (Zy .i64))) (a11,c13) x7.1.boxes,Jy wm (Z6 (Z6 Zd)) (a14,c16) x7.1.entries,Jy wm (Z6 (Z6 Zf)) (a17,c19) x7.1.held,Jy wm (Z6 Zg) (a20,c22) x7.1.wire,Jy wm (Z6 (Zy .i64)) (a44,c46) x43.1.Zv,Jy wm (Z6 (Z6 (Zy .i64))) (a47,c49) x43.1.boxes,Jy wm (Z6 (Z6 Zd)) (a50,c52) x43.1.entries,Jy wm (Z6 (Z6 Zf)) (a53,c55) x43.1.held,Jy wm (Z6 Zg) (a56,c58) x43.1.wire] h82∧Zdg.at 7= .pointer (some ⟨b40,0,none⟩)∧Zdg.at 11= .pointer (some ⟨b76,0,none⟩)∧Zdg.at 102= .int .i64 (p0.Zv.length:Int)∧Zdg.at 103= .int .i64 v87) ⟨_,_,rfl,hS.only (.c k7 (.c k0 (.c k11 (.c k10 (.c k9 (.c k8 (.c k7 (.c k5 (.c k4 (.c k3 (.c k2 (.c k1 .n)))))))))))),(YK rfl (YK rfl (YK rfl (YK rfl (YK rfl (YK rfl (YK rfl (YK rfl (YK rfl (YP rfl fh)))))))))),(YK rfl (YK rfl (YK rfl (YK rfl (YK rfl (YK rfl (YK rfl (YU rfl (YP rfl fh))))))))),(ZA rfl fh),fh⟩ ?_);clear hL hS;rintro Ztu v87 s ZxO hL ⟨Zdg,h82,rfl,hS,e84,e85,e86,e88⟩;dsimp only [ZkB] at hL;refine r6 ?_;refine cn hL ?_ ?_
   ·intro hc hL;refine XA ?_;refine r2 ?_;obtain⟨x90,hx90,hL⟩:=bind_some hL;refine WO.cp gN rfl (XP.fn ZAd (Ze (Yh (ZA rfl fh) rfl) (Ze (Yh fh rfl) ZH))) (WR.XY rfl (ZvN (Nat.le_refl _) (hS.Qm k2) (hS.Qm k3) (hS.Qm k4) (hS.Qm k5) (hS.Qm k6) hx90)) ?_;refine XA ?_;refine r1 ?_;obtain⟨x91,hx91,hL⟩:=bind_some hL;refine WO.cp gN rfl (XP.fn ZAd (Ze (Yh (ZA rfl fh) rfl) (Ze (Yh fh rfl) ZH))) (WR.XY rfl (ZvN (Nat.le_refl _) (hS.Qm k7) (hS.Qm k8) (hS.Qm k9) (hS.Qm k10) (hS.Qm k11) hx91)) ?_;refine r8 ?_;refine r2 ?_;refine WC.XD mixed Kq0 ?_;refine r16 ?_;refine r4 ?_;obtain⟨x92,ZFd,hL⟩:=Yf hL;obtain⟨b93,o94,_,hQ⟩:=Sl.atG (fun hg=>(hS.fsl k2)) ZFd;have ZGF:=fun hg=>(hQ hg).1
    have ZHR:=fun hg=>(hQ hg).2.1
    have ZNQ:=fun hg=>(hQ hg).2.2.1
    have ZNv:=fun hg=>(hQ hg).2.2.2
    refine WX.gv (Zt.no rfl rfl rfl (YP rfl (ZA rfl fh))) rfl (fun hg=>(ZC YG YN (YL (ZA rfl fh) rfl hg) (YL fh rfl hg) rfl (ZGF hg) (ZFd hg))) ?_ rfl;refine WX.gv (Zt.no rfl rfl rfl (YU rfl fh)) rfl (fun hg=>(ZU Xr (YL fh rfl hg) (ZHR hg) (j:=0) rfl (v:= .int .i64 x92) rfl)) ?_ rfl;refine r3 ?_;obtain⟨x95,hx95,hL⟩:=Yf hL;obtain⟨b96,o97,_,hQ⟩:=Sl.atG (fun hg=>(hS.fsl k7)) hx95;have ZGE:=fun hg=>(hQ hg).1
    have ZHQ:=fun hg=>(hQ hg).2.1
    have ZNP:=fun hg=>(hQ hg).2.2.1
    have ZNu:=fun hg=>(hQ hg).2.2.2
    refine WX.gv (Zt.no rfl rfl rfl (YK rfl fh)) rfl (fun hg=>(ZC YG YN (YL (ZA rfl fh) rfl hg) (YL fh rfl hg) rfl (ZGE hg) (hx95 hg))) ?_ rfl;refine WX.gv (Zt.no rfl rfl rfl (YK rfl (ZA rfl fh))) rfl (fun hg=>(ZU Xr (YL fh rfl hg) (ZHQ hg) (j:=0) rfl (v:= .int .i64 x95) rfl)) ?_ rfl;refine r6 ?_;obtain⟨x98,hx98,hL⟩:=Yf hL;obtain⟨b99,ZPn,⟨ZJe,ZIS⟩,hQ⟩:=Sl.atG (fun hg=>(hS.fsl k3)) hx98;have ZGC:=fun hg=>(hQ hg).1
    have ZHO:=fun hg=>(hQ hg).2.1
    have ZNO:=fun hg=>(hQ hg).2.2.1
    have ZG7:=fun hg=>(hQ hg).2.2.2
    refine WX.gv (Zt.no rfl rfl rfl (YP rfl (ZA rfl fh))) rfl (fun hg=>(ZC Zao Jr (YL (ZA rfl fh) rfl hg) (YL fh rfl hg) rfl (ZGC hg) (hx98 hg))) ?_ rfl;have hS:=hS.add (A:=fzG wm (Z6 (Zy .i64)) (!(((((!x90.2.1) || (!x91.2.1)) || (x90.1 !=x91.1)) || (x90.2.2 !=x91.2.2)) || (x92 !=x95))) (ZJe,ZIS) x98) (fun hg=>(ZG7 hg)) (fun _ z=>z);refine WX.gv (Zt.no rfl rfl rfl (YU rfl fh)) rfl (fun hg=>(ZU Zci (YL fh rfl hg) (ZHO hg) (j:=0) rfl (v:= .slice ZJe x98.length ZIS) rfl)) ?_ rfl;refine r3 ?_;obtain⟨x103,ZzY,hL⟩:=Yf hL;obtain⟨ZSJ,ZPm,⟨Zsa,c107⟩,hQ⟩:=Sl.atG (fun hg=>(hS.fsl k9)) ZzY;have ZB2:=fun hg=>(hQ hg).1
    have ZCG:=fun hg=>(hQ hg).2.1
    have ZLG:=fun hg=>(hQ hg).2.2.1
    have ZB7:=fun hg=>(hQ hg).2.2.2
    refine WX.gv (Zt.no rfl rfl rfl (YK rfl fh)) rfl (fun hg=>(ZC Zao Jr (YL (ZA rfl fh) rfl hg) (YL fh rfl hg) rfl (ZB2 hg) (ZzY hg))) ?_ rfl;have hS:=hS.add (A:=fzG wm (Z6 (Zy .i64)) (!(((((!x90.2.1) || (!x91.2.1)) || (x90.1 !=x91.1)) || (x90.2.2 !=x91.2.2)) || (x92 !=x95))) (Zsa,c107) x103) (fun hg=>(ZB7 hg)) (fun _ z=>z);refine WX.gv (Zt.no rfl rfl rfl (YK rfl (ZA rfl fh))) rfl (fun hg=>(ZU Zci (YL fh rfl hg) (ZCG hg) (j:=0) rfl (v:= .slice Zsa x103.length c107) rfl)) ?_ rfl;obtain⟨ZEq,ZFw,hL⟩:=Yf hL;refine WX.gcp (Zt.no rfl rfl rfl (YK rfl (YP rfl fh))) rfl (fun hg=>(XP.fn ZGv (Ze (YL (YU rfl (ZA rfl fh)) rfl hg) (Ze (YL fh rfl hg) ZH)))) (fun hg=>ZDn ((hS.ZIq k1) hg) ((hS.ZIq k0) hg) (ZFw hg)) ?_ rfl rfl;refine r4 ?_;refine cn hL ?_ ?_
    ·intro hc hL;refine r8 ?_;refine r3 ?_;exact rt hL hT hS
    ·intro hc hL;refine r6 ?_;refine r1 ?_;exact Ya.Y4 (ZxO _ _ hL ⟨_,_,rfl,hS.only (.c k2 (.c k2 (.c k2 (.c k2 (.c k2 (.c k2 (.c k2 (.c k2 (.c k2 (.c k2 (.c k2 (.c k2 .n)))))))))))),(YK rfl (YK rfl (YK rfl (YK rfl (YK rfl (YK rfl (YK rfl (YK rfl (YU rfl e84))))))))),(YK rfl (YK rfl (YK rfl (YK rfl (YK rfl (YK rfl (YK rfl (YK rfl (YU rfl e85))))))))),(YK rfl (YK rfl (YK rfl (YK rfl (YK rfl (YK rfl (YK rfl (YK rfl (YU rfl e86))))))))),fh⟩)
   ·intro hc hL;refine r6 ?_;refine r1 ?_;obtain⟨Zf0,Zt6,hL⟩:=bind_some hL;refine WO.cp gN rfl (XP.fn ZAf ZH) (ZvR Zt6) ?_;refine r4 ?_;exact rt hL hT hS
theorem ZDw {F:Nat} {h:H} {p0:Zb} {p1 p2:(List Int)} {Zi:Option Addr} {Zh:Nat} {Zr:Option Addr} {Zp:Nat} {Zn:Option Addr} {Zm:Nat} {Zq:Option Addr} {Zo:Nat} {Zl:Option Addr} {Zk:Nat} {Xd:Option Addr} {Xc:Nat} {Zb6:Option Addr} {Zb4:Nat} {r:Bool} (Zz:Sl (Zy .i64) h.size h Zi Zh p0.Zv) (ZL:Sl (Z6 (Zy .i64)) h.size h Zr Zp p0.boxes) (ZK:Sl (Z6 Zd) h.size h Zn Zm p0.entries) (ZM:Sl (Z6 Zf) h.size h Zq Zo p0.held) (ZJ:Sl Zg h.size h Zl Zk p0.wire) (QW:Sl (Zy .i64) h.size h Xd Xc p1) (Zd4:Sl (Zy .i64) h.size h Zb6 Zb4 p2) (hL:ZvS F p0 p1 p2=some r):Pure XX 13 #[.agg [.slice Zi p0.Zv.length Zh,.slice Zr p0.boxes.length Zp,.slice Zn p0.entries.length Zm,.slice Zq p0.held.length Zo,.slice Zl p0.wire.length Zk,.int .i64 p0.said].toArray,.slice Xd p1.length Xc,.slice Zb6 p2.length Zb4] h (.bool r):=
 WR.XY rfl (ZDv (Nat.le_refl _) Zz ZL ZK ZM ZJ QW Zd4 hL)
end Go.Proofs.YtbmbbcaaimehkaaGreat
end
end
section
end
section
namespace Go.Lf
theorem Zsx {k:Nat} (h:k < 4611686018427387904):Xl ((k:Int) + 1)= ((k + 1:Nat):Int):=by
 rw [KY (by omega) (by omega)];rfl
theorem Zsy {k:Nat} (h:k < 4611686018427387904) (h0:0 < k):Xl ((k:Int) - 1)= ((k - 1:Nat):Int):=by
 rw [KY (by omega) (by omega)];omega
theorem ZkY {α:Type} {QM:Nat} {xs ys:List α} (h:xs.length + ys.length <=1000000) (hb:QM <=1000):app QM xs ys=some (xs ++ ys):=
 Zo3 (Nat.le_trans (Nat.mul_le_mul (show 2 * (xs.length + ys.length) + 1000 <=2001000 by omega) hb) (by decide))
def iter {α β σ:Type} (g:Nat ->α ->σ ->(σ ->Option β) ->Option β) (d:σ ->Option β):Nat ->List α ->σ ->Option β
 | _,[],s=>d s
 | i,x::l,s=>g i x s (fun s'=>iter g d (i + 1) l s')
end Go.Lf
end
section
namespace Go.Proofs.YtbmbbcaaimehkaaGreat
open Go.Lf
section
variable {β γ:Type}
theorem Zd0 {body:γ ->(γ ->Option β) ->Option β} {r:Option β} (S:Nat ->γ) {n F:Nat} (hF:n < F) (hb:∀ k,k < n ->∀ next,body (S k) next=next (S (k + 1))) (he:∀ next,body (S n) next=r):loop F body (S 0)=r:=by
 have:∀ j F,j <=n ->n - j < F ->loop F body (S j)=r:=by
  intro j F hj hF;obtain⟨d,hd⟩:∃ d,d=n - j:= ⟨_,rfl⟩
  induction d generalizing j F with
  | zero=>
    have:j=n:=by omega
    subst this;cases F with
    | zero=>omega
    | succ F=>rw [ZiU];exact he _
  | succ d ih=>
    cases F with
    | zero=>omega
    | succ F=>rw [ZiU,hb j (by omega)];exact ih (j + 1) F (by omega) (by omega) (by omega)
 exact this 0 F (Nat.zero_le _) (by omega)
theorem Zl2 {body:γ ->(γ ->Option β) ->Option β} {r1 r2:Option β} (S:Nat ->γ) (c:Nat ->Bool) {n F:Nat} (hF:n < F) (hb:∀ k,k < n ->∀ next,body (S k) next=bif c k then r1 else next (S (k + 1))) (he:∀ next,body (S n) next=r2):loop F body (S 0)=bif(List.range n).any c then r1 else r2:=by
 cases h:(List.range n).any c with
 | false=>
   rw [List.any_eq_false] at h;refine Zd0 S hF (fun k hk next=>?_) he;have:=h k (List.mem_range.2 hk);rw [hb k hk,Bool.eq_false_iff.2 this];rfl
 | true=>
   have hex:∃ k,k < n∧c k=true:=by
    obtain⟨k,h1,h2⟩:=List.any_eq_true.1 h;exact⟨k,List.mem_range.1 h1,h2⟩
   have hm:∃ m,(m < n∧c m=true)∧∀ k,k < m ->c k=false:=by
    obtain⟨k,hk⟩:=hex
    induction k using Nat.strongRecOn with
    | _ k ih=>
      by_cases hz:∃ j,j < k∧c j=true
      ·obtain⟨j,h1,h2⟩:=hz;exact ih j h1 ⟨by omega,h2⟩
      ·exact⟨k,hk,fun j hj=>Bool.eq_false_iff.2 fun q=>hz ⟨j,hj,q⟩⟩
   obtain⟨m,⟨h1,h2⟩,h3⟩:=hm;refine Zd0 S (n:=m) (by omega) (fun k hk next=>?_) (fun next=>?_)
   ·rw [hb k (by omega),h3 k hk];rfl
   ·rw [hb m h1,h2];rfl
end
theorem Yv {k:Nat} (h:k < 4611686018427387904):Xl ((k:Int) + 1)= ((k + 1:Nat):Int):=Zsx h
theorem ZF {k n:Nat} (h:k < n):decide ((k:Int) < (n:Int))=true:=decide_eq_true (by omega)
theorem ZO (n:Nat):decide ((n:Int) < (n:Int))=false:=decide_eq_false (by omega)
theorem Xn {α:Type} {l:List α} {k:Nat} (h:k < l.length):ZN l (k:Int)=some l[k]:=by rw [ZgR,List.getElem?_eq_getElem h]
theorem app1 {α:Type} {b:Nat} {l:List α} {x:α} (h:l.length <=900000) (hb:b <=1000):app b l [x]=some (l ++ [x]):=ZkY (by simp;omega) hb
theorem QJ {α:Type} [BEq α] [LawfulBEq α] (a:α):(a !=a)=false:=by simp
end Go.Proofs.YtbmbbcaaimehkaaGreat
end
section
namespace Go.Proofs.YtbmbbcaaimehkaaGreat
open Go.Lf
structure WW (n:Nat) (w:Zb):Prop where
 Zv:w.Zv.length < n
 boxes:w.boxes.length < n
 entries:w.entries.length < n
 held:w.held.length < n
 wire:w.wire.length < n
 box:∀ l ∈ w.boxes,l.length < n
 row:∀ l ∈ w.entries,l.length < n
 hel:∀ l ∈ w.held,l.length < n
 Xe:∀ x ∈ w.wire,x.places.length < n∧x.ZW.length < n
theorem WW.mono {n m:Nat} {w:Zb} (h:WW n w) (hm:n <=m):WW m w:=
 ⟨Nat.lt_of_lt_of_le h.Zv hm,Nat.lt_of_lt_of_le h.boxes hm,Nat.lt_of_lt_of_le h.entries hm,Nat.lt_of_lt_of_le h.held hm,Nat.lt_of_lt_of_le h.wire hm,fun l q=>Nat.lt_of_lt_of_le (h.box l q) hm,fun l q=>Nat.lt_of_lt_of_le (h.row l q) hm,fun l q=>Nat.lt_of_lt_of_le (h.hel l q) hm,fun x q=>⟨Nat.lt_of_lt_of_le (h.Xe x q).1 hm,Nat.lt_of_lt_of_le (h.Xe x q).2 hm⟩⟩
abbrev ZvV:Zb:= ⟨[],[],[],[],[],0⟩
theorem ZiB {α:Type} (l:List α) (c:α ->Bool) (d:α):(List.range l.length).any (fun k=>c (l.getD k d))=l.any c:=by
 rw [Bool.eq_iff_iff,List.any_eq_true,List.any_eq_true]
 constructor
 ·rintro⟨k,h1,h2⟩;have hk:=List.mem_range.1 h1;rw [List.getD_eq_getElem?_getD,List.getElem?_eq_getElem hk] at h2;exact⟨_,List.getElem_mem hk,h2⟩
 ·rintro⟨x,h1,h2⟩;obtain⟨k,hk,rfl⟩:=List.getElem_of_mem h1;exact⟨k,List.mem_range.2 hk,by rw [List.getD_eq_getElem?_getD,List.getElem?_eq_getElem hk];exact h2⟩
theorem Yd {β γ:Type} {body:γ ->(γ ->Option β) ->Option β} {r:Option β} {s0:γ} (S:Nat ->γ) (h0:S 0=s0) {n F:Nat} (hF:n < F) (hb:∀ k,k < n ->∀ next,body (S k) next=next (S (k + 1))) (he:∀ next,body (S n) next=r):loop F body s0=r:=h0 ▸ Zd0 S hF hb he
def row (w:Zb) (m:Nat):List Zx:=w.entries.getD m []
def E (w:Zb) (m p:Nat):Zx:= (row w m).getD p default
structure WQ (w:Zb):Prop where
 m1:1 <=w.entries.length
 m2:w.entries.length <=5
 p1:1 <=w.Zv.length
 p2:w.Zv.length <=8
 bx:w.boxes.length=w.Zv.length
 hd:w.held.length=w.entries.length
 rw_:∀ l ∈ w.entries,l.length=w.Zv.length
theorem Yc {α:Type} {l:List α} {k:Nat} {d:α} (h:k < l.length):l.getD k d ∈ l:=by
 rw [List.getD_eq_getElem?_getD,List.getElem?_eq_getElem h];exact List.getElem_mem h
theorem Yt {α:Type} {l:List α} {k:Nat} (d:α) (h:k < l.length):ZN l (k:Int)=some (l.getD k d):=by
 rw [Xn h,List.getD_eq_getElem?_getD,List.getElem?_eq_getElem h];rfl
theorem WQ.row {w:Zb} (s:WQ w) {m:Nat} (h:m < w.entries.length):ZN w.entries (m:Int)=some (row w m):=Yt [] h
theorem WQ.len {w:Zb} (s:WQ w) {m:Nat} (h:m < w.entries.length):(Proofs.YtbmbbcaaimehkaaGreat.row w m).length=w.Zv.length:=s.rw_ _ (Yc h)
theorem WQ.ent {w:Zb} (s:WQ w) {m p:Nat} (h:m < w.entries.length) (hp:p < w.Zv.length):ZN (Proofs.YtbmbbcaaimehkaaGreat.row w m) (p:Int)=some (E w m p):=Yt default (by rw [s.len h];exact hp)
def Y7 (w:Zb) (p k:Nat):List Yl:= (List.range k).filterMap fun m=>if(E w m p).here then some ⟨(m:Int),true,(E w m p).age⟩ else none
def Uo (x:Zc) (p j:Nat):List Yl:= (List.range j).filterMap fun i=>if x.places.getD i 0= (p:Int) then some ⟨x.ZR,false,x.ZW.getD i 0⟩ else none
def UL (x:Zc) (p:Nat):List Yl:=if x.kind=2 then Uo x p x.places.length else []
def XI (l:List Zc) (p:Nat):List Yl:=l.flatMap fun x=>UL x p
def YC (w:Zb) (p:Nat):List Yl:=Y7 w p w.entries.length ++ XI w.wire p
def UG (l:List Yl):Yl:=l.getLastD ⟨0,false,0⟩
theorem ZgA (l:List Yl) (x:Yl):UG (l ++ [x])=x:=by unfold UG;simp
theorem Zvj {α β:Type} (f:α ->Option β) (a:α): [a].filterMap f= (f a).toList:=by
 cases h:f a <;> simp [List.filterMap_cons,h]
theorem QX (w:Zb) (p k:Nat):Y7 w p (k + 1)=Y7 w p k ++ (if(E w k p).here then [⟨(k:Int),true,(E w k p).age⟩] else []):=by
 unfold Y7;rw [List.range_succ,List.filterMap_append,Zvj];congr 1;by_cases h:(E w k p).here=true
 ·rw [if_pos h,if_pos h];rfl
 ·rw [if_neg h,if_neg h];rfl
theorem ZdK (x:Zc) (p j:Nat):Uo x p (j + 1)=Uo x p j ++ (if x.places.getD j 0= (p:Int) then [⟨x.ZR,false,x.ZW.getD j 0⟩] else []):=by
 unfold Uo;rw [List.range_succ,List.filterMap_append,Zvj];congr 1;by_cases h:x.places.getD j 0= (p:Int)
 ·rw [if_pos h,if_pos h];rfl
 ·rw [if_neg h,if_neg h];rfl
theorem ZqA {l:List Zc} {k:Nat} (h:k < l.length) (p:Nat):XI (l.take (k + 1)) p=XI (l.take k) p ++ UL l[k] p:=by
 unfold XI;rw [List.take_add_one,List.getElem?_eq_getElem h,List.flatMap_append];simp
theorem ZbL (w:Zb) (p k:Nat):(Y7 w p k).length <=k:=by
 have:=List.length_filterMap_le (fun m=>if(E w m p).here then some (⟨(m:Int),true,(E w m p).age⟩:Yl) else none) (List.range k);unfold Y7;rw [List.length_range] at this;exact this
theorem ZcP (x:Zc) (p j:Nat):(Uo x p j).length <=j:=by
 have:=List.length_filterMap_le (fun i=>if x.places.getD i 0= (p:Int) then some (⟨x.ZR,false,x.ZW.getD i 0⟩:Yl) else none) (List.range j);unfold Uo;rw [List.length_range] at this;exact this
def Mvd (n:Nat) (l:List Zc):Prop:=∀ x ∈ l,x.kind=2 ->x.ZW.length=x.places.length∧x.places.length <=n
theorem Zsv {n:Nat} {l:List Zc} (h:Mvd n l) (p:Nat):(XI l p).length <=n * l.length:=by
 induction l with
 | nil=>simp [XI]
 | cons x l ih=>
   have:=ih fun y hy=>h y (by simp [hy])
   have hx:(UL x p).length <=n:=by
    unfold UL;by_cases hk:x.kind=2
    ·rw [if_pos hk];exact Nat.le_trans (ZcP _ _ _) (h x (by simp) hk).2
    ·rw [if_neg hk];simp
   unfold XI at this ⊢;rw [List.flatMap_cons,List.length_append,List.length_cons,Nat.mul_succ];omega
theorem Jm (a b:Int):(a !=b)=decide (a ≠ b):=by
 by_cases h:a=b <;> simp [h]
theorem Yq (a b:Int):(a==b)=decide (a=b):=by
 by_cases h:a=b <;> simp [h]
theorem KQ {α:Type} (c:Prop) [Decidable c] (a b:α):(bif decide c then a else b)=if c then a else b:=by
 by_cases h:c <;> simp [h]
def stP (l:List Yl) (k:Nat):Int×Int×Int×Bool×Int:= ((l.length:Int),(k:Int),(UG l).machine,(UG l).here,(UG l).age)
theorem Zq8 (l:List Yl):Yl.mk (UG l).machine (UG l).here (UG l).age=UG l:=rfl
theorem Zf1 {F:Nat} (hF:1000 <=F) (hM:F <=1000000) {w:Zb} (s:WQ w) (hv:Mvd 900 w.wire) (hw:w.wire.length < 900) {p:Nat} (hp:p < w.Zv.length):
 Zik F w (p:Int)=some (UG (YC w p),((YC w p).length:Int)):=by
 have h0:=s.m2;have hh:=ZbL w p w.entries.length
 have hlen:∀ k,k <=w.wire.length ->(XI (w.wire.take k) p).length <=900 * 900:=fun k hk=>by
  have:=Zsv (l:=w.wire.take k) (fun x hx=>hv x (List.mem_of_mem_take hx)) p;rw [List.length_take] at this;exact Nat.le_trans this (by apply Nat.mul_le_mul (Nat.le_refl _);omega)
 have h1:loop F (Zg7 F w (p:Int)) (stP (Y7 w p w.entries.length) 0)=some (UG (YC w p),((YC w p).length:Int)):=by
  refine Yd (fun k=>stP (Y7 w p w.entries.length ++ XI (w.wire.take k) p) k) (by simp [XI]) (n:=w.wire.length) (by omega) (fun k hk next=>?_) (fun next=>?_)
  ·have hl:=hlen k (by omega);have hx:w.wire[k] ∈ w.wire:=List.getElem_mem hk;rw [ZqA hk];unfold Zg7 stP;dsimp only;rw [ZF hk,Cq1,Xn hk];simp only [Bq0];rw [Jm,KQ];by_cases hk2:w.wire[k].kind=2
   ·rw [if_neg (fun q=>q hk2)];obtain⟨v1,v2⟩:=hv _ hx hk2;have hwk:UL w.wire[k] p=Uo w.wire[k] p w.wire[k].places.length:=by unfold UL;rw [if_pos hk2]
    rw [hwk];have hll:(Y7 w p w.entries.length ++ XI (w.wire.take k) p).length <=5 + 900 * 900:=by rw [List.length_append];omega
    rw [← List.append_assoc];generalize Y7 w p w.entries.length ++ XI (w.wire.take k) p=l at hll ⊢;refine Yd (fun j=>stP (l ++ Uo w.wire[k] p j) j) (by simp [Uo,stP]) (n:=w.wire[k].places.length) (by omega) (fun j hj ZtF=>?_) (fun ZtF=>?_)
    ·have hl2:=ZcP w.wire[k] p j;rw [ZdK];unfold Zkn stP;dsimp only;rw [ZF hj,Cq1,Yt 0 hj,Yt 0 (show j < w.wire[k].ZW.length by omega)];simp only [Bq0];rw [Yq,KQ];unfold Zg5;dsimp only;by_cases hq:w.wire[k].places.getD j 0= (p:Int)
     ·rw [if_pos hq,if_pos hq,Yv (by rw [List.length_append];omega),Yv (by omega),← List.append_assoc,ZgA];simp [Int.add_assoc]
     ·rw [if_neg hq,if_neg hq,Yv (by omega),List.append_nil]
    ·unfold Zkn stP;dsimp only;rw [ZO,Cq0];unfold Zee;dsimp only;rw [Yv (by omega)]
   ·rw [if_pos hk2];have hwk:UL w.wire[k] p= []:=by unfold UL;rw [if_neg hk2]
    rw [hwk,List.append_nil];unfold Zee;dsimp only;rw [Yv (by omega)]
  ·unfold Zg7 stP;dsimp only;rw [ZO,Cq0,List.take_of_length_le (Nat.le_refl _),Zq8];rfl
 unfold Zik;refine Yd (fun k=>stP (Y7 w p k) k) (by rfl) (n:=w.entries.length) (by omega) (fun k hk next=>?_) (fun next=>?_)
 ·unfold Zko stP;dsimp only;rw [ZF hk,Cq1,s.row hk];simp only [Bq0];rw [s.ent hk hp];simp only [Bq0];have hl:=ZbL w p k;rw [QX];unfold Zg6;dsimp only;cases hE:(E w k p).here with
  | true=>
    simp only [Cq1,if_true];rw [Yv (by omega),Yv (by omega),ZgA];simp
  | false=>
    simp only [Cq0];rw [Yv (by omega)];simp
 ·unfold Zko;dsimp only [stP];rw [ZO];exact h1
def inn (w:Zb) (q:Int):Int:=w.Zv.getD q.toNat 0
def up (w:Zb):Nat ->Int ->Int
 | 0,q=>q
 | k + 1,q=>if q < 0 then q else up w k (inn w q)
theorem Znx {w:Zb} {q:Int} (h:q < 0) (k:Nat):up w k q=q:=by
 cases k with
 | zero=>rfl
 | succ k=>show(if q < 0 then q else _)=q;rw [if_pos h]
theorem UM (w:Zb) (k:Nat) (q:Int):up w (k + 1) q=if up w k q < 0 then up w k q else inn w (up w k q):=by
 induction k generalizing q with
 | zero=>rfl
 | succ k ih=>
   show(if q < 0 then q else up w (k + 1) (inn w q))=_;by_cases h:q < 0
   ·rw [if_pos h,Znx h,if_pos h]
   ·rw [if_neg h,ih];show _=if(if q < 0 then q else up w k (inn w q)) < 0 then _ else _
    rw [if_neg h];show _=if _ then(if q < 0 then q else up w k (inn w q)) else inn w (if q < 0 then q else up w k (inn w q))
    rw [if_neg h]
theorem up_add (w:Zb) (a b:Nat) (q:Int):up w (a + b) q=up w b (up w a q):=by
 induction a generalizing q with
 | zero=>rw [Nat.zero_add];rfl
 | succ a ih=>
   rw [show a + 1 + b= (a + b) + 1 by omega];show(if q < 0 then q else up w (a + b) (inn w q))=up w b (if q < 0 then q else up w a (inn w q));by_cases h:q < 0
   ·rw [if_pos h,if_pos h,Znx h]
   ·rw [if_neg h,if_neg h,ih]
theorem ZaJ {w:Zb} {q:Int} {a:Nat} (h:up w a q < 0) {b:Nat} (hb:a <=b):up w b q < 0:=by
 obtain⟨d,rfl⟩:∃ d,b=a + d:= ⟨b - a,by omega⟩
 rw [up_add,Znx h];exact h
def okN (w:Zb) (q:Int):Prop:=-1 <=q∧q < (w.Zv.length:Int)
instance (w:Zb) (q:Int):Decidable (okN w q):=by unfold okN;infer_instance
structure Inn (w:Zb):Prop where
 rng:∀ p:Nat,p < w.Zv.length ->okN w (inn w p)
 acy:∀ p:Nat,p < w.Zv.length ->up w w.Zv.length p < 0
theorem Inn.up {w:Zb} (h:Inn w) {q:Int} (hq:okN w q) (k:Nat):okN w (up w k q):=by
 induction k with
 | zero=>exact hq
 | succ k ih=>
   rw [UM];by_cases h2:Proofs.YtbmbbcaaimehkaaGreat.up w k q < 0
   ·rw [if_pos h2];exact ih
   ·rw [if_neg h2];have:=h.rng (Proofs.YtbmbbcaaimehkaaGreat.up w k q).toNat (by have:=ih.2;omega)
    rwa [Int.toNat_of_nonneg (by omega)] at this
theorem QD {c:Nat ->Prop} {n:Nat} (h:c n):∃ m,m <=n∧c m∧∀ k,k < m ->¬ c k:=by
 induction n using Nat.strongRecOn with
 | _ n ih=>
   by_cases hz:∃ j,j < n∧c j
   ·obtain⟨j,h1,h2⟩:=hz;obtain⟨m,q1,q2,q3⟩:=ih j h1 h2;exact⟨m,by omega,q2,q3⟩
   ·exact⟨n,Nat.le_refl _,h,fun k hk q=>hz ⟨k,hk,q⟩⟩
theorem ZA4:∀ (n:Nat) (f:Nat ->Nat),(∀ i,i <=n ->f i < n) ->∃ i j,i < j∧j <=n∧f i=f j:=by
 intro n
 induction n with
 | zero=>intro f h;exact absurd (h 0 (Nat.le_refl _)) (Nat.not_lt_zero _)
 | succ n ih=>
   intro f h;by_cases hz:∃ i,i <=n∧f i=f (n + 1)
   ·obtain⟨i,h1,h2⟩:=hz;exact⟨i,n + 1,by omega,Nat.le_refl _,h2⟩
   ·have hne:∀ i,i <=n ->f i ≠ f (n + 1):=fun i hi q=>hz ⟨i,hi,q⟩
    have hl:=h (n + 1) (Nat.le_refl _)
    obtain⟨i,j,h1,h2,h3⟩:=ih (fun i=>if f i < f (n + 1) then f i else f i - 1) (fun i hi=>by
     have:=h i (by omega);have:=hne i hi;by_cases q:f i < f (n + 1)
     ·rw [if_pos q];omega
     ·rw [if_neg q];omega)
    refine⟨i,j,h1,by omega,?_⟩;have a1:=hne i (by omega);have a2:=hne j h2;by_cases q1:f i < f (n + 1) <;> by_cases q2:f j < f (n + 1)
    ·rwa [if_pos q1,if_pos q2] at h3
    ·rw [if_pos q1,if_neg q2] at h3;omega
    ·rw [if_neg q1,if_pos q2] at h3;omega
    ·rw [if_neg q1,if_neg q2] at h3;omega
theorem Zqs {w:Zb} (hr:∀ p:Nat,p < w.Zv.length ->okN w (inn w p)):(∀ p:Nat,p < w.Zv.length ->up w w.Zv.length p < 0)↔∀ p:Nat,p < w.Zv.length ->∀ j,j <=w.Zv.length ->up w (j + 1) p ≠ (p:Int):=by
 constructor
 ·intro h p hp j hj e
  have:∀ m:Nat,up w (m * (j + 1)) p= (p:Int):=fun m=>by
   induction m with
   | zero=>rw [Nat.zero_mul];rfl
   | succ m ih=>rw [Nat.succ_mul,up_add,ih,e]
  have h2:=ZaJ (h p hp) (b:=w.Zv.length * (j + 1)) (Nat.le_mul_of_pos_right _ (by omega));rw [this] at h2;omega
 ·intro h p hp;rcases Int.lt_or_le (up w w.Zv.length p) 0 with q | q
  ·exact q
  ·exfalso
   have hk:∀ k,k <=w.Zv.length ->0 <=up w k p:=fun k hk=>by
    rcases Int.lt_or_le (up w k p) 0 with z | z
    ·have:=ZaJ z hk;omega
    ·exact z
   have hok:∀ k,okN w (up w k p):=fun k=>by
    induction k with
    | zero=>exact⟨by show(-1:Int) <= (p:Int);omega,by show(p:Int) < _;omega⟩
    | succ k ih=>
      rw [UM];by_cases h2:up w k p < 0
      ·rw [if_pos h2];exact ih
      ·rw [if_neg h2];have:=hr (up w k p).toNat (by have:=ih.2;omega)
       rwa [Int.toNat_of_nonneg (by omega)] at this
   obtain⟨i,j,h1,h2,h3⟩:=ZA4 w.Zv.length (fun k=>(up w k p).toNat) fun k hk'=>by
    have:= (hok k).2;have:=hk k hk';omega
   have e:up w i p=up w j p:=by have:=hk i (by omega);have:=hk j h2;omega
   have hi:=hk i (by omega);have:=h (up w i p).toNat (by have:= (hok i).2;omega) (j - i - 1) (by omega);apply this;rw [Int.toNat_of_nonneg hi,show j - i - 1 + 1=j - i by omega,← up_add,show i + (j - i)=j by omega,e]
end Go.Proofs.YtbmbbcaaimehkaaGreat
end
section
namespace Go.Proofs.YtbmbbcaaimehkaaGreat
open Go.Lf
section
variable {β γ:Type} {R:β ->Prop}
theorem Qv {c:Bool} {A B:Option β} (h1:c=true ->∃ b,A=some b∧R b) (h2:c=false ->∃ b,B=some b∧R b):∃ b,(bif c then A else B)=some b∧R b:=by
 cases c
 ·exact h2 rfl
 ·exact h1 rfl
theorem Jl {body:γ ->(γ ->Option β) ->Option β} (r1:β) (r2:Option β) {s0:γ} (S:Nat ->γ) (h0:S 0=s0) (c:Nat ->Prop) {n F:Nat} (hF:n < F)
 (hb:∀ k,k < n ->((∀ next,body (S k) next=some r1)∧c k)∨((∀ next,body (S k) next=next (S (k + 1)))∧¬ c k)) (he:∀ next,body (S n) next=r2)
 (h1:∀ k,k < n ->c k ->R r1) (h2:(∀ k,k < n ->¬ c k) ->∃ b,r2=some b∧R b):∃ b,loop F body s0=some b∧R b:=by
 by_cases hz:∃ k,k < n∧c k
 ·obtain⟨k0,hk0⟩:=hz;obtain⟨m,hm,⟨hmn,hcm⟩,hlt⟩:=QD (c:=fun k=>k < n∧c k) hk0;refine⟨r1,Yd S h0 (n:=m) (by omega) (fun k hk=>?_) ?_,h1 m hmn hcm⟩
  ·rcases hb k (by omega) with⟨_,q⟩ | ⟨q,_⟩
   ·exact absurd ⟨by omega,q⟩ (hlt k hk)
   ·exact q
  ·rcases hb m hmn with⟨q,_⟩ | ⟨_,q⟩
   ·exact q
   ·exact absurd hcm q
 ·have hno:∀ k,k < n ->¬ c k:=fun k hk q=>hz ⟨k,hk,q⟩
  obtain⟨b,e,hR⟩:=h2 hno;refine⟨b,?_,hR⟩;rw [← e];exact Yd S h0 hF (fun k hk=>(hb k hk).elim (fun q=>absurd q.2 (hno k hk)) fun q=>q.1) he
end
theorem K8 {w:Zb} {q:Int} (h:okN w q) (h2:¬ q < 0):∃ k:Nat,q= (k:Int)∧k < w.Zv.length:= ⟨q.toNat,by omega,by have:=h.2;omega⟩
theorem Jg {w:Zb} {p:Nat} (hp:p < w.Zv.length):ZN w.Zv (p:Int)=some (inn w p):=Yt 0 hp
theorem Zdf (k:Nat):decide ((k:Int) >=0)=true:=decide_eq_true (by omega)
def Chn (w:Zb) (p:Nat):Prop:=okN w (inn w p)∧∃ n,n <=w.Zv.length∧(∀ j,j < n ->¬ up w j p < 0∧okN w (inn w (up w j p)))∧up w n p < 0
theorem Zql {w:Zb}:(∀ p,p < w.Zv.length ->Chn w p)↔Inn w:=by
 constructor
 ·intro h;exact⟨fun p hp=>(h p hp).1,fun p hp=>let⟨_,n,h1,_,h3⟩:=h p hp;ZaJ h3 h1⟩
 ·intro h p hp;refine⟨h.rng p hp,?_⟩;obtain⟨m,h1,h2,h3⟩:=QD (c:=fun k=>up w k p < 0) (h.acy p hp);refine⟨m,h1,fun j hj=>⟨h3 j hj,?_⟩,h2⟩;have hq:okN w ((p:Int)):= ⟨by omega,by omega⟩
  obtain⟨k,e,hk⟩:=K8 (h.up hq j) (h3 j hj);rw [e];exact h.rng k hk
open Classical in
theorem ZhD {F:Nat} {w:Zb} (hF:1000 <=F) (h8:w.Zv.length <=8) {p:Nat} (hp:p < w.Zv.length) (next:Int ->Option Bool):
 ((ZN w.Zv (p:Int)).bind fun WY=>(bif((decide (WY < (-1))) || (decide (WY >= (w.Zv.length:Int)))) then some false else loop F (Zec w (p:Int) next) (0,(p:Int))))=if Chn w p then next ((p + 1:Nat):Int) else some false:=by
 rw [Jg hp];simp only [Bq0];by_cases hr:okN w (inn w p)
 ·have e:(decide (inn w p < (-1)) || decide (inn w p >= (w.Zv.length:Int)))=false:=by
   have h1:=hr.1;have h2:=hr.2;rw [decide_eq_false (by omega),decide_eq_false (by omega)];rfl
  rw [e,Cq0];obtain⟨m,hm,hs,hlt⟩:=QD (c:=fun k=>up w k p < 0∨k=w.Zv.length∨¬ okN w (inn w (up w k p))) (n:=w.Zv.length) (.inr (.inl rfl))
  have hj:∀ j,j < m ->¬ up w j p < 0∧j ≠ w.Zv.length∧okN w (inn w (up w j p)):=fun j hj=>by
   have:=hlt j hj;refine⟨fun q=>this (.inl q),fun q=>this (.inr (.inl q)),?_⟩;by_cases z:okN w (inn w (up w j p))
   ·exact z
   ·exact absurd (.inr (.inr z)) this
  have hok:∀ j,j <=m ->okN w (up w j p):=fun j hjm=>by
   induction j with
   | zero=>exact⟨by show(-1:Int) <= (p:Int);omega,by show(p:Int) < _;omega⟩
   | succ j ih=>
     have:=hj j (by omega);rw [UM,if_neg this.1];exact this.2.2
  refine Yd (fun j=>((j:Int),up w j p)) rfl (n:=m) (by omega) (fun j hjm nx=>?_) (fun nx=>?_)
  ·obtain⟨a1,a2,a3⟩:=hj j hjm;obtain⟨k,e,hk⟩:=K8 (hok j (by omega)) a1;unfold Zec;dsimp only;rw [e,Zdf,Cq1,Yv (by omega),decide_eq_false (by omega),Cq0,Jg hk];have e2:inn w (k:Int)=inn w (up w j p):=by rw [e]
   have h1:=a3.1;have h2:=a3.2;simp only [Bq0];rw [e2,decide_eq_false (show ¬ inn w (up w j p) < -1 by omega),Bool.not_false,Yu];simp only [Bq0];rw [decide_eq_false (show ¬ inn w (up w j p) >= (w.Zv.length:Int) by omega)];simp only [Bool.or_self,Cq0];rw [UM,if_neg a1]
  ·by_cases hneg:up w m p < 0
   ·unfold Zec;dsimp only;rw [decide_eq_false (by omega),Cq0,Yv (by omega),if_pos ⟨hr,m,hm,fun j hjm=>⟨(hj j hjm).1,(hj j hjm).2.2⟩,hneg⟩]
   ·have hnc:¬ Chn w p:=by
     rintro⟨_,n,h1,h2,h3⟩
     have hmn:m < n:=by
      rcases Nat.lt_or_ge m n with z | z
      ·exact z
      ·exact absurd (ZaJ h3 z) hneg
     rcases hs with z | z | z
     ·exact hneg z
     ·omega
     ·exact z (h2 m hmn).2
    rw [if_neg hnc];obtain⟨k,e,hk⟩:=K8 (hok m (Nat.le_refl _)) hneg;unfold Zec;dsimp only;rw [e,Zdf,Cq1,Yv (by omega)];by_cases hml:m=w.Zv.length
    ·rw [decide_eq_true (by omega)];rfl
    ·rw [decide_eq_false (by omega),Cq0,Jg hk]
     have hb:¬ okN w (inn w (k:Int)):=by
      rcases hs with z | z | z
      ·exact absurd z hneg
      ·exact absurd z hml
      ·rwa [e] at z
     simp only [Bq0];by_cases h1:inn w (k:Int) < -1
     ·rw [decide_eq_true h1];rfl
     ·rw [decide_eq_false h1,Bool.not_false,Yu];simp only [Bq0]
      rw [decide_eq_true (show inn w (k:Int) >= (w.Zv.length:Int) by
       rcases Int.lt_or_le (inn w (k:Int)) (w.Zv.length:Int) with z | z
       ·exact absurd ⟨by omega,z⟩ hb
       ·exact z)]
      rfl
 ·rw [if_neg (fun q=>hr q.1)]
  have e:(decide (inn w p < (-1)) || decide (inn w p >= (w.Zv.length:Int)))=true:=by
   by_cases h1:inn w p < -1
   ·rw [decide_eq_true h1];rfl
   ·rw [decide_eq_true (show inn w p >= (w.Zv.length:Int) by
     rcases Int.lt_or_le (inn w p) (w.Zv.length:Int) with z | z
     ·exact absurd ⟨by omega,z⟩ hr
     ·exact z),Bool.or_true]
  rw [e];rfl
theorem ZnI {F:Nat} (hF:1000 <=F) (w:Zb):∃ b,ZvE F w=some b∧(b=true↔WQ w∧Inn w):=by
 unfold ZvE;refine Qv (fun hc=>⟨false,rfl,?_⟩) (fun hc=>?_)
 ·simp only [Bool.false_eq_true,false_iff];rintro⟨s,_⟩;have:=s.m1;have:=s.m2;have:=s.p1;have:=s.p2;have:=s.bx;have:=s.hd;simp only [Bool.or_eq_true,decide_eq_true_eq,bne_iff_ne] at hc;omega
 ·simp only [Bool.or_eq_false_iff,decide_eq_false_iff_not,bne_eq_false_iff_eq] at hc;obtain⟨⟨⟨⟨⟨a1,a2⟩,a3⟩,a4⟩,a5⟩,a6⟩:=hc;refine Jl false (loop F (Zed F w) 0) (fun k=>(k:Int)) rfl (fun k=>(row w k).length ≠ w.Zv.length) (n:=w.entries.length) (by omega) (fun k hk=>?_) (fun next=>?_) (fun k hk hc=>?_) (fun hall=>?_)
  ·have hx:ZN w.entries (k:Int)=some (row w k):=Yt [] hk;by_cases hl:(row w k).length=w.Zv.length
   ·refine .inr ⟨fun next=>?_,fun q=>q hl⟩;unfold Zg4;rw [ZF hk,Cq1,hx];simp only [Bq0];rw [hl,QJ,Cq0,Yv (by omega)]
   ·refine .inl ⟨fun next=>?_,hl⟩;unfold Zg4;rw [ZF hk,Cq1,hx];simp only [Bq0];rw [Jm,decide_eq_true (by omega)];rfl
  ·unfold Zg4;rw [ZO];rfl
  ·simp only [Bool.false_eq_true,false_iff];rintro⟨s,_⟩;exact hc (s.len hk)
  ·have hrow:∀ l ∈ w.entries,l.length=w.Zv.length:=fun l hl=>by
    obtain⟨k,hk,rfl⟩:=List.getElem_of_mem hl;have:=hall k hk;unfold row at this;rw [List.getD_eq_getElem?_getD,List.getElem?_eq_getElem hk] at this;exact Classical.byContradiction this
   have ZBk:WQ w:= ⟨by omega,by omega,by omega,by omega,by omega,by omega,hrow⟩
   refine Jl false (some true) (fun k=>(k:Int)) rfl (fun k=>¬ Chn w k) (n:=w.Zv.length) (by omega) (fun k hk=>?_) (fun next=>?_) (fun k hk hc=>?_) (fun ZGB=>⟨true,rfl,?_⟩)
   ·by_cases hch:Chn w k
    ·refine .inr ⟨fun next=>?_,fun q=>q hch⟩;have:=ZhD hF (by omega) hk next;rw [if_pos hch] at this;unfold Zed;rw [ZF hk,Cq1];exact this
    ·refine .inl ⟨fun next=>?_,hch⟩;have:=ZhD hF (by omega) hk next;rw [if_neg hch] at this;unfold Zed;rw [ZF hk,Cq1];exact this
   ·unfold Zed;rw [ZO];rfl
   ·simp only [Bool.false_eq_true,false_iff];rintro⟨_,h⟩;exact hc (Zql.2 h k hk)
   ·exact⟨fun _=>⟨ZBk,Zql.1 fun p hp=>Classical.byContradiction (ZGB p hp)⟩,fun _=>rfl⟩
end Go.Proofs.YtbmbbcaaimehkaaGreat
end
section
namespace Go.Proofs.YtbmbbcaaimehkaaGreat
open Go.Lf
abbrev ZpP:Zj:= ⟨0,0,0,0,0⟩
theorem WI (x y:Zj):QZ x y=true↔x=y:=by
 unfold QZ;cases x;cases y;simp [Zj.mk.injEq]
theorem Zfc (x y:Zx):J2 x y=true↔x=y:=by
 unfold J2;cases x;cases y;simp [Zx.mk.injEq]
theorem Zhx (x y:Yl):Zdo x y=true↔x=y:=by
 unfold Zdo;cases x;cases y;simp [Yl.mk.injEq]
def Pur (x:Zc):Prop:=
 (x.kind=1∧x.place=0∧x.at_=0∧x.age=0∧x.places= []∧x.ZW= [])∨
 (x.kind=2∧x.place=0∧x.at_=0∧x.age=0∧x.Zu=ZpP∧x.places ≠ []∧x.places.length=x.ZW.length)∨
 (x.kind=3∧x.Zu=ZpP∧x.places= []∧x.ZW= [])
theorem Ze3 {α:Type} (l:List α):decide ((l.length:Int) > 0)=true↔l ≠ []:=by
 rw [decide_eq_true_eq]
 constructor
 ·rintro h rfl;simp at h
 ·intro h;have:=List.length_pos_iff.2 h;omega
theorem Zta (x:Zc):∃ b,Zrt x=some b∧(b=true↔Pur x):=by
 unfold Zrt Pur
 have nl:∀ l:List Int,decide ((l.length:Int) > 0)=false↔l= []:=fun l=>by
  rw [Bool.eq_false_iff,Ne,Ze3];exact Classical.not_not
 refine Qv (fun hc=>⟨_,rfl,?_⟩) (fun hc=>Qv (fun hc2=>⟨_,rfl,?_⟩) (fun hc2=>Qv (fun hc3=>⟨_,rfl,?_⟩) (fun hc3=>⟨_,rfl,?_⟩)))
 ·have hk:x.kind=1:=by simpa using hc
  simp only [Bool.and_eq_true,Bool.not_eq_true',Bool.or_eq_false_iff,bne_eq_false_iff_eq,nl]
  constructor
  ·rintro⟨⟨⟨a,b⟩,c⟩,d,e⟩;exact .inl ⟨hk,a,b,c,d,e⟩
  ·rintro(⟨_,a,b,c,d,e⟩ | ⟨q,_⟩ | ⟨q,_⟩)
   ·exact⟨⟨⟨a,b⟩,c⟩,d,e⟩
   ·omega
   ·omega
 ·have hk:x.kind=2:=by simpa using hc2
  simp only [Bool.and_eq_true,Bool.not_eq_true',Bool.or_eq_false_iff,bne_eq_false_iff_eq,Bool.not_eq_false',WI,Ze3,beq_iff_eq]
  constructor
  ·rintro⟨⟨⟨⟨⟨a,b⟩,c⟩,d⟩,e⟩,f⟩;exact .inr (.inl ⟨hk,a,b,c,d,e,by omega⟩)
  ·rintro(⟨q,_⟩ | ⟨_,a,b,c,d,e,f⟩ | ⟨q,_⟩)
   ·omega
   ·exact⟨⟨⟨⟨⟨a,b⟩,c⟩,d⟩,e⟩,by omega⟩
   ·omega
 ·have hk:x.kind=3:=by simpa using hc3
  simp only [Bool.and_eq_true,Bool.not_eq_true',Bool.or_eq_false_iff,Bool.not_eq_false',WI,nl]
  constructor
  ·rintro⟨a,b,c⟩;exact .inr (.inr ⟨hk,a,b,c⟩)
  ·rintro(⟨q,_⟩ | ⟨q,_⟩ | ⟨_,a,b,c⟩)
   ·omega
   ·omega
   ·exact⟨a,b,c⟩
 ·simp only [Bool.false_eq_true,false_iff];have h1:x.kind ≠ 1:=by simpa using hc
  have h2:x.kind ≠ 2:=by simpa using hc2
  have h3:x.kind ≠ 3:=by simpa using hc3
  rintro(⟨q,_⟩ | ⟨q,_⟩ | ⟨q,_⟩)
  ·exact h1 q
  ·exact h2 q
  ·exact h3 q
def Ko (w:Zb) (x:Zc) (i:Nat):Prop:=
 0 <=x.places.getD i 0∧x.places.getD i 0 < (w.Zv.length:Int)∧(0 < i ->x.places.getD (i - 1) 0 < x.places.getD i 0)∧1 <=x.ZW.getD i 0∧x.ZW.getD i 0 <=30
def Plc (w:Zb) (x:Zc):Prop:=∀ i,i < x.places.length ->Ko w x i
theorem ZlS (w:Zb) (x:Zc) {i:Nat} (hi:i < x.places.length) (ha:i < x.ZW.length) (h9:x.places.length < 900) {β:Type} (r:β) (next:Option β):
 ((ZN x.places (i:Int)).bind fun x112=>(gd ((!((decide (x112 < 0)) || (decide (x112 >= (w.Zv.length:Int))))) && (decide ((i:Int) > 0))) (ZN x.places (Xl ((i:Int) - 1))) default).bind fun x115=>(gd (!(((decide (x112 < 0)) || (decide (x112 >= (w.Zv.length:Int)))) || ((decide ((i:Int) > 0)) && (decide (x112 <=x115))))) (ZN x.ZW (i:Int)) default).bind fun ZhY=>(gd (!((((decide (x112 < 0)) || (decide (x112 >= (w.Zv.length:Int)))) || ((decide ((i:Int) > 0)) && (decide (x112 <=x115)))) || (decide (ZhY < 1)))) (ZN x.ZW (i:Int)) default).bind fun ZfY=>(bif(((((decide (x112 < 0)) || (decide (x112 >= (w.Zv.length:Int)))) || ((decide ((i:Int) > 0)) && (decide (x112 <=x115)))) || (decide (ZhY < 1))) || (decide (ZfY > 30))) then some r else next))=open Classical in if Ko w x i then next else some r:=by
 rw [Yt 0 hi];simp only [Bq0]
 have key:∀ (c d e:Bool) (y y2:Int),ZN x.ZW (i:Int)=some (x.ZW.getD i 0) ->((gd (!(c || d)) (ZN x.ZW (i:Int)) default).bind fun ZhY=>(gd (!((c || d) || decide (ZhY < 1))) (ZN x.ZW (i:Int)) default).bind fun ZfY=>(bif(((c || d) || (decide (ZhY < 1))) || (decide (ZfY > 30))) then some r else next))=bif(c || d || decide (x.ZW.getD i 0 < 1) || decide (x.ZW.getD i 0 > 30)) then some r else next:=by
  intro c d e y y2 hg;rw [hg];cases h1:(c || d)
  ·simp only [Bool.not_false,Yu,Bq0,Bool.false_or];cases h2:decide (x.ZW.getD i 0 < 1)
   ·simp only [Bool.not_false,Yu,Bq0,Bool.false_or]
   ·simp only [Bool.not_true,Xf,Bq0,Bool.true_or,Cq1]
  ·simp only [Bool.not_true,Xf,Bq0,Bool.true_or,Cq1]
 by_cases hz:i=0
 ·subst hz;rw [show decide (((0:Nat):Int) > 0)=false from rfl];simp only [Bool.and_false,Xf,Bq0,Bool.false_and];rw [key _ _ false 0 0 (Yt 0 ha)];unfold Ko;by_cases hp:0 <=x.places.getD 0 0∧x.places.getD 0 0 < (w.Zv.length:Int)∧(0 < 0 ->x.places.getD (0 - 1) 0 < x.places.getD 0 0)∧1 <=x.ZW.getD 0 0∧x.ZW.getD 0 0 <=30
  ·rw [if_pos hp];obtain⟨a,b,_,c,d⟩:=hp;rw [decide_eq_false (show ¬ x.places.getD 0 0 < 0 by omega),decide_eq_false (show ¬ x.places.getD 0 0 >= (w.Zv.length:Int) by omega),decide_eq_false (show ¬ x.ZW.getD 0 0 < 1 by omega),decide_eq_false (show ¬ x.ZW.getD 0 0 > 30 by omega)];rfl
  ·rw [if_neg hp]
   have:(decide (x.places.getD 0 0 < 0) || decide (x.places.getD 0 0 >= (w.Zv.length:Int)) || false || decide (x.ZW.getD 0 0 < 1) || decide (x.ZW.getD 0 0 > 30))=true:=by
    simp only [Bool.or_eq_true,decide_eq_true_eq,Bool.or_false];rcases Int.lt_or_le (x.places.getD 0 0) 0 with z | z
    ·exact .inl (.inl (.inl z))
    ·rcases Int.lt_or_le (x.places.getD 0 0) (w.Zv.length:Int) with z2 | z2
     ·rcases Int.lt_or_le (x.ZW.getD 0 0) 1 with z3 | z3
      ·exact .inl (.inr z3)
      ·rcases Int.lt_or_le 30 (x.ZW.getD 0 0) with z4 | z4
       ·exact .inr z4
       ·exact absurd ⟨z,z2,fun q=>absurd q (by omega),z3,z4⟩ hp
     ·exact .inl (.inl (.inr z2))
   rw [this];rfl
 ·have hi0:decide ((i:Int) > 0)=true:=decide_eq_true (by omega)
  have hg1:ZN x.places (Xl ((i:Int) - 1))=some (x.places.getD (i - 1) 0):=by
   rw [Zsy (by omega) (by omega)];exact Yt 0 (by omega)
  rw [hi0,hg1];simp only [Bool.and_true,Bool.true_and];have hgd:∀ c:Bool,gd (!c) (some (x.places.getD (i - 1) 0)) (default:Int)=some (bif c then default else x.places.getD (i - 1) 0):=fun c=>by cases c <;> rfl
  rw [hgd];simp only [Bq0];rw [key _ _ false 0 0 (Yt 0 ha)];unfold Ko;by_cases hp:0 <=x.places.getD i 0∧x.places.getD i 0 < (w.Zv.length:Int)∧(0 < i ->x.places.getD (i - 1) 0 < x.places.getD i 0)∧1 <=x.ZW.getD i 0∧x.ZW.getD i 0 <=30
  ·rw [if_pos hp];obtain⟨a,b,c0,c,d⟩:=hp;have c0:=c0 (by omega);rw [decide_eq_false (show ¬ x.places.getD i 0 < 0 by omega),decide_eq_false (show ¬ x.places.getD i 0 >= (w.Zv.length:Int) by omega),decide_eq_false (show ¬ x.ZW.getD i 0 < 1 by omega),decide_eq_false (show ¬ x.ZW.getD i 0 > 30 by omega)];simp only [Bool.or_self,Cq0,Bool.false_or];rw [decide_eq_false (show ¬ x.places.getD i 0 <=x.places.getD (i - 1) 0 by omega)];rfl
  ·rw [if_neg hp]
   have:(decide (x.places.getD i 0 < 0) || decide (x.places.getD i 0 >= (w.Zv.length:Int)) || decide (x.places.getD i 0 <=bif decide (x.places.getD i 0 < 0) || decide (x.places.getD i 0 >= (w.Zv.length:Int)) then default else x.places.getD (i - 1) 0) || decide (x.ZW.getD i 0 < 1) || decide (x.ZW.getD i 0 > 30))=true:=by
    rcases Int.lt_or_le (x.places.getD i 0) 0 with z | z
    ·rw [decide_eq_true z];simp
    ·rcases Int.lt_or_le (x.places.getD i 0) (w.Zv.length:Int) with z2 | z2
     ·rw [decide_eq_false (show ¬ x.places.getD i 0 < 0 by omega),decide_eq_false (show ¬ x.places.getD i 0 >= (w.Zv.length:Int) by omega)];simp only [Bool.or_self,Cq0,Bool.false_or,Bool.or_eq_true,decide_eq_true_eq];rcases Int.lt_or_le (x.places.getD (i - 1) 0) (x.places.getD i 0) with z5 | z5
      ·rcases Int.lt_or_le (x.ZW.getD i 0) 1 with z3 | z3
       ·exact .inl (.inr z3)
       ·rcases Int.lt_or_le 30 (x.ZW.getD i 0) with z4 | z4
        ·exact .inr z4
        ·exact absurd ⟨z,z2,fun _=>z5,z3,z4⟩ hp
      ·exact .inl (.inl z5)
     ·rw [decide_eq_true (show x.places.getD i 0 >= (w.Zv.length:Int) by omega)];simp
   rw [this];rfl
def ZdF (w:Zb) (m p:Nat):Prop:=0 <= (E w m p).age∧(E w m p).age <=30∧0 <= (E w m p).ZR∧(E w m p).ZR < (w.entries.length:Int)∧((E w m p).here=true↔(E w m p).ZR= (m:Int))
def ZJl (w:Zb) (x:Zc):Prop:=x.kind=3 ->0 <=x.place∧x.place < (w.Zv.length:Int)∧x.at_ ≠ x.ZR
structure ZiE (w:Zb) (x:Zc):Prop where
 to1:0 <=x.ZR
 to2:x.ZR < (w.entries.length:Int)
 YO:Pur x
 UX:Plc w x
 ntd:ZJl w x
structure ShR (w:Zb):Prop where
 Kr:WQ w
 inn:Inn w
 sd1:0 <=w.said
 sd2:w.said <=40
 ent:∀ m,m < w.entries.length ->∀ p,p < w.Zv.length ->ZdF w m p
 Xe:∀ x ∈ w.wire,ZiE w x
theorem Pur.len {x:Zc} (h:Pur x):x.ZW.length=x.places.length:=by
 rcases h with⟨_,_,_,_,a,b⟩ | ⟨_,_,_,_,_,_,a⟩ | ⟨_,_,a,b⟩
 ·rw [a,b]
 ·omega
 ·rw [a,b]
theorem Zl1 {F:Nat} {w:Zb} (hF:1000 <=F) (h8:w.Zv.length <=8) (hr:∀ p:Nat,p < w.Zv.length ->okN w (inn w p)) {p:Nat} (hp:p < w.Zv.length) (next:Int ->Option Bool):
 ((ZN w.Zv (p:Int)).bind fun x25=>loop F (Zhi w (p:Int) next) (x25,0))=open Classical in if(∃ j,j <=w.Zv.length∧up w (j + 1) p= (p:Int)) then some false else next ((p + 1:Nat):Int):=by
 rw [Jg hp];simp only [Bq0]
 have hok:∀ k,okN w (up w k p):=fun k=>by
  induction k with
  | zero=>exact⟨by show(-1:Int) <= (p:Int);omega,by show(p:Int) < _;omega⟩
  | succ k ih=>
    rw [UM];by_cases h2:up w k p < 0
    ·rw [if_pos h2];exact ih
    ·rw [if_neg h2];obtain⟨j,e,hj⟩:=K8 ih h2;rw [e];exact hr j hj
 have e0:(inn w p,(0:Int))= (up w (0 + 1) p,((0:Nat):Int)):=by
  rw [UM];show _= (if((p:Int)) < 0 then _ else _,_);rw [if_neg (by omega)];rfl
 obtain⟨m,hm,hs,hlt⟩:=QD (c:=fun k=>w.Zv.length < k∨up w (k + 1) p < 0∨up w (k + 1) p= (p:Int)) (n:=w.Zv.length + 1) (.inl (by omega))
 have hj:∀ j,j < m ->j <=w.Zv.length∧¬ up w (j + 1) p < 0∧up w (j + 1) p ≠ (p:Int):=fun j hj=>by
  have:=hlt j hj
  exact⟨by rcases Nat.lt_or_ge w.Zv.length j with z | z;· exact absurd (.inl z) this
           ·exact z,fun q=>this (.inr (.inl q)),fun q=>this (.inr (.inr q))⟩
 refine Yd (fun j=>(up w (j + 1) p,(j:Int))) e0.symm (n:=m) (by omega) (fun j hjm nx=>?_) (fun nx=>?_)
 ·obtain⟨a1,a2,a3⟩:=hj j hjm;obtain⟨k,e,hk⟩:=K8 (hok (j + 1)) a2;unfold Zhi;dsimp only;rw [UM w (j + 1),if_neg a2];rw [e] at a3 ⊢;rw [decide_eq_true (show(j:Int) <= (w.Zv.length:Int) by omega),Zdf,Bool.and_self,Cq1,Yq,decide_eq_false a3,Cq0,Jg hk];simp only [Bq0];rw [Yv (by omega)]
 ·unfold Zhi;dsimp only;by_cases h1:w.Zv.length < m
  ·rw [decide_eq_false (show ¬ (m:Int) <= (w.Zv.length:Int) by omega),Bool.false_and,Cq0,Yv (by omega),if_neg];rintro⟨j,q1,q2⟩;exact(hj j (by omega)).2.2 q2
  ·by_cases h2:up w (m + 1) p < 0
   ·rw [decide_eq_false (show ¬ up w (m + 1) p >=0 by omega),Bool.and_false,Cq0,Yv (by omega),if_neg];rintro⟨j,q1,q2⟩;rcases Nat.lt_or_ge j m with z | z
    ·exact(hj j z).2.2 q2
    ·have:=ZaJ h2 (show m + 1 <=j + 1 by omega);omega
   ·have h3:up w (m + 1) p= (p:Int):=by rcases hs with z | z | z <;> first | exact absurd z h1 | exact absurd z h2 | exact z
    rw [decide_eq_true (show(m:Int) <= (w.Zv.length:Int) by omega),h3,Zdf,Bool.and_self,Cq1,Yq,decide_eq_true rfl,Cq1,if_pos ⟨m,by omega,h3⟩]
theorem ZqJ {F:Nat} (hF:1000 <=F) {w:Zb} (sm:WW 900 w):∃ b,ZvI F w=some b∧(b=true↔ShR w):=by
 unfold ZvI;refine Qv (fun hc=>⟨false,rfl,?_⟩) (fun hc=>?_)
 ·simp only [Bool.false_eq_true,false_iff];intro s;have:=s.Kr.m1;have:=s.Kr.m2;have:=s.Kr.p1;have:=s.Kr.p2;have:=s.Kr.bx;have:=s.Kr.hd;have:=s.sd1;have:=s.sd2;simp only [Bool.or_eq_true,decide_eq_true_eq,bne_iff_ne] at hc;omega
 simp only [Bool.or_eq_false_iff,decide_eq_false_iff_not,bne_eq_false_iff_eq] at hc;obtain⟨⟨⟨⟨⟨⟨⟨a1,a2⟩,a3⟩,a4⟩,a5⟩,a6⟩,a7⟩,a8⟩:=hc;refine Jl false (loop F (Zei F w) 0) (fun k=>(k:Int)) rfl (fun k=>¬ okN w (inn w k)) (n:=w.Zv.length) (by omega) (fun k hk=>?_) (fun next=>?_) (fun k hk hc=>?_) (fun hr=>?_)
 ·by_cases ho:okN w (inn w k)
  ·refine .inr ⟨fun next=>?_,fun q=>q ho⟩;have h1:=ho.1;have h2:=ho.2;unfold Zhj;rw [ZF hk,Cq1,Jg hk];simp only [Bq0];rw [decide_eq_false (by omega),decide_eq_false (by omega),Bool.or_self,Cq0,Yv (by omega)]
  ·refine .inl ⟨fun next=>?_,ho⟩;unfold Zhj;rw [ZF hk,Cq1,Jg hk];simp only [Bq0];by_cases h1:inn w (k:Int) < -1
   ·rw [decide_eq_true h1];rfl
   ·rw [decide_eq_true (show inn w (k:Int) >= (w.Zv.length:Int) by
     rcases Int.lt_or_le (inn w (k:Int)) (w.Zv.length:Int) with z | z
     ·exact absurd ⟨by omega,z⟩ ho
     ·exact z),Bool.or_true];rfl
 ·unfold Zhj;rw [ZO];rfl
 ·simp only [Bool.false_eq_true,false_iff];intro s;exact hc (s.inn.rng k hk)
 have hr:∀ p:Nat,p < w.Zv.length ->okN w (inn w p):=fun p hp=>Classical.byContradiction (hr p hp)
 refine Jl false (loop F (ZcD F w) 0) (fun k=>(k:Int)) rfl (fun p=>∃ j,j <=w.Zv.length∧up w (j + 1) p= (p:Int)) (n:=w.Zv.length) (by omega) (fun k hk=>?_) (fun next=>?_) (fun k hk hc=>?_) (fun hac=>?_)
 ·by_cases ho:∃ j,j <=w.Zv.length∧up w (j + 1) k= (k:Int)
  ·refine .inl ⟨fun next=>?_,ho⟩;have:=Zl1 hF (by omega) hr hk next;rw [if_pos ho] at this;unfold Zei;rw [ZF hk,Cq1];exact this
  ·refine .inr ⟨fun next=>?_,ho⟩;have:=Zl1 hF (by omega) hr hk next;rw [if_neg ho] at this;unfold Zei;rw [ZF hk,Cq1];exact this
 ·unfold Zei;rw [ZO];rfl
 ·simp only [Bool.false_eq_true,false_iff];intro s;obtain⟨j,q1,q2⟩:=hc;exact(Zqs hr).1 s.inn.acy k hk j q1 q2
 have ZK7:Inn w:= ⟨hr,(Zqs hr).2 fun p hp j hj q=>hac p hp ⟨j,hj,q⟩⟩
 refine Jl false (loop F (WG F w) 0) (fun k=>(k:Int)) rfl (fun m=>¬ ((row w m).length=w.Zv.length∧∀ p,p < w.Zv.length ->ZdF w m p)) (n:=w.entries.length) (by omega) (fun m hm=>?_) (fun next=>?_) (fun k hk hc=>?_) (fun hen=>?_)
 ·have hx:ZN w.entries (m:Int)=some (row w m):=Yt [] hm;by_cases hl:(row w m).length=w.Zv.length
  ·have hgp:∀ p,p < w.Zv.length ->ZN (row w m) (p:Int)=some (E w m p):=fun p hp=>Yt default (by rw [hl];exact hp)
   have step:∀ next:Int ->Option Bool,∀ p,p < w.Zv.length ->∀ nx,Zeh w (m:Int) next (row w m) (p:Int) nx=open Classical in if ZdF w m p then nx ((p + 1:Nat):Int) else some false:=fun next p hp nx=>by
    unfold Zeh;rw [decide_eq_true (show(p:Int) < ((row w m).length:Int) by omega),Cq1,hgp p hp];simp only [Bq0];by_cases he:ZdF w m p
    ·obtain⟨e1,e2,e3,e4,e5⟩:=he
     have e6:((E w m p).here != ((E w m p).ZR== (m:Int)))=false:=by
      rw [bne_eq_false_iff_eq,Bool.eq_iff_iff,e5,beq_iff_eq]
     rw [if_pos ⟨e1,e2,e3,e4,e5⟩,decide_eq_false (by omega),decide_eq_false (by omega),decide_eq_false (by omega),decide_eq_false (by omega),e6];simp only [Bool.or_self,Cq0];rw [Yv (by omega)]
    ·rw [if_neg he]
     have:(decide ((E w m p).age < 0) || decide ((E w m p).age > 30) || decide ((E w m p).ZR < 0) || decide ((E w m p).ZR >= (w.entries.length:Int)) || ((E w m p).here != ((E w m p).ZR== (m:Int))))=true:=by
      rw [← Bool.not_eq_false];intro hf;simp only [Bool.or_eq_false_iff,decide_eq_false_iff_not,bne_eq_false_iff_eq] at hf;obtain⟨⟨⟨⟨q1,q2⟩,q3⟩,q4⟩,q5⟩:=hf;exact he ⟨by omega,by omega,by omega,by omega,by rw [q5,beq_iff_eq]⟩
     rw [this];rfl
   have body:∀ next nx0,ZcD F w (m:Int) next=loop F (Zeh w (m:Int) next (row w m)) nx0∨nx0 ≠ 0:=fun next nx0=>by
    by_cases h0:nx0=0
    ·subst h0;left;unfold ZcD;rw [ZF hm,Cq1,hx];simp only [Bq0];rw [hl,QJ,Cq0]
    ·exact .inr h0
   by_cases hall:∀ p,p < w.Zv.length ->ZdF w m p
   ·refine .inr ⟨fun next=>?_,fun q=>q ⟨hl,hall⟩⟩;rw [(body next 0).resolve_right (fun q=>q rfl)];refine Yd (fun p=>(p:Int)) rfl (n:=w.Zv.length) (by omega) (fun p hp nx=>?_) (fun nx=>?_)
    ·rw [step next p hp nx,if_pos (hall p hp)]
    ·unfold Zeh;rw [decide_eq_false (by omega),Cq0,Yv (by omega)]
   ·refine .inl ⟨fun next=>?_,fun q=>hall q.2⟩;rw [(body next 0).resolve_right (fun q=>q rfl)];have hz:∃ p,p < w.Zv.length∧¬ ZdF w m p:=Classical.byContradiction fun q=>hall fun p hp=>Classical.byContradiction fun q2=>q ⟨p,hp,q2⟩
    obtain⟨p0,hp0⟩:=hz;obtain⟨p1,_,hp1,hlt⟩:=QD (c:=fun p=>p < w.Zv.length∧¬ ZdF w m p) hp0;refine Yd (fun p=>(p:Int)) rfl (n:=p1) (by omega) (fun p hp nx=>?_) (fun nx=>?_)
    ·rw [step next p (by omega) nx,if_pos (Classical.byContradiction fun q=>hlt p hp ⟨by omega,q⟩)]
    ·rw [step next p1 hp1.1 nx,if_neg hp1.2]
  ·refine .inl ⟨fun next=>?_,fun q=>hl q.1⟩;unfold ZcD;rw [ZF hm,Cq1,hx];simp only [Bq0];rw [Jm,decide_eq_true (by omega)];rfl
 ·unfold ZcD;rw [ZO];rfl
 ·simp only [Bool.false_eq_true,false_iff];intro s;exact hc ⟨s.Kr.len hk,s.ent k hk⟩
 have hen:∀ m,m < w.entries.length ->(row w m).length=w.Zv.length∧∀ p,p < w.Zv.length ->ZdF w m p:=fun m hm=>Classical.byContradiction (hen m hm)
 have ZBk:WQ w:= ⟨by omega,by omega,by omega,by omega,by omega,by omega,fun l hl=>by
  obtain⟨k,hk,rfl⟩:=List.getElem_of_mem hl;have:= (hen k hk).1;unfold row at this
  rwa [List.getD_eq_getElem?_getD,List.getElem?_eq_getElem hk] at this⟩
 refine Jl false (some true) (fun k=>(k:Int)) rfl (fun k=>∃ h:k < w.wire.length,¬ ZiE w w.wire[k]) (n:=w.wire.length) (by have:=sm.wire;omega) (fun k hk=>?_) (fun next=>?_) (fun k hk hc=>?_) (fun hlt=>⟨true,rfl,?_⟩)
 ·have hwl:=sm.wire;have hx:w.wire[k] ∈ w.wire:=List.getElem_mem hk;obtain⟨s1,s2⟩:=sm.Xe _ hx;generalize hX:w.wire[k]=x at *;have hgx:ZN w.wire (k:Int)=some x:=by rw [Xn hk,hX]
  have bad:(∀ next,WG F w (k:Int) next=some false)∧¬ ZiE w x∨(∀ next,WG F w (k:Int) next=next ((k + 1:Nat):Int))∧ZiE w x:=by
   obtain⟨pb,hpb,hpi⟩:=Zta x;by_cases ht:0 <=x.ZR∧x.ZR < (w.entries.length:Int)
   ·have e1:(decide (x.ZR < 0) || decide (x.ZR >= (w.entries.length:Int)))=false:=by
     rw [decide_eq_false (by omega),decide_eq_false (by omega)];rfl
    cases pb with
    | false=>
      have hnp:¬ Pur x:=fun q=>by have:=hpi.2 q;cases this
      refine .inl ⟨fun next=>?_,fun l=>hnp l.YO⟩;unfold WG;rw [ZF hk,Cq1,hgx];simp only [Bq0];rw [e1,Bool.not_false,Yu,hpb];rfl
    | true=>
      have hp:Pur x:=hpi.1 rfl;have hal:=hp.len
      have body:∀ next,WG F w (k:Int) next=loop F (Zeg w (k:Int) next x) 0:=fun next=>by
       unfold WG;rw [ZF hk,Cq1,hgx];simp only [Bq0];rw [e1,Bool.not_false,Yu,hpb];rfl
      have step:∀ (next:Int ->Option Bool) (i:Nat),i < x.places.length ->∀ nx,Zeg w (k:Int) next x (i:Int) nx=open Classical in if Ko w x i then nx ((i + 1:Nat):Int) else some false:=fun next i hi nx=>by
       have:=ZlS w x hi (by omega) s1 false (nx (Xl ((i:Int) + 1)));unfold Zeg;rw [ZF hi,Cq1,this,Yv (by omega)]
      by_cases hpl:Plc w x
      ·have fin:∀ next,WG F w (k:Int) next=bif((x.kind==3) && (((decide (x.place < 0)) || (decide (x.place >= (w.Zv.length:Int)))) || (x.at_==x.ZR))) then some false else next ((k + 1:Nat):Int):=fun next=>by
        rw [body];refine Yd (fun i=>(i:Int)) rfl (n:=x.places.length) (by omega) (fun i hi nx=>?_) (fun nx=>?_)
        ·rw [step next i hi nx,if_pos (hpl i hi)]
        ·unfold Zeg;rw [ZO,Cq0,Yv (by omega)]
       by_cases hn:ZJl w x
       ·refine .inr ⟨fun next=>?_,⟨ht.1,ht.2,hp,hpl,hn⟩⟩;rw [fin]
        have:((x.kind==3) && (((decide (x.place < 0)) || (decide (x.place >= (w.Zv.length:Int)))) || (x.at_==x.ZR)))=false:=by
         by_cases h3:x.kind=3
         ·obtain⟨q1,q2,q3⟩:=hn h3;rw [decide_eq_false (by omega),decide_eq_false (by omega),Yq x.at_,decide_eq_false q3];simp
         ·rw [Yq,decide_eq_false h3];rfl
        rw [this];rfl
       ·refine .inl ⟨fun next=>?_,fun l=>hn l.ntd⟩;rw [fin]
        have:((x.kind==3) && (((decide (x.place < 0)) || (decide (x.place >= (w.Zv.length:Int)))) || (x.at_==x.ZR)))=true:=by
         rw [← Bool.not_eq_false];intro hf;apply hn;intro h3;simp only [Bool.and_eq_false_iff,Bool.or_eq_false_iff,decide_eq_false_iff_not,beq_eq_false_iff_ne] at hf;rcases hf with q | ⟨⟨q1,q2⟩,q3⟩
         ·exact absurd h3 q
         ·exact⟨by omega,by omega,q3⟩
        rw [this];rfl
      ·have hz:∃ i,i < x.places.length∧¬ Ko w x i:=Classical.byContradiction fun q=>hpl fun i hi=>Classical.byContradiction fun q2=>q ⟨i,hi,q2⟩
       obtain⟨i0,hi0⟩:=hz;obtain⟨i1,_,hi1,hlt⟩:=QD (c:=fun i=>i < x.places.length∧¬ Ko w x i) hi0;refine .inl ⟨fun next=>?_,fun l=>hpl l.UX⟩;rw [body];refine Yd (fun i=>(i:Int)) rfl (n:=i1) (by omega) (fun i hi nx=>?_) (fun nx=>?_)
       ·rw [step next i (by omega) nx,if_pos (Classical.byContradiction fun q=>hlt i hi ⟨by omega,q⟩)]
       ·rw [step next i1 hi1.1 nx,if_neg hi1.2]
   ·refine .inl ⟨fun next=>?_,fun l=>ht ⟨l.to1,l.to2⟩⟩
    have e1:(decide (x.ZR < 0) || decide (x.ZR >= (w.entries.length:Int)))=true:=by
     rw [← Bool.not_eq_false];intro hf;simp only [Bool.or_eq_false_iff,decide_eq_false_iff_not] at hf;exact ht ⟨by omega,by omega⟩
    unfold WG;rw [ZF hk,Cq1,hgx];simp only [Bq0];rw [e1,Bool.not_true,Xf];rfl
  rcases bad with⟨b1,b2⟩ | ⟨b1,b2⟩
  ·exact .inl ⟨b1,hk,by rwa [hX]⟩
  ·exact .inr ⟨b1,fun⟨_,q⟩=>by rw [hX] at q;exact q b2⟩
 ·unfold WG;rw [ZO];rfl
 ·simp only [Bool.false_eq_true,false_iff];obtain⟨h,q⟩:=hc;intro s;exact q (s.Xe _ (List.getElem_mem h))
 ·refine⟨fun _=>⟨ZBk,ZK7,by omega,by omega,fun m hm=>(hen m hm).2,fun x hx=>?_⟩,fun _=>rfl⟩;obtain⟨k,hk,rfl⟩:=List.getElem_of_mem hx;exact Classical.byContradiction fun q=>hlt k hk ⟨hk,q⟩
def Zb8 (s:Yl):Xj:= ⟨s.machine,s.age,-1,true⟩
def Zlf (k:Nat) (s:Yl):Xj:= ⟨s.machine,s.age,(k:Int),false⟩
def Zw (w:Zb) (i:Nat):Zc:=w.wire.getD i default
def U4 (w:Zb) (p k:Nat):List Xj:= (List.range k).flatMap fun i=>(Uo (Zw w i) p (Zw w i).places.length).map (Zlf i)
def Qe (w:Zb) (p:Nat):List Xj:= (Y7 w p w.entries.length).map Zb8 ++ U4 w p w.wire.length
def J9 (l:List Xj):Xj:=l.getLastD ⟨0,0,0,false⟩
theorem ZgB (l:List Xj) (x:Xj):J9 (l ++ [x])=x:=by unfold J9;simp
theorem Zf2 (w:Zb) (p k:Nat):U4 w p (k + 1)=U4 w p k ++ (Uo (Zw w k) p (Zw w k).places.length).map (Zlf k):=by
 unfold U4;rw [List.range_succ,List.flatMap_append];simp
theorem ZiJ {w:Zb} {n:Nat} (h:∀ x ∈ w.wire,x.places.length <=n) (p:Nat):∀ k,k <=w.wire.length ->(U4 w p k).length <=n * k
 | 0,_=>by simp [U4]
 | k + 1,hk=>by
   have:=ZiJ h p k (by omega);have h1:=ZcP (Zw w k) p (Zw w k).places.length;have h2:=h (Zw w k) (Yc (by omega));rw [Zf2,List.length_append,List.length_map,Nat.mul_succ];omega
def stR (l:List Xj) (k:Nat):Int×Int×Int×Int×Int×Bool:= ((l.length:Int),(k:Int),(J9 l).at_,(J9 l).age,(J9 l).letter,(J9 l).is)
theorem Zq9 (l:List Xj):Xj.mk (J9 l).at_ (J9 l).age (J9 l).letter (J9 l).is=J9 l:=rfl
theorem Zoc (w:Zb) (p k:Nat):∀ s ∈ Y7 w p k,s.here=true:=fun s hs=>by
 unfold Y7 at hs;obtain⟨m,_,hm⟩:=List.mem_filterMap.1 hs;by_cases h:(E w m p).here=true
 ·rw [if_pos h] at hm;cases hm;rfl
 ·rw [if_neg h] at hm;cases hm
theorem Znu (x:Zc) (p j:Nat):∀ s ∈ Uo x p j,s.here=false:=fun s hs=>by
 unfold Uo at hs;obtain⟨m,_,hm⟩:=List.mem_filterMap.1 hs;by_cases h:x.places.getD m 0= (p:Int)
 ·rw [if_pos h] at hm;cases hm;rfl
 ·rw [if_neg h] at hm;cases hm
theorem ZmC {F:Nat} (hF:1000 <=F) {w:Zb} (s:WQ w) (hv:∀ x ∈ w.wire,x.ZW.length=x.places.length∧x.places.length <=900) (hw:w.wire.length < 900) {p:Nat} (hp:p < w.Zv.length):
 ZoF F w (p:Int)=some (J9 (Qe w p),decide ((Qe w p).length=1)):=by
 have h0:=s.m2;have hh:=ZbL w p w.entries.length
 have hlen:∀ k,k <=w.wire.length ->(U4 w p k).length <=900 * 900:=fun k hk=>by
  have:=ZiJ (fun x hx=>(hv x hx).2) p k hk;exact Nat.le_trans this (by apply Nat.mul_le_mul (Nat.le_refl _);omega)
 have h1:loop F (Zhh F w (p:Int)) (stR ((Y7 w p w.entries.length).map Zb8) 0)=some (J9 (Qe w p),decide ((Qe w p).length=1)):=by
  refine Yd (fun k=>stR ((Y7 w p w.entries.length).map Zb8 ++ U4 w p k) k) (by simp [U4]) (n:=w.wire.length) (by omega) (fun k hk next=>?_) (fun next=>?_)
  ·have hl:=hlen k (by omega);have hgx:ZN w.wire (k:Int)=some (Zw w k):=Yt default hk;have hx:Zw w k ∈ w.wire:=Yc hk;obtain⟨v1,v2⟩:=hv _ hx;rw [Zf2];generalize Zw w k=x at *;have hll:((Y7 w p w.entries.length).map Zb8 ++ U4 w p k).length <=5 + 900 * 900:=by rw [List.length_append,List.length_map];omega
   rw [← List.append_assoc];generalize (Y7 w p w.entries.length).map Zb8 ++ U4 w p k=l at hll ⊢;unfold Zhh;dsimp only [stR];rw [ZF hk,Cq1,hgx];simp only [Bq0];refine Yd (fun j=>stR (l ++ (Uo x p j).map (Zlf k)) j) (by simp [Uo,stR]) (n:=x.places.length) (by omega) (fun j hj ZtF=>?_) (fun ZtF=>?_)
   ·have hl2:=ZcP x p j;rw [ZdK];unfold Zks;dsimp only [stR];rw [ZF hj,Cq1,Yt 0 hj];simp only [Bq0];rw [decide_eq_true (show(j:Int) < (x.ZW.length:Int) by omega),Bool.and_true,Yq,KQ];unfold Zhf;dsimp only;by_cases hq:x.places.getD j 0= (p:Int)
    ·rw [if_pos hq,if_pos hq,Yt 0 (show j < x.ZW.length by omega)];simp only [Bq0];rw [Yv (by rw [List.length_append,List.length_map];omega),Yv (by omega),List.map_append,← List.append_assoc,List.map_cons,List.map_nil,ZgB];simp [Zlf,Int.add_assoc]
    ·rw [if_neg hq,if_neg hq,Yv (by omega),List.append_nil]
   ·unfold Zks;dsimp only [stR];rw [ZO,Cq0,Yv (by omega)]
  ·unfold Zhh;dsimp only [stR];rw [ZO,Cq0,Zq9,Yq];unfold Qe;congr 2;by_cases h:((Y7 w p w.entries.length).map Zb8 ++ U4 w p w.wire.length).length=1
   ·rw [decide_eq_true h,decide_eq_true (by omega)]
   ·rw [decide_eq_false h,decide_eq_false (by omega)]
 unfold ZoF;refine Yd (fun k=>stR ((Y7 w p k).map Zb8) k) (by rfl) (n:=w.entries.length) (by omega) (fun k hk next=>?_) (fun next=>?_)
 ·unfold Zkt;dsimp only [stR];rw [ZF hk,Cq1,s.row hk];simp only [Bq0];rw [s.ent hk hp];simp only [Bq0];have hl:=ZbL w p k;rw [QX];unfold Zhg;dsimp only;cases hE:(E w k p).here with
  | true=>
    simp only [Cq1,if_true];rw [Yv (by rw [List.length_map];omega),Yv (by omega),List.map_append,List.map_cons,List.map_nil,ZgB];simp [Zb8]
  | false=>
    simp only [Cq0];rw [Yv (by omega)];simp
 ·unfold Zkt;dsimp only [stR];rw [ZO];exact h1
def toS (s:Xj):Yl:= ⟨s.at_,s.is,s.age⟩
theorem Zcs {α β:Type} (l:List α) (d:α) (f:α ->List β):(List.range l.length).flatMap (fun i=>f (l.getD i d))=l.flatMap f:=by
 induction l with
 | nil=>rfl
 | cons x l ih=>
   rw [List.length_cons,List.range_succ_eq_map,List.flatMap_cons,List.flatMap_map,List.flatMap_cons];have:(fun a=>f ((x::l).getD a.succ d))=fun a=>f (l.getD a d):=by funext a;simp
   rw [this,ih];rfl
theorem ZpR {w:Zb} (hp:∀ x ∈ w.wire,x.kind=2∨x.places= []) (p:Nat):(Qe w p).map toS=YC w p:=by
 unfold Qe YC U4 XI;rw [List.map_append,List.map_map,List.map_flatMap];congr 1
 ·have:∀ s ∈ Y7 w p w.entries.length,(toS ∘ Zb8) s=id s:=fun s hs=>by
   have:=Zoc w p _ s hs;cases s;simp only [Function.comp,Zb8,toS,id] at this ⊢;rw [this]
  rw [List.map_congr_left this,List.map_id]
 ·rw [← Zcs w.wire default];unfold List.flatMap;congr 1;apply List.map_congr_left;intro i hi;have hx:w.wire.getD i default ∈ w.wire:=Yc (List.mem_range.1 hi);rw [List.map_map];unfold Zw;generalize w.wire.getD i default=x at *
  have h1:∀ s ∈ Uo x p x.places.length,(toS ∘ Zlf i) s=id s:=fun s hs=>by
   have:=Znu x p _ s hs;cases s;simp only [Function.comp,Zlf,toS,id] at this ⊢;rw [this]
  rw [List.map_congr_left h1,List.map_id];unfold UL;rcases hp x hx with h | h
  ·rw [if_pos h]
  ·rw [h];by_cases hk:x.kind=2
   ·rw [if_pos hk]
   ·rw [if_neg hk];simp [Uo]
theorem ZxC {w:Zb} (hp:∀ x ∈ w.wire,x.kind=2∨x.places= []) (p:Nat):toS (J9 (Qe w p))=UG (YC w p):=by
 rw [← ZpR hp];unfold J9 UG;rcases List.eq_nil_or_concat (Qe w p) with h | ⟨l,x,h⟩
 ·rw [h];rfl
 ·rw [h];simp
theorem len_eq {w:Zb} (hp:∀ x ∈ w.wire,x.kind=2∨x.places= []) (p:Nat):(YC w p).length= (Qe w p).length:=by rw [← ZpR hp,List.length_map]
theorem Pur.two {x:Zc} (h:Pur x):x.kind=2∨x.places= []:=by
 rcases h with⟨_,_,_,_,a,b⟩ | ⟨a,_⟩ | ⟨_,_,a,b⟩
 ·exact .inr a
 ·exact .inl a
 ·exact .inr a
theorem ShR.two {w:Zb} (h:ShR w):∀ x ∈ w.wire,x.kind=2∨x.places= []:=fun x hx=>(h.Xe x hx).YO.two
def MvX (w:Zb) (x:Zc):Prop:=x.kind=1∨x.kind=3∨(x.kind=2∧x.places ≠ []∧x.ZW.length=x.places.length∧Plc w x)
theorem ZnS {F:Nat} (hF:1000 <=F) {w:Zb} (sm:WW 900 w):∃ b,Zry F w=some b∧(b=true↔∀ x ∈ w.wire,MvX w x):=by
 unfold Zry;refine Jl false (some true) (fun k=>(k:Int)) rfl (fun k=>∃ h:k < w.wire.length,¬ MvX w w.wire[k]) (n:=w.wire.length) (by have:=sm.wire;omega) (fun k hk=>?_) (fun next=>?_) (fun k hk hc=>?_) (fun hlt=>⟨true,rfl,?_⟩)
 ·have hwl:=sm.wire;have hx:w.wire[k] ∈ w.wire:=List.getElem_mem hk;obtain⟨s1,s2⟩:=sm.Xe _ hx;generalize hX:w.wire[k]=x at *;have hgx:ZN w.wire (k:Int)=some x:=by rw [Xn hk,hX]
  have bad:(∀ next,Kv F w (k:Int) next=some false)∧¬ MvX w x∨(∀ next,Kv F w (k:Int) next=next ((k + 1:Nat):Int))∧MvX w x:=by
   by_cases h1:x.kind=1
   ·refine .inr ⟨fun next=>?_,.inl h1⟩;unfold Kv;rw [ZF hk,Cq1,hgx];simp only [Bq0];rw [h1];show Zaf (k:Int) next ()=_;unfold Zaf;rw [Yv (by omega)]
   ·have b0:∀ next,Kv F w (k:Int) next=ZcB F w (k:Int) next x (x.kind==3):=fun next=>by
     unfold Kv;rw [ZF hk,Cq1,hgx];simp only [Bq0];rw [Yq x.kind 1,decide_eq_false h1];rfl
    by_cases h3:x.kind=3
    ·refine .inr ⟨fun next=>?_,.inr (.inl h3)⟩;rw [b0,h3];show Zaf (k:Int) next ()=_;unfold Zaf;rw [Yv (by omega)]
    ·by_cases h2:x.kind=2
     ·have b1:∀ next,Kv F w (k:Int) next=bif((decide ((x.places.length:Int) < 1)) || ((x.ZW.length:Int) != (x.places.length:Int))) then some false else loop F (ZcC w (k:Int) next x) 0:=fun next=>by
       rw [b0];unfold ZcB;rw [Yq x.kind 3,decide_eq_false h3,Cq0,h2];rfl
      by_cases hl:x.places ≠ []∧x.ZW.length=x.places.length
      ·have hpos:=List.length_pos_iff.2 hl.1
       have b2:∀ next,Kv F w (k:Int) next=loop F (ZcC w (k:Int) next x) 0:=fun next=>by
        rw [b1,decide_eq_false (by omega),Jm,decide_eq_false (by omega)];rfl
       have step:∀ (next:Int ->Option Bool) (i:Nat),i < x.places.length ->∀ nx,ZcC w (k:Int) next x (i:Int) nx=open Classical in if Ko w x i then nx ((i + 1:Nat):Int) else some false:=fun next i hi nx=>by
        have:=ZlS w x hi (by omega) s1 false (nx (Xl ((i:Int) + 1)));unfold ZcC;rw [ZF hi,Cq1,this,Yv (by omega)]
       by_cases hpl:Plc w x
       ·refine .inr ⟨fun next=>?_,.inr (.inr ⟨h2,hl.1,hl.2,hpl⟩)⟩;rw [b2];refine Yd (fun i=>(i:Int)) rfl (n:=x.places.length) (by omega) (fun i hi nx=>?_) (fun nx=>?_)
        ·rw [step next i hi nx,if_pos (hpl i hi)]
        ·unfold ZcC;rw [ZO,Cq0];unfold Zaf;rw [Yv (by omega)]
       ·have hz:∃ i,i < x.places.length∧¬ Ko w x i:=Classical.byContradiction fun q=>hpl fun i hi=>Classical.byContradiction fun q2=>q ⟨i,hi,q2⟩
        obtain⟨i0,hi0⟩:=hz;obtain⟨i1,_,hi1,hlt⟩:=QD (c:=fun i=>i < x.places.length∧¬ Ko w x i) hi0;refine .inl ⟨fun next=>?_,fun l=>?_⟩
        ·rw [b2];refine Yd (fun i=>(i:Int)) rfl (n:=i1) (by omega) (fun i hi nx=>?_) (fun nx=>?_)
         ·rw [step next i (by omega) nx,if_pos (Classical.byContradiction fun q=>hlt i hi ⟨by omega,q⟩)]
         ·rw [step next i1 hi1.1 nx,if_neg hi1.2]
        ·rcases l with q | q | ⟨_,_,_,q⟩
         ·exact h1 q
         ·exact h3 q
         ·exact hpl q
      ·refine .inl ⟨fun next=>?_,fun l=>?_⟩
       ·rw [b1]
        have:((decide ((x.places.length:Int) < 1)) || ((x.ZW.length:Int) != (x.places.length:Int)))=true:=by
         rw [← Bool.not_eq_false];intro hf;simp only [Bool.or_eq_false_iff,decide_eq_false_iff_not,bne_eq_false_iff_eq] at hf;exact hl ⟨List.length_pos_iff.1 (by omega),by omega⟩
        rw [this];rfl
       ·rcases l with q | q | ⟨_,q1,q2,_⟩
        ·exact h1 q
        ·exact h3 q
        ·exact hl ⟨q1,q2⟩
     ·refine .inl ⟨fun next=>?_,fun l=>?_⟩
      ·rw [b0];unfold ZcB;rw [Yq x.kind 3,decide_eq_false h3,Cq0,Yq x.kind 2,decide_eq_false h2];rfl
      ·rcases l with q | q | ⟨q,_⟩
       ·exact h1 q
       ·exact h3 q
       ·exact h2 q
  rcases bad with⟨b1,b2⟩ | ⟨b1,b2⟩
  ·exact .inl ⟨b1,hk,by rwa [hX]⟩
  ·exact .inr ⟨b1,fun⟨_,q⟩=>by rw [hX] at q;exact q b2⟩
 ·unfold Kv;rw [ZO];rfl
 ·simp only [Bool.false_eq_true,false_iff];obtain⟨h,q⟩:=hc;intro s;exact q (s _ (List.getElem_mem h))
 ·refine⟨fun _ x hx=>?_,fun _=>rfl⟩;obtain⟨k,hk,rfl⟩:=List.getElem_of_mem hx;exact Classical.byContradiction fun q=>hlt k hk ⟨hk,q⟩
end Go.Proofs.YtbmbbcaaimehkaaGreat
end
section
namespace Go.Proofs.YtbmbbcaaimehkaaGreat
open Go.Lf
section
variable {β γ:Type} {R:β ->Prop}
theorem Zhr {body:γ ->(γ ->Option β) ->Option β} (r1:Nat ->β) (r2:Option β) {s0:γ} (S:Nat ->γ) (h0:S 0=s0) (c:Nat ->Prop) {n F:Nat} (hF:n < F)
 (hb:∀ k,k < n ->((∀ next,body (S k) next=some (r1 k))∧c k)∨((∀ next,body (S k) next=next (S (k + 1)))∧¬ c k)) (he:∀ next,body (S n) next=r2)
 (h1:∀ k,k < n ->c k ->R (r1 k)) (h2:(∀ k,k < n ->¬ c k) ->∃ b,r2=some b∧R b):∃ b,loop F body s0=some b∧R b:=by
 by_cases hz:∃ k,k < n∧c k
 ·obtain⟨k0,hk0⟩:=hz;obtain⟨m,hm,⟨hmn,hcm⟩,hlt⟩:=QD (c:=fun k=>k < n∧c k) hk0;refine⟨r1 m,Yd S h0 (n:=m) (by omega) (fun k hk=>?_) ?_,h1 m hmn hcm⟩
  ·rcases hb k (by omega) with⟨_,q⟩ | ⟨q,_⟩
   ·exact absurd ⟨by omega,q⟩ (hlt k hk)
   ·exact q
  ·rcases hb m hmn with⟨q,_⟩ | ⟨_,q⟩
   ·exact q
   ·exact absurd hcm q
 ·have hno:∀ k,k < n ->¬ c k:=fun k hk q=>hz ⟨k,hk,q⟩
  obtain⟨b,e,hR⟩:=h2 hno;refine⟨b,?_,hR⟩;rw [← e];exact Yd S h0 hF (fun k hk=>(hb k hk).elim (fun q=>absurd q.2 (hno k hk)) fun q=>q.1) he
end
theorem Zcd {F:Nat} (hF:1000 <=F) {l:List Int} (hl:l.length <=900) (x:Int):∃ b,ZoC F l x=some b∧(b=true↔x ∈ l):=by
 have:∃ k,Zvu F l x=some k∧(0 <=k↔x ∈ l):=by
  unfold Zvu;refine Zhr (fun k=>(k:Int)) (some (-1)) (fun k=>(k:Int)) rfl (fun k=>∃ h:k < l.length,x=l[k]) (n:=l.length) (by omega) (fun k hk=>?_) (fun next=>?_) (fun k hk hc=>?_) (fun hno=>⟨-1,rfl,?_⟩)
  ·by_cases h:x=l[k]
   ·refine .inl ⟨fun next=>?_,hk,h⟩;unfold ZgW;rw [ZF hk,Cq1,Xn hk];simp only [Bq0];rw [Yq,decide_eq_true h];rfl
   ·refine .inr ⟨fun next=>?_,fun⟨_,q⟩=>h q⟩;unfold ZgW;rw [ZF hk,Cq1,Xn hk];simp only [Bq0];rw [Yq,decide_eq_false h,Cq0,Yv (by omega)]
  ·unfold ZgW;rw [ZO];rfl
  ·obtain⟨h,e⟩:=hc;exact⟨fun _=>e ▸ List.getElem_mem h,fun _=>by omega⟩
  ·refine⟨fun q=>absurd q (by omega),fun q=>?_⟩;obtain⟨k,hk,e⟩:=List.getElem_of_mem q;exact absurd ⟨hk,e.symm⟩ (hno k hk)
 obtain⟨k,h1,h2⟩:=this;refine⟨decide (k >=0),?_,?_⟩
 ·unfold ZoC;rw [h1];rfl
 ·rw [decide_eq_true_eq];exact h2
def ZhR (w:Zb) (p q:Int):Prop:=∃ x ∈ w.wire,x.kind=2∧p ∈ x.places∧q ∈ x.places
theorem ZqO {F:Nat} (hF:1000 <=F) {w:Zb} (sm:WW 900 w) (l:List Yl) (p q:Int):∃ b,ZoB F ⟨w,l⟩ p q=some b∧(b=true↔ZhR w p q):=by
 unfold ZoB;have hwl:=sm.wire;refine Zhr (fun _=>true) (some false) (fun k=>(k:Int)) rfl (fun k=>∃ h:k < w.wire.length,(w.wire[k]).kind=2∧p ∈ (w.wire[k]).places∧q ∈ (w.wire[k]).places) (n:=w.wire.length) (by omega) (fun k hk=>?_) (fun next=>?_) (fun k hk hc=>?_) (fun hno=>⟨false,rfl,?_⟩)
 ·have hx:w.wire[k] ∈ w.wire:=List.getElem_mem hk;obtain⟨s1,s2⟩:=sm.Xe _ hx;obtain⟨b1,e1,i1⟩:=Zcd (F:=F) hF (l:=w.wire[k].places) (by omega) p;obtain⟨b2,e2,i2⟩:=Zcd (F:=F) hF (l:=w.wire[k].places) (by omega) q
  have hb:∀ next,ZgY F ⟨w,l⟩ p q (k:Int) next=bif(((w.wire[k].kind==2) && b1) && b2) then some true else next ((k + 1:Nat):Int):=fun next=>by
   unfold ZgY;rw [ZF hk,Cq1,Xn hk];simp only [Bq0];rw [e1,e2];cases h2:(w.wire[k].kind==2)
   ·simp only [Xf,Bq0,Bool.false_and,Cq0];rw [Yv (by omega)]
   ·simp only [Yu,Bq0,Bool.true_and];cases b1
    ·simp only [Xf,Bq0,Bool.false_and,Cq0];rw [Yv (by omega)]
    ·simp only [Yu,Bq0,Bool.true_and];cases b2
     ·simp only [Cq0];rw [Yv (by omega)]
     ·simp only [Cq1];unfold ZgX;rw [Zdf]
  by_cases hc:w.wire[k].kind=2∧p ∈ w.wire[k].places∧q ∈ w.wire[k].places
  ·refine .inl ⟨fun next=>?_,hk,hc⟩;rw [hb,Yq,decide_eq_true hc.1,i1.2 hc.2.1,i2.2 hc.2.2];rfl
  ·refine .inr ⟨fun next=>?_,fun⟨_,z⟩=>hc z⟩;rw [hb]
   have:(((w.wire[k].kind==2) && b1) && b2)=false:=by
    rw [← Bool.not_eq_true];intro z;simp only [Bool.and_eq_true,beq_iff_eq] at z;exact hc ⟨z.1.1,i1.1 z.1.2,i2.1 z.2⟩
   rw [this];rfl
 ·unfold ZgY;rw [ZO];rfl
 ·obtain⟨h,z⟩:=hc;exact⟨fun _=>⟨_,List.getElem_mem h,z⟩,fun _=>rfl⟩
 ·simp only [Bool.false_eq_true,false_iff];rintro⟨x,hx,z⟩;obtain⟨k,hk,rfl⟩:=List.getElem_of_mem hx;exact hno k hk ⟨hk,z⟩
def sp (w:Zb) (p:Nat):Yl:=UG (YC w p)
def spL (w:Zb):List Yl:= (List.range w.Zv.length).map (sp w)
def ZD5 (w:Zb) (p:Nat):Prop:= (YC w p).length=1∧(0 <=inn w p ->(sp w (inn w p).toNat).machine= (sp w p).machine∧(sp w (inn w p).toNat).here= (sp w p).here∧((sp w p).here=false ->ZhR w p (inn w p)))
def spK (w:Zb) (k:Nat):List Yl:= (List.range k).map (sp w) ++ List.replicate (w.Zv.length - k) ⟨0,false,0⟩
theorem Zpr {w:Zb} {k:Nat} (h:k < w.Zv.length):Yz (spK w k) (k:Int) (sp w k)=spK w (k + 1):=by
 unfold Yz spK;rw [Int.toNat_natCast,List.set_append_right _ _ (by simp),List.range_succ,List.map_append,List.append_assoc];congr 1;rw [List.length_map,List.length_range,Nat.sub_self,show w.Zv.length - k= (w.Zv.length - (k + 1)) + 1 by omega,List.replicate_succ,List.set_cons_zero];rfl
theorem Zxl {w:Zb} {k:Nat} (h:k <=w.Zv.length):(spK w k).length=w.Zv.length:=by simp [spK];omega
theorem Zxm (w:Zb):spK w w.Zv.length=spL w:=by simp [spK,spL]
theorem MvX.mvd {w:Zb} (sm:WW 900 w) (h:∀ x ∈ w.wire,MvX w x):Mvd 900 w.wire:=fun x hx hk=>by
 rcases h x hx with q | q | ⟨_,_,q,_⟩
 ·omega
 ·omega
 ·exact⟨q,by have:= (sm.Xe x hx).1;omega⟩
theorem Zh0 {F:Nat} (hF:1000 <=F) (hM:F <=1000000) {w:Zb} (s:WQ w) (hi:Inn w) (sm:WW 900 w) (hv:Mvd 900 w.wire):
 ∃ x,ZvD F ⟨w,List.replicate w.Zv.length ⟨0,false,0⟩⟩=some x∧((x.2=true↔∀ p,p < w.Zv.length ->ZD5 w p)∧(x.2=true ->x.1= ⟨w,spL w⟩)):=by
 have h8:=s.p2;have hwh:∀ p,p < w.Zv.length ->Zik F w (p:Int)=some (sp w p,((YC w p).length:Int)):=fun p hp=>Zf1 hF hM s hv sm.wire hp
 unfold ZvD
 let l1:Nat ->List Yl:=fun k=>if(YC w k).length=1 then spK w (k + 1) else spK w k
 refine Zhr (fun k=>(⟨w,l1 k⟩,false)) (some (⟨w,spL w⟩,true)) (fun k=>((k:Int),spK w k)) (by simp [spK]) (fun k=>¬ ZD5 w k) (n:=w.Zv.length) (by omega) (fun k hk=>?_) (fun next=>?_) (fun k hk hc=>?_) (fun hno=>⟨_,rfl,?_⟩)
 ·have hok:=hi.rng k hk
  have b0:∀ next,Zeb F ⟨w,List.replicate w.Zv.length ⟨0,false,0⟩⟩ ((k:Int),spK w k) next= (bif(((YC w k).length:Int) !=1) then some (⟨w,spK w k⟩,false) else(bif decide (inn w k < 0) then Zbh (k:Int) next (Yz (spK w k) (k:Int) (sp w k)) else(Zik F w (inn w k)).bind fun KX=>(gd ((!((KX.1.machine != (sp w k).machine) || (KX.1.here != (sp w k).here))) && (!(sp w k).here)) (ZoB F ⟨w,Yz (spK w k) (k:Int) (sp w k)⟩ (k:Int) (inn w k)) default).bind fun x44=>(bif(((KX.1.machine != (sp w k).machine) || (KX.1.here != (sp w k).here)) || ((!(sp w k).here) && (!x44))) then some (⟨w,Yz (spK w k) (k:Int) (sp w k)⟩,false) else Zbh (k:Int) next (Yz (spK w k) (k:Int) (sp w k))))):=fun next=>by
   unfold Zeb;dsimp only;rw [ZF hk,Cq1,Jg hk];simp only [Bq0];rw [hwh k hk];simp only [Bq0];rw [Yt ⟨0,false,0⟩ (show k < (spK w k).length by rw [Zxl (by omega)];exact hk)];simp only [Bq0]
  by_cases h1:(YC w k).length=1
  ·have e1:(((YC w k).length:Int) !=1)=false:=by rw [h1];rfl
   have hl1:l1 k=spK w (k + 1):=if_pos h1;have jn:∀ next,Zbh (k:Int) next (spK w (k + 1))=next (((k + 1:Nat):Int),spK w (k + 1)):=fun next=>by unfold Zbh;rw [Yv (by omega)]
   by_cases h2:inn w k < 0
   ·refine .inr ⟨fun next=>?_,fun q=>q ⟨h1,fun z=>by omega⟩⟩;rw [b0,e1,Cq0,decide_eq_true h2,Cq1,Zpr hk,jn]
   ·obtain⟨q,eq,hq⟩:=K8 hok h2;obtain⟨b,hb,hbi⟩:=ZqO hF sm (spK w (k + 1)) (k:Int) (inn w k)
    have b1:∀ next,Zeb F ⟨w,List.replicate w.Zv.length ⟨0,false,0⟩⟩ ((k:Int),spK w k) next=bif((((sp w q).machine != (sp w k).machine) || ((sp w q).here != (sp w k).here)) || ((!(sp w k).here) && (!(bif((!(((sp w q).machine != (sp w k).machine) || ((sp w q).here != (sp w k).here))) && (!(sp w k).here)) then b else default)))) then some (⟨w,spK w (k + 1)⟩,false) else next (((k + 1:Nat):Int),spK w (k + 1)):=fun next=>by
     rw [b0,e1,Cq0,decide_eq_false h2,Cq0,Zpr hk,hb,eq,hwh q hq];simp only [Bq0];have hgd:∀ c:Bool,gd c (some b) (default:Bool)=some (bif c then b else default):=fun c=>by cases c <;> rfl
     rw [hgd];simp only [Bq0];rw [jn]
    have eqn:(inn w k).toNat=q:=by omega
    by_cases ht:(sp w q).machine= (sp w k).machine∧(sp w q).here= (sp w k).here∧((sp w k).here=false ->ZhR w k (inn w k))
    ·refine .inr ⟨fun next=>?_,fun z=>z ⟨h1,fun _=>by rw [eqn];exact ht⟩⟩;rw [b1,ht.1,ht.2.1];simp only [QJ,Bool.or_self,Bool.not_false,Bool.true_and,Bool.false_or];cases hh:(sp w k).here with
     | true=>rfl
     | false=>
       rw [hbi.2 (ht.2.2 hh)];rfl
    ·refine .inl ⟨fun next=>?_,fun z=>ht (by have:=z.2 (by omega);rwa [eqn] at this)⟩;rw [b1,hl1]
     have:((((sp w q).machine != (sp w k).machine) || ((sp w q).here != (sp w k).here)) || ((!(sp w k).here) && (!(bif((!(((sp w q).machine != (sp w k).machine) || ((sp w q).here != (sp w k).here))) && (!(sp w k).here)) then b else default))))=true:=by
      rw [← Bool.not_eq_false];intro hf;rw [Bool.or_eq_false_iff] at hf;obtain⟨hf1,hf2⟩:=hf;rw [hf1] at hf2;rw [Bool.or_eq_false_iff,bne_eq_false_iff_eq,bne_eq_false_iff_eq] at hf1;refine ht ⟨hf1.1,hf1.2,fun hh=>?_⟩;rw [hh] at hf2;simp only [Bool.not_false,Bool.and_self,Cq1,Bool.true_and,Bool.not_eq_false'] at hf2;exact hbi.1 hf2
     rw [this];rfl
  ·refine .inl ⟨fun next=>?_,fun z=>h1 z.1⟩;have hl1:l1 k=spK w k:=if_neg h1;rw [b0,hl1,Jm,decide_eq_true (by omega)];rfl
 ·unfold Zeb;dsimp only;rw [ZO,Cq0,Zxm]
 ·refine⟨?_,fun q=>by cases q⟩;simp only [Bool.false_eq_true,false_iff];intro z;exact hc (z k hk)
 ·exact⟨⟨fun _ p hp=>Classical.byContradiction (hno p hp),fun _=>rfl⟩,fun _=>rfl⟩
def RtX (w:Zb) (p:Nat) (m a:Int):Prop:=0 <=a∧a <= (sp w p).age∧0 <=m∧m < (w.entries.length:Int)∧(a= (sp w p).age ->m= (sp w p).machine)∧(a ≠ (sp w p).age ->a < (E w m.toNat p).age)
instance (w:Zb) (p:Nat) (m a:Int):Decidable (RtX w p m a):=by unfold RtX;infer_instance
theorem Zpq {w:Zb} {p:Nat} (hp:p < w.Zv.length):ZN (spL w) (p:Int)=some (sp w p):=by
 rw [Yt default (by simp [spL];exact hp)];simp [spL,hp]
theorem Zcr {w:Zb} (s:WQ w) {p:Nat} (hp:p < w.Zv.length) (m a:Int):Zkg ⟨w,spL w⟩ (p:Int) m a=some (decide (RtX w p m a)):=by
 unfold Zkg;rw [Zpq hp];simp only [Bq0];unfold Zkf;dsimp only;by_cases h1:0 <=a∧a <= (sp w p).age
 ·rw [decide_eq_false (show ¬ a < 0 by omega),decide_eq_false (show ¬ a > (sp w p).age by omega)];simp only [Bool.or_self,Bool.not_false,Yu,Bq0,Bool.false_or];by_cases h2:0 <=m∧m < (w.entries.length:Int)
  ·rw [decide_eq_true h2.1,decide_eq_true h2.2];simp only [Bool.and_self,Bool.not_true,Cq0];by_cases h3:a= (sp w p).age
   ·rw [Yq,decide_eq_true h3,Cq1,Yq];congr 1;by_cases h4:m= (sp w p).machine
    ·rw [decide_eq_true h4,decide_eq_true (show RtX w p m a from⟨h1.1,h1.2,h2.1,h2.2,fun _=>h4,fun q=>absurd h3 q⟩)]
    ·rw [decide_eq_false h4,decide_eq_false (fun q:RtX w p m a=>h4 (q.2.2.2.2.1 h3))]
   ·obtain⟨k,rfl⟩:∃ k:Nat,m= (k:Int):= ⟨m.toNat,by omega⟩
    rw [Yq,decide_eq_false h3,Cq0,s.row (by omega)];simp only [Bq0];rw [s.ent (by omega) hp];simp only [Bq0];congr 1;by_cases h4:(E w k p).age > a
    ·rw [decide_eq_true h4,decide_eq_true (show RtX w p (k:Int) a from⟨h1.1,h1.2,h2.1,h2.2,fun q=>absurd q h3,fun _=>h4⟩)]
    ·rw [decide_eq_false h4,decide_eq_false (fun q:RtX w p (k:Int) a=>h4 (q.2.2.2.2.2 h3))]
  ·have:(decide (m >=0) && decide (m < (w.entries.length:Int)))=false:=by
    rw [← Bool.not_eq_true];intro z;simp only [Bool.and_eq_true,decide_eq_true_eq] at z;exact h2 z
   rw [this,decide_eq_false (fun q:RtX w p m a=>h2 ⟨q.2.2.1,q.2.2.2.1⟩)];rfl
 ·have:(decide (a < 0) || decide (a > (sp w p).age))=true:=by
   rw [← Bool.not_eq_false];intro z;simp only [Bool.or_eq_false_iff,decide_eq_false_iff_not] at z;exact h1 ⟨by omega,by omega⟩
  rw [this,decide_eq_false (fun q:RtX w p m a=>h1 ⟨q.1,q.2.1⟩)];rfl
end Go.Proofs.YtbmbbcaaimehkaaGreat
end
section
namespace Go.Proofs.YtbmbbcaaimehkaaGreat
open Go.Lf
def Zph (w:Zb) (m p:Nat):Prop:=
 (E w m p= ⟨true,(m:Int),(E w m p).age⟩∧0 <= (E w m p).age∧(E w m p).age <=30)∨
 (E w m p ≠ ⟨true,(m:Int),(E w m p).age⟩∧(E w m p).here=false∧(E w m p).ZR ≠ (m:Int)∧RtX w p (E w m p).ZR (E w m p).age)
theorem ZkK {F:Nat} (hF:1000 <=F) {w:Zb} (s:WQ w):∃ b,Zrx F ⟨w,spL w⟩=some b∧(b=true↔∀ m,m < w.entries.length ->∀ p,p < w.Zv.length ->Zph w m p):=by
 have h5:=s.m2;have h8:=s.p2;unfold Zrx;refine Jl false (some true) (fun k=>(k:Int)) rfl (fun m=>¬ ∀ p,p < w.Zv.length ->Zph w m p) (n:=w.entries.length) (by omega) (fun m hm=>?_) (fun next=>?_) (fun k hk hc=>?_) (fun hno=>⟨true,rfl,fun _ m hm=>Classical.byContradiction (hno m hm),fun _=>rfl⟩)
 ·have b0:∀ next,Zg3 F ⟨w,spL w⟩ (m:Int) next=loop F (Zea ⟨w,spL w⟩ (m:Int) next (row w m)) 0:=fun next=>by
   unfold Zg3;rw [ZF hm,Cq1,s.row hm];rfl
  have step:∀ (next:Int ->Option Bool) (p:Nat),p < w.Zv.length ->∀ nx,Zea ⟨w,spL w⟩ (m:Int) next (row w m) (p:Int) nx=open Classical in if Zph w m p then nx ((p + 1:Nat):Int) else some false:=fun next p hp nx=>by
   unfold Zea;rw [s.len hm,ZF hp,Cq1,s.ent hm hp];simp only [Bq0];have hj:Zd9 (p:Int) nx ()=nx ((p + 1:Nat):Int):=by unfold Zd9;rw [Yv (by omega)]
   by_cases he:E w m p= ⟨true,(m:Int),(E w m p).age⟩
   ·rw [(Zfc _ _).2 he,Cq1];by_cases ha:0 <= (E w m p).age∧(E w m p).age <=30
    ·rw [if_pos (.inl ⟨he,ha⟩),decide_eq_false (by omega),decide_eq_false (by omega),Bool.or_self,Cq0,hj]
    ·have:(decide ((E w m p).age < 0) || decide ((E w m p).age > 30))=true:=by
      rw [← Bool.not_eq_false];intro z;simp only [Bool.or_eq_false_iff,decide_eq_false_iff_not] at z;exact ha ⟨by omega,by omega⟩
     rw [this,if_neg (by rintro(⟨_,q⟩ | ⟨q,_⟩);· exact ha q
                         ·exact q he)];rfl
   ·have e1:J2 (E w m p) ⟨true,(m:Int),(E w m p).age⟩=false:=by rw [← Bool.not_eq_true,Zfc];exact he
    rw [e1,Cq0];by_cases h2:(E w m p).here=false∧(E w m p).ZR ≠ (m:Int)
    ·have e2:((E w m p).here || ((E w m p).ZR== (m:Int)))=false:=by rw [h2.1,Yq,decide_eq_false h2.2];rfl
     rw [e2,Bool.not_false,Yu,Zcr s hp];simp only [Bq0,Bool.false_or];by_cases h3:RtX w p (E w m p).ZR (E w m p).age
     ·rw [decide_eq_true h3,if_pos (.inr ⟨he,h2.1,h2.2,h3⟩),Bool.not_true,Cq0,hj]
     ·rw [decide_eq_false h3,if_neg (by rintro(⟨q,_⟩ | ⟨_,_,_,q⟩);· exact he q
                                        ·exact h3 q)];rfl
    ·have e2:((E w m p).here || ((E w m p).ZR== (m:Int)))=true:=by
      rw [← Bool.not_eq_false];intro z;simp only [Bool.or_eq_false_iff,beq_eq_false_iff_ne] at z;exact h2 z
     rw [e2,if_neg (by rintro(⟨q,_⟩ | ⟨_,q1,q2,_⟩);· exact he q
                       ·exact h2 ⟨q1,q2⟩)];rfl
  by_cases hall:∀ p,p < w.Zv.length ->Zph w m p
  ·refine .inr ⟨fun next=>?_,fun q=>q hall⟩;rw [b0];refine Yd (fun p=>(p:Int)) rfl (n:=w.Zv.length) (by omega) (fun p hp nx=>?_) (fun nx=>?_)
   ·rw [step next p hp nx,if_pos (hall p hp)]
   ·unfold Zea;rw [s.len hm,ZO,Cq0,Yv (by omega)]
  ·refine .inl ⟨fun next=>?_,hall⟩;have hz:∃ p,p < w.Zv.length∧¬ Zph w m p:=Classical.byContradiction fun q=>hall fun p hp=>Classical.byContradiction fun q2=>q ⟨p,hp,q2⟩
   obtain⟨p0,hp0⟩:=hz;obtain⟨p1,_,hp1,hlt⟩:=QD (c:=fun p=>p < w.Zv.length∧¬ Zph w m p) hp0;rw [b0];refine Yd (fun p=>(p:Int)) rfl (n:=p1) (by omega) (fun p hp nx=>?_) (fun nx=>?_)
   ·rw [step next p (by omega) nx,if_pos (Classical.byContradiction fun q=>hlt p hp ⟨by omega,q⟩)]
   ·rw [step next p1 hp1.1 nx,if_neg hp1.2]
 ·unfold Zg3;rw [ZO];rfl
 ·simp only [Bool.false_eq_true,false_iff];intro z;exact hc (z k hk)
def QE (w:Zb) (m:Int) (y:Zj):Prop:=0 <=y.place∧y.place < (w.Zv.length:Int)∧0 <=y.from_∧y.from_ < (w.entries.length:Int)∧RtX w y.place.toNat m y.age∧1 <=y.hops∧y.hops <=Xl (1 + y.age)
theorem ZiT {w:Zb} (s:WQ w) (m:Int) (y:Zj):∃ b,Zrv ⟨w,spL w⟩ m y=some b∧(b=true↔QE w m y):=by
 unfold Zrv Zoy Zkf;simp only [Bq0];by_cases h1:0 <=y.place∧y.place < (w.Zv.length:Int)
 ·obtain⟨p,hp⟩:∃ p:Nat,y.place= (p:Int):= ⟨y.place.toNat,by omega⟩
  have hpl:p < w.Zv.length:=by omega
  rw [hp,decide_eq_true (show(p:Int) >=0 by omega),decide_eq_true (show(p:Int) < (w.Zv.length:Int) by omega)];simp only [Bool.and_self,Yu,Bq0,Bool.true_and];by_cases h2:0 <=y.from_∧y.from_ < (w.entries.length:Int)
  ·rw [decide_eq_true h2.1,decide_eq_true h2.2];simp only [Bool.and_self,Yu,Bq0,Bool.true_and];rw [Zcr s hpl];refine⟨_,rfl,?_⟩;simp only [Bool.and_eq_true,decide_eq_true_eq];unfold QE;rw [hp,Int.toNat_natCast]
   constructor
   ·rintro⟨⟨a,b⟩,c⟩;exact⟨by omega,by omega,h2.1,h2.2,a,b,c⟩
   ·rintro⟨_,_,_,_,a,b,c⟩;exact⟨⟨a,b⟩,c⟩
  ·have:(decide (y.from_ >=0) && decide (y.from_ < (w.entries.length:Int)))=false:=by
    rw [← Bool.not_eq_true];intro z;simp only [Bool.and_eq_true,decide_eq_true_eq] at z;exact h2 z
   rw [this];refine⟨_,rfl,?_⟩;simp only [Bool.false_and,Bool.false_eq_true,false_iff];rintro⟨_,_,a,b,_⟩;exact h2 ⟨a,b⟩
 ·have:(decide (y.place >=0) && decide (y.place < (w.Zv.length:Int)))=false:=by
   rw [← Bool.not_eq_true];intro z;simp only [Bool.and_eq_true,decide_eq_true_eq] at z;exact h1 z
  rw [this];refine⟨_,rfl,?_⟩;simp only [Bool.false_and,Bool.false_eq_true,false_iff];rintro⟨a,b,_⟩;exact h1 ⟨a,b⟩
def ZwC (w:Zb) (x:Zc):Prop:=0 <=x.ZR∧x.ZR < (w.entries.length:Int)∧(x.kind ≠ 2 ->x.places= []∧x.ZW= [])∧
 (x.kind=1 ->QE w x.ZR x.Zu∧x.place=0∧x.at_=0∧x.age=0)∧
 (x.kind=3 ->x.at_ ≠ x.ZR∧0 <=x.place∧x.place < (w.Zv.length:Int)∧RtX w x.place.toNat x.at_ x.age∧x.Zu=ZpP)∧
 (x.kind ≠ 1 ->x.kind ≠ 3 ->x.Zu=ZpP∧x.place=0∧x.at_=0∧x.age=0)
theorem Zl3 {w:Zb} (s:WQ w) {x:Zc} (h9:x.places.length <=900∧x.ZW.length <=900):∃ b,ZvC ⟨w,spL w⟩ x=some b∧(b=true↔ZwC w x):=by
 unfold ZvC Zkf;simp only [Bq0];refine Qv (fun hc=>⟨false,rfl,?_⟩) (fun hc=>?_)
 ·simp only [Bool.false_eq_true,false_iff];rintro⟨a,b,_⟩;rw [decide_eq_true (show x.ZR >=0 from a),decide_eq_true b] at hc;cases hc
 simp only [Bool.not_eq_false',Bool.and_eq_true,decide_eq_true_eq] at hc;refine Qv (fun hc2=>⟨false,rfl,?_⟩) (fun hc2=>?_)
 ·simp only [Bool.false_eq_true,false_iff];rintro⟨_,_,a,_⟩;simp only [Bool.and_eq_true,bne_iff_ne,decide_eq_true_eq] at hc2;obtain⟨a1,a2⟩:=a hc2.1;rw [a1,a2] at hc2;exact absurd hc2.2 (by decide)
 have hk2:x.kind ≠ 2 ->x.places= []∧x.ZW= []:=fun hk=>by
  rw [Jm,decide_eq_true hk,Bool.true_and,decide_eq_false_iff_not,KY (by omega) (by omega)] at hc2;exact⟨List.length_eq_zero_iff.1 (by omega),List.length_eq_zero_iff.1 (by omega)⟩
 have hj:∀ a b c d e f g h,Zd8 x (a,b,c,d,e,f,g,h)=some ((((QZ (Zj.mk a b c d e) x.Zu) && (f==x.place)) && (g==x.at_)) && (h==x.age)):=fun _ _ _ _ _ _ _ _=>rfl
 refine Qv (fun h1=>?_) (fun h1=>?_)
 ·have h1:x.kind=1:=by simpa using h1
  obtain⟨b,hb,hbi⟩:=ZiT s x.ZR x.Zu;rw [hb];simp only [Bq0];refine Qv (fun h2=>⟨false,rfl,?_⟩) (fun h2=>⟨_,hj _ _ _ _ _ _ _ _,?_⟩)
  ·simp only [Bool.false_eq_true,false_iff];rintro⟨_,_,_,a,_⟩;rw [hbi.2 (a h1).1] at h2;cases h2
  ·have h2:QE w x.ZR x.Zu:=hbi.1 (by simpa using h2);simp only [Bool.and_eq_true,WI,beq_iff_eq]
   constructor
   ·rintro⟨⟨⟨_,a⟩,b⟩,c⟩;exact⟨hc.1,hc.2,hk2,fun _=>⟨h2,a.symm,b.symm,c.symm⟩,fun q=>by omega,fun q=>absurd h1 q⟩
   ·rintro⟨_,_,_,a,_⟩;obtain⟨_,a1,a2,a3⟩:=a h1;exact⟨⟨⟨trivial,a1.symm⟩,a2.symm⟩,a3.symm⟩
 have h1:x.kind ≠ 1:=by simpa using h1
 refine Qv (fun h3=>?_) (fun h3=>?_)
 ·have h3:x.kind=3:=by simpa using h3
  unfold Zoy;dsimp only;by_cases hat:x.at_=x.ZR
  ·rw [hat,Yq,decide_eq_true rfl];refine⟨false,rfl,?_⟩;simp only [Bool.false_eq_true,false_iff];rintro⟨_,_,_,_,a,_⟩;exact(a h3).1 hat
  ·rw [Yq,decide_eq_false hat];simp only [Bool.not_false,Yu,Bq0,Bool.false_or];by_cases hp:0 <=x.place∧x.place < (w.Zv.length:Int)
   ·rw [decide_eq_true (show x.place >=0 from hp.1),decide_eq_true hp.2];obtain⟨p,ep⟩:∃ p:Nat,x.place= (p:Int):= ⟨x.place.toNat,by omega⟩
    simp only [Bool.and_self,Bool.not_true,Bool.not_false,Yu,Bool.false_or];rw [show Zkg ⟨w,spL w⟩ x.place x.at_ x.age=some (decide (RtX w x.place.toNat x.at_ x.age)) by rw [ep,Zcr s (by omega),Int.toNat_natCast]];simp only [Bq0];refine Qv (fun h4=>⟨false,rfl,?_⟩) (fun h4=>⟨_,hj _ _ _ _ _ _ _ _,?_⟩)
    ·simp only [Bool.false_eq_true,false_iff];rintro⟨_,_,_,_,a,_⟩;rw [decide_eq_true (a h3).2.2.2.1] at h4;cases h4
    ·have h4:RtX w x.place.toNat x.at_ x.age:=by simpa using h4
     simp only [Bool.and_eq_true,WI,beq_iff_eq]
     constructor
     ·rintro⟨⟨⟨a,_⟩,_⟩,_⟩;exact⟨hc.1,hc.2,hk2,fun q=>absurd q h1,fun _=>⟨hat,hp.1,hp.2,h4,a.symm⟩,fun _ q=>absurd h3 q⟩
     ·rintro⟨_,_,_,_,a,_⟩;exact⟨⟨⟨(a h3).2.2.2.2.symm,trivial⟩,trivial⟩,trivial⟩
   ·have:(decide (x.place >=0) && decide (x.place < (w.Zv.length:Int)))=false:=by
     rw [← Bool.not_eq_true];intro z;simp only [Bool.and_eq_true,decide_eq_true_eq] at z;exact hp z
    rw [this];refine⟨false,rfl,?_⟩;simp only [Bool.false_eq_true,false_iff];rintro⟨_,_,_,_,a,_⟩;exact hp ⟨(a h3).2.1,(a h3).2.2.1⟩
 have h3:x.kind ≠ 3:=by simpa using h3
 refine⟨_,hj _ _ _ _ _ _ _ _,?_⟩;simp only [Bool.and_eq_true,WI,beq_iff_eq]
 constructor
 ·rintro⟨⟨⟨a,b⟩,c⟩,d⟩;exact⟨hc.1,hc.2,hk2,fun q=>absurd q h1,fun q=>absurd q h3,fun _ _=>⟨a.symm,b.symm,c.symm,d.symm⟩⟩
 ·rintro⟨_,_,_,_,_,a⟩;obtain⟨a1,a2,a3,a4⟩:=a h1 h3;exact⟨⟨⟨a1.symm,a2.symm⟩,a3.symm⟩,a4.symm⟩
def QG (l:List Zc):List Int:= (l.filter fun x=>x.kind==1).map fun x=>x.Zu.msg
def Qf (l:List (List Zj)):List Int:=l.flatMap fun x=>x.map fun y=>y.msg
def msgs (w:Zb):List Int:=w.boxes.flatten ++ Qf w.held ++ QG w.wire
theorem ZbM {α:Type} {l:List (List α)} {k:Nat} (h:k < l.length):(l.take (k + 1)).flatten= (l.take k).flatten ++ l[k]:=by
 rw [List.take_add_one,List.getElem?_eq_getElem h,List.flatten_append];simp
theorem Zad {l:List (List Zj)} {k:Nat} (h:k < l.length):Qf (l.take (k + 1))=Qf (l.take k) ++ l[k].map fun y=>y.msg:=by
 unfold Qf;rw [List.take_add_one,List.getElem?_eq_getElem h,List.flatMap_append];simp
theorem Ze2 {l:List Zc} {k:Nat} (h:k < l.length):QG (l.take (k + 1))=QG (l.take k) ++ if l[k].kind=1 then [l[k].Zu.msg] else []:=by
 unfold QG;rw [List.take_add_one,List.getElem?_eq_getElem h,List.filter_append,List.map_append];congr 1;by_cases hk:l[k].kind=1
 ·rw [if_pos hk];simp [hk]
 ·rw [if_neg hk];simp [hk]
theorem Zbg {α:Type} {l:List (List α)} {n:Nat} (h:∀ x ∈ l,x.length <=n):l.flatten.length <=n * l.length:=by
 induction l with
 | nil=>simp
 | cons x l ih=>
   have:=ih fun y hy=>h y (by simp [hy])
   have:=h x (by simp);rw [List.flatten_cons,List.length_append,List.length_cons,Nat.mul_succ];omega
theorem Zri {l:List (List Zj)} {n:Nat} (h:∀ x ∈ l,x.length <=n):(Qf l).length <=n * l.length:=by
 induction l with
 | nil=>simp [Qf]
 | cons x l ih=>
   have:=ih fun y hy=>h y (by simp [hy])
   have:=h x (by simp);unfold Qf at *;rw [List.flatMap_cons,List.length_append,List.length_map,List.length_cons,Nat.mul_succ];omega
theorem ZnX (l:List Zc):(QG l).length <=l.length:=by
 unfold QG;rw [List.length_map];exact List.length_filter_le _ _
theorem ZrU {xs ys:List Int} (h:xs.length + ys.length <=1000000):app 8 xs ys=some (xs ++ ys):=ZkY h (by decide)
structure BdM (w:Zb):Prop where
 b:w.boxes.flatten.length <=160000
 h:(Qf w.held).length <=160000
 m:(QG w.wire).length <=400
theorem BdM.of {w:Zb} (sm:WW 400 w):BdM w:=by
 have h1:=Zbg (n:=400) fun x hx=>Nat.le_of_lt (sm.box x hx)
 have h2:=Zri (n:=400) fun x hx=>Nat.le_of_lt (sm.hel x hx)
 have h3:=ZnX w.wire;have:=sm.boxes;have:=sm.held;have:=sm.wire;exact⟨by omega,by omega,by omega⟩
theorem UN {α:Type} (l:List (List α)) (k:Nat):(l.take k).flatten.length <=l.flatten.length:=by
 have:=congrArg (fun z=>z.flatten.length) (List.take_append_drop k l);simp only [List.flatten_append,List.length_append] at this;omega
theorem Ui (l:List (List Zj)) (k:Nat):(Qf (l.take k)).length <= (Qf l).length:=by
 have:=congrArg (fun z=>(Qf z).length) (List.take_append_drop k l);simp only [Qf,List.flatMap_append,List.length_append] at this ⊢;omega
theorem ZaK (l:List Zc) (k:Nat):(QG (l.take k)).length <= (QG l).length:=by
 have:=congrArg (fun z=>(QG z).length) (List.take_append_drop k l);simp only [QG,List.filter_append,List.map_append,List.length_append] at this ⊢;omega
def JR (l:List Int):List Int:=l.mergeSort fun x y=>decide (x <=y)
theorem ZsN {l:List Int} (h:l.length <=1000000):Zrs l=some (JR l):=by
 unfold Zrs JR;rw [Nat.ble_eq_true_of_le h];rfl
theorem Zcm (l:List Int):(JR l).Perm l:=List.mergeSort_perm _ _
theorem Zjy (l:List Int):(JR l).Pairwise (· <=·):=by
 have:=List.pairwise_mergeSort (le:=fun x y:Int=>decide (x <=y)) (fun a b c h1 h2=>by simp at *;omega) (fun a b=>by simp;omega) l;exact this.imp fun h=>by simpa using h
theorem Zh2 {l l':List Int} (h:l.Perm l') (hs:l'.Pairwise (· <=·)):JR l=l':=
 List.Perm.eq_of_pairwise (le:= (· <=·)) (fun a b _ _ h1 h2=>by omega) (Zjy l) hs ((Zcm l).trans h)
def Y6 (n:Nat):List Int:= (List.range n).map Int.ofNat
theorem Zh3 (n:Nat):(Y6 n).Pairwise (· <=·):=by
 unfold Y6;rw [List.pairwise_map];exact List.pairwise_lt_range.imp fun{a b} h=>by show(a:Int) <= (b:Int);omega
theorem Zgc {n k:Nat} (h:k < n):(Y6 n)[k]? =some (k:Int):=by simp [Y6,h]
theorem XC (n:Nat):(Y6 n).length=n:=by simp [Y6]
theorem ZrF {l:List Int} (h:∀ k (hk:k < l.length),l[k]= (k:Int)):l=Y6 l.length:=by
 apply List.ext_getElem?;intro k;by_cases hk:k < l.length
 ·rw [Zgc hk,List.getElem?_eq_getElem hk,h k hk]
 ·rw [List.getElem?_eq_none (by omega),List.getElem?_eq_none (by rw [XC];omega)]
def ZD6 (w:Zb):Prop:=0 <=w.said∧w.said <=40∧(msgs w).Perm (Y6 w.said.toNat)
theorem Zh7 {F:Nat} (hF:400000 <=F) {w:Zb} (sm:WW 400 w) (l:List Yl):∃ b,Zrw F ⟨w,l⟩=some b∧(b=true↔ZD6 w):=by
 obtain⟨B1,B2,B3⟩:=BdM.of sm;have W1:=sm.boxes;have W2:=sm.held;have W3:=sm.wire;unfold Zrw;refine Qv (fun hc=>⟨false,rfl,?_⟩) (fun hc=>?_)
 ·simp only [Bool.false_eq_true,false_iff];rintro⟨a,b,_⟩;simp only [Bool.or_eq_true,decide_eq_true_eq] at hc;omega
 simp only [Bool.or_eq_false_iff,decide_eq_false_iff_not] at hc
 have h4:∃ b,loop F (Zae ⟨w,l⟩ (JR (msgs w))) 0=some b∧(b=true↔ZD6 w):=by
  have hl:(JR (msgs w)).length= (msgs w).length:= (Zcm _).length_eq;have hl2:(msgs w).length <=320400:=by unfold msgs;rw [List.length_append,List.length_append];omega
  refine Jl false (some (((JR (msgs w)).length:Int)==w.said)) (fun k=>(k:Int)) rfl (fun k=>∃ h:k < (JR (msgs w)).length,(JR (msgs w))[k] ≠ (k:Int)) (n:= (JR (msgs w)).length) (by omega) (fun k hk=>?_) (fun next=>?_) (fun k hk hc=>?_) (fun hno=>⟨_,rfl,?_⟩)
  ·have b0:∀ next,Zae ⟨w,l⟩ (JR (msgs w)) (k:Int) next=bif((JR (msgs w))[k] != (k:Int)) then some false else next (Xl ((k:Int) + 1)):=fun next=>by
    unfold Zae;rw [ZF hk,Cq1,Xn hk];rfl
   by_cases h:(JR (msgs w))[k]= (k:Int)
   ·refine .inr ⟨fun next=>?_,fun⟨_,q⟩=>q h⟩;rw [b0,h,QJ,Cq0,Yv (by omega)]
   ·refine .inl ⟨fun next=>?_,hk,h⟩;rw [b0,Jm,decide_eq_true h];rfl
  ·unfold Zae;rw [ZO];rfl
  ·obtain⟨h,q⟩:=hc;simp only [Bool.false_eq_true,false_iff];rintro⟨_,_,hp⟩;have e:=Zh2 hp (Zh3 _);have hk':k < w.said.toNat:=by rw [e,XC] at h;exact h
   have:(JR (msgs w))[k]? =some (k:Int):=by rw [e];exact Zgc hk'
   rw [List.getElem?_eq_getElem h] at this;exact q (by simpa using this)
  ·have e:=ZrF fun k hk=>Classical.byContradiction fun q=>hno k hk ⟨hk,q⟩
   rw [beq_iff_eq]
   constructor
   ·intro h;refine⟨by omega,by omega,?_⟩;have h2:w.said.toNat= (JR (msgs w)).length:=by omega
    rw [h2,← e];exact(Zcm _).symm
   ·rintro⟨_,_,hp⟩;have:=hp.length_eq;rw [XC] at this;omega
 have h3:loop F (Zg0 F ⟨w,l⟩) (w.boxes.flatten ++ Qf w.held,0)=loop F (Zae ⟨w,l⟩ (JR (msgs w))) 0:=by
  refine Yd (fun k=>(w.boxes.flatten ++ Qf w.held ++ QG (w.wire.take k),(k:Int))) (by simp [QG]) (n:=w.wire.length) (by omega) (fun k hk next=>?_) (fun next=>?_)
  ·have hm:=ZaK w.wire k;have hll:(w.boxes.flatten ++ Qf w.held ++ QG (w.wire.take k)).length <=320400:=by rw [List.length_append,List.length_append];omega
   rw [Ze2 hk];unfold Zg0;dsimp only;rw [ZF hk,Cq1,Xn hk];simp only [Bq0];rw [Yq,KQ];unfold ZgZ;by_cases h1:w.wire[k].kind=1
   ·rw [if_pos h1,if_pos h1,ZrU (by rw [List.length_singleton];omega)];simp only [Bq0];rw [Yv (by omega),← List.append_assoc]
   ·rw [if_neg h1,if_neg h1,Yv (by omega),List.append_nil]
  ·unfold Zg0;dsimp only;rw [ZO,Cq0,List.take_of_length_le (Nat.le_refl _)];show(Zrs (msgs w)).bind _=_;rw [ZsN (by unfold msgs;rw [List.length_append,List.length_append];omega)];rfl
 have h1:loop F (Zg1 F ⟨w,l⟩) (w.boxes.flatten,0)=loop F (Zae ⟨w,l⟩ (JR (msgs w))) 0:=by
  refine Yd (fun k=>(w.boxes.flatten ++ Qf (w.held.take k),(k:Int))) (by simp [Qf]) (n:=w.held.length) (by omega) (fun k hk next=>?_) (fun next=>?_)
  ·have hm:=Ui w.held k;have hm2:=Ui w.held (k + 1);have hrow:=sm.hel _ (List.getElem_mem hk);rw [Zad hk] at hm2;rw [Zad hk];rw [List.length_append,List.length_map] at hm2;unfold Zg1;dsimp only;rw [ZF hk,Cq1,Xn hk];simp only [Bq0];refine Yd (fun j=>(w.boxes.flatten ++ Qf (w.held.take k) ++ (w.held[k].take j).map (fun y=>y.msg),(j:Int))) (by simp) (n:=w.held[k].length) (by omega) (fun j hj nx=>?_) (fun nx=>?_)
   ·unfold Zkm;dsimp only;rw [ZF hj,Cq1,Xn hj];simp only [Bq0];rw [ZrU (by rw [List.length_append,List.length_append,List.length_map,List.length_take,List.length_singleton];omega)];simp only [Bq0];rw [Yv (by omega),List.take_add_one,List.getElem?_eq_getElem hj,List.map_append];simp
   ·unfold Zkm;dsimp only;rw [ZO,Cq0,List.take_of_length_le (Nat.le_refl _),Yv (by omega),List.append_assoc]
  ·unfold Zg1;dsimp only;rw [ZO,Cq0,List.take_of_length_le (Nat.le_refl _)];exact h3
 have h0:loop F (Zg2 F ⟨w,l⟩) ([],0)=loop F (Zae ⟨w,l⟩ (JR (msgs w))) 0:=by
  refine Yd (fun k=>((w.boxes.take k).flatten,(k:Int))) (by simp) (n:=w.boxes.length) (by omega) (fun k hk next=>?_) (fun next=>?_)
  ·have hm:=UN w.boxes k;have hm2:=UN w.boxes (k + 1);rw [ZbM hk,List.length_append] at hm2;rw [ZbM hk];unfold Zg2;dsimp only;rw [ZF hk,Cq1,Xn hk];simp only [Bq0];rw [ZrU (by omega)];simp only [Bq0];rw [Yv (by omega)]
  ·unfold Zg2;dsimp only;rw [ZO,Cq0,List.take_of_length_le (Nat.le_refl _)];exact h1
 rw [h0];exact h4
def ZB (w:Zb) (m:Nat):List Zj:=w.held.getD m []
structure Wd (w:Zb):Prop where
 shr:ShR w
 loc:∀ p,p < w.Zv.length ->(YC w p).length=1
 tog:∀ p,p < w.Zv.length ->0 <=inn w p ->(sp w (inn w p).toNat).machine= (sp w p).machine∧(sp w (inn w p).toNat).here= (sp w p).here∧((sp w p).here=false ->ZhR w p (inn w p))
 ent:∀ m,m < w.entries.length ->∀ p,p < w.Zv.length ->(E w m p).here=false ->RtX w p (E w m p).ZR (E w m p).age
 hel:∀ m,m < w.entries.length ->∀ x ∈ ZB w m,QE w m x∧sp w x.place.toNat= ⟨(m:Int),false,x.age⟩
 mai:∀ x ∈ w.wire,x.kind=1 ->QE w x.ZR x.Zu
 ntd:∀ x ∈ w.wire,x.kind=3 ->RtX w x.place.toNat x.at_ x.age
 msg:(msgs w).Perm (Y6 w.said.toNat)
theorem Zi0 {w:Zb} {p k:Nat} {s:Yl}:s ∈ Y7 w p k↔∃ m,m < k∧(E w m p).here=true∧s= ⟨(m:Int),true,(E w m p).age⟩:=by
 unfold Y7;rw [List.mem_filterMap]
 constructor
 ·rintro⟨m,h1,h2⟩;by_cases h:(E w m p).here=true
  ·rw [if_pos h] at h2;cases h2;exact⟨m,List.mem_range.1 h1,h,rfl⟩
  ·rw [if_neg h] at h2;cases h2
 ·rintro⟨m,h1,h2,rfl⟩;exact⟨m,List.mem_range.2 h1,if_pos h2⟩
theorem KC {x:Zc} {p j:Nat} {s:Yl}:s ∈ Uo x p j↔∃ i,i < j∧x.places.getD i 0= (p:Int)∧s= ⟨x.ZR,false,x.ZW.getD i 0⟩:=by
 unfold Uo;rw [List.mem_filterMap]
 constructor
 ·rintro⟨m,h1,h2⟩;by_cases h:x.places.getD m 0= (p:Int)
  ·rw [if_pos h] at h2;cases h2;exact⟨m,List.mem_range.1 h1,h,rfl⟩
  ·rw [if_neg h] at h2;cases h2
 ·rintro⟨m,h1,h2,rfl⟩;exact⟨m,List.mem_range.2 h1,if_pos h2⟩
theorem Zsu {l:List Zc} {p:Nat} {s:Yl}:s ∈ XI l p↔∃ x ∈ l,x.kind=2∧∃ i,i < x.places.length∧x.places.getD i 0= (p:Int)∧s= ⟨x.ZR,false,x.ZW.getD i 0⟩:=by
 unfold XI;rw [List.mem_flatMap]
 constructor
 ·rintro⟨x,h1,h2⟩;unfold UL at h2;by_cases h:x.kind=2
  ·rw [if_pos h] at h2;exact⟨x,h1,h,KC.1 h2⟩
  ·rw [if_neg h] at h2;cases h2
 ·rintro⟨x,h1,h2,h3⟩;exact⟨x,h1,by unfold UL;rw [if_pos h2];exact KC.2 h3⟩
theorem ZAP {w:Zb} {p:Nat} (h:(YC w p).length=1):YC w p= [sp w p]:=by
 obtain⟨x,e⟩:=List.length_eq_one_iff.1 h;unfold sp UG;rw [e];rfl
theorem ZcT {w:Zb} {p:Nat} (h:(YC w p).length=1):(∃ m,m < w.entries.length∧(E w m p).here=true∧sp w p= ⟨(m:Int),true,(E w m p).age⟩)∨(∃ x ∈ w.wire,x.kind=2∧∃ i,i < x.places.length∧x.places.getD i 0= (p:Int)∧sp w p= ⟨x.ZR,false,x.ZW.getD i 0⟩):=by
 have hm:sp w p ∈ YC w p:=by rw [ZAP h];simp
 unfold YC at hm;rcases List.mem_append.1 hm with q | q
 ·exact .inl (Zi0.1 q)
 ·exact .inr (Zsu.1 q)
structure WdP (w:Zb):Prop where
 Kr:WQ w
 inn:Inn w
 mov:∀ x ∈ w.wire,MvX w x
 tog:∀ p,p < w.Zv.length ->ZD5 w p
 ent:∀ m,m < w.entries.length ->∀ p,p < w.Zv.length ->Zph w m p
 msg:ZD6 w
 Xe:∀ x ∈ w.wire,ZwC w x
 hel:∀ m,m < w.entries.length ->∀ x ∈ ZB w m,QE w m x∧sp w x.place.toNat= ⟨(m:Int),false,x.age⟩
theorem Zw7 {w:Zb}:WdP w↔Wd w:=by
 constructor
 ·intro h
  have ZLj:∀ p,p < w.Zv.length ->(sp w p).age <=30:=fun p hp=>by
   rcases ZcT (h.tog p hp).1 with⟨m,h1,h2,h3⟩ | ⟨x,h1,h2,i,h3,h4,h5⟩
   ·rw [h3];rcases h.ent m h1 p hp with⟨_,_,q⟩ | ⟨_,q,_⟩
    ·exact q
    ·rw [h2] at q;cases q
   ·rw [h5];rcases h.mov x h1 with q | q | ⟨_,_,_,q⟩
    ·omega
    ·omega
    ·exact(q i h3).2.2.2.2
  have ZK0:∀ x ∈ w.wire,ZiE w x:=fun x hx=>by
   have hl:=h.Xe x hx;obtain⟨a1,a2,a3,a4,a5,a6⟩:=hl;rcases h.mov x hx with q | q | ⟨q,q1,q2,q3⟩
   ·obtain⟨b1,b2⟩:=a3 (by omega);obtain⟨_,c1,c2,c3⟩:=a4 q;refine⟨a1,a2,.inl ⟨q,c1,c2,c3,b1,b2⟩,fun i hi=>?_,fun z=>by omega⟩;rw [b1] at hi;simp at hi
   ·obtain⟨b1,b2⟩:=a3 (by omega);obtain⟨c1,c2,c3,c4,c5⟩:=a5 q;refine⟨a1,a2,.inr (.inr ⟨q,c5,b1,b2⟩),fun i hi=>?_,fun _=>⟨c2,c3,c1⟩⟩;rw [b1] at hi;simp at hi
   ·obtain⟨c1,c2,c3,c4⟩:=a6 (by omega) (by omega);exact⟨a1,a2,.inr (.inl ⟨q,c2,c3,c4,c1,q1,q2.symm⟩),q3,fun z=>by omega⟩
  refine⟨⟨h.Kr,h.inn,h.msg.1,h.msg.2.1,fun m hm p hp=>?_,ZK0⟩,fun p hp=>(h.tog p hp).1,fun p hp=>(h.tog p hp).2,fun m hm p hp hh=>?_,h.hel,fun x hx hk=>((h.Xe x hx).2.2.2.1 hk).1,fun x hx hk=>((h.Xe x hx).2.2.2.2.1 hk).2.2.2.1,h.msg.2.2⟩
  ·rcases h.ent m hm p hp with⟨e,q1,q2⟩ | ⟨e,q1,q2,q3⟩
   ·have e1:(E w m p).here=true:=by rw [e]
    have e2:(E w m p).ZR= (m:Int):=by rw [e]
    exact⟨q1,q2,by rw [e2];omega,by rw [e2];omega,fun _=>e2,fun _=>e1⟩
   ·have:=ZLj p hp;refine⟨q3.1,by have:=q3.2.1;omega,q3.2.2.1,q3.2.2.2.1,fun z=>?_,fun z=>absurd z q2⟩;rw [q1] at z;cases z
  ·rcases h.ent m hm p hp with⟨e,q1,q2⟩ | ⟨e,q1,q2,q3⟩
   ·have e1:(E w m p).here=true:=by rw [e]
    rw [hh] at e1;cases e1
   ·exact q3
 ·intro h;refine⟨h.shr.Kr,h.shr.inn,fun x hx=>?_,fun p hp=>⟨h.loc p hp,h.tog p hp⟩,fun m hm p hp=>?_,⟨h.shr.sd1,h.shr.sd2,h.msg⟩,fun x hx=>?_,h.hel⟩
  ·have hl:=h.shr.Xe x hx;rcases hl.YO with⟨q,_⟩ | ⟨q,_,_,_,_,q1,q2⟩ | ⟨q,_⟩
   ·exact .inl q
   ·exact .inr (.inr ⟨q,q1,q2.symm,hl.UX⟩)
   ·exact .inr (.inl q)
  ·obtain⟨a1,a2,a3,a4,a5⟩:=h.shr.ent m hm p hp;cases hh:(E w m p).here with
   | true=>
     have h2:=a5.1 hh;refine .inl ⟨?_,a1,a2⟩;have:E w m p= ⟨(E w m p).here,(E w m p).ZR,(E w m p).age⟩:=rfl;rw [hh,h2] at this;exact this
   | false=>
     have h2:(E w m p).ZR ≠ (m:Int):=fun q=>by have:=a5.2 q;rw [hh] at this;cases this
     refine .inr ⟨fun q=>?_,hh,h2,h.ent m hm p hp hh⟩;have:=congrArg Zx.here q;rw [hh] at this;cases this
  ·have hl:=h.shr.Xe x hx;rcases hl.YO with⟨q,q1,q2,q3,q4,q5⟩ | ⟨q,q1,q2,q3,q4,q5,q6⟩ | ⟨q,q1,q2,q3⟩
   ·exact⟨hl.to1,hl.to2,fun _=>⟨q4,q5⟩,fun _=>⟨h.mai x hx q,q1,q2,q3⟩,fun z=>by omega,fun z=>absurd q z⟩
   ·exact⟨hl.to1,hl.to2,fun z=>absurd q z,fun z=>by omega,fun z=>by omega,fun _ _=>⟨q4,q1,q2,q3⟩⟩
   ·have:=hl.ntd q;exact⟨hl.to1,hl.to2,fun _=>⟨q2,q3⟩,fun z=>by omega,fun _=>⟨this.2.2,this.1,this.2.1,h.ntd x hx q,q1⟩,fun _ z=>absurd q z⟩
theorem ZoR {F:Nat} (hF:400000 <=F) (hM:F <=1000000) {w:Zb} (sm:WW 400 w):∃ e,ZmG F w=some e∧((e=0∨e=2)∧(e=0↔Wd w)):=by
 have sm9:WW 900 w:=sm.mono (by omega);have W3:=sm.wire
 suffices h:∃ e,ZmG F w=some e∧((e=0∨e=2)∧(e=0↔WdP w)) by
  obtain⟨e,h1,h2,h3⟩:=h;exact⟨e,h1,h2,h3.trans Zw7⟩
 have two:¬ WdP w ->((2:Int)=0∨(2:Int)=2)∧((2:Int)=0↔WdP w):=fun h=>⟨.inr rfl,fun q=>absurd q (by decide),fun q=>absurd q h⟩
 unfold ZmG;obtain⟨b1,e1,i1⟩:=ZnI (F:=F) (by omega) w;obtain⟨b2,e2,i2⟩:=ZnS (F:=F) (by omega) sm9;rw [e1];simp only [Bq0];cases b1 with
 | false=>
   simp only [Bool.not_false,Bool.not_true,Xf,Bq0,Bool.true_or,Cq1];exact⟨2,rfl,two fun h=>by have:=i1.2 ⟨h.Kr,h.inn⟩;cases this⟩
 | true=>
   obtain⟨s,hi⟩:=i1.1 rfl;have h8:=s.p2;have h5:=s.m2;rw [e2];simp only [Bool.not_true,Bool.not_false,Yu,Bq0,Bool.false_or];cases b2 with
   | false=>exact⟨2,rfl,two fun h=>by have:=i2.2 h.mov;cases this⟩
   | true=>
     have hmv:=i2.1 rfl;simp only [Bool.not_true,Cq0]
     have hmk:mkL (Yl.mk 0 false 0) 24 (w.Zv.length:Int) (w.Zv.length:Int)=some (List.replicate w.Zv.length ⟨0,false,0⟩):=by
      unfold mkL;rw [decide_eq_true (by omega),decide_eq_true (by omega),Nat.ble_eq_true_of_le (by rw [Int.toNat_natCast];omega),Int.toNat_natCast];rfl
     rw [hmk];simp only [Bq0];obtain⟨x,e3,i3,j3⟩:=Zh0 (F:=F) (by omega) hM s hi sm9 (MvX.mvd sm9 hmv);rw [e3];simp only [Bq0];cases hx:x.2 with
     | false=>
       simp only [Bool.not_false,Bool.not_true,Xf,Bq0,Bool.true_or,Cq1];exact⟨2,rfl,two fun h=>by have:=i3.2 h.tog;rw [hx] at this;cases this⟩
     | true=>
       have ZKT:=i3.1 hx;have hx1:=j3 hx;rw [hx1];obtain⟨b4,e4,i4⟩:=ZkK (F:=F) (by omega) s;obtain⟨b5,e5,i5⟩:=Zh7 (F:=F) (by omega) sm (spL w);rw [e4];simp only [Bool.not_true,Bool.not_false,Yu,Bq0,Bool.false_or];cases b4 with
       | false=>
         simp only [Bool.not_false,Bool.not_true,Xf,Bq0,Bool.true_or,Cq1];exact⟨2,rfl,two fun h=>by have:=i4.2 h.ent;cases this⟩
       | true=>
         have hent:=i4.1 rfl;rw [e5];simp only [Bool.not_true,Bool.not_false,Yu,Bq0,Bool.false_or];cases b5 with
         | false=>exact⟨2,rfl,two fun h=>by have:=i5.2 h.msg;cases this⟩
         | true=>
           have ZK2:=i5.1 rfl;simp only [Bool.not_true,Cq0];refine Jl 2 (loop F (Zel F w x) 0) (fun k=>(k:Int)) rfl (fun k=>∃ h:k < w.wire.length,¬ ZwC w w.wire[k]) (n:=w.wire.length) (by omega) (fun k hk=>?_) (fun next=>?_) (fun k hk hc=>?_) (fun hno=>?_)
           ·obtain⟨b,eb,ib⟩:=Zl3 s (x:=w.wire[k]) ⟨Nat.le_of_lt (sm9.Xe _ (List.getElem_mem hk)).1,Nat.le_of_lt (sm9.Xe _ (List.getElem_mem hk)).2⟩
            have b0:∀ next,Zhl F w x (k:Int) next=bif(!b) then some 2 else next ((k + 1:Nat):Int):=fun next=>by
             unfold Zhl;rw [ZF hk,Cq1,Xn hk];simp only [Bq0];rw [hx1,eb];simp only [Bq0];rw [Yv (by omega)]
            by_cases hl:ZwC w w.wire[k]
            ·refine .inr ⟨fun next=>?_,fun⟨_,q⟩=>q hl⟩;rw [b0,ib.2 hl];rfl
            ·refine .inl ⟨fun next=>?_,hk,hl⟩
             have:b=false:=by cases b;· rfl
                              ·exact absurd (ib.1 rfl) hl
             rw [b0,this];rfl
           ·unfold Zhl;rw [ZO];rfl
           ·obtain⟨h,q⟩:=hc;exact two fun z=>q (z.Xe _ (List.getElem_mem h))
           have hlet:∀ x ∈ w.wire,ZwC w x:=fun y hy=>by
            obtain⟨k,hk,rfl⟩:=List.getElem_of_mem hy;exact Classical.byContradiction fun q=>hno k hk ⟨hk,q⟩
           have ZPR:w.held.length=w.entries.length:=s.hd;refine Jl 2 (some 0) (fun k=>(k:Int)) rfl (fun m=>¬ ∀ x ∈ ZB w m,QE w m x∧sp w x.place.toNat= ⟨(m:Int),false,x.age⟩) (n:=w.held.length) (by omega) (fun m hm=>?_) (fun next=>?_) (fun k hk hc=>?_) (fun hno=>⟨0,rfl,?_⟩)
           ·have hgm:ZN w.held (m:Int)=some (ZB w m):=Yt [] hm;have hlen:(ZB w m).length < 400:=sm.hel _ (Yc hm)
            have b0:∀ next,Zel F w x (m:Int) next=loop F (Zek x (m:Int) next (ZB w m)) 0:=fun next=>by
             unfold Zel;rw [ZF hm,Cq1,hgm];rfl
            have step:∀ (next:Int ->Option Int) (j:Nat) (hj:j < (ZB w m).length),∀ nx,Zek x (m:Int) next (ZB w m) (j:Int) nx=open Classical in if QE w m (ZB w m)[j]∧sp w (ZB w m)[j].place.toNat= ⟨(m:Int),false,(ZB w m)[j].age⟩ then nx ((j + 1:Nat):Int) else some 2:=fun next j hj nx=>by
             obtain⟨b,eb,ib⟩:=ZiT s (m:Int) (ZB w m)[j];unfold Zek;rw [ZF hj,Cq1,Xn hj];simp only [Bq0];rw [hx1,eb];simp only [Bq0];by_cases hml:QE w m (ZB w m)[j]
             ·rw [ib.2 hml];simp only [Bool.not_true,Bool.not_false,Yu];obtain⟨p,hp⟩:∃ p:Nat,(ZB w m)[j].place= (p:Int):= ⟨(ZB w m)[j].place.toNat,by have:=hml.1;omega⟩
              have hpl:p < w.Zv.length:=by have:=hml.2.1;omega
              rw [hp,Zpq hpl];simp only [Bq0,Int.toNat_natCast,Bool.false_or];by_cases hs:sp w p= ⟨(m:Int),false,(ZB w m)[j].age⟩
              ·rw [if_pos ⟨hml,hs⟩,(Zhx _ _).2 hs,Bool.not_true,Cq0,Yv (by omega)]
              ·have:Zdo (sp w p) ⟨(m:Int),false,(ZB w m)[j].age⟩=false:=by rw [← Bool.not_eq_true,Zhx];exact hs
               rw [if_neg (fun q=>hs q.2),this];rfl
             ·have:b=false:=by cases b;· rfl
                               ·exact absurd (ib.1 rfl) hml
              rw [this,if_neg (fun q=>hml q.1)];rfl
            by_cases hall:∀ x ∈ ZB w m,QE w m x∧sp w x.place.toNat= ⟨(m:Int),false,x.age⟩
            ·refine .inr ⟨fun next=>?_,fun q=>q hall⟩;rw [b0];refine Yd (fun p=>(p:Int)) rfl (n:= (ZB w m).length) (by omega) (fun j hj nx=>?_) (fun nx=>?_)
             ·rw [step next j hj nx,if_pos (hall _ (List.getElem_mem hj))]
             ·unfold Zek;rw [ZO,Cq0,Yv (by omega)]
            ·refine .inl ⟨fun next=>?_,hall⟩
             have hz:∃ j,∃ hj:j < (ZB w m).length,¬ (QE w m (ZB w m)[j]∧sp w (ZB w m)[j].place.toNat= ⟨(m:Int),false,(ZB w m)[j].age⟩):=Classical.byContradiction fun q=>hall fun y hy=>by
              obtain⟨j,hj,rfl⟩:=List.getElem_of_mem hy;exact Classical.byContradiction fun q2=>q ⟨j,hj,q2⟩
             obtain⟨j0,hj0⟩:=hz;obtain⟨j1,_,⟨hj1,hb1⟩,hlt⟩:=QD (c:=fun j=>∃ hj:j < (ZB w m).length,¬ (QE w m (ZB w m)[j]∧sp w (ZB w m)[j].place.toNat= ⟨(m:Int),false,(ZB w m)[j].age⟩)) hj0;rw [b0];refine Yd (fun p=>(p:Int)) rfl (n:=j1) (by omega) (fun j hj nx=>?_) (fun nx=>?_)
             ·rw [step next j (by omega) nx,if_pos (Classical.byContradiction fun q=>hlt j hj ⟨by omega,q⟩)]
             ·rw [step next j1 hj1 nx,if_neg hb1]
           ·unfold Zel;rw [ZO];rfl
           ·exact two fun z=>hc (z.hel k (by omega))
           ·exact⟨.inl rfl,fun _=>⟨s,hi,hmv,ZKT,hent,ZK2,hlet,fun m hm=>Classical.byContradiction (hno m (by omega))⟩,fun _=>rfl⟩
def Kq (w:Zb) (p:Nat):Xj:=J9 (Qe w p)
theorem ZiN {w:Zb} (h:∀ x ∈ w.wire,x.kind=2∨x.places= []) (p:Nat):toS (Kq w p)=sp w p:=ZxC h p
theorem ZdU {w:Zb} (s:WQ w) (h2:∀ x ∈ w.wire,x.kind=2∨x.places= []) {p:Nat} (hp:p < w.Zv.length) (m a:Int):Zkr w (p:Int) (Kq w p) m a=some (decide (RtX w p m a)):=by
 have e1:(Kq w p).age= (sp w p).age:=by rw [← ZiN h2];rfl
 have e2:(Kq w p).at_= (sp w p).machine:=by rw [← ZiN h2];rfl
 unfold Zkr;rw [e1,e2];by_cases h1:0 <=a∧a <= (sp w p).age∧0 <=m∧m < (w.entries.length:Int)
 ·obtain⟨a1,a2,a3,a4⟩:=h1;rw [decide_eq_false (show ¬ m < 0 by omega),decide_eq_false (show ¬ m >= (w.entries.length:Int) by omega),decide_eq_false (show ¬ a < 0 by omega),decide_eq_false (show ¬ a > (sp w p).age by omega)];simp only [Bool.or_self,Cq0];by_cases h3:a= (sp w p).age
  ·rw [Yq,decide_eq_true h3,Cq1,Yq];congr 1;by_cases h4:m= (sp w p).machine
   ·rw [decide_eq_true h4.symm,decide_eq_true (show RtX w p m a from⟨a1,a2,a3,a4,fun _=>h4,fun q=>absurd h3 q⟩)]
   ·rw [decide_eq_false (fun q=>h4 q.symm),decide_eq_false (fun q:RtX w p m a=>h4 (q.2.2.2.2.1 h3))]
  ·obtain⟨k,rfl⟩:∃ k:Nat,m= (k:Int):= ⟨m.toNat,by omega⟩
   rw [Yq,decide_eq_false h3,Cq0,s.row (by omega)];simp only [Bq0];rw [s.ent (by omega) hp];simp only [Bq0];congr 1;by_cases h4:(E w k p).age > a
   ·rw [decide_eq_true h4,decide_eq_true (show RtX w p (k:Int) a from⟨a1,a2,a3,a4,fun q=>absurd q h3,fun _=>h4⟩)]
   ·rw [decide_eq_false h4,decide_eq_false (fun q:RtX w p (k:Int) a=>h4 (q.2.2.2.2.2 h3))]
 ·have:(decide (m < 0) || decide (m >= (w.entries.length:Int)) || decide (a < 0) || decide (a > (sp w p).age))=true:=by
   rw [← Bool.not_eq_false];intro z;simp only [Bool.or_eq_false_iff,decide_eq_false_iff_not] at z;exact h1 ⟨by omega,by omega,by omega,by omega⟩
  rw [this,decide_eq_false (fun q:RtX w p m a=>h1 ⟨q.1,q.2.1,q.2.2.1,q.2.2.2.1⟩)];rfl
def K3 (w:Zb):List Xj:= (List.range w.Zv.length).map (Kq w)
theorem ZaN {w:Zb} {p:Nat} (hp:p < w.Zv.length):ZN (K3 w) (p:Int)=some (Kq w p):=by
 rw [Yt default (by simp [K3];exact hp)];simp [K3,hp]
theorem KZ {a:Int} (h1:0 <=a) (h2:a <=30):Xl (a + 1)=a + 1:=KY (by omega) (by omega)
def J5 (w:Zb) (m:Int) (y:Zj) (waits:Bool):Prop:=0 <=y.place∧y.place < (w.Zv.length:Int)∧0 <=y.from_∧y.from_ < (w.entries.length:Int)∧0 <=y.age∧y.age <=30∧1 <=y.hops∧y.hops <=y.age + 1∧
 (waits=true ->sp w y.place.toNat= ⟨m,false,y.age⟩)∧(waits=false ->RtX w y.place.toNat m y.age)
theorem ZlZ {w:Zb} (s:WQ w) (h2:∀ x ∈ w.wire,x.kind=2∨x.places= []) (m:Int) (y:Zj) (wt:Bool):∃ b,ZmF w (K3 w) y m wt=some b∧(b=true↔J5 w m y wt):=by
 unfold ZmF;refine Qv (fun hc=>⟨false,rfl,?_⟩) (fun hc=>?_)
 ·simp only [Bool.false_eq_true,false_iff];rintro⟨a1,a2,a3,a4,a5,a6,a7,a8,_⟩;rw [KZ a5 a6] at hc;simp only [Bool.or_eq_true,decide_eq_true_eq] at hc;omega
 ·simp only [Bool.or_eq_false_iff,decide_eq_false_iff_not] at hc;obtain⟨⟨⟨⟨⟨⟨⟨a1,a2⟩,a3⟩,a4⟩,a5⟩,a6⟩,a7⟩,a8⟩:=hc;rw [KZ (by omega) (by omega)] at a8;obtain⟨p,hp⟩:∃ p:Nat,y.place= (p:Int):= ⟨y.place.toNat,by omega⟩
  have hpl:p < w.Zv.length:=by omega
  rw [hp,ZaN hpl];simp only [Bq0];have es:=ZiN h2 p;refine Qv (fun hw=>⟨_,rfl,?_⟩) (fun hw=>?_)
  ·simp only [Bool.and_eq_true,Bool.not_eq_true',beq_iff_eq];unfold J5;rw [hp,Int.toNat_natCast,← es];unfold toS;rw [Yl.mk.injEq]
   constructor
   ·rintro⟨⟨b1,b2⟩,b3⟩;exact⟨by omega,by omega,by omega,by omega,by omega,by omega,by omega,by omega,fun _=>⟨b2,b1,b3⟩,fun q=>(by rw [hw] at q;cases q)⟩
   ·rintro⟨_,_,_,_,_,_,_,_,b,_⟩;obtain⟨b1,b2,b3⟩:=b hw;exact⟨⟨b2,b1⟩,b3⟩
  ·rw [ZdU s h2 hpl];refine⟨_,rfl,?_⟩;rw [decide_eq_true_eq];unfold J5;rw [hp,Int.toNat_natCast]
   constructor
   ·intro h;exact⟨by omega,by omega,by omega,by omega,by omega,by omega,by omega,by omega,fun q=>(by rw [hw] at q;cases q),fun _=>h⟩
   ·rintro⟨_,_,_,_,_,_,_,_,_,b⟩;exact b hw
theorem ZiV {w:Zb} {p:Nat} (h:(Qe w p).length=1):Qe w p= [Kq w p]:=by
 obtain⟨x,e⟩:=List.length_eq_one_iff.1 h;unfold Kq J9;rw [e];rfl
theorem ZiI {w:Zb} {p k:Nat} {r:Xj}:r ∈ U4 w p k↔∃ j,j < k∧∃ s ∈ Uo (Zw w j) p (Zw w j).places.length,r=Zlf j s:=by
 unfold U4;rw [List.mem_flatMap]
 constructor
 ·rintro⟨j,h1,h2⟩;obtain⟨s,h3,h4⟩:=List.mem_map.1 h2;exact⟨j,List.mem_range.1 h1,s,h3,h4.symm⟩
 ·rintro⟨j,h1,s,h2,h3⟩;exact⟨j,List.mem_range.2 h1,List.mem_map.2 ⟨s,h2,h3.symm⟩⟩
theorem ZdO {w:Zb} {p:Nat} (h:(Qe w p).length=1):((Kq w p).is=true∧(Kq w p).letter=-1)∨((Kq w p).is=false∧∃ k,k < w.wire.length∧(Kq w p).letter= (k:Int)∧(p:Int) ∈ (Zw w k).places):=by
 have hm:Kq w p ∈ Qe w p:=by rw [ZiV h];simp
 unfold Qe at hm;rcases List.mem_append.1 hm with q | q
 ·obtain⟨s,h1,h2⟩:=List.mem_map.1 q;rw [← h2];exact .inl ⟨rfl,rfl⟩
 ·obtain⟨k,h1,s,h2,h3⟩:=ZiI.1 q;obtain⟨i,h4,h5,_⟩:=KC.1 h2;rw [h3];exact .inr ⟨rfl,k,h1,rfl,by rw [← h5];exact Yc h4⟩
theorem ZcU {w:Zb} {p:Nat} (h:(Qe w p).length=1) {k:Nat} (hk:k < w.wire.length) (hp:(p:Int) ∈ (Zw w k).places):(Kq w p).letter= (k:Int):=by
 obtain⟨i,hi,e⟩:=List.getElem_of_mem hp;have e2:(Zw w k).places.getD i 0= (p:Int):=by rw [List.getD_eq_getElem?_getD,List.getElem?_eq_getElem hi];exact e
 have hm:Zlf k ⟨(Zw w k).ZR,false,(Zw w k).ZW.getD i 0⟩ ∈ Qe w p:=by
  unfold Qe;exact List.mem_append_right _ (ZiI.2 ⟨k,hk,_,KC.2 ⟨i,hi,e2,rfl⟩,rfl⟩)
 rw [ZiV h] at hm;rw [← List.mem_singleton.1 hm];rfl
theorem Zls {w:Zb} (h2:∀ x ∈ w.wire,x.kind=2∨x.places= []) {p q:Nat} (hp:(Qe w p).length=1) (hq:(Qe w q).length=1) (e:(Kq w p).is= (Kq w q).is):
 (Kq w p).letter= (Kq w q).letter↔((Kq w p).is=false ->ZhR w p q):=by
 rcases ZdO hp with⟨a1,a2⟩ | ⟨a1,k,hk,a2,a3⟩
 ·rcases ZdO hq with⟨b1,b2⟩ | ⟨b1,j,hj,b2,b3⟩
  ·rw [a1,a2,b2];simp
  ·rw [a1,b1] at e;cases e
 ·rcases ZdO hq with⟨b1,b2⟩ | ⟨b1,j,hj,b2,b3⟩
  ·rw [a1,b1] at e;cases e
  ·have kd:∀ i,i < w.wire.length ->∀ x:Int,x ∈ (Zw w i).places ->(Zw w i).kind=2:=fun i hi x hx=>by
    rcases h2 (Zw w i) (Yc hi) with z | z
    ·exact z
    ·rw [z] at hx;cases hx
   constructor
   ·intro h _;rw [a2,b2] at h;have:k=j:=by omega
    subst this;exact⟨Zw w k,Yc hk,kd k hk _ a3,a3,b3⟩
   ·intro h;obtain⟨x,hx,_,h3,h4⟩:=h a1;obtain⟨i,hi,rfl⟩:=List.getElem_of_mem hx;have ei:w.wire[i]=Zw w i:=by unfold Zw;rw [List.getD_eq_getElem?_getD,List.getElem?_eq_getElem hi];rfl
    rw [ei] at h3 h4;rw [ZcU hp hi h3,ZcU hq hi h4]
theorem ZjT {F:Nat} (hF:400000 <=F) {w:Zb} (sm:WW 400 w):ZvF F w=some (msgs w):=by
 obtain⟨B1,B2,B3⟩:=BdM.of sm;have W1:=sm.boxes;have W2:=sm.held;have W3:=sm.wire
 have h3:loop F (Zhd w) (w.boxes.flatten ++ Qf w.held,0)=some (msgs w):=by
  refine Yd (fun k=>(w.boxes.flatten ++ Qf w.held ++ QG (w.wire.take k),(k:Int))) (by simp [QG]) (n:=w.wire.length) (by omega) (fun k hk next=>?_) (fun next=>?_)
  ·have hm:=ZaK w.wire k;have hll:(w.boxes.flatten ++ Qf w.held ++ QG (w.wire.take k)).length <=320400:=by rw [List.length_append,List.length_append];omega
   rw [Ze2 hk];unfold Zhd;dsimp only;rw [ZF hk,Cq1,Xn hk];simp only [Bq0];rw [Yq,KQ];unfold Zhc;by_cases h1:w.wire[k].kind=1
   ·rw [if_pos h1,if_pos h1,ZrU (by rw [List.length_singleton];omega)];simp only [Bq0];rw [Yv (by omega),← List.append_assoc]
   ·rw [if_neg h1,if_neg h1,Yv (by omega),List.append_nil]
  ·unfold Zhd;dsimp only;rw [ZO,Cq0,List.take_of_length_le (Nat.le_refl _)];rfl
 have h1:loop F (Zhe F w) (w.boxes.flatten,0)=some (msgs w):=by
  refine Yd (fun k=>(w.boxes.flatten ++ Qf (w.held.take k),(k:Int))) (by simp [Qf]) (n:=w.held.length) (by omega) (fun k hk next=>?_) (fun next=>?_)
  ·have hm:=Ui w.held k;have hm2:=Ui w.held (k + 1);have hrow:=sm.hel _ (List.getElem_mem hk);rw [Zad hk] at hm2;rw [Zad hk];rw [List.length_append,List.length_map] at hm2;unfold Zhe;dsimp only;rw [ZF hk,Cq1,Xn hk];simp only [Bq0];refine Yd (fun j=>(w.boxes.flatten ++ Qf (w.held.take k) ++ (w.held[k].take j).map (fun y=>y.msg),(j:Int))) (by simp) (n:=w.held[k].length) (by omega) (fun j hj nx=>?_) (fun nx=>?_)
   ·unfold Zkp;dsimp only;rw [ZF hj,Cq1,Xn hj];simp only [Bq0];rw [ZrU (by rw [List.length_append,List.length_append,List.length_map,List.length_take,List.length_singleton];omega)];simp only [Bq0];rw [Yv (by omega),List.take_add_one,List.getElem?_eq_getElem hj,List.map_append];simp
   ·unfold Zkp;dsimp only;rw [ZO,Cq0,List.take_of_length_le (Nat.le_refl _),Yv (by omega),List.append_assoc]
  ·unfold Zhe;dsimp only;rw [ZO,Cq0,List.take_of_length_le (Nat.le_refl _)];exact h3
 unfold ZvF;refine Yd (fun k=>((w.boxes.take k).flatten,(k:Int))) (by simp) (n:=w.boxes.length) (by omega) (fun k hk next=>?_) (fun next=>?_)
 ·have hm:=UN w.boxes k;have hm2:=UN w.boxes (k + 1);rw [ZbM hk,List.length_append] at hm2;rw [ZbM hk];unfold Zkq;dsimp only;rw [ZF hk,Cq1,Xn hk];simp only [Bq0];rw [ZrU (by omega)];simp only [Bq0];rw [Yv (by omega)]
 ·unfold Zkq;dsimp only;rw [ZO,Cq0,List.take_of_length_le (Nat.le_refl _)];exact h1
def Zb1 (n:Nat) (l:List Int):List Bool:= (List.range n).map fun i:Nat=>decide (((i:Nat):Int) ∈ l)
theorem ZqM {n:Nat} {l:List Int} {x:Int} (h0:0 <=x) (h1:x < (n:Int)):ZN (Zb1 n l) x=some (decide (x ∈ l)):=by
 obtain⟨k,rfl⟩:∃ k:Nat,x= (k:Int):= ⟨x.toNat,by omega⟩
 rw [Yt default (by simp [Zb1];omega)];simp [Zb1,show k < n by omega]
theorem ZqL {n:Nat} {l:List Int} {x:Int} (h0:0 <=x) (h1:x < (n:Int)):Yz (Zb1 n l) x true=Zb1 n (l ++ [x]):=by
 obtain⟨k,rfl⟩:∃ k:Nat,x= (k:Int):= ⟨x.toNat,by omega⟩
 unfold Yz Zb1;rw [Int.toNat_natCast];apply List.ext_getElem?;intro i;rw [List.getElem?_set];by_cases hi:i < n
 ·by_cases e:k=i
  ·subst e;rw [if_pos rfl];simp [hi]
  ·rw [if_neg e];have:((i:Int)= (k:Int))↔False:= ⟨fun q=>e (by omega),False.elim⟩
   simp [hi,this]
 ·by_cases e:k=i
  ·subst e;omega
  ·rw [if_neg e];simp [hi]
theorem Zcu {α:Type} {l:List α}:l.Nodup↔∀ k (h:k < l.length),l[k] ∉ l.take k:=by
 constructor
 ·intro hn k hk hm;obtain⟨j,hj,e⟩:=List.getElem_of_mem hm;rw [List.length_take] at hj;rw [List.getElem_take] at e;have:= (List.getElem_inj hn).1 e;omega
 ·intro h;rw [List.nodup_iff_pairwise_ne] <;> skip
  rw [List.pairwise_iff_getElem];intro i j hi hj hij e;exact h j hj (by rw [← e];exact List.mem_take_iff_getElem.2 ⟨i,by omega,rfl⟩)
theorem Zgg {l:List Int} {n:Nat}:l.Perm (Y6 n)↔l.Nodup∧(∀ x ∈ l,0 <=x∧x < (n:Int))∧l.length=n:=by
 have hn:(Y6 n).Nodup:=by
  unfold Y6;exact List.Pairwise.map _ (fun a b h q=>h (by have:((a:Nat):Int)= ((b:Nat):Int):=q;omega)) List.nodup_range
 constructor
 ·intro h;refine⟨h.nodup_iff.2 hn,fun x hx=>?_,by rw [h.length_eq,XC]⟩;have:=h.mem_iff.1 hx;unfold Y6 at this;obtain⟨k,hk,rfl⟩:=List.mem_map.1 this;have:=List.mem_range.1 hk;exact⟨by show(0:Int) <= (k:Int);omega,by show(k:Int) < _;omega⟩
 ·rintro⟨h1,h2,h3⟩
  have hsub:l ⊆ Y6 n:=fun x hx=>by
   obtain⟨a,b⟩:=h2 x hx;unfold Y6;exact List.mem_map.2 ⟨x.toNat,List.mem_range.2 (by omega),by show((x.toNat:Nat):Int)=x;omega⟩
  have hsub2:Y6 n ⊆ l:=fun x hx=>by
   apply Classical.byContradiction;intro hx2
   have:= (List.nodup_cons.2 ⟨hx2,h1⟩).length_le_of_subset (l₂:=Y6 n) (fun y hy=>by
    rcases List.mem_cons.1 hy with z | z
    ·rw [z];exact hx
    ·exact hsub z)
   rw [List.length_cons,XC] at this;omega
  exact(List.perm_ext_iff_of_nodup h1 hn).2 fun a=>⟨fun h=>hsub h,fun h=>hsub2 h⟩
theorem ZsS {F:Nat} (hF:400000 <=F) {w:Zb} (h0:0 <=w.said) {l:List Int} (hl:l.length <=330000):∃ b,loop F (ZcE w l) (0,List.replicate w.said.toNat false)=some b∧(b=true↔l.Perm (Y6 w.said.toNat)):=by
 rw [Zgg]
 refine Jl false (some ((l.length:Int)==w.said)) (fun k=>((k:Int),Zb1 w.said.toNat (l.take k))) (by
  simp only [List.take_zero];congr 1;unfold Zb1;apply List.ext_getElem?;intro i;by_cases hi:i < w.said.toNat <;> simp [hi]) (fun k=>∃ h:k < l.length,¬ (0 <=l[k]∧l[k] < w.said∧l[k] ∉ l.take k)) (n:=l.length) (by omega) (fun k hk=>?_) (fun next=>?_) (fun k hk hc=>?_) (fun hno=>⟨_,rfl,?_⟩)
 ·by_cases hr:0 <=l[k]∧l[k] < w.said
  ·have hr2:l[k] < (w.said.toNat:Int):=by omega
   have b0:∀ next,ZcE w l ((k:Int),Zb1 w.said.toNat (l.take k)) next=bif decide (l[k] ∈ l.take k) then some false else next (((k + 1:Nat):Int),Zb1 w.said.toNat (l.take (k + 1))):=fun next=>by
    unfold ZcE;dsimp only;rw [ZF hk,Cq1,Xn hk];simp only [Bq0];rw [decide_eq_false (show ¬ l[k] < 0 by omega),decide_eq_false (show ¬ l[k] >=w.said by omega)];simp only [Bool.or_self,Bool.not_false,Yu];rw [ZqM hr.1 hr2];simp only [Bq0,Bool.false_or];rw [ZqL hr.1 hr2,Yv (by omega),List.take_add_one,List.getElem?_eq_getElem hk];rfl
   by_cases hs:l[k] ∈ l.take k
   ·refine .inl ⟨fun next=>?_,hk,fun q=>q.2.2 hs⟩;rw [b0,decide_eq_true hs];rfl
   ·refine .inr ⟨fun next=>?_,fun⟨_,q⟩=>q ⟨hr.1,hr.2,hs⟩⟩;rw [b0,decide_eq_false hs];rfl
  ·refine .inl ⟨fun next=>?_,hk,fun q=>hr ⟨q.1,q.2.1⟩⟩;unfold ZcE;dsimp only;rw [ZF hk,Cq1,Xn hk];simp only [Bq0]
   have:(decide (l[k] < 0) || decide (l[k] >=w.said))=true:=by
    rw [← Bool.not_eq_false];intro z;simp only [Bool.or_eq_false_iff,decide_eq_false_iff_not] at z;exact hr ⟨by omega,by omega⟩
   rw [this];rfl
 ·unfold ZcE;dsimp only;rw [ZO];rfl
 ·obtain⟨h,q⟩:=hc;simp only [Bool.false_eq_true,false_iff];rintro⟨n1,n2,_⟩;have:=n2 _ (List.getElem_mem h);exact q ⟨this.1,by omega,Zcu.1 n1 k h⟩
 ·have hall:∀ k (h:k < l.length),0 <=l[k]∧l[k] < w.said∧l[k] ∉ l.take k:=fun k h=>Classical.byContradiction fun q=>hno k h ⟨h,q⟩
  rw [beq_iff_eq]
  constructor
  ·intro h;refine⟨Zcu.2 fun k hk=>(hall k hk).2.2,fun x hx=>?_,by omega⟩;obtain⟨k,hk,rfl⟩:=List.getElem_of_mem hx;have:=hall k hk;exact⟨this.1,by omega⟩
  ·rintro⟨_,_,h⟩;omega
noncomputable def ifc {α:Sort _} (c:Prop) (a b:α):α:=@ite α c (Classical.propDecidable c) a b
theorem YV {α:Sort _} {c:Prop} (h:c) {a b:α}:ifc c a b=a:=by unfold ifc;exact if_pos h
theorem Y8 {α:Sort _} {c:Prop} (h:¬ c) {a b:α}:ifc c a b=b:=by unfold ifc;exact if_neg h
theorem Jj {β γ:Type} {body:γ ->(γ ->Option β) ->Option β} {r1 r2:Option β} {s0:γ} (S:Nat ->γ) (h0:S 0=s0) (c:Nat ->Prop) {n F:Nat} (hF:n < F)
 (hb:∀ k,k < n ->∀ next,body (S k) next=ifc (c k) (next (S (k + 1))) r1) (he:∀ next,body (S n) next=r2):loop F body s0=ifc (∀ k,k < n ->c k) r2 r1:=by
 by_cases hall:∀ k,k < n ->c k
 ·rw [YV hall];exact Yd S h0 hF (fun k hk next=>by rw [hb k hk,YV (hall k hk)]) he
 ·rw [Y8 hall];have hz:∃ k,k < n∧¬ c k:=Classical.byContradiction fun q=>hall fun p hp=>Classical.byContradiction fun q2=>q ⟨p,hp,q2⟩
  obtain⟨k0,hk0⟩:=hz;obtain⟨m,_,hm,hlt⟩:=QD (c:=fun k=>k < n∧¬ c k) hk0;exact Yd S h0 (n:=m) (by omega) (fun k hk next=>by rw [hb k (by omega),YV (Classical.byContradiction fun q=>hlt k hk ⟨by omega,q⟩)]) (fun next=>by rw [hb m hm.1,Y8 hm.2])
theorem ZtL {α:Type} {z:α} {c:Nat} {a:Int} (h0:0 <=a) (h:c * a.toNat <=100000):mkL z c a a=some (List.replicate a.toNat z):=by
 unfold mkL;have e:Nat.ble (c * a.toNat) 100000=true:=by rw [Nat.ble_eq];exact h
 rw [decide_eq_true h0,decide_eq_true (show a <=a by omega),e];rfl
theorem Zct {c:Prop} {b:Bool} (h:b=true↔c) {β:Type} (x y:β):(bif !b then x else y)=ifc c y x:=by
 cases b with
 | true=>rw [YV (h.1 rfl)];rfl
 | false=>rw [Y8 (fun q=>by have:=h.2 q;cases this)];rfl
def Zni (w:Zb) (p:Nat):Prop:=0 <=inn w p ->(Kq w p).is= (Kq w (inn w p).toNat).is∧(Kq w p).at_= (Kq w (inn w p).toNat).at_∧(Kq w p).letter= (Kq w (inn w p).toNat).letter
def Zse (w:Zb) (m p:Nat):Prop:= (E w m p).here=false ->RtX w p (E w m p).ZR (E w m p).age
def Znf (w:Zb) (x:Zc):Prop:= (x.kind=1 ->J5 w x.ZR x.Zu false)∧(x.kind=3 ->RtX w x.place.toNat x.at_ x.age)
section
variable {F:Nat} {w:Zb}
theorem Zs6 (hF:400000 <=F) (sm:WW 400 w) (h:ShR w):loop F (Zen F w (K3 w)) 0=ifc (∀ k,k < w.wire.length ->Znf w (Zw w k)) (some (decide ((msgs w).Perm (Y6 w.said.toNat)))) (some false):=by
 have W3:=sm.wire;have s:=h.Kr;refine Jj (fun k=>(k:Int)) rfl (fun k=>Znf w (Zw w k)) (n:=w.wire.length) (by omega) (fun k hk next=>?_) (fun next=>?_)
 ·have hl:=h.Xe (Zw w k) (Yc hk);unfold Zen;rw [ZF hk,Cq1,Yt default hk];simp only [Bq0]
  change (gd ((Zw w k).kind==1) (ZmF w (K3 w) (Zw w k).Zu (Zw w k).ZR false) default).bind (fun Zlb=>(gd ((!(((Zw w k).kind==1) && (!Zlb))) && ((Zw w k).kind==3)) (ZN (K3 w) (Zw w k).place) default).bind fun Zla=>(gd ((!(((Zw w k).kind==1) && (!Zlb))) && ((Zw w k).kind==3)) (Zkr w (Zw w k).place Zla (Zw w k).at_ (Zw w k).age) default).bind fun x159=>(bif((((Zw w k).kind==1) && (!Zlb)) || (((Zw w k).kind==3) && (!x159))) then some false else next (Xl ((k:Int) + 1))))=_
  rw [Yv (by omega)];generalize Zw w k=x at hl ⊢;by_cases k1:x.kind=1
  ·obtain⟨b,e,i⟩:=ZlZ s h.two x.ZR x.Zu false;have k3:(x.kind==3)=false:=by rw [beq_eq_false_iff_ne];omega
   rw [show(x.kind==1)=true from beq_iff_eq.2 k1,k3,Yu,e];simp only [Bq0,Bool.true_and,Bool.and_false,Xf,Bool.false_and,Bool.or_false];have hi:b=true↔Znf w x:=i.trans ⟨fun q=>⟨fun _=>q,fun q2=>by omega⟩,fun q=>q.1 k1⟩;exact Zct hi _ _
  ·rw [show(x.kind==1)=false from beq_eq_false_iff_ne.2 k1,Xf];simp only [Bq0,Bool.false_and,Bool.not_false,Bool.true_and,Bool.false_or];by_cases k3:x.kind=3
   ·obtain⟨n1,n2,n3⟩:=hl.ntd k3;obtain⟨p,hp⟩:∃ p:Nat,x.place= (p:Int):= ⟨x.place.toNat,by omega⟩
    have hpl:p < w.Zv.length:=by omega
    rw [show(x.kind==3)=true from beq_iff_eq.2 k3,Yu,hp,ZaN hpl];simp only [Bq0,Yu];rw [ZdU s h.two hpl];simp only [Bq0,Bool.true_and]
    have hi:decide (RtX w p x.at_ x.age)=true↔Znf w x:=by
     rw [decide_eq_true_eq];unfold Znf;rw [hp,Int.toNat_natCast];exact⟨fun q=>⟨fun q2=>absurd q2 k1,fun _=>q⟩,fun q=>q.2 k3⟩
    exact Zct hi _ _
   ·rw [show(x.kind==3)=false from beq_eq_false_iff_ne.2 k3,Xf];simp only [Bq0,Xf,Bool.false_and,Cq0];rw [YV (show Znf w x from⟨fun q=>absurd q k1,fun q=>absurd q k3⟩)]
 ·unfold Zen;rw [ZO,Cq0,ZjT hF sm];simp only [Bq0];have h1:=h.sd1;have h2:=h.sd2;rw [ZtL h1 (by omega)];simp only [Bq0]
  have hm:(msgs w).length <=320400:=by
   obtain⟨B1,B2,B3⟩:=BdM.of sm;unfold msgs;rw [List.length_append,List.length_append];omega
  obtain⟨b,e,i⟩:=ZsS hF h.sd1 (l:=msgs w) (by omega);rw [e];congr 1;by_cases hq:(msgs w).Perm (Y6 w.said.toNat)
  ·rw [decide_eq_true hq];exact i.2 hq
  ·rw [decide_eq_false hq,← Bool.not_eq_true,i];exact hq
theorem Zs7 (hF:400000 <=F) (sm:WW 400 w) (h:ShR w):loop F (Zeo F w) (K3 w,0)=ifc (∀ m,m < w.held.length ->∀ k,k < (ZB w m).length ->J5 w (m:Int) ((ZB w m).getD k default) true) (loop F (Zen F w (K3 w)) 0) (some false):=by
 have W2:=sm.held;have s:=h.Kr;refine Jj (fun m=>(K3 w,(m:Int))) rfl (fun m=>∀ k,k < (ZB w m).length ->J5 w (m:Int) ((ZB w m).getD k default) true) (n:=w.held.length) (by omega) (fun m hm next=>?_) (fun next=>?_)
 ·have hrow:=sm.hel (ZB w m) (Yc hm);unfold Zeo;dsimp only;rw [ZF hm,Cq1,Yt [] hm];simp only [Bq0]
  change loop F (Zho w (m:Int) next (ZB w m)) (K3 w,0)=_
  refine Jj (fun j=>(K3 w,(j:Int))) rfl (fun k=>J5 w (m:Int) ((ZB w m).getD k default) true) (n:= (ZB w m).length) (by omega) (fun j hj nx=>?_) (fun nx=>?_)
  ·unfold Zho;dsimp only;rw [ZF hj,Cq1,Yt default hj];simp only [Bq0];obtain⟨b,e,i⟩:=ZlZ s h.two (m:Int) ((ZB w m).getD j default) true;rw [e];simp only [Bq0];rw [Yv (by omega)];exact Zct i _ _
  ·unfold Zho;dsimp only;rw [ZO,Cq0,Yv (by omega)]
 ·unfold Zeo;dsimp only;rw [ZO,Cq0]
theorem Zxr (hF:400000 <=F) (h:ShR w):loop F (Zep F w (K3 w)) 0=ifc (∀ m,m < w.entries.length ->∀ p,p < w.Zv.length ->Zse w m p) (loop F (Zeo F w) (K3 w,0)) (some false):=by
 have s:=h.Kr;have h5:=s.m2;have h8:=s.p2;refine Jj (fun m=>(m:Int)) rfl (fun m=>∀ p,p < w.Zv.length ->Zse w m p) (n:=w.entries.length) (by omega) (fun m hm next=>?_) (fun next=>?_)
 ·unfold Zep;rw [ZF hm,Cq1,s.row hm];simp only [Bq0];refine Jj (fun p=>(p:Int)) rfl (fun p=>Zse w m p) (n:=w.Zv.length) (by omega) (fun p hp nx=>?_) (fun nx=>?_)
  ·unfold Zkz;rw [s.len hm,ZF hp,Cq1,s.ent hm hp];simp only [Bq0];rw [Yv (by omega)];cases hh:(E w m p).here with
   | true=>
     simp only [Bool.not_true,Xf,Bq0,Bool.false_and,Cq0];rw [YV (show Zse w m p from fun q=>by rw [hh] at q;cases q)]
   | false=>
     simp only [Bool.not_false,Yu,Bool.true_and];rw [ZaN hp];simp only [Bq0];rw [ZdU s h.two hp];simp only [Bq0];exact Zct (show decide (RtX w p (E w m p).ZR (E w m p).age)=true↔Zse w m p from by rw [decide_eq_true_eq];exact⟨fun q _=>q,fun q=>q hh⟩) _ _
  ·unfold Zkz;rw [s.len hm,ZO,Cq0,Yv (by omega)]
 ·unfold Zep;rw [ZO,Cq0]
theorem Zxq (hF:400000 <=F) (h:ShR w):loop F (Zeq F w (K3 w)) 0=ifc (∀ p,p < w.Zv.length ->Zni w p) (loop F (Zep F w (K3 w)) 0) (some false):=by
 have s:=h.Kr;have h5:=s.m2;have h8:=s.p2;refine Jj (fun p=>(p:Int)) rfl (fun p=>Zni w p) (n:=w.Zv.length) (by omega) (fun p hp next=>?_) (fun next=>?_)
 ·unfold Zeq;rw [ZF hp,Cq1,Jg hp];simp only [Bq0];rw [Yv (by omega)];by_cases hi:0 <=inn w p
  ·obtain⟨q,hq⟩:∃ q:Nat,inn w p= (q:Int):= ⟨(inn w p).toNat,by omega⟩
   have hr:= (h.inn.rng p hp).2;have hql:q < w.Zv.length:=by omega
   rw [hq,decide_eq_true (show(q:Int) >=0 by omega),Yu,ZaN hp];simp only [Bq0,Yu];rw [ZaN hql];simp only [Bq0,Bool.true_and]
   have t0:Zni w p↔((Kq w p).is= (Kq w q).is∧(Kq w p).at_= (Kq w q).at_∧(Kq w p).letter= (Kq w q).letter):=by
    unfold Zni;rw [hq,Int.toNat_natCast];exact⟨fun z=>z (by omega),fun z _=>z⟩
   by_cases a1:(Kq w p).is= (Kq w q).is
   ·rw [a1,QJ];simp only [Bool.not_false,Yu,Bq0,Bool.false_or];by_cases a2:(Kq w p).at_= (Kq w q).at_
    ·rw [a2,QJ];simp only [Bool.not_false,Yu,Bq0,Bool.false_or];rw [Jm,KQ];by_cases a3:(Kq w p).letter= (Kq w q).letter
     ·rw [if_neg (fun z=>z a3),YV (t0.2 ⟨a1,a2,a3⟩)]
     ·rw [if_pos a3,Y8 (fun z=>a3 (t0.1 z).2.2)]
    ·rw [Jm,decide_eq_true a2];simp only [Bool.not_true,Xf,Bq0,Bool.true_or,Cq1];rw [Y8 (fun z=>a2 (t0.1 z).2.1)]
   ·have:((Kq w p).is != (Kq w q).is)=true:=bne_iff_ne.2 a1;rw [this];simp only [Bool.not_true,Xf,Bq0,Bool.true_or,Cq1];rw [Y8 (fun z=>a1 (t0.1 z).1)]
  ·rw [decide_eq_false (show ¬ inn w p >=0 by omega)];simp only [Xf,Bq0,Bool.false_and,Cq0];rw [YV (show Zni w p from fun q=>absurd q hi)]
 ·unfold Zeq;rw [ZO,Cq0]
def Zjx (w:Zb) (k:Nat):List Xj:= (List.range k).map (Kq w) ++ List.replicate (w.Zv.length - k) ⟨0,0,0,false⟩
theorem ZsJ {w:Zb} {k:Nat} (h:k < w.Zv.length):Yz (Zjx w k) (k:Int) (Kq w k)=Zjx w (k + 1):=by
 unfold Yz Zjx;rw [Int.toNat_natCast,show w.Zv.length - k= (w.Zv.length - (k + 1)) + 1 by omega,List.replicate_succ,List.set_append_right _ _ (by simp),List.range_succ,List.map_append];simp
theorem ZsK {w:Zb} {k:Nat} (h:k <=w.Zv.length):(Zjx w k).length=w.Zv.length:=by simp [Zjx];omega
theorem ZqV (hF:400000 <=F) (sm:WW 400 w) (h:ShR w):loop F (Zhp F w) (0,List.replicate w.Zv.length ⟨0,0,0,false⟩)=ifc (∀ p,p < w.Zv.length ->(Qe w p).length=1) (loop F (Zeq F w (K3 w)) 0) (some false):=by
 have s:=h.Kr;have h5:=s.m2;have h8:=s.p2;have W:=sm.wire;refine Jj (fun p=>((p:Int),Zjx w p)) (by simp [Zjx]) (fun p=>(Qe w p).length=1) (n:=w.Zv.length) (by omega) (fun p hp next=>?_) (fun next=>?_)
 ·unfold Zhp;dsimp only;rw [ZF hp,Cq1,ZmC (by omega) s (fun x hx=>⟨(h.Xe x hx).YO.len,by have:= (sm.Xe x hx).1;omega⟩) (by omega) hp];simp only [Bq0];rw [Yt default (by rw [ZsK (by omega)];exact hp)];simp only [Bq0];rw [Yv (by omega),show J9 (Qe w p)=Kq w p from rfl,ZsJ hp];exact Zct decide_eq_true_iff _ _
 ·unfold Zhp;dsimp only;rw [ZO,Cq0,show Zjx w w.Zv.length=K3 w from by simp [Zjx,K3]]
end
theorem J5.ZE8 {w:Zb} (hag:∀ p,p < w.Zv.length ->(sp w p).age <=30) {m:Int} {y:Zj}:J5 w m y false↔QE w m y:=by
 unfold J5 QE
 constructor
 ·rintro⟨a1,a2,a3,a4,a5,a6,a7,a8,_,b⟩;exact⟨a1,a2,a3,a4,b rfl,a7,by rw [Int.add_comm,KZ a5 a6];exact a8⟩
 ·rintro⟨a1,a2,a3,a4,b,a7,a8⟩;have h1:=b.1;have h2:=b.2.1;have h3:=hag y.place.toNat (by omega);rw [Int.add_comm,KZ (by omega) (by omega)] at a8;exact⟨a1,a2,a3,a4,by omega,by omega,a7,a8,fun q=>(by cases q),fun _=>b⟩
theorem J5.ZE9 {w:Zb} (hag:∀ p,p < w.Zv.length ->(sp w p).age <=30) {m:Nat} (hm:m < w.entries.length) {y:Zj}:J5 w (m:Int) y true↔QE w (m:Int) y∧sp w y.place.toNat= ⟨(m:Int),false,y.age⟩:=by
 constructor
 ·rintro⟨a1,a2,a3,a4,a5,a6,a7,a8,b,_⟩;have e:=b rfl;refine⟨⟨a1,a2,a3,a4,⟨a5,by rw [e];exact Int.le_refl _,by omega,by omega,fun _=>by rw [e],fun q=>?_⟩,a7,by rw [Int.add_comm,KZ a5 a6];exact a8⟩,e⟩;rw [e] at q;exact absurd rfl q
 ·rintro⟨⟨a1,a2,a3,a4,b,a7,a8⟩,e⟩;have h1:=b.1;have h2:=b.2.1;have h3:=hag y.place.toNat (by omega);rw [Int.add_comm,KZ (by omega) (by omega)] at a8;exact⟨a1,a2,a3,a4,by omega,by omega,a7,a8,fun _=>e,fun q=>(by cases q)⟩
theorem ZaM {w:Zb} (h:ShR w) {p:Nat} (hp:p < w.Zv.length) (hl:(YC w p).length=1):(sp w p).age <=30:=by
 rcases ZcT hl with⟨m,h1,h2,h3⟩ | ⟨x,h1,h2,i,h3,h4,h5⟩
 ·rw [h3];exact(h.ent m h1 p hp).2.1
 ·rw [h5];exact((h.Xe x h1).UX i h3).2.2.2.2
theorem Znh {w:Zb} (h:ShR w) (hl:∀ p,p < w.Zv.length ->(Qe w p).length=1) {p:Nat} (hp:p < w.Zv.length):Zni w p↔(0 <=inn w p ->(sp w (inn w p).toNat).machine= (sp w p).machine∧(sp w (inn w p).toNat).here= (sp w p).here∧((sp w p).here=false ->ZhR w p (inn w p))):=by
 unfold Zni;by_cases hi:0 <=inn w p
 ·obtain⟨q,hq⟩:∃ q:Nat,inn w p= (q:Int):= ⟨(inn w p).toNat,by omega⟩
  have hr:= (h.inn.rng p hp).2;have hql:q < w.Zv.length:=by omega
  rw [hq,Int.toNat_natCast,← ZiN h.two p,← ZiN h.two q];unfold toS;have same:=fun e=>Zls h.two (hl p hp) (hl q hql) e
  constructor
  ·intro z _;obtain⟨a,b,c⟩:=z (by omega);exact⟨b.symm,a.symm,(same a).1 c⟩
  ·intro z _;obtain⟨a,b,c⟩:=z (by omega);exact⟨b.symm,a.symm,(same b.symm).2 c⟩
 ·exact⟨fun _ q=>absurd q hi,fun _ q=>absurd q hi⟩
theorem Zgt {w:Zb} {P:Zc ->Prop}:(∀ k,k < w.wire.length ->P (Zw w k))↔∀ x ∈ w.wire,P x:=by
 constructor
 ·intro h x hx;obtain⟨i,hi,rfl⟩:=List.getElem_of_mem hx;have:=h i hi;unfold Zw at this
  rwa [List.getD_eq_getElem?_getD,List.getElem?_eq_getElem hi] at this
 ·intro h k hk;exact h _ (Yc hk)
theorem Ut {α:Type} {l:List α} {d:α} {P:α ->Prop}:(∀ k,k < l.length ->P (l.getD k d))↔∀ x ∈ l,P x:=by
 constructor
 ·intro h x hx;obtain⟨i,hi,rfl⟩:=List.getElem_of_mem hx;have:=h i hi
  rwa [List.getD_eq_getElem?_getD,List.getElem?_eq_getElem hi] at this
 ·intro h k hk;exact h _ (Yc hk)
theorem ZiF {F:Nat} (hF:400000 <=F) {w:Zb} (sm:WW 400 w):∃ b,ZkA F w=some b∧(b=true↔Wd w):=by
 have sm9:WW 900 w:=sm.mono (by omega);obtain⟨b,e,i⟩:=ZqJ (F:=F) (by omega) sm9;unfold ZkA;rw [e];simp only [Bq0];rw [Zct i];by_cases h:ShR w
 ·rw [YV h];have hz:=h.Kr.p2;rw [ZtL (by omega) (by rw [Int.toNat_natCast];omega),Int.toNat_natCast];simp only [Bq0];rw [ZqV hF sm h,Zxq hF h,Zxr hF h,Zs7 hF sm h,Zs6 hF sm h];by_cases h1:∀ p,p < w.Zv.length ->(Qe w p).length=1
  ·have h1P:∀ p,p < w.Zv.length ->(YC w p).length=1:=fun p hp=>by rw [len_eq h.two];exact h1 p hp
   have hag:∀ p,p < w.Zv.length ->(sp w p).age <=30:=fun p hp=>ZaM h hp (h1P p hp)
   rw [YV h1];by_cases h2:∀ p,p < w.Zv.length ->Zni w p
   ·rw [YV h2];by_cases h3:∀ m,m < w.entries.length ->∀ p,p < w.Zv.length ->Zse w m p
    ·rw [YV h3];have hhd:=h.Kr.hd;by_cases h4:∀ m,m < w.held.length ->∀ k,k < (ZB w m).length ->J5 w (m:Int) ((ZB w m).getD k default) true
     ·rw [YV h4];by_cases h5:∀ k,k < w.wire.length ->Znf w (Zw w k)
      ·rw [YV h5];refine⟨_,rfl,?_⟩;rw [decide_eq_true_eq];have h5':= (Zgt (P:=Znf w)).1 h5
       constructor
       ·intro h6;exact⟨h,h1P,fun p hp=>(Znh h h1 hp).1 (h2 p hp),h3,fun m hm x hx=>(J5.ZE9 hag hm).1 ((Ut (P:=fun x=>J5 w (m:Int) x true)).1 (h4 m (by omega)) x hx),fun x hx hk=>(J5.ZE8 hag).1 ((h5' x hx).1 hk),fun x hx hk=>(h5' x hx).2 hk,h6⟩
       ·intro h6;exact h6.msg
      ·rw [Y8 h5];refine⟨_,rfl,?_⟩;simp only [Bool.false_eq_true,false_iff];intro z;exact h5 (Zgt.2 fun x hx=>⟨fun q=>(J5.ZE8 hag).2 (z.mai x hx q),fun q=>z.ntd x hx q⟩)
     ·rw [Y8 h4];refine⟨_,rfl,?_⟩;simp only [Bool.false_eq_true,false_iff];intro z;exact h4 fun m hm=>(Ut (P:=fun x=>J5 w (m:Int) x true)).2 fun x hx=>(J5.ZE9 hag (by omega)).2 (z.hel m (by omega) x hx)
    ·rw [Y8 h3];refine⟨_,rfl,?_⟩;simp only [Bool.false_eq_true,false_iff];intro z;exact h3 z.ent
   ·rw [Y8 h2];refine⟨_,rfl,?_⟩;simp only [Bool.false_eq_true,false_iff];intro z;exact h2 fun p hp=>(Znh h h1 hp).2 (z.tog p hp)
  ·rw [Y8 h1];refine⟨_,rfl,?_⟩;simp only [Bool.false_eq_true,false_iff];intro z;exact h1 fun p hp=>by rw [← len_eq h.two];exact z.loc p hp
 ·rw [Y8 h];refine⟨_,rfl,?_⟩;simp only [Bool.false_eq_true,false_iff];intro z;exact h z.shr
end Go.Proofs.YtbmbbcaaimehkaaGreat
end
section
namespace Go.Proofs.YtbmbbcaaimehkaaGreat
open Go.Lf
theorem ZsQ {F:Nat} (hF:400000 <=F) (w:Zb):∃ b,ZvQ F w=some b∧(b=true ->WW 201 w):=by
 unfold ZvQ;refine Qv (fun _=>⟨false,rfl,fun q=>by cases q⟩) (fun hc=>?_);simp only [Bool.or_eq_false_iff,decide_eq_false_iff_not] at hc;obtain⟨⟨⟨⟨c1,c2⟩,c3⟩,c4⟩,c5⟩:=hc
 have e3:loop F (Zer w) 0=ifc (∀ k,k < w.wire.length ->(Zw w k).places.length <=20∧(Zw w k).ZW.length <=20) (some true) (some false):=by
  refine Jj (fun k=>(k:Int)) rfl (fun k=>(Zw w k).places.length <=20∧(Zw w k).ZW.length <=20) (n:=w.wire.length) (by omega) (fun k hk next=>?_) (fun next=>?_)
  ·unfold Zer;rw [ZF hk,Cq1,Yt default hk];simp only [Bq0];rw [Yv (by omega),show w.wire.getD k default=Zw w k from rfl];by_cases h:(Zw w k).places.length <=20∧(Zw w k).ZW.length <=20
   ·rw [YV h,decide_eq_false (by omega),decide_eq_false (by omega)];rfl
   ·rw [Y8 h]
    have:(decide (((Zw w k).places.length:Int) > 20) || decide (((Zw w k).ZW.length:Int) > 20))=true:=by
     rw [← Bool.not_eq_false];intro z;simp only [Bool.or_eq_false_iff,decide_eq_false_iff_not] at z;exact h ⟨by omega,by omega⟩
    rw [this];rfl
  ·unfold Zer;rw [ZO];rfl
 have e2:loop F (Zes F w) 0=ifc (∀ k,k < w.held.length ->(w.held.getD k []).length <=100) (loop F (Zer w) 0) (some false):=by
  refine Jj (fun k=>(k:Int)) rfl (fun k=>(w.held.getD k []).length <=100) (n:=w.held.length) (by omega) (fun k hk next=>?_) (fun next=>?_)
  ·unfold Zes;rw [ZF hk,Cq1,Yt [] hk];simp only [Bq0];rw [Yv (by omega)];by_cases h:(w.held.getD k []).length <=100
   ·rw [YV h,decide_eq_false (by omega)];rfl
   ·rw [Y8 h,decide_eq_true (by omega)];rfl
  ·unfold Zes;rw [ZO];rfl
 have e1:loop F (Zet F w) 0=ifc (∀ k,k < w.entries.length ->(w.entries.getD k []).length <=20) (loop F (Zes F w) 0) (some false):=by
  refine Jj (fun k=>(k:Int)) rfl (fun k=>(w.entries.getD k []).length <=20) (n:=w.entries.length) (by omega) (fun k hk next=>?_) (fun next=>?_)
  ·unfold Zet;rw [ZF hk,Cq1,Yt [] hk];simp only [Bq0];rw [Yv (by omega)];by_cases h:(w.entries.getD k []).length <=20
   ·rw [YV h,decide_eq_false (by omega)];rfl
   ·rw [Y8 h,decide_eq_true (by omega)];rfl
  ·unfold Zet;rw [ZO];rfl
 have e0:loop F (Zhq F w) 0=ifc (∀ k,k < w.boxes.length ->(w.boxes.getD k []).length <=100) (loop F (Zet F w) 0) (some false):=by
  refine Jj (fun k=>(k:Int)) rfl (fun k=>(w.boxes.getD k []).length <=100) (n:=w.boxes.length) (by omega) (fun k hk next=>?_) (fun next=>?_)
  ·unfold Zhq;rw [ZF hk,Cq1,Yt [] hk];simp only [Bq0];rw [Yv (by omega)];by_cases h:(w.boxes.getD k []).length <=100
   ·rw [YV h,decide_eq_false (by omega)];rfl
   ·rw [Y8 h,decide_eq_true (by omega)];rfl
  ·unfold Zhq;rw [ZO];rfl
 rw [e0];by_cases h0:∀ k,k < w.boxes.length ->(w.boxes.getD k []).length <=100
 ·rw [YV h0,e1];by_cases h1:∀ k,k < w.entries.length ->(w.entries.getD k []).length <=20
  ·rw [YV h1,e2];by_cases h2:∀ k,k < w.held.length ->(w.held.getD k []).length <=100
   ·rw [YV h2,e3];by_cases h3:∀ k,k < w.wire.length ->(Zw w k).places.length <=20∧(Zw w k).ZW.length <=20
    ·rw [YV h3];refine⟨true,rfl,fun _=>⟨by omega,by omega,by omega,by omega,by omega,fun l hl=>?_,fun l hl=>?_,fun l hl=>?_,fun l hl=>?_⟩⟩
     ·have:= (Ut (P:=fun l:List Int=>l.length <=100)).1 h0 l hl;omega
     ·have:= (Ut (P:=fun l:List Zx=>l.length <=20)).1 h1 l hl;omega
     ·have:= (Ut (P:=fun l:List Zj=>l.length <=100)).1 h2 l hl;omega
     ·have:= (Zgt (P:=fun x=>x.places.length <=20∧x.ZW.length <=20)).1 h3 l hl;omega
    ·rw [Y8 h3];exact⟨false,rfl,fun q=>by cases q⟩
   ·rw [Y8 h2];exact⟨false,rfl,fun q=>by cases q⟩
  ·rw [Y8 h1];exact⟨false,rfl,fun q=>by cases q⟩
 ·rw [Y8 h0];exact⟨false,rfl,fun q=>by cases q⟩
def nx (w:Zb) (p m:Nat):Nat:= (E w m p).ZR.toNat
def tr (w:Zb) (p m:Nat):Nat ->Nat
 | 0=>m
 | i + 1=>nx w p (tr w p m i)
section
variable {F:Nat} {w:Zb}
theorem Wd.mvd (h:Wd w) (sm:WW 900 w):Mvd 900 w.wire:=fun x hx hk=>by
 have h1:= (h.shr.Xe x hx).YO.len;have h2:=sm.Xe x hx
 first
  | exact⟨h1,by omega⟩
  | exact⟨by omega,h1⟩
theorem Zss (hF:1000 <=F) (hM:F <=1000000) (h:Wd w) (sm:WW 900 w) {p:Nat} (hp:p < w.Zv.length):Zik F w (p:Int)=some (sp w p,1):=by
 rw [Zf1 hF hM h.shr.Kr (h.mvd sm) sm.wire hp,h.loc p hp];rfl
theorem ZyG (hF:1000 <=F) (h:Wd w) (sm:WW 900 w) {p:Nat} (hp:p < w.Zv.length):ZoF F w (p:Int)=some (Kq w p,true):=by
 rw [ZmC hF h.shr.Kr (fun x hx=>⟨(h.shr.Xe x hx).YO.len,by have:= (sm.Xe x hx).1;omega⟩) sm.wire hp,← len_eq h.shr.two,h.loc p hp];rfl
end
end Go.Proofs.YtbmbbcaaimehkaaGreat
end
section
namespace Go.Proofs.YtbmbbcaaimehkaaGreat
open Go.Lf
section
variable {F:Nat} {w:Zb}
theorem ZmX (hF:400000 <=F) (hM:F <=1000000) (sm:WW 400 w) (h:Wd w):ZmG F w=some 0:=by
 obtain⟨e,h1,h2,h3⟩:=ZoR hF hM sm;rw [h1,h3.2 h]
theorem Zld (hF:400000 <=F) (sm:WW 400 w) (h:Wd w):ZkA F w=some true:=by
 obtain⟨b,h1,h2⟩:=ZiF hF sm;rw [h1,h2.2 h]
theorem ZiG (hF:400000 <=F) (sm:WW 400 w) (h:Wd w) {p:Nat} (hp:p < w.Zv.length):ZrC F w (p:Int)=some ((sp w p).machine,(sp w p).here,(sp w p).age):=by
 unfold ZrC;rw [ZyG (by omega) h (sm.mono (by omega)) hp,← ZiN h.shr.two];rfl
end
end Go.Proofs.YtbmbbcaaimehkaaGreat
end
section
namespace Go.Proofs.YtbmbbcaaimehkaaGreat
open Go.Lf
theorem app0 {α:Type} {b:Nat} {l:List α} (h:l.length <=900000) (hb:b <=1000):app b [] l=some l:=by
 rw [ZkY (by simp;omega) hb];rfl
theorem ZeB {α β:Type} {F b:Nat} {l:List (List α)} {g:List α ->Option (List α)} {body:List (List α)×Int ->(List (List α)×Int ->Option β) ->Option β} {r:Option β} {s:List (List α)×Int} (hs:s= ([],0)) (hF:l.length < F) (hl:l.length <=900)
 (hb:∀ k (h:k < l.length) next,body (l.take k,(k:Int)) next=next (l.take (k + 1),((k + 1:Nat):Int))) (he:∀ next,body (l,(l.length:Int)) next=r):loop F body s=r:=by
 subst hs;exact Yd (fun k=>(l.take k,(k:Int))) (by simp) hF hb (fun next=>by rw [List.take_of_length_le (Nat.le_refl _)];exact he next)
theorem ZcS {α:Type} {l:List α} {k b:Nat} (h:k < l.length) (hl:l.length <=900) (hb:b <=1000):app b (l.take k) [l[k]]=some (l.take (k + 1)):=by
 rw [app1 (by rw [List.length_take];omega) hb,List.take_add_one,List.getElem?_eq_getElem h];rfl
theorem ZrK {F:Nat} (hF:1000 <=F) {l:List (List Int)} (hl:l.length < 900) (hr:∀ x ∈ l,x.length < 900):Zvz F l=some l:=by
 unfold Zvz;refine ZeB (b:=8) (g:=fun _=>none) (l:=l) rfl (by omega) (by omega) (fun k h next=>?_) (fun next=>?_)
 ·have:=hr _ (List.getElem_mem h);unfold Zkj;dsimp only;rw [ZF h,Cq1,Xn h];simp only [Bq0];unfold Zkl;rw [app0 (by omega) (by omega)];simp only [Bq0];rw [ZcS h (by omega) (by omega)];simp only [Bq0];rw [Yv (by omega)]
 ·unfold Zkj;dsimp only;rw [ZO];rfl
theorem ZkN {F:Nat} (hF:1000 <=F) {l:List (List Zx)} (hl:l.length < 900) (hr:∀ x ∈ l,x.length < 900):Zvy F l=some l:=by
 unfold Zvy;refine ZeB (b:=8) (g:=fun _=>none) (l:=l) rfl (by omega) (by omega) (fun k h next=>?_) (fun next=>?_)
 ·have:=hr _ (List.getElem_mem h);unfold Zki;dsimp only;rw [ZF h,Cq1,Xn h];simp only [Bq0];unfold Zqc;rw [app0 (by omega) (by omega)];simp only [Bq0];rw [ZcS h (by omega) (by omega)];simp only [Bq0];rw [Yv (by omega)]
 ·unfold Zki;dsimp only;rw [ZO];rfl
theorem ZoO {F:Nat} (hF:1000 <=F) {l:List (List Zj)} (hl:l.length < 900) (hr:∀ x ∈ l,x.length < 900):Zvx F l=some l:=by
 unfold Zvx;refine ZeB (b:=8) (g:=fun _=>none) (l:=l) rfl (by omega) (by omega) (fun k h next=>?_) (fun next=>?_)
 ·have:=hr _ (List.getElem_mem h);unfold Zkh;dsimp only;rw [ZF h,Cq1,Xn h];simp only [Bq0];unfold Zqb;rw [app0 (by omega) (by omega)];simp only [Bq0];rw [ZcS h (by omega) (by omega)];simp only [Bq0];rw [Yv (by omega)]
 ·unfold Zkh;dsimp only;rw [ZO];rfl
theorem ZrJ {F:Nat} (hF:1000 <=F) {w:Zb} (sm:WW 900 w):ZvJ F w=some w:=by
 have h1:=sm.Zv;have h2:=sm.wire;unfold ZvJ Zkl;rw [app0 (by omega) (by omega)];simp only [Bq0];rw [ZrK hF sm.boxes sm.box,ZkN hF sm.entries sm.row,ZoO hF sm.held sm.hel];simp only [Bq0];refine Yd (fun k=>((k:Int),w.wire.take k)) (by simp) (n:=w.wire.length) (by omega) (fun k h next=>?_) (fun next=>?_)
 ·have:=sm.Xe _ (List.getElem_mem h);unfold Zku;dsimp only;rw [ZF h,Cq1,Xn h];simp only [Bq0];unfold Zkl;rw [app0 (by omega) (by omega),app0 (by omega) (by omega)];simp only [Bq0];rw [show Zc.mk w.wire[k].kind w.wire[k].ZR w.wire[k].Zu w.wire[k].places w.wire[k].ZW w.wire[k].place w.wire[k].at_ w.wire[k].age=w.wire[k] from rfl,ZcS h (by omega) (by omega)];simp only [Bq0];rw [Yv (by omega)]
 ·unfold Zku;dsimp only;rw [ZO,Cq0,List.take_of_length_le (Nat.le_refl _)]
def InR (p:Int) (n:Nat):Prop:=0 <=p∧p < (n:Int)
instance (p:Int) (n:Nat):Decidable (InR p n):=by unfold InR;infer_instance
def Ask (w:Zb) (s:QF):Prop:=
 (s.act=1∧InR s.a w.entries.length∧InR s.b w.Zv.length)∨(s.act=2∧InR s.a w.Zv.length∧InR s.b w.entries.length)∨(s.act=3∧InR s.a w.Zv.length∧InR s.b w.Zv.length)∨(s.act=4∧InR s.a w.Zv.length)∨(s.act=5∧InR s.a w.wire.length)
instance (w:Zb) (s:QF):Decidable (Ask w s):=by unfold Ask;infer_instance
def ZJ2 (w:Zb) (p x:Nat):Bool:= (List.range w.Zv.length).any fun j=>up w j (x:Int)== (p:Int)
def ZEs (w:Zb) (p k:Nat):List Int:= ((List.range k).filter (ZJ2 w p)).map Int.ofNat
def Zzq (w:Zb) (p:Nat):List Int:=ZEs w p w.Zv.length
def old (w:Zb) (q:Int):Bool:=decide ((sp w q.toNat).age >=30)
def lim (w:Zb) (s:QF):Bool:=if s.act=1 then decide (w.said >=40) else if s.act=2 then(Zzq w s.a.toNat).any (old w) else false
def Alw (w:Zb) (s:QF):Prop:=
 (s.act=2 ->(sp w s.a.toNat).here=true∧(sp w s.a.toNat).machine ≠ s.b)∧
 (s.act=3 ->s.b ∉ Zzq w s.a.toNat∧inn w s.a=-1∧(sp w s.a.toNat).here=true∧(sp w s.b.toNat).here=true∧(sp w s.a.toNat).machine= (sp w s.b.toNat).machine)∧
 (s.act=4 ->(sp w s.a.toNat).here=true∧inn w s.a ≠ -1)
instance (w:Zb) (s:QF):Decidable (Alw w s):=by unfold Alw;infer_instance
section
variable {F:Nat} {w:Zb}
theorem InR.nat {p:Int} {n:Nat} (h:InR p n):∃ k:Nat,p= (k:Int)∧k < n:= ⟨p.toNat,by have:=h.1;omega,by have h1:=h.1;have h2:=h.2;omega⟩
end
end Go.Proofs.YtbmbbcaaimehkaaGreat
end
section
namespace Go.Proofs.YtbmbbcaaimehkaaGreat
open Go.Lf
section
variable {F:Nat} {w:Zb}
end
end Go.Proofs.YtbmbbcaaimehkaaGreat
end
section
namespace Go.Proofs.YtbmbbcaaimehkaaGreat
open Go.Lf
def Y1 (w:Zb) (p:Nat):List Int:=w.boxes.getD p []
def Zas (to:Int) (y:Zj):Zc:= ⟨1,to,y,[],[],0,0,0⟩
def Ztq (to p at_ age:Int):Zc:= ⟨3,to,⟨0,0,0,0,0⟩,[],[],p,at_,age⟩
def Ww (x:Zj) (e:Zx):Zj:= ⟨x.msg,x.place,x.from_,e.age,x.hops + 1⟩
def told (m:Int) (x:Zj) (e:Zx) (now:Bool):List Zc:=if now=false∧x.from_ ≠ m∧x.from_ ≠ e.ZR then [Ztq x.from_ x.place e.ZR e.age] else []
def Qd (w:Zb) (m:Nat) (x:Zj) (now:Bool):Zb×List ZI:=
 if(E w m x.place.toNat).here=true then({w with boxes:=Yz w.boxes x.place (Y1 w x.place.toNat ++ [x.msg])},[⟨1,x.place,(m:Int),x.msg,x.hops⟩])
 else if now=false∧(E w m x.place.toNat).age <=x.age then({w with held:=Yz w.held (m:Int) (ZB w m ++ [x])},[])
 else({w with wire:=w.wire ++ Zas (E w m x.place.toNat).ZR (Ww x (E w m x.place.toNat))::told (m:Int) x (E w m x.place.toNat) now},[])
section
variable {F:Nat} {w:Zb}
theorem ZhE (s:WQ w) {p:Nat} (hp:p < w.Zv.length):ZN w.boxes (p:Int)=some (Y1 w p):=Yt [] (by rw [s.bx];exact hp)
theorem Zi1 (s:WQ w) {m:Nat} (hm:m < w.entries.length):ZN w.held (m:Int)=some (ZB w m):=Yt [] (by rw [s.hd];exact hm)
theorem Zqo (s:WQ w) (sm:WW 900 w) {p:Nat} (hp:p < w.Zv.length):(Y1 w p).length < 900:=sm.box _ (Yc (by rw [s.bx];exact hp))
theorem Zmn (s:WQ w) (sm:WW 900 w) {m:Nat} (hm:m < w.entries.length):(ZB w m).length < 900:=sm.hel _ (Yc (by rw [s.hd];exact hm))
theorem Zs9 (s:WQ w) (sm:WW 900 w) {m:Nat} {x:Zj} {p:Nat} (hx:x.place= (p:Int)) (hp:p < w.Zv.length) {ev:List ZI} (he:ev.length <=800000):
 Ze8 ⟨w,ev⟩ (m:Int) x=some ⟨{w with boxes:=Yz w.boxes x.place (Y1 w p ++ [x.msg])},ev ++ [⟨1,x.place,(m:Int),x.msg,x.hops⟩]⟩:=by
 have h1:=Zqo s sm hp;unfold Ze8;rw [hx,ZhE s hp];simp only [Bq0];rw [app1 (by omega) (by omega)];simp only [Bq0];rw [app1 (by omega) (by omega)]
 rfl
theorem ZnJ (s:WQ w) (sm:WW 900 w) {m:Nat} (hm:m < w.entries.length) {x:Zj} (hp:x.place.toNat < w.Zv.length) (h0:0 <=x.place) (hh:0 <=x.hops) (hh2:x.hops <=1000) (now:Bool) {ev:List ZI} (he:ev.length <=800000):
 Zru ⟨w,ev⟩ (m:Int) x now=some ⟨(Qd w m x now).1,ev ++ (Qd w m x now).2⟩:=by
 obtain⟨p,hx⟩:∃ p:Nat,x.place= (p:Int):= ⟨x.place.toNat,by omega⟩
 have h1:=Zmn s sm hm;have h2:=sm.wire;rw [hx,Int.toNat_natCast] at hp;unfold Zru Qd;dsimp only;rw [s.row hm];simp only [Bq0];rw [hx,s.ent hm hp];simp only [Bq0];rw [Int.toNat_natCast];cases hE:(E w m p).here with
 | true=>
   rw [Cq1,Zs9 s sm hx hp he,if_pos rfl,hx];rfl
 | false=>
   rw [Cq0,if_neg (by simp)];by_cases hc:now=false∧(E w m p).age <=x.age
   ·rw [if_pos hc,hc.1,decide_eq_false (show ¬ (E w m p).age > x.age by have:=hc.2;omega),Bool.or_self,Cq0,Zi1 s hm];simp only [Bq0];rw [app1 (by omega) (by omega)];simp only [Bq0,List.append_nil]
   ·have e:(decide ((E w m p).age > x.age) || now)=true:=by
     rw [← Bool.not_eq_false];intro z;simp only [Bool.or_eq_false_iff,decide_eq_false_iff_not] at z;exact hc ⟨z.2,by omega⟩
    rw [if_neg hc,e,Cq1,app1 (by omega) (by omega)];simp only [Bq0];rw [KY (by omega) (by omega)];unfold told Zas Ww Ztq;rw [hx];by_cases ht:now=false∧x.from_ ≠ (m:Int)∧x.from_ ≠ (E w m p).ZR
    ·rw [if_pos ht,ht.1,Jm,Jm,decide_eq_true ht.2.1,decide_eq_true ht.2.2];simp only [Bool.not_false,Bool.and_self,Cq1];rw [app1 (by rw [List.length_append,List.length_singleton];omega) (by omega)];simp only [Bq0,List.append_nil,List.append_assoc]
     rfl
    ·have e2:(((!now) && (x.from_ != (m:Int))) && (x.from_ != (E w m p).ZR))=false:=by
      rw [← Bool.not_eq_true];intro z;simp only [Bool.and_eq_true,Bool.not_eq_true',bne_iff_ne] at z;exact ht ⟨z.1.1,z.1.2,z.2⟩
     rw [e2,Cq0,if_neg ht,List.append_nil]
end
end Go.Proofs.YtbmbbcaaimehkaaGreat
end
section
namespace Go.Proofs.YtbmbbcaaimehkaaGreat
open Go.Lf
theorem Xa {α:Type} (l:List α) (k:Int) (x:α):(Yz l k x).length=l.length:=by simp [Yz]
theorem JD {α:Type} {l:List α} {k j:Nat} {x d:α} (h:k < l.length):(Yz l (k:Int) x).getD j d=if j=k then x else l.getD j d:=by
 unfold Yz;rw [Int.toNat_natCast,List.getD_eq_getElem?_getD,List.getElem?_set,List.getD_eq_getElem?_getD];by_cases e:k=j
 ·subst e;simp [h]
 ·rw [if_neg e,if_neg (fun q=>e q.symm)]
theorem KE {α:Type} {l:List α} {k:Nat} {x:α} (h:k < l.length):ZN (Yz l (k:Int) x) (k:Int)=some x:=by
 rw [Yt x (by rw [Xa];exact h),JD h,if_pos rfl]
theorem ZiO {α:Type} (l:List α) (k:Int) (x y:α):Yz (Yz l k x) k y=Yz l k y:=by simp [Yz]
theorem ZqK {α:Type} {l:List α} {k:Nat} (d:α) (h:k < l.length):Yz l (k:Int) (l.getD k d)=l:=by
 unfold Yz;rw [Int.toNat_natCast];apply List.ext_getElem?;intro i;rw [List.getElem?_set];by_cases e:k=i
 ·subst e;rw [if_pos rfl,if_pos h,List.getD_eq_getElem?_getD,List.getElem?_eq_getElem h];rfl
 ·rw [if_neg e]
def setW (w:Zb) (m p:Nat) (e:Zx):Zb:= {w with entries:=Yz w.entries (m:Int) (Yz (row w m) (p:Int) e)}
theorem WQ.setW {w:Zb} (s:WQ w) {m p:Nat} (hm:m < w.entries.length) (e:Zx):WQ (setW w m p e):=by
 refine⟨by show 1 <= (Yz _ _ _).length;rw [Xa];exact s.m1,by show(Yz _ _ _).length <=5;rw [Xa];exact s.m2,s.p1,s.p2,s.bx,by show w.held.length= (Yz _ _ _).length;rw [Xa];exact s.hd,fun l hl=>?_⟩;have hl':l ∈ Yz w.entries (m:Int) (Yz (Proofs.YtbmbbcaaimehkaaGreat.row w m) (p:Int) e):=hl;unfold Yz at hl';rcases List.mem_or_eq_of_mem_set hl' with q | q
 ·exact s.rw_ _ q
 ·rw [q];simp only [List.length_set];exact s.len hm
theorem ZcW (w:Zb) (m p:Nat) (e:Zx):(setW w m p e).entries.length=w.entries.length:=Xa _ _ _
theorem Zpi {w:Zb} (s:WQ w) {m p:Nat} (hm:m < w.entries.length) (hp:p < w.Zv.length) (e:Zx) (m' p':Nat):E (setW w m p e) m' p'=if m'=m∧p'=p then e else E w m' p':=by
 have hr:row (setW w m p e) m'=if m'=m then Yz (row w m) (p:Int) e else row w m':=JD hm
 unfold E;rw [hr];by_cases h:m'=m
 ·subst h;rw [if_pos rfl,JD (by rw [s.len hm];exact hp)];by_cases h2:p'=p
  ·rw [if_pos h2,if_pos ⟨rfl,h2⟩]
  ·rw [if_neg h2,if_neg (fun q=>h2 q.2)]
 ·rw [if_neg h,if_neg (fun q=>h q.1)]
structure MvL (w:Zb) (x:Zc) (m:Nat):Prop where
 ZR:x.ZR= (m:Int)
 hm:m < w.entries.length
 len:x.ZW.length=x.places.length
 few:x.places.length <=8
 rng:∀ i,i < x.places.length ->InR (x.places.getD i 0) w.Zv.length
def UX (x:Zc) (i:Nat):Nat:= (x.places.getD i 0).toNat
theorem MvL.UX {w:Zb} {x:Zc} {m:Nat} (v:MvL w x m) {i:Nat} (hi:i < x.places.length):x.places.getD i 0= (Proofs.YtbmbbcaaimehkaaGreat.UX x i:Int)∧Proofs.YtbmbbcaaimehkaaGreat.UX x i < w.Zv.length:=by
 have:=v.rng i hi;unfold InR at this;unfold Proofs.YtbmbbcaaimehkaaGreat.UX;omega
def XJ (w:Zb) (x:Zc):Nat ->Zb
 | 0=>w
 | k + 1=>setW (XJ w x k) x.ZR.toNat (UX x k) ⟨true,x.ZR,x.ZW.getD k 0⟩
theorem X3 (w:Zb) (x:Zc):∀ k,(XJ w x k).Zv=w.Zv∧(XJ w x k).boxes=w.boxes∧(XJ w x k).held=w.held∧(XJ w x k).wire=w.wire∧(XJ w x k).said=w.said∧(XJ w x k).entries.length=w.entries.length:=by
 intro k
 induction k with
 | zero=>exact⟨rfl,rfl,rfl,rfl,rfl,rfl⟩
 | succ k ih=>exact⟨ih.1,ih.2.1,ih.2.2.1,ih.2.2.2.1,ih.2.2.2.2.1,(ZcW _ _ _ _).trans ih.2.2.2.2.2⟩
theorem ZeC {w:Zb} (s:WQ w) {x:Zc} {m:Nat} (v:MvL w x m):∀ k,WQ (XJ w x k):=by
 intro k
 induction k with
 | zero=>exact s
 | succ k ih=>exact ih.setW (by rw [(X3 w x k).2.2.2.2.2,v.ZR,Int.toNat_natCast];exact v.hm) _
def Uu (p:Nat) (y:Zj):Bool:=y.place== (p:Int)
def Zyf (m:Nat) (y:Zj):ZI:= ⟨1,y.place,(m:Int),y.msg,y.hops⟩
def KM (w:Zb) (m p:Nat):Zb:=
 {w with boxes:=Yz w.boxes (p:Int) (Y1 w p ++ ((ZB w m).filter (Uu p)).map (fun y=>y.msg)),held:=Yz w.held (m:Int) ((ZB w m).filter fun y=>!Uu p y)}
def Zmm (w:Zb) (m p:Nat):List ZI:= ⟨3,(p:Int),(m:Int),0,0⟩::((ZB w m).filter (Uu p)).map (Zyf m)
def Yk (w:Zb) (x:Zc):Nat ->Zb×List ZI
 | 0=>(XJ w x x.places.length,[])
 | k + 1=>(KM (Yk w x k).1 x.ZR.toNat (UX x k),(Yk w x k).2 ++ Zmm (Yk w x k).1 x.ZR.toNat (UX x k))
def Zcv (w:Zb) (x:Zc):Zb×List ZI:=Yk w x x.places.length
theorem WA (w:Zb) (x:Zc):∀ k,(Yk w x k).1.Zv=w.Zv∧(Yk w x k).1.wire=w.wire∧(Yk w x k).1.said=w.said∧(Yk w x k).1.entries= (XJ w x x.places.length).entries∧(Yk w x k).1.boxes.length=w.boxes.length∧(Yk w x k).1.held.length=w.held.length:=by
 intro k
 induction k with
 | zero=>
   have:=X3 w x x.places.length;exact⟨this.1,this.2.2.2.1,this.2.2.2.2.1,rfl,by rw [show(Yk w x 0).1=XJ w x x.places.length from rfl,this.2.1],by rw [show(Yk w x 0).1=XJ w x x.places.length from rfl,this.2.2.1]⟩
 | succ k ih=>exact⟨ih.1,ih.2.1,ih.2.2.1,ih.2.2.2.1,(Xa _ _ _).trans ih.2.2.2.2.1,(Xa _ _ _).trans ih.2.2.2.2.2⟩
theorem UY {w:Zb} (s:WQ w) {x:Zc} {m:Nat} (v:MvL w x m) (k:Nat):WQ (Yk w x k).1:=by
 have c:=ZeC s v x.places.length;have h:=WA w x k;have h2:=X3 w x x.places.length;exact⟨by rw [h.2.2.2.1];exact c.m1,by rw [h.2.2.2.1];exact c.m2,by rw [h.1];exact s.p1,by rw [h.1];exact s.p2,by rw [h.2.2.2.2.1,h.1];exact s.bx,by rw [h.2.2.2.2.2,h.2.2.2.1,h2.2.2.2.2.2];exact s.hd,by rw [h.2.2.2.1,h.1,← h2.1];exact c.rw_⟩
theorem Zxt {u:Zb} {ev:List ZI} {x:Zj} {b:List Int} (hb:ZN u.boxes x.place=some b) (h1:b.length <=800000) (he:ev.length <=800000) (m:Int):
 Ze8 ⟨u,ev⟩ m x=some ⟨{u with boxes:=Yz u.boxes x.place (b ++ [x.msg])},ev ++ [⟨1,x.place,m,x.msg,x.hops⟩]⟩:=by
 unfold Ze8;rw [hb];simp only [Bq0];rw [app1 (by omega) (by omega)];simp only [Bq0];rw [app1 (by omega) (by omega)]
 rfl
theorem Ze6 {α:Type} {f:α ->Bool} {l:List α} {j:Nat} (h:j < l.length):(l.take (j + 1)).filter f= (l.take j).filter f ++ (if f l[j] then [l[j]] else []):=by
 rw [List.take_add_one,List.getElem?_eq_getElem h,List.filter_append];congr 1;show List.filter f [l[j]]=_;by_cases q:f l[j]=true
 ·rw [if_pos q,List.filter_cons,if_pos q];rfl
 ·rw [if_neg q,List.filter_cons,if_neg q];rfl
theorem Zb9 {α:Type} (f:α ->Bool) (l:List α) (j:Nat):((l.take j).filter f).length <=l.length:=Nat.le_trans (List.length_filter_le _ _) (by rw [List.length_take];omega)
section
variable {F:Nat}
theorem Zuq (hF:1000 <=F) {u:Zb} (s:WQ u) {m p:Nat} (hm:m < u.entries.length) (hp:p < u.Zv.length) (hl:(ZB u m).length <=900) (hb:(Y1 u p).length <=100000) {x:Zc} (hx:x.ZR= (m:Int)) {ev:List ZI} (he:ev.length <=700000) (i:Int)
 (next:Int×(List Int)×(List (List Int))×(List (List Zx))×(List (List Zj))×(List Zc)×Int×(List ZI) ->Option Yj):
 loop F (Zha x i next (p:Int) (ZB u m)) (0,u.Zv,u.boxes,u.entries,Yz u.held (m:Int) [],u.wire,u.said,ev)=
  next (Xl (i + 1),(KM u m p).Zv,(KM u m p).boxes,(KM u m p).entries,(KM u m p).held,(KM u m p).wire,(KM u m p).said,ev ++ ((ZB u m).filter (Uu p)).map (Zyf m)):=by
 have hbl:p < u.boxes.length:=by rw [s.bx];exact hp
 have hhl:m < u.held.length:=by rw [s.hd];exact hm
 refine Yd (fun j=>((j:Int),u.Zv,Yz u.boxes (p:Int) (Y1 u p ++ (((ZB u m).take j).filter (Uu p)).map (fun y=>y.msg)),u.entries,Yz u.held (m:Int) (((ZB u m).take j).filter fun y=>!Uu p y),u.wire,u.said,ev ++ (((ZB u m).take j).filter (Uu p)).map (Zyf m))) ?_ (n:= (ZB u m).length) (by omega) (fun j hj nx=>?_) (fun nx=>?_)
 ·simp only [List.take_zero,List.filter_nil,List.map_nil,List.append_nil];unfold Y1;rw [ZqK [] hbl];rfl
 ·have l1:=Zb9 (Uu p) (ZB u m) j;have l2:=Zb9 (fun y=>!Uu p y) (ZB u m) j;unfold Zha Zg9;dsimp only;rw [ZF hj,Cq1,Xn hj];simp only [Bq0];rw [Ze6 hj,Ze6 hj,Yv (by omega)];by_cases h:(ZB u m)[j].place= (p:Int)
  ·have e:Uu p (ZB u m)[j]=true:=beq_iff_eq.2 h;rw [e,if_pos rfl,h,QJ,Cq0];simp only [Bool.not_true,Bool.false_eq_true,if_false,List.append_nil];rw [Zxt (b:=Y1 u p ++ (((ZB u m).take j).filter (Uu p)).map (fun y=>y.msg)) (by rw [h];exact KE hbl) (by rw [List.length_append,List.length_map];omega) (by rw [List.length_append,List.length_map];omega)];simp only [Bq0];rw [h,ZiO,List.map_append,List.map_append,List.append_assoc,List.append_assoc];unfold Zyf;simp only [List.map_cons,List.map_nil,h,hx]
  ·have e:Uu p (ZB u m)[j]=false:=beq_eq_false_iff_ne.2 h;rw [e,Jm,decide_eq_true h,Cq1,hx];simp only [Bool.not_false,if_true,Bool.false_eq_true,if_false,List.append_nil];rw [KE hhl];simp only [Bq0];rw [app1 (by omega) (by omega)];simp only [Bq0];rw [ZiO]
 ·unfold Zha;dsimp only;rw [ZO,Cq0,List.take_of_length_le (Nat.le_refl _)]
  rfl
end
end Go.Proofs.YtbmbbcaaimehkaaGreat
end
