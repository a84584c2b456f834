/- Drains Part 13 of the proof. -/
import Derived.Test.YtbmbbcaaimehkaaGreatRa12
set_option linter.all false
set_option maxHeartbeats 2000000
section
noncomputable section
namespace Go.Proofs.YtbmbbcaaimehkaaGreat
open Go.YB Go.Lf
theorem ZmA {h:H} {r:Bool} (hL:Zzg=some r):Pure XX 14 #[] h (.bool r):=by
 cases hL;intro wm;have e:ev (cfg XW fun _=>false) 1 (.call 14 #[] wm h)=some (.fin (.ret (.bool true)) h):=rfl;exact Ze7 (X:=XW) mixed 1 _ _ e
end Go.Proofs.YtbmbbcaaimehkaaGreat
end
end
section
namespace Go.Proofs.YtbmbbcaaimehkaaGreat
open Go.Lf
def Zfl (p1:Zc):Int×Int×Int×Int×Int×Int×Int×Int ->Option Bool:=fun(v11,v12,v13,v14,v15,v16,v17,v18)=>
 some ((((Y8 (Zh.mk v11 v12 v13 v14 v15) p1.Zl) && (v16==p1.place)) && (v17==p1.at_)) && (v18==p1.age))
def Zy1 (p0:ZV) (p1:Zc):Option Bool:=
 (Zl5 p0 p1.ZO).bind fun x3=>(bif(!x3) then some false else(bif((p1.kind !=2) && (decide ((Y6 ((p1.places.length:Int) + (p1.ZU.length:Int))) > 0))) then some false else(bif(p1.kind==1) then(Zun p0 p1.ZO p1.Zl).bind fun x20=>(bif(!x20) then some false else(Zfl p1) (p1.Zl.msg,p1.Zl.place,p1.Zl.from_,p1.Zl.age,p1.Zl.hops,0,0,0)) else(bif(p1.kind==3) then(gd (!(p1.at_==p1.ZO)) (Zra p0 p1.place) default).bind fun x28=>(gd (!((p1.at_==p1.ZO) || (!x28))) (Zl6 p0 p1.place p1.at_ p1.age) default).bind fun x29=>(bif(((p1.at_==p1.ZO) || (!x28)) || (!x29)) then some false else(Zfl p1) (0,0,0,0,0,p1.place,p1.at_,p1.age)) else(Zfl p1) (0,0,0,0,0,0,0,0)))))
end Go.Proofs.YtbmbbcaaimehkaaGreat
end
section
set_option maxRecDepth 20000
noncomputable section
namespace Go.Proofs.YtbmbbcaaimehkaaGreat
open Go.YB Go.Lf
theorem ZHg {wm:Nat} {h:H} {p0:ZV} {p1:Zc} {Zk:Option Addr} {Zj:Nat} {Zp:Option Addr} {Zo:Nat} {Zn:Option Addr} {Zm:Nat} {Zr:Option Addr} {Zq:Nat} {Zv:Option Addr} {Zu:Nat} {Yg:Option Addr} {Yf YL Wv:Nat} {YI:Option Addr} {YH:Nat} {Kv:Option Addr} {Ku:Nat} {r:Bool} (Z0:wm <=h.size) (XQ:At h YL Wv [.slice Zk p0.Za.ZA.length Zj,.slice Zp p0.Za.boxes.length Zo,.slice Zn p0.Za.entries.length Zm,.slice Zr p0.Za.held.length Zq,.slice Zv p0.Za.wire.length Zu,.int .i64 p0.Za.said,.slice Yg p0.YV.length Yf]) (XP:Stb wm h YL) (ZC:Sl (Zw .i64) wm h Zk Zj p0.Za.ZA) (ZQ:Sl (Yb (Zw .i64)) wm h Zp Zo p0.Za.boxes) (ZL:Sl (Yb Zd) wm h Zn Zm p0.Za.entries) (ZP:Sl (Yb Ze) wm h Zr Zq p0.Za.held) (ZK:Sl Zf wm h Zv Zu p0.Za.wire) (Xd:Sl Xz wm h Yg Yf p0.YV) (Xt:Sl (Zw .i64) wm h YI YH p1.places) (ZlG:Sl (Zw .i64) wm h Kv Ku p1.ZU) (hL:Zy1 p0 p1=some r):
 WR XX 73 #[.pointer (some ⟨YL,Wv,none⟩),.agg [.int .i64 p1.kind,.int .i64 p1.ZO,.int .i64 p1.Zl.msg,.int .i64 p1.Zl.place,.int .i64 p1.Zl.from_,.int .i64 p1.Zl.age,.int .i64 p1.Zl.hops,.slice YI p1.places.length YH,.slice Kv p1.ZU.length Ku,.int .i64 p1.place,.int .i64 p1.at_,.int .i64 p1.age].toArray] wm h (CP (fun(v:Value) (Gb:List (Ast wm))=>v= .bool r∧Gb= []) [] h):=by
 refine bg Tryz.ntmps73 Z0 Yj.nil ?_;intro T hT hS;unfold Zy1 at hL;refine r3 ?_;rintro _ h2 ⟨b1,eb1,rfl,hS⟩;refine r8 ?_;refine r1 ?_;obtain⟨x3,hx3,hL⟩:=bind_some hL;refine WO.cp gN rfl (XT.fn Zxs (Zg lk (Zg lk ZI))) (Zrb (At.fz hS.fz XP XQ) (Stb.up hS.hw (Stb.fz hS.fz XQ XP)) (hS.YK ZC) (hS.YK ZQ) (hS.YK ZL) (hS.YK ZP) (hS.YK ZK) (hS.YK Xd) hx3) ?_;refine r3 ?_;refine cn hL ?_ ?_
 ·intro hc hL;refine r6 ?_;refine r1 ?_;exact rt hL hT hS
 ·intro hc hL;refine r8 ?_;refine WO.w gN rfl (Xo Zpd (Zy lk (Zy lk Z4)) rfl (cs':= [.int .i64 p1.kind,.int .i64 p1.ZO,.int .i64 0,.int .i64 0,.int .i64 0,.int .i64 0,.int .i64 0,.slice none 0 0,.slice none 0 0,.int .i64 0,.int .i64 0,.int .i64 0]) rfl) ?_;refine r1 ?_;rintro _ h5 ⟨b4,eb4,rfl,hS⟩;refine r1 ?_;rintro h6 hS;refine r16 ?_;refine r4 ?_;refine cn hL ?_ ?_
  ·intro hc hL;refine r6 ?_;refine r1 ?_;exact rt hL hT hS
  ·intro hc hL;refine r2 ?_;refine WC.Zam (r:=r) (fun(p:Int×Int×Int×Int×Int×Int×Int×Int) (s:Fs)=>match p with | (v11,v12,v13,v14,v15,v16,v17,v18)=>∃ (fr8:Fr) (h7:H),s= ⟨fr8,[],h7,none⟩∧Sp wm T h [bx wm b1 [.int .i64 p1.kind,.int .i64 p1.ZO,.int .i64 p1.Zl.msg,.int .i64 p1.Zl.place,.int .i64 p1.Zl.from_,.int .i64 p1.Zl.age,.int .i64 p1.Zl.hops,.slice YI p1.places.length YH,.slice Kv p1.ZU.length Ku,.int .i64 p1.place,.int .i64 p1.at_,.int .i64 p1.age],bx wm b4 [.int .i64 p1.kind,.int .i64 p1.ZO,.int .i64 v11,.int .i64 v12,.int .i64 v13,.int .i64 v14,.int .i64 v15,.slice none 0 0,.slice none 0 0,.int .i64 v16,.int .i64 v17,.int .i64 v18]] h7∧fr8.at 3= .pointer (some ⟨b1,0,none⟩)∧fr8.at 5= .pointer (some ⟨b4,0,none⟩)) (Zfl p1) ?_ ?_
   ·clear hL hS;rintro⟨v11,v12,v13,v14,v15,v16,v17,v18⟩ s hL ⟨fr8,h7,rfl,hS,e9,e10⟩;dsimp only [Zfl] at hL;refine r6 ?_;refine WO.w gN rfl (Qa (Z9 (YT rfl fh) rfl) (Z9 fh rfl) (Zpz (xs:= [.int .i64 v11,.int .i64 v12,.int .i64 v13,.int .i64 v14,.int .i64 v15]) (ys:= [.int .i64 p1.Zl.msg,.int .i64 p1.Zl.place,.int .i64 p1.Zl.from_,.int .i64 p1.Zl.age,.int .i64 p1.Zl.hops]) (Ztc (Zh.mk v11 v12 v13 v14 v15) p1.Zl) rfl rfl)) ?_;refine r16 ?_;refine r8 ?_;refine r1 ?_;exact rt hL hT hS
   ·skip;refine Xn ?_;refine r1 ?_;refine cn hL ?_ ?_
    ·intro hc hL;refine r6 ?_;rintro h19 hS;refine r8 ?_;refine r1 ?_;obtain⟨x20,ZPH,hL⟩:=bind_some hL;refine WO.cp gN rfl (XT.fn ZDt (Zg lk (Zg lk (Zg lk ZI)))) (WR.Qe rfl (Zy0 (Nat.le_refl _) (At.fz hS.fz XP XQ) (Stb.up hS.hw (Stb.fz hS.fz XQ XP)) (hS.YK ZC) (hS.YK ZQ) (hS.YK ZL) (hS.YK ZP) (hS.YK ZK) (hS.YK Xd) ZPH)) ?_;refine r3 ?_;refine cn hL ?_ ?_
     ·intro hc hL;refine r6 ?_;refine r1 ?_;refine Xh.ret ?_;exact rt hL hT hS
     ·intro hc hL;refine r2 ?_;exact Xh.YU _ hL ⟨_,_,rfl,hS.only (.c k1 (.c k0 .n)),Yp⟩
    ·intro hc hL;refine r6 ?_;refine cn hL ?_ ?_
     ·intro hc hL;refine r1 ?_;refine WC.YE mixed Kq0 ?_;refine r3 ?_;refine WX.wr (fun x=>x=b1) hS gN rfl (fun _ _ hR=>ZR Xx (Z9 fh rfl) (At.eqv (hR b1 rfl) (hS.atB k1)) (j:=10) rfl (v:= .int .i64 p1.at_) rfl) ?_ rfl rfl;rintro h21 e22 hS;refine r1 ?_;refine WX.wr (fun x=>x=b1) hS gN rfl (fun _ _ hR=>ZR Xx (Z9 fh rfl) (At.eqv (hR b1 rfl) (hS.atB k1)) (j:=11) rfl (v:= .int .i64 p1.age) rfl) ?_ rfl rfl;rintro h23 e24 hS;refine r1 ?_;refine WX.hu gN (Wl hS k0 YQ lk lk (vs:= [.int .i64 p1.place]) rfl rfl rfl rfl (cs':= [.int .i64 p1.kind,.int .i64 p1.ZO,.int .i64 0,.int .i64 0,.int .i64 0,.int .i64 0,.int .i64 0,.slice none 0 0,.slice none 0 0,.int .i64 p1.place,.int .i64 0,.int .i64 0]) rfl) ?_ rfl rfl [3,5] Kq0 (.c (.s .z) (hS.dj (.c k0 (.c k0 .n))) (.c .z (hS.dj (.c k0 (.c k0 .n))) Yu.e));rintro h25 hS;refine WX.w gN rfl (Jy Zs1 lk) ?_ Kq0;refine WX.hu gN (Wl hS k0 YQ lk lk (vs:= [.int .i64 p1.at_]) rfl rfl rfl rfl (cs':= [.int .i64 p1.kind,.int .i64 p1.ZO,.int .i64 0,.int .i64 0,.int .i64 0,.int .i64 0,.int .i64 0,.slice none 0 0,.slice none 0 0,.int .i64 p1.place,.int .i64 p1.at_,.int .i64 0]) rfl) ?_ rfl Kq0 [5] Kq0 (.c .z (hS.dj (.c k0 (.c k0 .n))) Yu.e);rintro h26 hS;refine WX.w gN rfl (Jy Zs0 lk) ?_ Kq0;refine WX.hu gN (Wl hS k0 YQ lk lk (vs:= [.int .i64 p1.age]) rfl rfl rfl rfl (cs':= [.int .i64 p1.kind,.int .i64 p1.ZO,.int .i64 0,.int .i64 0,.int .i64 0,.int .i64 0,.int .i64 0,.slice none 0 0,.slice none 0 0,.int .i64 p1.place,.int .i64 p1.at_,.int .i64 p1.age]) rfl) ?_ rfl Kq0 [] Kq0 Yu.e;rintro h27 hS;refine Xn ?_;refine r1 ?_;obtain⟨x28,hx28,hL⟩:=Yi hL;refine WO.gcp (ZB.no rfl rfl rfl (YT rfl (ZH rfl fh))) rfl (fun hg=>(XT.fn ZDr (Zg (Y2 (YT rfl fh) rfl hg) (Zg (Y2 fh rfl hg) ZI)))) (fun hg=>ZyU (At.fz hS.fz XP XQ) (Stb.up hS.hw (Stb.fz hS.fz XQ XP)) (hS.YK ZC) (hS.YK ZQ) (hS.YK ZL) (hS.YK ZP) (hS.YK ZK) (hS.YK Xd) (hx28 hg)) ?_;refine r8 ?_;refine r2 ?_;obtain⟨x29,hx29,hL⟩:=Yi hL;refine WO.gcp (ZB.no rfl rfl rfl (Xf rfl (YT rfl (ZH rfl fh)))) rfl (fun hg=>(XT.fn Zxt (Zg (Y2 (Xf rfl (YT rfl fh)) rfl hg) (Zg (Y2 (Xf rfl fh) rfl hg) (Zg (Y2 (YT rfl fh) rfl hg) (Zg (Y2 fh rfl hg) ZI)))))) (fun hg=>Zrc (At.fz hS.fz XP XQ) (Stb.up hS.hw (Stb.fz hS.fz XQ XP)) (hS.YK ZC) (hS.YK ZQ) (hS.YK ZL) (hS.YK ZP) (hS.YK ZK) (hS.YK Xd) (hx29 hg)) ?_;refine r4 ?_;refine cn hL ?_ ?_
      ·intro hc hL;refine r6 ?_;refine r1 ?_;refine Xh.ret ?_;exact rt hL hT hS
      ·intro hc hL;refine r2 ?_;exact Xh.YU _ hL ⟨_,_,rfl,hS.only (.c k1 (.c k0 .n)),Yp⟩
     ·intro hc hL;refine r2 ?_;exact Xh.YU _ hL ⟨_,_,rfl,hS.only (.c k1 (.c k0 .n)),Yp⟩
end Go.Proofs.YtbmbbcaaimehkaaGreat
end
end
section
namespace Go.Proofs.YtbmbbcaaimehkaaGreat
open Go.Lf
def ZfB (Xg:(ZV×Bool)) (v59:Int) (ZdA:(Int ->Option Int)) (x62:(List Zh)):Int ->(Int ->Option Int) ->Option Int:=fun v76 Zwn=>
 (bif decide (v76 < (x62.length:Int)) then(ZM x62 v76).bind fun x79=>(Zun Xg.1 v59 x79).bind fun x85=>(gd (!(!x85)) (ZM Xg.1.YV x79.place) default).bind fun x86=>(bif((!x85) || (!(Zez x86 (Yq.mk v59 false x79.age)))) then some 2 else Zwn (Y6 (v76 + 1))) else ZdA (Y6 (v59 + 1)))
def ZfC (F:Nat) (p0:Zb) (Xg:(ZV×Bool)):Int ->(Int ->Option Int) ->Option Int:=fun v59 ZdA=>
 (bif decide (v59 < (p0.held.length:Int)) then(ZM p0.held v59).bind fun x62=>loop F (ZfB Xg v59 ZdA x62) 0 else some 0)
def ZiX (F:Nat) (p0:Zb) (Xg:(ZV×Bool)):Int ->(Int ->Option Int) ->Option Int:=fun v40 Zwr=>
 (bif decide (v40 < (p0.wire.length:Int)) then(ZM p0.wire v40).bind fun x43=>(Zy1 Xg.1 x43).bind fun x53=>(bif(!x53) then some 2 else Zwr (Y6 (v40 + 1))) else loop F (ZfC F p0 Xg) 0)
def Zmq (F:Nat) (p0:Zb):Option Int:=
 (Zy3 F p0).bind fun x3=>(gd (!(!x3)) (Zuq F p0) default).bind fun x4=>(bif((!x3) || (!x4)) then some 2 else(mkL (Yq.mk 0 false 0) 24 (p0.ZA.length:Int) (p0.ZA.length:Int)).bind fun z5=>(Zy2 F (ZV.mk p0 z5)).bind fun Xg=>(gd (!(!Xg.2)) (Zup F Xg.1) default).bind fun x32=>(gd (!((!Xg.2) || (!x32))) (Zuo F Xg.1) default).bind fun x33=>(bif(((!Xg.2) || (!x32)) || (!x33)) then some 2 else loop F (ZiX F p0 Xg) 0))
def ZfA (v11:Int) (Qp:(Int×Int ->Option (Int×Int))):Int ->Option (Int×Int):=fun v17=>
 Qp (v17,Y6 (v11 + 1))
def Zmp (F:Nat) (p0:Zb):Int×Int ->(Int×Int ->Option (Int×Int)) ->Option (Int×Int):=fun(v7,v11) Qp=>
 (bif decide (v11 < (p0.wire.length:Int)) then(ZM p0.wire v11).bind fun x22=>(bif(x22.kind==1) then(Zj2 F p0 x22.Zl.place).bind fun x32=>(ZfA v11 Qp) (Y6 (v7 + (Y6 (2 * (Y6 (x32.1.age - x22.Zl.age)))))) else(ZfA v11 Qp) v7) else some (v7,0))
def Zri (F:Nat) (p0:Zb):Option (Int×Int):=
 (Zmq F p0).bind fun x3=>(bif(x3 !=0) then some (0,2) else loop F (Zmp F p0) ((p0.wire.length:Int),0))
end Go.Proofs.YtbmbbcaaimehkaaGreat
end
section
set_option maxRecDepth 20000
noncomputable section
namespace Go.Proofs.YtbmbbcaaimehkaaGreat
open Go.YB Go.Lf
theorem Zzc {F wm:Nat} {h:H} {p0:Zb} {Zk:Option Addr} {Zj:Nat} {Zp:Option Addr} {Zo:Nat} {Zn:Option Addr} {Zm:Nat} {Zr:Option Addr} {Zq:Nat} {Zv:Option Addr} {Zu:Nat} {r:Int} (Z0:wm <=h.size) (ZC:Sl (Zw .i64) wm h Zk Zj p0.ZA) (ZQ:Sl (Yb (Zw .i64)) wm h Zp Zo p0.boxes) (ZL:Sl (Yb Zd) wm h Zn Zm p0.entries) (ZP:Sl (Yb Ze) wm h Zr Zq p0.held) (ZK:Sl Zf wm h Zv Zu p0.wire) (hL:Zmq F p0=some r):
 WR XX 36 #[.agg [.slice Zk p0.ZA.length Zj,.slice Zp p0.boxes.length Zo,.slice Zn p0.entries.length Zm,.slice Zr p0.held.length Zq,.slice Zv p0.wire.length Zu,.int .i64 p0.said].toArray] wm h (CP (fun(v:Value) (Gb:List (Ast wm))=>v= .int .i64 r∧Gb= []) [] h):=by
 refine bg Tryz.ntmps36 Z0 Yj.nil ?_;intro T hT hS;unfold Zmq at hL;refine r3 ?_;rintro _ h2 ⟨b1,eb1,rfl,hS⟩;refine r6 ?_;refine r1 ?_;obtain⟨x3,hx3,hL⟩:=bind_some hL;refine WO.cp gN rfl (XT.fn ZK1 (Zg lk ZI)) (WR.Qe rfl (ZHo (Nat.le_refl _) (hS.YK ZC) (hS.YK ZQ) (hS.YK ZL) (hS.YK ZP) (hS.YK ZK) hx3)) ?_;refine r3 ?_;obtain⟨x4,hx4,hL⟩:=Yi hL;refine WO.gcp (ZB.no rfl rfl rfl (ZH rfl fh)) rfl (fun hg=>(XT.fn ZK0 (Zg (Y2 fh rfl hg) ZI))) (fun hg=>ZHn (hS.YK ZC) (hS.YK ZQ) (hS.YK ZL) (hS.YK ZP) (hS.YK ZK) (hx4 hg)) ?_;refine r4 ?_;refine cn hL ?_ ?_
 ·intro hc hL;refine r6 ?_;refine r1 ?_;exact rt hL hT hS
 ·intro hc hL;refine r3 ?_;refine WC.YE mixed Kq0 ?_;refine r4 ?_;obtain⟨z5,hz5,hL⟩:=bind_some hL;refine WX.hn gN rfl (ZvM (e:=Xz) (x0:= (Yq.mk 0 false 0)) () hS Zhp UX (ZCj) Zk9 rfl rfl (Z9 fh rfl) (Z9 fh rfl) rfl trivial hz5) ?_ rfl;rintro _ h7 ⟨b6,c8,eb6,rfl,hS⟩;refine WX.w gN rfl (Xo ZH6 (Zy lk (Zy lk Z4)) rfl (cs':= [.slice Zk p0.ZA.length Zj,.slice Zp p0.boxes.length Zo,.slice Zn p0.entries.length Zm,.slice Zr p0.held.length Zq,.slice Zv p0.wire.length Zu,.int .i64 p0.said,.slice (some ⟨b6,0,none⟩) z5.length c8]) rfl) ?_ rfl;refine WX.hn gN rfl (ZCQ hS lk (vs:= [.slice Zk p0.ZA.length Zj,.slice Zp p0.boxes.length Zo,.slice Zn p0.entries.length Zm,.slice Zr p0.held.length Zq,.slice Zv p0.wire.length Zu,.int .i64 p0.said,.slice (some ⟨b6,0,none⟩) z5.length c8]) rfl) ?_ rfl;rintro _ h10 ⟨b9,eb9,rfl,hS⟩;refine r6 ?_;refine r1 ?_;obtain⟨Xg,ZgJ,hL⟩:=bind_some hL;refine WO.cl gN rfl (XT.fn ZKZ (Zg lk ZI)) hS (.c k0 (.c k0 .n)) (fun g' hz hf hO=>ZHl (p0:= (ZV.mk p0 z5)) (by rw [hz];exact hS.hw) ((hS.sl ZC).mono hf) ((hS.sl ZQ).mono hf) ((hS.sl ZL).mono hf) ((hS.sl ZP).mono hf) ((hS.sl ZK).mono hf) hO ZgJ) ?_;rintro _ h30 _ ⟨a12,c14,a15,c17,a18,c20,a21,c23,a24,c26,a27,n28,c29,rfl,rfl⟩ hS;obtain rfl:=hS.on k6;refine r3 ?_;obtain⟨x32,hx32,hL⟩:=Yi hL;refine WO.gcp (ZB.no rfl rfl rfl (ZH rfl fh)) rfl (fun hg=>(XT.fn ZKY (Zg (Y2 fh rfl hg) ZI))) (fun hg=>ZHk (hS.atB k0) (.inl (hS.lt k0)) (hS.Zau k1) (hS.Zau k2) (hS.Zau k3) (hS.Zau k4) (hS.Zau k5) (hS.ord k6) (hx32 hg)) ?_;refine r4 ?_;obtain⟨x33,Zt4,hL⟩:=Yi hL;refine WO.gcp (ZB.no rfl rfl rfl (ZH rfl fh)) rfl (fun hg=>(XT.fn ZKX (Zg (Y2 fh rfl hg) ZI))) (fun hg=>ZHi (hS.atB k0) (.inl (hS.lt k0)) (hS.Zau k1) (hS.Zau k2) (hS.Zau k3) (hS.Zau k4) (hS.Zau k5) (hS.ord k6) (Zt4 hg)) ?_;refine r4 ?_;refine cn hL ?_ ?_
  ·intro hc hL;refine r6 ?_;refine r1 ?_;exact rt hL hT hS
  ·intro hc hL;refine Xn ?_;refine WC.loop (WL.lift hL (fun(v40:Int) (s:Fs)=>∃ (Zq4:Fr) (h34:H),s= ⟨Zq4,[],h34,none⟩∧Sp wm T h [bx wm b1 [.slice Zk p0.ZA.length Zj,.slice Zp p0.boxes.length Zo,.slice Zn p0.entries.length Zm,.slice Zr p0.held.length Zq,.slice Zv p0.wire.length Zu,.int .i64 p0.said],bx wm b9 [.slice a12 Xg.1.Za.ZA.length c14,.slice a15 Xg.1.Za.boxes.length c17,.slice a18 Xg.1.Za.entries.length c20,.slice a21 Xg.1.Za.held.length c23,.slice a24 Xg.1.Za.wire.length c26,.int .i64 Xg.1.Za.said,.slice a27 Xg.1.YV.length c29],Jw wm (Yb (Zw .i64)) (a12,c14) Xg.1.Za.ZA,Jw wm (Yb (Yb (Zw .i64))) (a15,c17) Xg.1.Za.boxes,Jw wm (Yb (Yb Zd)) (a18,c20) Xg.1.Za.entries,Jw wm (Yb (Yb Ze)) (a21,c23) Xg.1.Za.held,Jw wm (Yb Zf) (a24,c26) Xg.1.Za.wire,ow wm Xz a27 Xg.1.YV.length c29 Xg.1.YV] h34∧Zq4.at 1= .pointer (some ⟨b1,0,none⟩)∧Zq4.at 3= .pointer (some ⟨b9,0,none⟩)∧Zq4.at 39= .slice Zv p0.wire.length Zu∧Zq4.at 40= .int .i64 (p0.wire.length:Int)∧Zq4.at 41= .int .i64 v40) ⟨_,_,rfl,hS.only (.c k7 (.c k0 (.c k0 (.c k0 (.c k0 (.c k0 (.c k0 (.c k0 .n)))))))),Yp⟩ ?_);clear hL hS;rintro Zwr v40 s ZBi hL ⟨Zq4,h34,rfl,hS,e36,e37,e38,e39,e41⟩;dsimp only [ZiX] at hL;refine r6 ?_;refine cn hL ?_ ?_
   ·intro hc hL;refine r6 ?_;obtain⟨x43,Zoa,hL⟩:=bind_some hL;obtain⟨b44,o45,⟨⟨a46,c47⟩,⟨a48,c49⟩⟩,Zow,ZoH,Zx9,Zoz⟩:=Sl.at_ ZK Zoa;refine WO.w gN rfl (Zx XU Ym lk lk rfl Zow Zoa) ?_;have ZDi:Sl (Zw .i64) wm h a46 c47 x43.places:=Zoz.1;have Zon:Sl (Zw .i64) wm h a48 c49 x43.ZU:=Zoz.2;refine WO.w gN rfl (Yx UC Ym (Z9 fh rfl) (At.fz hS.fz Zx9 ZoH) (j:=0) rfl rfl (ws:= [.int .i64 x43.kind,.int .i64 x43.ZO,.int .i64 x43.Zl.msg,.int .i64 x43.Zl.place,.int .i64 x43.Zl.from_,.int .i64 x43.Zl.age,.int .i64 x43.Zl.hops,.slice a46 x43.places.length c47,.slice a48 x43.ZU.length c49,.int .i64 x43.place,.int .i64 x43.at_,.int .i64 x43.age]) rfl) ?_;refine r1 ?_;rintro _ h51 ⟨b50,ZXE,rfl,hS⟩;refine r1 ?_;rintro h52 hS;refine r6 ?_;obtain⟨x53,ZPE,hL⟩:=bind_some hL;refine WO.cp gN rfl (XT.fn ZKW (Zg lk (Zg lk ZI))) (WR.Qe rfl (ZHg (Nat.le_refl _) (hS.atB k2) (.inl (hS.lt k2)) (hS.Zau k3) (hS.Zau k4) (hS.Zau k5) (hS.Zau k6) (hS.Zau k7) (hS.ord k8) (hS.YK ZDi) (hS.YK Zon) ZPE)) ?_;refine r3 ?_;refine cn hL ?_ ?_
    ·intro hc hL;refine r8 ?_;refine r3 ?_;exact rt hL hT hS
    ·intro hc hL;refine r6 ?_;refine r1 ?_;exact Z7.YU (ZBi _ _ hL ⟨_,_,rfl,hS.only (.c k1 (.c k1 (.c k1 (.c k1 (.c k1 (.c k1 (.c k1 (.c k1 .n)))))))),Yp⟩)
   ·intro hc hL;refine Xn ?_;refine r3 ?_;refine WC.loop (WL.lift hL (fun(v59:Int) (s:Fs)=>∃ (Zdc:Fr) (h54:H),s= ⟨Zdc,[],h54,none⟩∧Sp wm T h [bx wm b9 [.slice a12 Xg.1.Za.ZA.length c14,.slice a15 Xg.1.Za.boxes.length c17,.slice a18 Xg.1.Za.entries.length c20,.slice a21 Xg.1.Za.held.length c23,.slice a24 Xg.1.Za.wire.length c26,.int .i64 Xg.1.Za.said,.slice a27 Xg.1.YV.length c29],Jw wm (Yb (Zw .i64)) (a12,c14) Xg.1.Za.ZA,Jw wm (Yb (Yb (Zw .i64))) (a15,c17) Xg.1.Za.boxes,Jw wm (Yb (Yb Zd)) (a18,c20) Xg.1.Za.entries,Jw wm (Yb (Yb Ze)) (a21,c23) Xg.1.Za.held,Jw wm (Yb Zf) (a24,c26) Xg.1.Za.wire,ow wm Xz a27 Xg.1.YV.length c29 Xg.1.YV] h54∧Zdc.at 3= .pointer (some ⟨b9,0,none⟩)∧Zdc.at 51= .slice Zr p0.held.length Zq∧Zdc.at 52= .int .i64 (p0.held.length:Int)∧Zdc.at 53= .int .i64 v59) ⟨_,_,rfl,hS.only (.c k1 (.c k1 (.c k1 (.c k1 (.c k1 (.c k1 (.c k1 .n))))))),Yp⟩ ?_);clear hL hS;rintro ZdA v59 s ZlN hL ⟨Zdc,h54,rfl,hS,e56,e57,e58,e60⟩;dsimp only [ZfC] at hL;refine r6 ?_;refine cn hL ?_ ?_
    ·intro hc hL;refine r6 ?_;refine r1 ?_;obtain⟨x62,Zqs,hL⟩:=bind_some hL;obtain⟨b63,o64,⟨a65,c66⟩,ZxD,Zyn,Zx6,ZxW⟩:=Sl.at_ ZP Zqs;refine WO.w gN rfl (Zx QW Xa lk lk rfl ZxD Zqs) ?_;have Zw2:Sl Ze wm h a65 c66 x62:=ZxW;refine WO.w gN rfl (ZR UJ (Z9 fh rfl) (At.fz hS.fz Zx6 Zyn) (j:=0) rfl (v:= .slice a65 x62.length c66) rfl) ?_;refine Xn ?_;refine WC.loop (WL.lift hL (fun(v76:Int) (s:Fs)=>∃ (Zbp:Fr) (h67:H),s= ⟨Zbp,[],h67,none⟩∧Sp wm T h [bx wm b9 [.slice a12 Xg.1.Za.ZA.length c14,.slice a15 Xg.1.Za.boxes.length c17,.slice a18 Xg.1.Za.entries.length c20,.slice a21 Xg.1.Za.held.length c23,.slice a24 Xg.1.Za.wire.length c26,.int .i64 Xg.1.Za.said,.slice a27 Xg.1.YV.length c29],Jw wm (Yb (Zw .i64)) (a12,c14) Xg.1.Za.ZA,Jw wm (Yb (Yb (Zw .i64))) (a15,c17) Xg.1.Za.boxes,Jw wm (Yb (Yb Zd)) (a18,c20) Xg.1.Za.entries,Jw wm (Yb (Yb Ze)) (a21,c23) Xg.1.Za.held,Jw wm (Yb Zf) (a24,c26) Xg.1.Za.wire,ow wm Xz a27 Xg.1.YV.length c29 Xg.1.YV] h67∧Zbp.at 3= .pointer (some ⟨b9,0,none⟩)∧Zbp.at 6= .int .i64 v59∧Zbp.at 51= .slice Zr p0.held.length Zq∧Zbp.at 52= .int .i64 (p0.held.length:Int)∧Zbp.at 53= .int .i64 v59∧Zbp.at 58= .slice a65 x62.length c66∧Zbp.at 59= .int .i64 (x62.length:Int)∧Zbp.at 60= .int .i64 v76) ⟨_,_,rfl,hS.only (.c k0 (.c k0 (.c k0 (.c k0 (.c k0 (.c k0 (.c k0 .n))))))),Yp⟩ ?_);clear hL hS;rintro Zwn v76 s ZBb hL ⟨Zbp,h67,rfl,hS,e69,e70,e71,e72,e73,e74,e75,e77⟩;dsimp only [ZfB] at hL;refine r6 ?_;refine cn hL ?_ ?_
     ·intro hc hL;refine r6 ?_;obtain⟨x79,ZJV,hL⟩:=bind_some hL;obtain⟨b80,o81,_,ZLo,ZMx,ZL2,ZTp⟩:=Sl.at_ Zw2 ZJV;refine WO.w gN rfl (Zx UG X8 lk lk rfl ZLo ZJV) ?_;refine WO.w gN rfl (Yx ZeN X8 (Z9 fh rfl) (At.fz hS.fz ZL2 ZMx) (j:=0) rfl rfl (ws:= [.int .i64 x79.msg,.int .i64 x79.place,.int .i64 x79.from_,.int .i64 x79.age,.int .i64 x79.hops]) rfl) ?_;refine r1 ?_;rintro _ h83 ⟨b82,ZXs,rfl,hS⟩;refine r1 ?_;rintro h84 hS;refine r3 ?_;refine WC.YE mixed Kq0 ?_;refine r3 ?_;obtain⟨x85,ZEQ,hL⟩:=bind_some hL;refine WX.cp gN rfl (XT.fn ZDt (Zg lk (Zg lk (Zg lk ZI)))) (WR.Qe rfl (Zy0 (Nat.le_refl _) (hS.atB k1) (.inl (hS.lt k1)) (hS.Zau k2) (hS.Zau k3) (hS.Zau k4) (hS.Zau k5) (hS.Zau k6) (hS.ord k7) ZEQ)) ?_ rfl rfl;refine r8 ?_;obtain⟨x86,ZJS,hL⟩:=Yi hL;obtain⟨b87,o88,_,hQ⟩:=Src.atG (fun hg=>(hS.Qw k7)) ZJS;have ZLl:=fun hg=>(hQ hg).1
      have ZMu:=fun hg=>(hQ hg).2.1
      have ZTn:=fun hg=>(hQ hg).2.2
      refine WX.gv (ZB.no rfl rfl rfl (Xf rfl (YT rfl fh))) rfl (fun hg=>(Zx Zhp UX (Y2 (YT rfl fh) rfl hg) (Y2 fh rfl hg) rfl (ZLl hg) (ZJS hg))) ?_ rfl;refine WX.gv (ZB.no rfl rfl rfl (Xf rfl (YT rfl (ZH rfl fh)))) rfl (fun hg=>(Yx Zm4 UX (Y2 fh rfl hg) (ZMu hg) (j:=0) rfl rfl (ws:= [.int .i64 x86.machine,.bool x86.here,.int .i64 x86.age]) rfl)) ?_ rfl;refine r3 ?_;refine WX.gv (ZB.no rfl rfl rfl (X5 rfl (YT rfl (ZH rfl fh)))) rfl (fun hg=>(Xo ZrF (Zy (Y2 (YT rfl fh) rfl hg) (Zy lk (Zy (Y2 fh rfl hg) Z4))) rfl (cs':= [.int .i64 v59,.bool false,.int .i64 x79.age]) rfl)) ?_ rfl;refine WX.gv (ZB.no rfl rfl rfl (X5 rfl (Xf rfl fh))) rfl (fun hg=>(Qa (Y2 (Xf rfl fh) rfl hg) (Y2 fh rfl hg) (ZaF (xs:= [.int .i64 x86.machine,.bool x86.here,.int .i64 x86.age]) (ys:= [.int .i64 v59,.bool false,.int .i64 x79.age]) (ZHN x86 (Yq.mk v59 false x79.age)) rfl rfl))) ?_ rfl;refine r3 ?_;refine cn hL ?_ ?_
      ·intro hc hL;refine Xn ?_;refine r3 ?_;exact rt hL hT hS
      ·intro hc hL;refine r6 ?_;refine r1 ?_;exact Z7.YU (ZBb _ _ hL ⟨_,_,rfl,hS.only (.c k1 (.c k1 (.c k1 (.c k1 (.c k1 (.c k1 (.c k1 .n))))))),Yp⟩)
     ·intro hc hL;refine r8 ?_;refine r2 ?_;exact Z7.YU (ZlN _ _ hL ⟨_,_,rfl,hS.only (.c k0 (.c k0 (.c k0 (.c k0 (.c k0 (.c k0 (.c k0 .n))))))),Yp⟩)
    ·intro hc hL;refine r8 ?_;refine r3 ?_;exact rt hL hT hS
theorem ZHB {F wm:Nat} {h:H} {p0:Zb} {Zk:Option Addr} {Zj:Nat} {Zp:Option Addr} {Zo:Nat} {Zn:Option Addr} {Zm:Nat} {Zr:Option Addr} {Zq:Nat} {Zv:Option Addr} {Zu:Nat} {r:(Int×Int)} (Z0:wm <=h.size) (ZC:Sl (Zw .i64) wm h Zk Zj p0.ZA) (ZQ:Sl (Yb (Zw .i64)) wm h Zp Zo p0.boxes) (ZL:Sl (Yb Zd) wm h Zn Zm p0.entries) (ZP:Sl (Yb Ze) wm h Zr Zq p0.held) (ZK:Sl Zf wm h Zv Zu p0.wire) (hL:Zri F p0=some r):
 WR XX 39 #[.agg [.slice Zk p0.ZA.length Zj,.slice Zp p0.boxes.length Zo,.slice Zn p0.entries.length Zm,.slice Zr p0.held.length Zq,.slice Zv p0.wire.length Zu,.int .i64 p0.said].toArray] wm h (CP (fun(v:Value) (Gb:List (Ast wm))=>v= .tuple [.int .i64 r.1,.int .i64 r.2].toArray∧Gb= []) [] h):=by
 refine bg Tryz.ntmps39 Z0 Yj.nil ?_;intro T hT hS;unfold Zri at hL;refine r3 ?_;rintro _ h2 ⟨b1,eb1,rfl,hS⟩;refine r8 ?_;obtain⟨x3,hx3,hL⟩:=bind_some hL;refine WO.cp gN rfl (XT.fn ZDx (Zg lk ZI)) (WR.Qe rfl (Zzc (Nat.le_refl _) (hS.YK ZC) (hS.YK ZQ) (hS.YK ZL) (hS.YK ZP) (hS.YK ZK) hx3)) ?_;refine r3 ?_;refine cn hL ?_ ?_
 ·intro hc hL;refine r8 ?_;have hr:=Oi0 hL;subst hr;exact YJ.gen (vs:= [.int .i64 0,.int .i64 2]) rfl (Z6 lk (Z6 lk ZX)) rfl ⟨_,⟨rfl,rfl⟩,hT ▸ hS.only .n⟩
 ·intro hc hL;refine r16 ?_;refine r4 ?_;refine WC.loop (WL.lift hL (fun(p:Int×Int) (s:Fs)=>match p with | (v7,v11)=>∃ (fr5:Fr) (h4:H),s= ⟨fr5,[],h4,none⟩∧Sp wm T h [bx wm b1 [.slice Zk p0.ZA.length Zj,.slice Zp p0.boxes.length Zo,.slice Zn p0.entries.length Zm,.slice Zr p0.held.length Zq,.slice Zv p0.wire.length Zu,.int .i64 p0.said]] h4∧fr5.at 1= .pointer (some ⟨b1,0,none⟩)∧fr5.at 4= .int .i64 v7∧fr5.at 16= .slice Zv p0.wire.length Zu∧fr5.at 17= .int .i64 (p0.wire.length:Int)∧fr5.at 18= .int .i64 v11) ⟨_,_,rfl,hS.only (.c k0 .n),Yp⟩ ?_);clear hL hS;rintro Qp ⟨v7,v11⟩ s Ux hL ⟨fr5,h4,rfl,hS,e6,e8,e9,e10,e12⟩;dsimp only [Zmp] at hL;refine r6 ?_;refine cn hL ?_ ?_
  ·intro hc hL;refine r2 ?_;refine WC.Zam (r:=r) (fun(v17:Int) (s:Fs)=>∃ (Zbq:Fr) (h14:H),s= ⟨Zbq,[],h14,none⟩∧Sp wm T h [bx wm b1 [.slice Zk p0.ZA.length Zj,.slice Zp p0.boxes.length Zo,.slice Zn p0.entries.length Zm,.slice Zr p0.held.length Zq,.slice Zv p0.wire.length Zu,.int .i64 p0.said]] h14∧Zbq.at 1= .pointer (some ⟨b1,0,none⟩)∧Zbq.at 4= .int .i64 v17∧Zbq.at 16= .slice Zv p0.wire.length Zu∧Zbq.at 17= .int .i64 (p0.wire.length:Int)∧Zbq.at 18= .int .i64 v11) (ZfA v11 Qp) ?_ ?_
   ·clear hL hS;rintro v17 s hL ⟨Zbq,h14,rfl,hS,e16,e18,e19,e20,e21⟩;dsimp only [ZfA] at hL;refine r4 ?_;exact Z7.YU (Ux _ _ hL ⟨_,_,rfl,hS.only (.c k0 .n),Yp⟩)
   ·skip;refine r3 ?_;obtain⟨x22,ZJ6,hL⟩:=bind_some hL;obtain⟨b23,o24,⟨⟨a25,c26⟩,⟨a27,c28⟩⟩,ZLE,ZMO,ZMl,ZDF⟩:=Sl.at_ ZK ZJ6;refine WO.w gN rfl (Zx XU Ym lk lk rfl ZLE ZJ6) ?_;have ZSZ:Sl (Zw .i64) wm h a25 c26 x22.places:=ZDF.1;have ZKo:Sl (Zw .i64) wm h a27 c28 x22.ZU:=ZDF.2;refine WO.w gN rfl (Yx UC Ym (Z9 fh rfl) (At.fz hS.fz ZMl ZMO) (j:=0) rfl rfl (ws:= [.int .i64 x22.kind,.int .i64 x22.ZO,.int .i64 x22.Zl.msg,.int .i64 x22.Zl.place,.int .i64 x22.Zl.from_,.int .i64 x22.Zl.age,.int .i64 x22.Zl.hops,.slice a25 x22.places.length c26,.slice a27 x22.ZU.length c28,.int .i64 x22.place,.int .i64 x22.at_,.int .i64 x22.age]) rfl) ?_;refine r1 ?_;rintro _ h30 ⟨b29,ZHO,rfl,hS⟩;refine r1 ?_;rintro h31 hS;refine r8 ?_;refine r1 ?_;refine cn hL ?_ ?_
    ·intro hc hL;refine r6 ?_;obtain⟨x32,hx32,hL⟩:=bind_some hL;refine WO.cl gN rfl (XT.fn Zxu (Zg lk (Zg lk ZI))) hS .n (fun g' hz hf hO=>Zrf (by rw [hz];exact hS.hw) ((hS.sl ZC).mono hf) ((hS.sl ZQ).mono hf) ((hS.sl ZL).mono hf) ((hS.sl ZP).mono hf) ((hS.sl ZK).mono hf) hx32) ?_;rintro _ h33 _ ⟨rfl,rfl⟩ hS;refine r4 ?_;rintro _ h36 ⟨b35,ZXK,rfl,hS⟩;refine r1 ?_;rintro h37 hS;refine r16 ?_;exact Xh.YU _ hL ⟨_,_,rfl,hS.only (.c k2 .n),Yp⟩
    ·intro hc hL;refine r2 ?_;exact Xh.YU _ hL ⟨_,_,rfl,hS.only (.c k1 .n),Yp⟩
  ·intro hc hL;refine Xn ?_;refine r1 ?_;have hr:=Oi0 hL;subst hr;exact YJ.gen (vs:= [.int .i64 v7,.int .i64 0]) rfl (Z6 lk (Z6 lk ZX)) rfl ⟨_,⟨rfl,rfl⟩,hT ▸ hS.only .n⟩
end Go.Proofs.YtbmbbcaaimehkaaGreat
end
end
section
namespace Go.Proofs.YtbmbbcaaimehkaaGreat
open Go.Lf
def ZfD (F:Nat) (v36:Int) (v38:(List Int)) (v42:(List (List Int))) (v47:(List (List Zt))) (v52:(List (List Zh))) (v57:(List Zc)) (v61:Int) (v62:(List Zi)) (Ky:(Int×(List Int)×(List (List Int))×(List (List Zt))×(List (List Zh))×(List Zc)×Int×(List Zi) ->Option (Zb×(List Zi)×Int×Int))):Int ->Option (Zb×(List Zi)×Int×Int):=fun v73=>
 (Zur F (Yn.mk (Zb.mk v38 v42 v47 v52 v57 v61) v62) v73).bind fun x75=>Ky (Y6 (v36 + 1),x75.Za.ZA,x75.Za.boxes,x75.Za.entries,x75.Za.held,x75.Za.wire,x75.Za.said,x75.events)
def Zmr (F:Nat) (p1:(List Int)):Int×(List Int)×(List (List Int))×(List (List Zt))×(List (List Zh))×(List Zc)×Int×(List Zi) ->(Int×(List Int)×(List (List Int))×(List (List Zt))×(List (List Zh))×(List Zc)×Int×(List Zi) ->Option (Zb×(List Zi)×Int×Int)) ->Option (Zb×(List Zi)×Int×Int):=fun(v36,v38,v42,v47,v52,v57,v61,v62) Ky=>
 (bif decide ((v57.length:Int) > 0) then(bif decide (v36 < (p1.length:Int)) then(ZM p1 v36).bind fun x96=>(Zqb x96 (v57.length:Int)).bind fun x99=>(ZfD F v36 v38 v42 v47 v52 v57 v61 v62 Ky) x99 else(ZfD F v36 v38 v42 v47 v52 v57 v61 v62 Ky) 0) else some ((Zb.mk v38 v42 v47 v52 v57 v61),v62,v36,0))
def KG (F:Nat) (p0:Zb) (p1:(List Int)):Int ->Option (Zb×(List Zi)×Int×Int):=fun v9=>
 (bif decide (v9 >=0) then some ((Zb.mk [] [] [] [] [] 0),[],0,2) else(Zy9 F p0).bind fun Xg=>loop F (Zmr F p1) (0,Xg.ZA,Xg.boxes,Xg.entries,Xg.held,Xg.wire,Xg.said,[]))
def Zcm (F:Nat) (p0:Zb) (p1:(List Int)):Int ->(Int ->Option (Zb×(List Zi)×Int×Int)) ->Option (Zb×(List Zi)×Int×Int):=fun Zp1 Zsx=>
 (bif decide (Zp1 < (p1.length:Int)) then(ZM p1 Zp1).bind fun ZEd=>(bif decide (ZEd < 0) then(KG F p0 p1) Zp1 else Zsx (Y6 (Zp1 + 1))) else(KG F p0 p1) (-1))
def Zrj (F:Nat) (p0:Zb) (p1:(List Int)):Option (Zb×(List Zi)×Int×Int):=
 (Zmq F p0).bind fun x5=>(bif(!((x5 !=0) || (decide ((p1.length:Int) > 80)))) then loop F (Zcm F p0 p1) 0 else some ((Zb.mk [] [] [] [] [] 0),[],0,2))
end Go.Proofs.YtbmbbcaaimehkaaGreat
end
section
set_option maxRecDepth 20000
noncomputable section
namespace Go.Proofs.YtbmbbcaaimehkaaGreat
open Go.YB Go.Lf
theorem ZHC {F wm:Nat} {h:H} {p0:Zb} {p1:(List Int)} {Zk:Option Addr} {Zj:Nat} {Zp:Option Addr} {Zo:Nat} {Zn:Option Addr} {Zm:Nat} {Zr:Option Addr} {Zq:Nat} {Zv:Option Addr} {Zu:Nat} {YI:Option Addr} {YH:Nat} {r:(Zb×(List Zi)×Int×Int)} (Z0:wm <=h.size) (ZC:Sl (Zw .i64) wm h Zk Zj p0.ZA) (ZQ:Sl (Yb (Zw .i64)) wm h Zp Zo p0.boxes) (ZL:Sl (Yb Zd) wm h Zn Zm p0.entries) (ZP:Sl (Yb Ze) wm h Zr Zq p0.held) (ZK:Sl Zf wm h Zv Zu p0.wire) (Xt:Sl (Zw .i64) wm h YI YH p1) (hL:Zrj F p0 p1=some r):
 WR XX 30 #[.agg [.slice Zk p0.ZA.length Zj,.slice Zp p0.boxes.length Zo,.slice Zn p0.entries.length Zm,.slice Zr p0.held.length Zq,.slice Zv p0.wire.length Zu,.int .i64 p0.said].toArray,.slice YI p1.length YH] wm h (CP (fun(v:Value) (Gb:List (Ast wm))=>∃ (Xl:Option Addr) (Xj:Nat) (Xk:Nat) (ZbT:Option Addr) (ZbI:Nat) (ZbP:Nat) (ZaW:Nat ->Option Addr×Nat×Nat) (ZbS:Option Addr) (ZbH:Nat) (ZbO:Nat) (ZaV:Nat ->Option Addr×Nat×Nat) (ZbR:Option Addr) (ZbG:Nat) (ZbN:Nat) (ZaU:Nat ->Option Addr×Nat×Nat) (ZbQ:Option Addr) (ZbF:Nat) (ZbM:Nat) (ZnN:Option Addr) (ZnH:Nat) (ZnL:Nat),v= .tuple [.agg [.slice Xl Xj Xk,.slice ZbT ZbI ZbP,.slice ZbS ZbH ZbO,.slice ZbR ZbG ZbN,.slice ZbQ ZbF ZbM,.int .i64 r.1.said].toArray,.slice ZnN ZnH ZnL,.int .i64 r.2.2.1,.int .i64 r.2.2.2].toArray∧Gb= [ow wm (Zw .i64) Xl Xj Xk r.1.ZA,YR wm (ZW (Zw .i64)) ZbT ZbI ZbP ZaW r.1.boxes,YR wm (ZW Zd) ZbS ZbH ZbO ZaV r.1.entries,YR wm (ZW Ze) ZbR ZbG ZbN ZaU r.1.held,ow wm Zf ZbQ ZbF ZbM r.1.wire,ow wm ZG ZnN ZnH ZnL r.2.1]) [] h):=by
 refine bg Tryz.ntmps30 Z0 Yj.nil ?_;intro T hT hS;unfold Zrj at hL;refine r3 ?_;rintro _ h2 ⟨b1,eb1,rfl,hS⟩;refine r1 ?_;rintro _ h4 ⟨b3,eb3,rfl,hS⟩;refine r8 ?_;refine r1 ?_;obtain⟨x5,hx5,hL⟩:=bind_some hL;refine WO.cp gN rfl (XT.fn ZDx (Zg lk ZI)) (WR.Qe rfl (Zzc (Nat.le_refl _) (hS.YK ZC) (hS.YK ZQ) (hS.YK ZL) (hS.YK ZP) (hS.YK ZK) hx5)) ?_;refine r8 ?_;refine WO.ZGZ (ZB.no rfl rfl rfl (ZH rfl fh)) (fun hk6=>?_) (fun hk6=>?_)
 ·replace hL:=ZeC hk6 hL;refine WO.inl (ZB.on (ZB.no rfl rfl rfl (ZH rfl fh)) hk6) rfl (XT.fn ZK4 (Zg (Y2 fh rfl hk6) (Zg ZQ1 ZI))) (WF.begin (args:= [_,_]) (fn:=Tryz.f63) Kq0 (by exact rfl) Tryz.ntmps63 (by simp) ?_);simp only [Y3,Xm,Nat.reduceAdd];refine r8 ?_;refine r1 ?_;refine WO.ZwK (r:=r) (fun(v9:Int) (v:Value) (h7:H)=>v= .int .i64 v9∧Sp wm T h [bx wm b1 [.slice Zk p0.ZA.length Zj,.slice Zp p0.boxes.length Zo,.slice Zn p0.entries.length Zm,.slice Zr p0.held.length Zq,.slice Zv p0.wire.length Zu,.int .i64 p0.said],bx wm b3 [.slice none 0 0,.slice none 0 0,.slice none 0 0,.slice none 0 0,.slice none 0 0,.int .i64 0]] h7) (KG F p0 p1) gN rfl (XT.fn ZKQ (Zg lk (Zg lk ZI))) ?_ (WF.begin (args:= [_,_]) (fn:=Tryz.f87) Kq0 (by exact rfl) Tryz.ntmps87 (by simp) ?_)
  ·clear hL hS;rintro v9 v h7 hL ⟨rfl,hS⟩;dsimp only [KG] at hL;refine r4 ?_;refine r1 ?_;refine YJ.JE rfl (Z6 lk ZX) ?_;refine WO.w gN rfl (ZIa lk (ZEB hk6) lk) ?_;refine r2 ?_;refine cn hL ?_ ?_
   ·intro hc hL;refine r2 ?_;refine WO.w gN rfl (Xo Zpg Z4 rfl (cs':= [.slice none 0 0,.slice none 0 0,.slice none 0 0,.slice none 0 0,.slice none 0 0,.int .i64 0]) rfl) ?_;refine r1 ?_;rintro h10 hS;refine r6 ?_;refine r1 ?_;have hS:=hS.nil (e:= (Zw .i64));have hS:=hS.ZgH (e:= (ZW (Zw .i64))) (ps:=fun _=>(ZW (Zw .i64)).dflt);have hS:=hS.ZgH (e:= (ZW Zd)) (ps:=fun _=>(ZW Zd).dflt);have hS:=hS.ZgH (e:= (ZW Ze)) (ps:=fun _=>(ZW Ze).dflt);have hS:=hS.nil (e:=Zf);have hS:=hS.nil (e:=ZG);have hr:=Oi0 hL;subst hr;exact YJ.gen (vs:= [.agg [.slice none 0 0,.slice none 0 0,.slice none 0 0,.slice none 0 0,.slice none 0 0,.int .i64 0].toArray,.slice none 0 0,.int .i64 0,.int .i64 2]) rfl (JZ (X5 rfl (X5 rfl (YT rfl (ZH rfl fh)))) (J4 Zjp ZaQ (hS.atB k6) (j:=0) rfl rfl (ws:= [.slice none 0 0,.slice none 0 0,.slice none 0 0,.slice none 0 0,.slice none 0 0,.int .i64 0]) rfl) (Z6 lk (Z6 lk (Z6 lk ZX)))) rfl ⟨_,⟨none,0,0,none,0,0,(fun _=>(ZW (Zw .i64)).dflt),none,0,0,(fun _=>(ZW Zd).dflt),none,0,0,(fun _=>(ZW Ze).dflt),none,0,0,none,0,0,rfl,rfl⟩,hT ▸ hS.only (.c k5 (.c k4 (.c k3 (.c k2 (.c k1 (.c k0 .n))))))⟩
   ·intro hc hL;refine r4 ?_;refine r1 ?_;obtain⟨Xg,ZgJ,hL⟩:=bind_some hL;refine WO.cl gN rfl (XT.fn ZK9 (Zg lk ZI)) hS .n (fun g' hz hf hO=>ZHw (by rw [hz];exact hS.hw) ((hS.sl ZC).mono hf) ((hS.sl ZQ).mono hf) ((hS.sl ZL).mono hf) ((hS.sl ZP).mono hf) ((hS.sl ZK).mono hf) ZgJ) ?_;rintro _ h27 _ ⟨a12,n13,c14,a15,n16,c17,Zv0,a18,n19,c20,Zse,a21,n22,c23,ZJi,a24,n25,c26,rfl,rfl⟩ hS;obtain rfl:=hS.on k0;obtain rfl:=hS.YS k1;obtain rfl:=hS.YS k2;obtain rfl:=hS.YS k3;obtain rfl:=hS.on k4;refine WO.w gN rfl (Xo ZH7 (Zy lk Z4) rfl (cs':= [.slice a12 Xg.ZA.length c14,.slice a15 Xg.boxes.length c17,.slice a18 Xg.entries.length c20,.slice a21 Xg.held.length c23,.slice a24 Xg.wire.length c26,.int .i64 Xg.said,.slice none 0 0]) rfl) ?_;refine r1 ?_;rintro _ h30 ⟨b29,ZHO,rfl,hS⟩;refine r8 ?_;refine r2 ?_;have hS:=hS.nil (e:=ZG);refine WC.loop (WL.lift hL (fun(p:Int×(List Int)×(List (List Int))×(List (List Zt))×(List (List Zh))×(List Zc)×Int×(List Zi)) (s:Fs)=>match p with | (v36,v38,v42,v47,v52,v57,v61,v62)=>∃ (Zuh:Fr) (h31:H) (a39:Option Addr) (c40:Nat) (n41:Nat) (a43:Option Addr) (c44:Nat) (n45:Nat) (ZAR:Nat ->Option Addr×Nat×Nat) (a48:Option Addr) (c49:Nat) (n50:Nat) (ZAP:Nat ->Option Addr×Nat×Nat) (a53:Option Addr) (c54:Nat) (n55:Nat) (ZAO:Nat ->Option Addr×Nat×Nat) (a58:Option Addr) (c59:Nat) (n60:Nat) (a63:Option Addr) (c64:Nat) (n65:Nat),s= ⟨Zuh,[],h31,none⟩∧Sp wm T h [bx wm b3 [.slice none 0 0,.slice none 0 0,.slice none 0 0,.slice none 0 0,.slice none 0 0,.int .i64 0],ow wm (Zw .i64) a39 n41 c40 v38,YR wm (ZW (Zw .i64)) a43 n45 c44 ZAR v42,YR wm (ZW Zd) a48 n50 c49 ZAP v47,YR wm (ZW Ze) a53 n55 c54 ZAO v52,ow wm Zf a58 n60 c59 v57,ow wm ZG a63 n65 c64 v62,bx wm b29 [.slice a39 n41 c40,.slice a43 n45 c44,.slice a48 n50 c49,.slice a53 n55 c54,.slice a58 n60 c59,.int .i64 v61,.slice a63 n65 c64]] h31∧Zuh.at 1= .slice YI p1.length YH∧Zuh.at 4= .pointer (some ⟨b3,0,none⟩)∧Zuh.at 8= .pointer (some ⟨b29,0,none⟩)∧Zuh.at 9= .int .i64 v36) ⟨_,_,a12,c14,Xg.ZA.length,a15,c17,Xg.boxes.length,Zv0,a18,c20,Xg.entries.length,Zse,a21,c23,Xg.held.length,ZJi,a24,c26,Xg.wire.length,none,0,0,rfl,hS.only (.c k8 (.c k2 (.c k2 (.c k2 (.c k2 (.c k2 (.c k0 (.c k0 .n)))))))),Yp⟩ ?_);clear hL hS;rintro Ky ⟨v36,v38,v42,v47,v52,v57,v61,v62⟩ s ZlM hL ⟨Zuh,h31,a39,c40,n41,a43,c44,n45,ZAR,a48,c49,n50,ZAP,a53,c54,n55,ZAO,a58,c59,n60,a63,c64,n65,rfl,hS,e33,e34,e35,e37⟩;obtain rfl:=hS.on k1;obtain rfl:=hS.YS k2;obtain rfl:=hS.YS k3;obtain rfl:=hS.YS k4;obtain rfl:=hS.on k5;obtain rfl:=hS.on k6;dsimp only [Zmr] at hL;refine Xn ?_;refine cn hL ?_ ?_
    ·intro hc hL;refine r8 ?_;refine WC.Zam (r:=r) (fun(v73:Int) (s:Fs)=>∃ (Zbp:Fr) (h67:H),s= ⟨Zbp,[],h67,none⟩∧Sp wm T h [bx wm b3 [.slice none 0 0,.slice none 0 0,.slice none 0 0,.slice none 0 0,.slice none 0 0,.int .i64 0],bx wm b29 [.slice a39 v38.length c40,.slice a43 v42.length c44,.slice a48 v47.length c49,.slice a53 v52.length c54,.slice a58 v57.length c59,.int .i64 v61,.slice a63 v62.length c64],ow wm (Zw .i64) a39 v38.length c40 v38,YR wm (ZW (Zw .i64)) a43 v42.length c44 ZAR v42,YR wm (ZW Zd) a48 v47.length c49 ZAP v47,YR wm (ZW Ze) a53 v52.length c54 ZAO v52,ow wm Zf a58 v57.length c59 v57,ow wm ZG a63 v62.length c64 v62] h67∧Zbp.at 1= .slice YI p1.length YH∧Zbp.at 4= .pointer (some ⟨b3,0,none⟩)∧Zbp.at 8= .pointer (some ⟨b29,0,none⟩)∧Zbp.at 9= .int .i64 v36∧Zbp.at 10= .int .i64 v73) (ZfD F v36 v38 v42 v47 v52 v57 v61 v62 Ky) ?_ ?_
     ·clear hL hS;rintro v73 s hL ⟨Zbp,h67,rfl,hS,e69,e70,e71,e72,e74⟩;dsimp only [ZfD] at hL;refine r4 ?_;obtain⟨x75,ZPC,hL⟩:=bind_some hL;refine WO.cl gN rfl (XT.fn ZK2 (Zg lk (Zg lk ZI))) hS (.c k1 (.c k1 (.c k1 (.c k1 (.c k1 (.c k1 (.c k1 .n))))))) (fun g' hz hf hO=>ZHp (p0:= (Yn.mk (Zb.mk v38 v42 v47 v52 v57 v61) v62)) (by rw [hz];exact hS.hw) hO ZPC) ?_;rintro _ h94 _ ⟨a76,n77,c78,a79,n80,c81,ZJa,a82,n83,c84,ZI8,a85,n86,c87,ZI7,a88,n89,c90,a91,n92,c93,rfl,rfl⟩ hS;obtain rfl:=hS.on k1;obtain rfl:=hS.YS k2;obtain rfl:=hS.YS k3;obtain rfl:=hS.YS k4;obtain rfl:=hS.on k5;obtain rfl:=hS.on k6;refine r8 ?_;exact Z7.YU (ZlM _ _ hL ⟨_,_,a76,c78,x75.Za.ZA.length,a79,c81,x75.Za.boxes.length,ZJa,a82,c84,x75.Za.entries.length,ZI8,a85,c87,x75.Za.held.length,ZI7,a88,c90,x75.Za.wire.length,a91,c93,x75.events.length,rfl,hS.only (.c k7 (.c k1 (.c k1 (.c k1 (.c k1 (.c k1 (.c k1 (.c k0 .n)))))))),Yp⟩)
     ·skip;refine r8 ?_;refine cn hL ?_ ?_
      ·intro hc hL;refine WC.YE mixed Kq0 ?_;refine r2 ?_;obtain⟨x96,hx96,hL⟩:=bind_some hL;obtain⟨b97,o98,_,Zxx,Zyi,Zx3,ZDB⟩:=Sl.at_ Xt hx96;refine WX.w gN rfl (Zx YM YQ lk lk rfl Zxx hx96) ?_ rfl;refine WX.w gN rfl (ZR Xx (Z9 fh rfl) (At.fz hS.fz Zx3 Zyi) (j:=0) rfl (v:= .int .i64 x96) rfl) ?_ rfl;refine r6 ?_;obtain⟨x99,hx99,hL⟩:=bind_some hL;refine WX.w gN rfl (Qa (Z9 (Xf rfl (YT rfl fh)) rfl) (Z9 fh rfl) (Zk7 hx99)) ?_ rfl;refine r2 ?_;exact Xh.YU _ hL ⟨_,_,rfl,hS.only (.c k0 (.c k6 (.c k0 (.c k0 (.c k0 (.c k0 (.c k0 (.c k0 .n)))))))),Yp⟩
      ·intro hc hL;refine r1 ?_;exact Xh.YU _ hL ⟨_,_,rfl,hS.only (.c k0 (.c k6 (.c k0 (.c k0 (.c k0 (.c k0 (.c k0 (.c k0 .n)))))))),Yp⟩
    ·intro hc hL;refine r6 ?_;refine WC.YE mixed Kq0 ?_;refine r6 ?_;refine r1 ?_;refine WX.wr (fun x=>x=b29) hS gN rfl (fun _ _ hR=>ZR ZDU (Z9 fh rfl) (At.eqv (hR b29 rfl) (hS.atB k7)) (j:=6) rfl (v:= .slice a63 v62.length c64) rfl) ?_ rfl rfl;rintro ZGY ZB8 hS;refine r1 ?_;refine WX.hu gN (Wl hS k0 ZaQ lk lk (vs:= [.slice a39 v38.length c40,.slice a43 v42.length c44,.slice a48 v47.length c49,.slice a53 v52.length c54,.slice a58 v57.length c59,.int .i64 v61]) rfl rfl rfl rfl (cs':= [.slice a39 v38.length c40,.slice a43 v42.length c44,.slice a48 v47.length c49,.slice a53 v52.length c54,.slice a58 v57.length c59,.int .i64 v61]) rfl) ?_ rfl rfl [7] Kq0 (.c .z (hS.dj (.c k0 (.c k6 .n))) Yu.e);rintro ZM2 hS;refine WX.w gN rfl (ZaD lk) ?_ Kq0;refine WX.w gN rfl (ZaD lk) ?_ Kq0;refine WX.w gN rfl (ZaD lk) ?_ Kq0;refine r3 ?_;have hr:=Oi0 hL;subst hr;exact YJ.gen (vs:= [.agg [.slice a39 v38.length c40,.slice a43 v42.length c44,.slice a48 v47.length c49,.slice a53 v52.length c54,.slice a58 v57.length c59,.int .i64 v61].toArray,.slice a63 v62.length c64,.int .i64 v36,.int .i64 0]) rfl (JZ (X5 rfl (X5 rfl (YT rfl (ZH rfl e34)))) (J4 Zjp ZaQ (hS.atB k0) (j:=0) rfl rfl (ws:= [.slice a39 v38.length c40,.slice a43 v42.length c44,.slice a48 v47.length c49,.slice a53 v52.length c54,.slice a58 v57.length c59,.int .i64 v61]) rfl) (Z6 lk (Z6 lk (Z6 lk ZX)))) rfl ⟨_,⟨a39,v38.length,c40,a43,v42.length,c44,ZAR,a48,v47.length,c49,ZAP,a53,v52.length,c54,ZAO,a58,v57.length,c59,a63,v62.length,c64,rfl,rfl⟩,hT ▸ hS.only (.c k1 (.c k1 (.c k1 (.c k1 (.c k1 (.c k1 .n))))))⟩
  ·skip;simp only [Y3,Xm,Nat.reduceAdd];refine Xn ?_;refine r2 ?_;refine WC.loop (WL.lift hL (fun(Zp1:Int) (s:Fs)=>∃ (ZkQ:Fr) (ZGX:H),s= ⟨ZkQ,[],ZGX,none⟩∧Sp wm T h [bx wm b1 [.slice Zk p0.ZA.length Zj,.slice Zp p0.boxes.length Zo,.slice Zn p0.entries.length Zm,.slice Zr p0.held.length Zq,.slice Zv p0.wire.length Zu,.int .i64 p0.said],bx wm b3 [.slice none 0 0,.slice none 0 0,.slice none 0 0,.slice none 0 0,.slice none 0 0,.int .i64 0]] ZGX∧ZkQ.at 0= .slice YI p1.length YH∧ZkQ.at 1= .func (.func 64) #[] [].toArray∧ZkQ.at 7= .int .i64 (p1.length:Int)∧ZkQ.at 8= .int .i64 Zp1) ⟨_,_,rfl,hS.only (.c k1 (.c k0 .n)),Yp⟩ ?_);clear hL hS;rintro Zsx Zp1 s Zxk hL ⟨ZkQ,ZGX,rfl,hS,ZB7,ZRp,ZHQ,e109⟩;dsimp only [Zcm] at hL;refine r6 ?_;refine cn hL ?_ ?_
   ·intro hc hL;refine Xn ?_;refine r3 ?_;obtain⟨ZEd,ZDf,hL⟩:=bind_some hL;obtain⟨ZZG,ZVO,_,ZFR,ZGN,ZGb,ZQE⟩:=Sl.at_ Xt ZDf;refine WO.w gN rfl (Zx YM YQ lk lk rfl ZFR ZDf) ?_;refine WO.w gN rfl (ZR Xx (Z9 fh rfl) (At.fz hS.fz ZGb ZGN) (j:=0) rfl (v:= .int .i64 ZEd) rfl) ?_;refine WO.inl gN rfl (XT.clo (first:= []) (cap:= []) lk ZK3 lks rfl) (WF.begin (args:= [_]) (fn:=Tryz.f64) Kq0 (by exact rfl) Tryz.ntmps64 (by simp) ?_);simp only [Y3,Xm,Nat.reduceAdd];refine Xn ?_;refine r1 ?_;refine YJ.JE rfl (Z6 lk ZX) ?_;refine r2 ?_;refine cn hL ?_ ?_
    ·intro hc hL;refine Xn ?_;exact YJ.JE rfl (Z6 lk ZX) ⟨_,hL,⟨rfl,hS.only (.c k0 (.c k0 .n))⟩⟩
    ·intro hc hL;refine r6 ?_;refine r1 ?_;exact Z7.YU (Zxk _ _ hL ⟨_,_,rfl,hS.only (.c k0 (.c k0 .n)),Yp⟩)
   ·intro hc hL;refine r8 ?_;refine r3 ?_;exact YJ.JE rfl (Z6 lk ZX) ⟨_,hL,⟨rfl,hS.only (.c k0 (.c k0 .n))⟩⟩
 ·replace hL:=ZeD hk6 hL;refine WO.ZJw (ZB.no rfl rfl rfl (ZH rfl fh)) hk6 rfl ?_;refine WO.w gN rfl (ZH9 lk (ZEC hk6) lk) ?_;refine r2 ?_;refine WC.ZmP lk rfl ?_;refine r2 ?_;refine WO.w gN rfl (Xo Zpg Z4 rfl (cs':= [.slice none 0 0,.slice none 0 0,.slice none 0 0,.slice none 0 0,.slice none 0 0,.int .i64 0]) rfl) ?_;refine r1 ?_;rintro ZM1 hS;refine r6 ?_;refine r1 ?_;have hS:=hS.nil (e:= (Zw .i64));have hS:=hS.ZgH (e:= (ZW (Zw .i64))) (ps:=fun _=>(ZW (Zw .i64)).dflt);have hS:=hS.ZgH (e:= (ZW Zd)) (ps:=fun _=>(ZW Zd).dflt);have hS:=hS.ZgH (e:= (ZW Ze)) (ps:=fun _=>(ZW Ze).dflt);have hS:=hS.nil (e:=Zf);have hS:=hS.nil (e:=ZG);have hr:=Oi0 hL;subst hr;exact YJ.gen (vs:= [.agg [.slice none 0 0,.slice none 0 0,.slice none 0 0,.slice none 0 0,.slice none 0 0,.int .i64 0].toArray,.slice none 0 0,.int .i64 0,.int .i64 2]) rfl (JZ (X5 rfl (X5 rfl (YT rfl (ZH rfl fh)))) (J4 Zjp ZaQ (hS.atB k6) (j:=0) rfl rfl (ws:= [.slice none 0 0,.slice none 0 0,.slice none 0 0,.slice none 0 0,.slice none 0 0,.int .i64 0]) rfl) (Z6 lk (Z6 lk (Z6 lk ZX)))) rfl ⟨_,⟨none,0,0,none,0,0,(fun _=>(ZW (Zw .i64)).dflt),none,0,0,(fun _=>(ZW Zd).dflt),none,0,0,(fun _=>(ZW Ze).dflt),none,0,0,none,0,0,rfl,rfl⟩,hT ▸ hS.only (.c k5 (.c k4 (.c k3 (.c k2 (.c k1 (.c k0 .n))))))⟩
end Go.Proofs.YtbmbbcaaimehkaaGreat
end
end
section
namespace Go.Proofs.YtbmbbcaaimehkaaGreat
open Go.Lf
end Go.Proofs.YtbmbbcaaimehkaaGreat
end
section
set_option maxRecDepth 20000
noncomputable section
namespace Go.Proofs.YtbmbbcaaimehkaaGreat
open Go.YB Go.Lf
end Go.Proofs.YtbmbbcaaimehkaaGreat
end
end
section
namespace Go.Proofs.YtbmbbcaaimehkaaGreat
open Go.Lf
def Zzh (F:Nat) (p0:Zb) (p1:(List Int)):Option Bool:=
 (Zzd F p0).bind fun x3=>(bif((!x3) || (decide ((p1.length:Int) > 100))) then(Zzg).bind fun x4=>some x4 else(Zri F p0).bind fun x5=>(Zrj F p0 p1).bind fun x6=>(ZoS F p0).bind fun x30=>(bif(!x30) then(gd (((x5.2==2) && (x6.2.2.2==2)) && (x5.1==0)) (Zrl F x6.1) default).bind fun x31=>(gd ((((((x5.2==2) && (x6.2.2.2==2)) && (x5.1==0)) && x31) && ((x6.2.1.length:Int)==0)) && (x6.2.2.1==0)) (Zzg) default).bind fun x32=>some (((((((x5.2==2) && (x6.2.2.2==2)) && (x5.1==0)) && x31) && ((x6.2.1.length:Int)==0)) && (x6.2.2.1==0)) && x32) else(gd (!(x5.2 !=0)) (Zut F p0) default).bind fun x33=>(bif((x5.2 !=0) || (x5.1 !=x33)) then some false else(Zzb F p1).bind fun x34=>(bif(!x34) then(gd (x6.2.2.2==2) (Zrl F x6.1) default).bind fun x35=>(gd ((((x6.2.2.2==2) && x35) && ((x6.2.1.length:Int)==0)) && (x6.2.2.1==0)) (Zzg) default).bind fun x36=>some (((((x6.2.2.2==2) && x35) && ((x6.2.1.length:Int)==0)) && (x6.2.2.1==0)) && x36) else(Zza F p0 p1).bind fun WW=>(gd (x6.2.2.2==0) (Zrk F x6.1 WW.1) default).bind fun x61=>(gd ((x6.2.2.2==0) && x61) (Zuu F x6.2.1 WW.2.1) default).bind fun x62=>(gd (((((x6.2.2.2==0) && x61) && x62) && (x6.2.2.1==WW.2.2)) && (decide (WW.2.2 <=x5.1))) (Zzg) default).bind fun x63=>some ((((((x6.2.2.2==0) && x61) && x62) && (x6.2.2.1==WW.2.2)) && (decide (WW.2.2 <=x5.1))) && x63)))))
end Go.Proofs.YtbmbbcaaimehkaaGreat
end
section
set_option maxRecDepth 20000
noncomputable section
namespace Go.Proofs.YtbmbbcaaimehkaaGreat
open Go.YB Go.Lf
theorem ZHL {F wm:Nat} {h:H} {p0:Zb} {p1:(List Int)} {Zk:Option Addr} {Zj:Nat} {Zp:Option Addr} {Zo:Nat} {Zn:Option Addr} {Zm:Nat} {Zr:Option Addr} {Zq:Nat} {Zv:Option Addr} {Zu:Nat} {YI:Option Addr} {YH:Nat} {r:Bool} (Z0:wm <=h.size) (ZC:Sl (Zw .i64) wm h Zk Zj p0.ZA) (ZQ:Sl (Yb (Zw .i64)) wm h Zp Zo p0.boxes) (ZL:Sl (Yb Zd) wm h Zn Zm p0.entries) (ZP:Sl (Yb Ze) wm h Zr Zq p0.held) (ZK:Sl Zf wm h Zv Zu p0.wire) (Xt:Sl (Zw .i64) wm h YI YH p1) (hL:Zzh F p0 p1=some r):
 WR XX 12 #[.agg [.slice Zk p0.ZA.length Zj,.slice Zp p0.boxes.length Zo,.slice Zn p0.entries.length Zm,.slice Zr p0.held.length Zq,.slice Zv p0.wire.length Zu,.int .i64 p0.said].toArray,.slice YI p1.length YH] wm h (CP (fun(v:Value) (Gb:List (Ast wm))=>v= .bool r∧Gb= []) [] h):=by
 refine bg Tryz.ntmps12 Z0 Yj.nil ?_;intro T hT hS;unfold Zzh at hL;refine r3 ?_;rintro _ h2 ⟨b1,eb1,rfl,hS⟩;refine r6 ?_;refine r1 ?_;obtain⟨x3,hx3,hL⟩:=bind_some hL;refine WO.cp gN rfl (XT.fn ZLh (Zg lk ZI)) (WR.Qe rfl (ZHI (Nat.le_refl _) (hS.YK ZC) (hS.YK ZQ) (hS.YK ZL) (hS.YK ZP) (hS.YK ZK) hx3)) ?_;refine r8 ?_;refine cn hL ?_ ?_
 ·intro hc hL;refine r2 ?_;obtain⟨x4,hx4,hL⟩:=bind_some hL;refine WO.cp gN rfl (XT.fn ZsV ZI) (ZmA hx4) ?_;refine r4 ?_;refine r1 ?_;exact rt hL hT hS
 ·intro hc hL;refine r4 ?_;refine r1 ?_;obtain⟨x5,hx5,hL⟩:=bind_some hL;refine WO.cp gN rfl (XT.fn ZLd (Zg lk ZI)) (WR.Qe rfl (ZHB (Nat.le_refl _) (hS.YK ZC) (hS.YK ZQ) (hS.YK ZL) (hS.YK ZP) (hS.YK ZK) hx5)) ?_;refine r8 ?_;refine r3 ?_;obtain⟨x6,hx6,hL⟩:=bind_some hL;refine WO.cl gN rfl (XT.fn ZLe (Zg lk (Zg lk ZI))) hS .n (fun g' hz hf hO=>ZHC (by rw [hz];exact hS.hw) ((hS.sl ZC).mono hf) ((hS.sl ZQ).mono hf) ((hS.sl ZL).mono hf) ((hS.sl ZP).mono hf) ((hS.sl ZK).mono hf) ((hS.sl Xt).mono hf) hx6) ?_;rintro _ h25 _ ⟨a7,n8,c9,a10,n11,c12,ZSF,a13,n14,c15,ZSE,a16,n17,c18,ZSD,a19,n20,c21,a22,n23,c24,rfl,rfl⟩ hS;obtain rfl:=hS.on k0;obtain rfl:=hS.YS k1;obtain rfl:=hS.YS k2;obtain rfl:=hS.YS k3;obtain rfl:=hS.on k4;obtain rfl:=hS.on k5;refine r6 ?_;rintro _ h28 ⟨b27,ZXN,rfl,hS⟩;refine r1 ?_;rintro h29 hS;refine r8 ?_;refine r1 ?_;obtain⟨x30,ZPG,hL⟩:=bind_some hL;refine WO.cp gN rfl (XT.fn ZLg (Zg lk ZI)) (ZHH (hS.YK ZC) (hS.YK ZQ) (hS.YK ZL) (hS.YK ZP) (hS.YK ZK) ZPG) ?_;refine r3 ?_;refine cn hL ?_ ?_
  ·intro hc hL;refine Xn ?_;refine r2 ?_;obtain⟨x31,hx31,hL⟩:=Yi hL;refine WO.gcp (ZB.yes rfl rfl rfl (ZH rfl fh)) rfl (fun hg=>(XT.fn ZDz (Zg (Y2 fh rfl hg) ZI))) (fun hg=>Zzf (hS.ord k1) (hS.nrd k2 Wp) (hS.nrd k3 Wp) (hS.nrd k4 Wp) (hS.ord k5) (hx31 hg)) ?_;refine r8 ?_;refine r3 ?_;obtain⟨x32,hx32,hL⟩:=Yi hL;refine WO.gcp (ZB.yes rfl rfl rfl fh) rfl (fun hg=>(XT.fn ZsV ZI)) (fun hg=>ZmA (hx32 hg)) ?_;refine r6 ?_;exact rt hL hT hS
  ·intro hc hL;refine r8 ?_;refine r2 ?_;obtain⟨x33,Zt4,hL⟩:=Yi hL;refine WO.gcp (ZB.no rfl rfl rfl (YT rfl fh)) rfl (fun hg=>(XT.fn ZLc (Zg (Y2 fh rfl hg) ZI))) (fun hg=>ZHA (hS.YK ZC) (hS.YK ZQ) (hS.YK ZL) (hS.YK ZP) (hS.YK ZK) (Zt4 hg)) ?_;refine r4 ?_;refine cn hL ?_ ?_
   ·intro hc hL;refine r6 ?_;refine r1 ?_;exact rt hL hT hS
   ·intro hc hL;refine r6 ?_;obtain⟨x34,hx34,hL⟩:=bind_some hL;refine WO.cp gN rfl (XT.fn ZLb (Zg lk ZI)) (WR.Qe rfl (ZHy (Nat.le_refl _) (hS.YK Xt) hx34)) ?_;refine r3 ?_;refine cn hL ?_ ?_
    ·intro hc hL;refine r6 ?_;obtain⟨x35,ZPF,hL⟩:=Yi hL;refine WO.gcp (ZB.yes rfl rfl rfl (ZH rfl fh)) rfl (fun hg=>(XT.fn ZDz (Zg (Y2 fh rfl hg) ZI))) (fun hg=>Zzf (hS.ord k1) (hS.nrd k2 Wp) (hS.nrd k3 Wp) (hS.nrd k4 Wp) (hS.ord k5) (ZPF hg)) ?_;refine r8 ?_;refine r3 ?_;obtain⟨x36,Zqw,hL⟩:=Yi hL;refine WO.gcp (ZB.yes rfl rfl rfl fh) rfl (fun hg=>(XT.fn ZsV ZI)) (fun hg=>ZmA (Zqw hg)) ?_;refine r6 ?_;exact rt hL hT hS
    ·intro hc hL;refine r6 ?_;obtain⟨WW,ZdE,hL⟩:=bind_some hL;refine WO.cl gN rfl (XT.fn ZLa (Zg lk (Zg lk ZI))) hS .n (fun g' hz hf hO=>ZHx (by rw [hz];exact hS.hw) ((hS.sl ZC).mono hf) ((hS.sl ZQ).mono hf) ((hS.sl ZL).mono hf) ((hS.sl ZP).mono hf) ((hS.sl ZK).mono hf) ((hS.sl Xt).mono hf) ZdE) ?_;rintro _ h56 _ ⟨a38,n39,c40,a41,n42,c43,ZSC,a44,n45,c46,ZSB,a47,n48,c49,ZSA,a50,n51,c52,a53,n54,c55,rfl,rfl⟩ hS;obtain rfl:=hS.on k0;obtain rfl:=hS.YS k1;obtain rfl:=hS.YS k2;obtain rfl:=hS.YS k3;obtain rfl:=hS.on k4;obtain rfl:=hS.on k5;refine r4 ?_;refine r1 ?_;rintro _ h59 ⟨b58,ZXA,rfl,hS⟩;refine r1 ?_;rintro h60 hS;refine r8 ?_;refine r3 ?_;obtain⟨x61,Zt3,hL⟩:=Yi hL;refine WO.gcp (ZB.yes rfl rfl rfl (YT rfl fh)) rfl (fun hg=>(XT.fn ZDy (Zg (Y2 (ZH rfl fh) rfl hg) (Zg (Y2 fh rfl hg) ZI)))) (fun hg=>Zze (hS.ord k8) (hS.nrd k9 Wp) (hS.nrd k10 Wp) (hS.nrd k11 Wp) (hS.ord k12) (hS.ord k1) (hS.nrd k2 Wp) (hS.nrd k3 Wp) (hS.nrd k4 Wp) (hS.ord k5) (Zt3 hg)) ?_;refine r4 ?_;obtain⟨x62,Zqs,hL⟩:=Yi hL;refine WO.gcp (ZB.yes rfl rfl rfl (YT rfl fh)) rfl (fun hg=>(XT.fn ZLf (Zg (Y2 (ZH rfl fh) rfl hg) (Zg (Y2 fh rfl hg) ZI)))) (fun hg=>ZHF (hS.ord k13) (hS.ord k6) (Zqs hg)) ?_;refine Xn ?_;obtain⟨x63,ZA1,hL⟩:=Yi hL;refine WO.gcp (ZB.yes rfl rfl rfl fh) rfl (fun hg=>(XT.fn ZsV ZI)) (fun hg=>ZmA (ZA1 hg)) ?_;refine r4 ?_;refine r1 ?_;exact rt hL hT hS
theorem ZHM {F:Nat} {h:H} {p0:Zb} {p1:(List Int)} {Zk:Option Addr} {Zj:Nat} {Zp:Option Addr} {Zo:Nat} {Zn:Option Addr} {Zm:Nat} {Zr:Option Addr} {Zq:Nat} {Zv:Option Addr} {Zu:Nat} {YI:Option Addr} {YH:Nat} {r:Bool} (ZC:Sl (Zw .i64) h.size h Zk Zj p0.ZA) (ZQ:Sl (Yb (Zw .i64)) h.size h Zp Zo p0.boxes) (ZL:Sl (Yb Zd) h.size h Zn Zm p0.entries) (ZP:Sl (Yb Ze) h.size h Zr Zq p0.held) (ZK:Sl Zf h.size h Zv Zu p0.wire) (Xt:Sl (Zw .i64) h.size h YI YH p1) (hL:Zzh F p0 p1=some r):Pure XX 12 #[.agg [.slice Zk p0.ZA.length Zj,.slice Zp p0.boxes.length Zo,.slice Zn p0.entries.length Zm,.slice Zr p0.held.length Zq,.slice Zv p0.wire.length Zu,.int .i64 p0.said].toArray,.slice YI p1.length YH] h (.bool r):=
 WR.Qe rfl (ZHL (Nat.le_refl _) ZC ZQ ZL ZP ZK Xt hL)
end Go.Proofs.YtbmbbcaaimehkaaGreat
end
end
section
end
section
namespace Go.Lf
theorem Zvm {k:Nat} (h:k < 4611686018427387904):Y6 ((k:Int) + 1)= ((k + 1:Nat):Int):=by
 rw [Zab (by omega) (by omega)];rfl
theorem Zvn {k:Nat} (h:k < 4611686018427387904) (h0:0 < k):Y6 ((k:Int) - 1)= ((k - 1:Nat):Int):=by
 rw [Zab (by omega) (by omega)];omega
theorem ZfZ {α:Type} {Jb:Nat} {xs ys:List α} (h:xs.length + ys.length <=1000000) (hb:Jb <=1000):app Jb xs ys=some (xs ++ ys):=
 ZrL (Nat.le_trans (Nat.mul_le_mul (show 2 * (xs.length + ys.length) + 1000 <=2001000 by omega) hb) (by decide))
def iter {α β σ:Type} (g:Nat ->α ->σ ->(σ ->Option β) ->Option β) (d:σ ->Option β):Nat ->List α ->σ ->Option β
 | _,[],s=>d s
 | i,x::l,s=>g i x s (fun s'=>iter g d (i + 1) l s')
end Go.Lf
end
section
namespace Go.Proofs.YtbmbbcaaimehkaaGreat
open Go.Lf
section
variable {β γ:Type}
theorem Qx {body:γ ->(γ ->Option β) ->Option β} {r:Option β} (S:Nat ->γ) {n F:Nat} (hF:n < F) (hb:∀ k,k < n ->∀ next,body (S k) next=next (S (k + 1))) (he:∀ next,body (S n) next=r):loop F body (S 0)=r:=by
 have:∀ j F,j <=n ->n - j < F ->loop F body (S j)=r:=by
  intro j F hj hF;obtain⟨d,hd⟩:∃ d,d=n - j:= ⟨_,rfl⟩
  induction d generalizing j F with
  | zero=>
    have:j=n:=by omega
    subst this;cases F with
    | zero=>omega
    | succ F=>rw [ZkE];exact he _
  | succ d ih=>
    cases F with
    | zero=>omega
    | succ F=>rw [ZkE,hb j (by omega)];exact ih (j + 1) F (by omega) (by omega) (by omega)
 exact this 0 F (Nat.zero_le _) (by omega)
theorem ZhY {body:γ ->(γ ->Option β) ->Option β} {r1 r2:Option β} (S:Nat ->γ) (c:Nat ->Bool) {n F:Nat} (hF:n < F) (hb:∀ k,k < n ->∀ next,body (S k) next=bif c k then r1 else next (S (k + 1))) (he:∀ next,body (S n) next=r2):loop F body (S 0)=bif(List.range n).any c then r1 else r2:=by
 cases h:(List.range n).any c with
 | false=>
   rw [List.any_eq_false] at h;refine Qx S hF (fun k hk next=>?_) he;have:=h k (List.mem_range.2 hk);rw [hb k hk,Bool.eq_false_iff.2 this];rfl
 | true=>
   have hex:∃ k,k < n∧c k=true:=by
    obtain⟨k,h1,h2⟩:=List.any_eq_true.1 h;exact⟨k,List.mem_range.1 h1,h2⟩
   have hm:∃ m,(m < n∧c m=true)∧∀ k,k < m ->c k=false:=by
    obtain⟨k,hk⟩:=hex
    induction k using Nat.strongRecOn with
    | _ k ih=>
      by_cases hz:∃ j,j < k∧c j=true
      ·obtain⟨j,h1,h2⟩:=hz;exact ih j h1 ⟨by omega,h2⟩
      ·exact⟨k,hk,fun j hj=>Bool.eq_false_iff.2 fun q=>hz ⟨j,hj,q⟩⟩
   obtain⟨m,⟨h1,h2⟩,h3⟩:=hm;refine Qx S (n:=m) (by omega) (fun k hk next=>?_) (fun next=>?_)
   ·rw [hb k (by omega),h3 k hk];rfl
   ·rw [hb m h1,h2];rfl
end
theorem Yo {k:Nat} (h:k < 4611686018427387904):Y6 ((k:Int) + 1)= ((k + 1:Nat):Int):=Zvm h
theorem ZF {k n:Nat} (h:k < n):decide ((k:Int) < (n:Int))=true:=decide_eq_true (by omega)
theorem ZN (n:Nat):decide ((n:Int) < (n:Int))=false:=decide_eq_false (by omega)
theorem YD {α:Type} {l:List α} {k:Nat} (h:k < l.length):ZM l (k:Int)=some l[k]:=by rw [Zik,List.getElem?_eq_getElem h]
theorem app1 {α:Type} {b:Nat} {l:List α} {x:α} (h:l.length <=900000) (hb:b <=1000):app b l [x]=some (l ++ [x]):=ZfZ (by simp;omega) hb
theorem Xw {α:Type} [BEq α] [LawfulBEq α] (a:α):(a !=a)=false:=by simp
end Go.Proofs.YtbmbbcaaimehkaaGreat
end
section
namespace Go.Proofs.YtbmbbcaaimehkaaGreat
open Go.Lf
structure Wi (n:Nat) (w:Zb):Prop where
 ZA:w.ZA.length < n
 boxes:w.boxes.length < n
 entries:w.entries.length < n
 held:w.held.length < n
 wire:w.wire.length < n
 box:∀ l ∈ w.boxes,l.length < n
 row:∀ l ∈ w.entries,l.length < n
 hel:∀ l ∈ w.held,l.length < n
 Xq:∀ x ∈ w.wire,x.places.length < n∧x.ZU.length < n
theorem Wi.mono {n m:Nat} {w:Zb} (h:Wi n w) (hm:n <=m):Wi m w:=
 ⟨Nat.lt_of_lt_of_le h.ZA hm,Nat.lt_of_lt_of_le h.boxes hm,Nat.lt_of_lt_of_le h.entries hm,Nat.lt_of_lt_of_le h.held hm,Nat.lt_of_lt_of_le h.wire hm,fun l q=>Nat.lt_of_lt_of_le (h.box l q) hm,fun l q=>Nat.lt_of_lt_of_le (h.row l q) hm,fun l q=>Nat.lt_of_lt_of_le (h.hel l q) hm,fun x q=>⟨Nat.lt_of_lt_of_le (h.Xq x q).1 hm,Nat.lt_of_lt_of_le (h.Xq x q).2 hm⟩⟩
theorem ZcW {F:Nat} {a:List Int} (hF:a.length < F) (hM:F <=1000000):Zmu F a a=some true:=by
 unfold Zmu;rw [Xw,Cq0];refine Qx (fun k=>(k:Int)) hF (fun k hk next=>?_) (fun next=>?_)
 ·unfold Zmt;rw [ZF hk,Cq1,YD hk];simp only [Bq0,Xw,Cq0];rw [Yo (by omega)]
 ·unfold Zmt;rw [ZN];rfl
theorem ZmK (x:Zt):Qh x x=true:=by simp [Qh]
theorem Zgt (x:Zh):Y8 x x=true:=by simp [Y8]
theorem ZmJ (x:Zi):WM x x=true:=by simp [WM]
theorem ZoT {F:Nat} {a:List Zi} (hF:a.length < F) (hM:F <=1000000):Zuu F a a=some true:=by
 unfold Zuu;rw [Xw,Cq0];refine Qx (fun k=>(k:Int)) hF (fun k hk next=>?_) (fun next=>?_)
 ·unfold Zmv;rw [ZF hk,Cq1,YD hk];simp only [Bq0,ZmJ,Bool.not_true,Cq0];rw [Yo (by omega)]
 ·unfold Zmv;rw [ZN];rfl
theorem Zku {n F:Nat} {w:Zb} (h:Wi n w) (hF:n <=F) (hM:F <=1000000):Zrk F w w=some true:=by
 have h5:loop F (Zi1 F w w) 0=some true:=by
  refine Qx (fun k=>(k:Int)) (n:=w.wire.length) (Nat.lt_of_lt_of_le h.wire hF) (fun k hk next=>?_) (fun next=>?_)
  ·unfold Zi1;have hx:=h.Xq _ (List.getElem_mem hk);rw [ZF hk,Cq1,YD hk];simp only [Bq0,Xw,Zgt,Bool.not_true,Bool.or_false,Bool.not_false,Yz,ZcW (Nat.lt_of_lt_of_le hx.1 hF) hM,ZcW (Nat.lt_of_lt_of_le hx.2 hF) hM,Cq0];rw [Yo (by have:=h.wire;omega)]
  ·unfold Zi1;rw [ZN];rfl
 have h3:loop F (Zi2 F w w) 0=some true:=by
  refine Qx (fun k=>(k:Int)) (n:=w.held.length) (Nat.lt_of_lt_of_le h.held hF) (fun k hk next=>?_) (fun next=>?_)
  ·unfold Zi2;have hx:=h.hel _ (List.getElem_mem hk);rw [ZF hk,Cq1,YD hk];simp only [Bq0,Xw,Cq0];refine Qx (fun j=>(j:Int)) (n:=w.held[k].length) (Nat.lt_of_lt_of_le hx hF) (fun j hj next=>?_) (fun next=>?_)
   ·unfold Zmx;rw [ZF hj,Cq1,YD hk];simp only [Bq0,YD hj,Zgt,Bool.not_true,Cq0];rw [Yo (by omega)]
   ·unfold Zmx;rw [ZN,Cq0,Yo (by have:=h.held;omega)]
  ·unfold Zi2;rw [ZN];exact h5
 have h1:loop F (Zi3 F w w) 0=some true:=by
  refine Qx (fun k=>(k:Int)) (n:=w.entries.length) (Nat.lt_of_lt_of_le h.entries hF) (fun k hk next=>?_) (fun next=>?_)
  ·unfold Zi3;have hx:=h.row _ (List.getElem_mem hk);rw [ZF hk,Cq1,YD hk];simp only [Bq0,Xw,Cq0];refine Qx (fun j=>(j:Int)) (n:=w.entries[k].length) (Nat.lt_of_lt_of_le hx hF) (fun j hj next=>?_) (fun next=>?_)
   ·unfold Zmy;rw [ZF hj,Cq1,YD hk];simp only [Bq0,YD hj,ZmK,Bool.not_true,Cq0];rw [Yo (by omega)]
   ·unfold Zmy;rw [ZN,Cq0,Yo (by have:=h.entries;omega)]
  ·unfold Zi3;rw [ZN];exact h3
 unfold Zrk;rw [ZcW (Nat.lt_of_lt_of_le h.ZA hF) hM];simp only [Bq0,Bool.not_true,Xw,Bool.or_false,Cq0];refine Qx (fun k=>(k:Int)) (n:=w.boxes.length) (Nat.lt_of_lt_of_le h.boxes hF) (fun k hk next=>?_) (fun next=>?_)
 ·unfold Zmz;have hx:=h.box _ (List.getElem_mem hk);rw [ZF hk,Cq1,YD hk];simp only [Bq0,ZcW (Nat.lt_of_lt_of_le hx hF) hM,Bool.not_true,Cq0];rw [Yo (by have:=h.boxes;omega)]
 ·unfold Zmz;rw [ZN];exact h1
abbrev Zcp:Zb:= ⟨[],[],[],[],[],0⟩
theorem Zux:Wi 1 Zcp:= ⟨by simp,by simp,by simp,by simp,by simp,by simp,by simp,by simp,by simp⟩
theorem Zki {α:Type} (l:List α) (c:α ->Bool) (d:α):(List.range l.length).any (fun k=>c (l.getD k d))=l.any c:=by
 rw [Bool.eq_iff_iff,List.any_eq_true,List.any_eq_true]
 constructor
 ·rintro⟨k,h1,h2⟩;have hk:=List.mem_range.1 h1;rw [List.getD_eq_getElem?_getD,List.getElem?_eq_getElem hk] at h2;exact⟨_,List.getElem_mem hk,h2⟩
 ·rintro⟨x,h1,h2⟩;obtain⟨k,hk,rfl⟩:=List.getElem_of_mem h1;exact⟨k,List.mem_range.2 hk,by rw [List.getD_eq_getElem?_getD,List.getElem?_eq_getElem hk];exact h2⟩
theorem Ya {β γ:Type} {body:γ ->(γ ->Option β) ->Option β} {r:Option β} {s0:γ} (S:Nat ->γ) (h0:S 0=s0) {n F:Nat} (hF:n < F) (hb:∀ k,k < n ->∀ next,body (S k) next=next (S (k + 1))) (he:∀ next,body (S n) next=r):loop F body s0=r:=h0 ▸ Qx S hF hb he
def row (w:Zb) (m:Nat):List Zt:=w.entries.getD m []
def E (w:Zb) (m p:Nat):Zt:= (row w m).getD p default
structure Wt (w:Zb):Prop where
 m1:1 <=w.entries.length
 m2:w.entries.length <=5
 p1:1 <=w.ZA.length
 p2:w.ZA.length <=8
 bx:w.boxes.length=w.ZA.length
 hd:w.held.length=w.entries.length
 rw_:∀ l ∈ w.entries,l.length=w.ZA.length
theorem Yl {α:Type} {l:List α} {k:Nat} {d:α} (h:k < l.length):l.getD k d ∈ l:=by
 rw [List.getD_eq_getElem?_getD,List.getElem?_eq_getElem h];exact List.getElem_mem h
theorem Yy {α:Type} {l:List α} {k:Nat} (d:α) (h:k < l.length):ZM l (k:Int)=some (l.getD k d):=by
 rw [YD h,List.getD_eq_getElem?_getD,List.getElem?_eq_getElem h];rfl
theorem Wt.row {w:Zb} (s:Wt w) {m:Nat} (h:m < w.entries.length):ZM w.entries (m:Int)=some (row w m):=Yy [] h
theorem Wt.len {w:Zb} (s:Wt w) {m:Nat} (h:m < w.entries.length):(Proofs.YtbmbbcaaimehkaaGreat.row w m).length=w.ZA.length:=s.rw_ _ (Yl h)
theorem Wt.ent {w:Zb} (s:Wt w) {m p:Nat} (h:m < w.entries.length) (hp:p < w.ZA.length):ZM (Proofs.YtbmbbcaaimehkaaGreat.row w m) (p:Int)=some (E w m p):=Yy default (by rw [s.len h];exact hp)
def Xu (w:Zb) (p k:Nat):List Yq:= (List.range k).filterMap fun m=>if(E w m p).here then some ⟨(m:Int),true,(E w m p).age⟩ else none
def U3 (x:Zc) (p j:Nat):List Yq:= (List.range j).filterMap fun i=>if x.places.getD i 0= (p:Int) then some ⟨x.ZO,false,x.ZU.getD i 0⟩ else none
def WB (x:Zc) (p:Nat):List Yq:=if x.kind=2 then U3 x p x.places.length else []
def X6 (l:List Zc) (p:Nat):List Yq:=l.flatMap fun x=>WB x p
def YN (w:Zb) (p:Nat):List Yq:=Xu w p w.entries.length ++ X6 w.wire p
def Wy (l:List Yq):Yq:=l.getLastD ⟨0,false,0⟩
theorem Zh3 (l:List Yq) (x:Yq):Wy (l ++ [x])=x:=by unfold Wy;simp
theorem ZyI {α β:Type} (f:α ->Option β) (a:α): [a].filterMap f= (f a).toList:=by
 cases h:f a <;> simp [List.filterMap_cons,h]
theorem Jj (w:Zb) (p k:Nat):Xu w p (k + 1)=Xu w p k ++ (if(E w k p).here then [⟨(k:Int),true,(E w k p).age⟩] else []):=by
 unfold Xu;rw [List.range_succ,List.filterMap_append,ZyI];congr 1;by_cases h:(E w k p).here=true
 ·rw [if_pos h,if_pos h];rfl
 ·rw [if_neg h,if_neg h];rfl
theorem ZeY (x:Zc) (p j:Nat):U3 x p (j + 1)=U3 x p j ++ (if x.places.getD j 0= (p:Int) then [⟨x.ZO,false,x.ZU.getD j 0⟩] else []):=by
 unfold U3;rw [List.range_succ,List.filterMap_append,ZyI];congr 1;by_cases h:x.places.getD j 0= (p:Int)
 ·rw [if_pos h,if_pos h];rfl
 ·rw [if_neg h,if_neg h];rfl
theorem Ztv {l:List Zc} {k:Nat} (h:k < l.length) (p:Nat):X6 (l.take (k + 1)) p=X6 (l.take k) p ++ WB l[k] p:=by
 unfold X6;rw [List.take_add_one,List.getElem?_eq_getElem h,List.flatMap_append];simp
theorem ZcX (w:Zb) (p k:Nat):(Xu w p k).length <=k:=by
 have:=List.length_filterMap_le (fun m=>if(E w m p).here then some (⟨(m:Int),true,(E w m p).age⟩:Yq) else none) (List.range k);unfold Xu;rw [List.length_range] at this;exact this
theorem ZdY (x:Zc) (p j:Nat):(U3 x p j).length <=j:=by
 have:=List.length_filterMap_le (fun i=>if x.places.getD i 0= (p:Int) then some (⟨x.ZO,false,x.ZU.getD i 0⟩:Yq) else none) (List.range j);unfold U3;rw [List.length_range] at this;exact this
def Mvd (n:Nat) (l:List Zc):Prop:=∀ x ∈ l,x.kind=2 ->x.ZU.length=x.places.length∧x.places.length <=n
theorem Zvk {n:Nat} {l:List Zc} (h:Mvd n l) (p:Nat):(X6 l p).length <=n * l.length:=by
 induction l with
 | nil=>simp [X6]
 | cons x l ih=>
   have:=ih fun y hy=>h y (by simp [hy])
   have hx:(WB x p).length <=n:=by
    unfold WB;by_cases hk:x.kind=2
    ·rw [if_pos hk];exact Nat.le_trans (ZdY _ _ _) (h x (by simp) hk).2
    ·rw [if_neg hk];simp
   unfold X6 at this ⊢;rw [List.flatMap_cons,List.length_append,List.length_cons,Nat.mul_succ];omega
theorem Q8 (a b:Int):(a !=b)=decide (a ≠ b):=by
 by_cases h:a=b <;> simp [h]
theorem Ye (a b:Int):(a==b)=decide (a=b):=by
 by_cases h:a=b <;> simp [h]
theorem ZaA {α:Type} (c:Prop) [Decidable c] (a b:α):(bif decide c then a else b)=if c then a else b:=by
 by_cases h:c <;> simp [h]
def stP (l:List Yq) (k:Nat):Int×Int×Int×Bool×Int:= ((l.length:Int),(k:Int),(Wy l).machine,(Wy l).here,(Wy l).age)
theorem ZtX (l:List Yq):Yq.mk (Wy l).machine (Wy l).here (Wy l).age=Wy l:=rfl
theorem Zhl {F:Nat} (hF:1000 <=F) (hM:F <=1000000) {w:Zb} (s:Wt w) (hv:Mvd 900 w.wire) (hw:w.wire.length < 900) {p:Nat} (hp:p < w.ZA.length):
 Zj2 F w (p:Int)=some (Wy (YN w p),((YN w p).length:Int)):=by
 have h0:=s.m2;have hh:=ZcX w p w.entries.length
 have hlen:∀ k,k <=w.wire.length ->(X6 (w.wire.take k) p).length <=900 * 900:=fun k hk=>by
  have:=Zvk (l:=w.wire.take k) (fun x hx=>hv x (List.mem_of_mem_take hx)) p;rw [List.length_take] at this;exact Nat.le_trans this (by apply Nat.mul_le_mul (Nat.le_refl _);omega)
 have h1:loop F (ZiC F w (p:Int)) (stP (Xu w p w.entries.length) 0)=some (Wy (YN w p),((YN w p).length:Int)):=by
  refine Ya (fun k=>stP (Xu w p w.entries.length ++ X6 (w.wire.take k) p) k) (by simp [X6]) (n:=w.wire.length) (by omega) (fun k hk next=>?_) (fun next=>?_)
  ·have hl:=hlen k (by omega);have hx:w.wire[k] ∈ w.wire:=List.getElem_mem hk;rw [Ztv hk];unfold ZiC stP;dsimp only;rw [ZF hk,Cq1,YD hk];simp only [Bq0];rw [Q8,ZaA];by_cases hk2:w.wire[k].kind=2
   ·rw [if_neg (fun q=>q hk2)];obtain⟨v1,v2⟩:=hv _ hx hk2;have hwk:WB w.wire[k] p=U3 w.wire[k] p w.wire[k].places.length:=by unfold WB;rw [if_pos hk2]
    rw [hwk];have hll:(Xu w p w.entries.length ++ X6 (w.wire.take k) p).length <=5 + 900 * 900:=by rw [List.length_append];omega
    rw [← List.append_assoc];generalize Xu w p w.entries.length ++ X6 (w.wire.take k) p=l at hll ⊢;refine Ya (fun j=>stP (l ++ U3 w.wire[k] p j) j) (by simp [U3,stP]) (n:=w.wire[k].places.length) (by omega) (fun j hj Zwu=>?_) (fun Zwu=>?_)
    ·have hl2:=ZdY w.wire[k] p j;rw [ZeY];unfold Zmd stP;dsimp only;rw [ZF hj,Cq1,Yy 0 hj,Yy 0 (show j < w.wire[k].ZU.length by omega)];simp only [Bq0];rw [Ye,ZaA];unfold ZiA;dsimp only;by_cases hq:w.wire[k].places.getD j 0= (p:Int)
     ·rw [if_pos hq,if_pos hq,Yo (by rw [List.length_append];omega),Yo (by omega),← List.append_assoc,Zh3];simp [Int.add_assoc]
     ·rw [if_neg hq,if_neg hq,Yo (by omega),List.append_nil]
    ·unfold Zmd stP;dsimp only;rw [ZN,Cq0];unfold Zfr;dsimp only;rw [Yo (by omega)]
   ·rw [if_pos hk2];have hwk:WB w.wire[k] p= []:=by unfold WB;rw [if_neg hk2]
    rw [hwk,List.append_nil];unfold Zfr;dsimp only;rw [Yo (by omega)]
  ·unfold ZiC stP;dsimp only;rw [ZN,Cq0,List.take_of_length_le (Nat.le_refl _),ZtX];rfl
 unfold Zj2;refine Ya (fun k=>stP (Xu w p k) k) (by rfl) (n:=w.entries.length) (by omega) (fun k hk next=>?_) (fun next=>?_)
 ·unfold Zme stP;dsimp only;rw [ZF hk,Cq1,s.row hk];simp only [Bq0];rw [s.ent hk hp];simp only [Bq0];have hl:=ZcX w p k;rw [Jj];unfold ZiB;dsimp only;cases hE:(E w k p).here with
  | true=>
    simp only [Cq1,if_true];rw [Yo (by omega),Yo (by omega),Zh3];simp
  | false=>
    simp only [Cq0];rw [Yo (by omega)];simp
 ·unfold Zme;dsimp only [stP];rw [ZN];exact h1
def inn (w:Zb) (q:Int):Int:=w.ZA.getD q.toNat 0
def up (w:Zb):Nat ->Int ->Int
 | 0,q=>q
 | k + 1,q=>if q < 0 then q else up w k (inn w q)
theorem Zp2 {w:Zb} {q:Int} (h:q < 0) (k:Nat):up w k q=q:=by
 cases k with
 | zero=>rfl
 | succ k=>show(if q < 0 then q else _)=q;rw [if_pos h]
theorem WG (w:Zb) (k:Nat) (q:Int):up w (k + 1) q=if up w k q < 0 then up w k q else inn w (up w k q):=by
 induction k generalizing q with
 | zero=>rfl
 | succ k ih=>
   show(if q < 0 then q else up w (k + 1) (inn w q))=_;by_cases h:q < 0
   ·rw [if_pos h,Zp2 h,if_pos h]
   ·rw [if_neg h,ih];show _=if(if q < 0 then q else up w k (inn w q)) < 0 then _ else _
    rw [if_neg h];show _=if _ then(if q < 0 then q else up w k (inn w q)) else inn w (if q < 0 then q else up w k (inn w q))
    rw [if_neg h]
theorem up_add (w:Zb) (a b:Nat) (q:Int):up w (a + b) q=up w b (up w a q):=by
 induction a generalizing q with
 | zero=>rw [Nat.zero_add];rfl
 | succ a ih=>
   rw [show a + 1 + b= (a + b) + 1 by omega];show(if q < 0 then q else up w (a + b) (inn w q))=up w b (if q < 0 then q else up w a (inn w q));by_cases h:q < 0
   ·rw [if_pos h,if_pos h,Zp2 h]
   ·rw [if_neg h,if_neg h,ih]
theorem ZbA {w:Zb} {q:Int} {a:Nat} (h:up w a q < 0) {b:Nat} (hb:a <=b):up w b q < 0:=by
 obtain⟨d,rfl⟩:∃ d,b=a + d:= ⟨b - a,by omega⟩
 rw [up_add,Zp2 h];exact h
def okN (w:Zb) (q:Int):Prop:=-1 <=q∧q < (w.ZA.length:Int)
instance (w:Zb) (q:Int):Decidable (okN w q):=by unfold okN;infer_instance
structure Inn (w:Zb):Prop where
 rng:∀ p:Nat,p < w.ZA.length ->okN w (inn w p)
 acy:∀ p:Nat,p < w.ZA.length ->up w w.ZA.length p < 0
theorem Inn.up {w:Zb} (h:Inn w) {q:Int} (hq:okN w q) (k:Nat):okN w (up w k q):=by
 induction k with
 | zero=>exact hq
 | succ k ih=>
   rw [WG];by_cases h2:Proofs.YtbmbbcaaimehkaaGreat.up w k q < 0
   ·rw [if_pos h2];exact ih
   ·rw [if_neg h2];have:=h.rng (Proofs.YtbmbbcaaimehkaaGreat.up w k q).toNat (by have:=ih.2;omega)
    rwa [Int.toNat_of_nonneg (by omega)] at this
theorem QX {c:Nat ->Prop} {n:Nat} (h:c n):∃ m,m <=n∧c m∧∀ k,k < m ->¬ c k:=by
 induction n using Nat.strongRecOn with
 | _ n ih=>
   by_cases hz:∃ j,j < n∧c j
   ·obtain⟨j,h1,h2⟩:=hz;obtain⟨m,q1,q2,q3⟩:=ih j h1 h2;exact⟨m,by omega,q2,q3⟩
   ·exact⟨n,Nat.le_refl _,h,fun k hk q=>hz ⟨k,hk,q⟩⟩
theorem ZEz:∀ (n:Nat) (f:Nat ->Nat),(∀ i,i <=n ->f i < n) ->∃ i j,i < j∧j <=n∧f i=f j:=by
 intro n
 induction n with
 | zero=>intro f h;exact absurd (h 0 (Nat.le_refl _)) (Nat.not_lt_zero _)
 | succ n ih=>
   intro f h;by_cases hz:∃ i,i <=n∧f i=f (n + 1)
   ·obtain⟨i,h1,h2⟩:=hz;exact⟨i,n + 1,by omega,Nat.le_refl _,h2⟩
   ·have hne:∀ i,i <=n ->f i ≠ f (n + 1):=fun i hi q=>hz ⟨i,hi,q⟩
    have hl:=h (n + 1) (Nat.le_refl _)
    obtain⟨i,j,h1,h2,h3⟩:=ih (fun i=>if f i < f (n + 1) then f i else f i - 1) (fun i hi=>by
     have:=h i (by omega);have:=hne i hi;by_cases q:f i < f (n + 1)
     ·rw [if_pos q];omega
     ·rw [if_neg q];omega)
    refine⟨i,j,h1,by omega,?_⟩;have a1:=hne i (by omega);have a2:=hne j h2;by_cases q1:f i < f (n + 1) <;> by_cases q2:f j < f (n + 1)
    ·rwa [if_pos q1,if_pos q2] at h3
    ·rw [if_pos q1,if_neg q2] at h3;omega
    ·rw [if_neg q1,if_pos q2] at h3;omega
    ·rw [if_neg q1,if_neg q2] at h3;omega
theorem Ztn {w:Zb} (hr:∀ p:Nat,p < w.ZA.length ->okN w (inn w p)):(∀ p:Nat,p < w.ZA.length ->up w w.ZA.length p < 0)↔∀ p:Nat,p < w.ZA.length ->∀ j,j <=w.ZA.length ->up w (j + 1) p ≠ (p:Int):=by
 constructor
 ·intro h p hp j hj e
  have:∀ m:Nat,up w (m * (j + 1)) p= (p:Int):=fun m=>by
   induction m with
   | zero=>rw [Nat.zero_mul];rfl
   | succ m ih=>rw [Nat.succ_mul,up_add,ih,e]
  have h2:=ZbA (h p hp) (b:=w.ZA.length * (j + 1)) (Nat.le_mul_of_pos_right _ (by omega));rw [this] at h2;omega
 ·intro h p hp;rcases Int.lt_or_le (up w w.ZA.length p) 0 with q | q
  ·exact q
  ·exfalso
   have hk:∀ k,k <=w.ZA.length ->0 <=up w k p:=fun k hk=>by
    rcases Int.lt_or_le (up w k p) 0 with z | z
    ·have:=ZbA z hk;omega
    ·exact z
   have hok:∀ k,okN w (up w k p):=fun k=>by
    induction k with
    | zero=>exact⟨by show(-1:Int) <= (p:Int);omega,by show(p:Int) < _;omega⟩
    | succ k ih=>
      rw [WG];by_cases h2:up w k p < 0
      ·rw [if_pos h2];exact ih
      ·rw [if_neg h2];have:=hr (up w k p).toNat (by have:=ih.2;omega)
       rwa [Int.toNat_of_nonneg (by omega)] at this
   obtain⟨i,j,h1,h2,h3⟩:=ZEz w.ZA.length (fun k=>(up w k p).toNat) fun k hk'=>by
    have:= (hok k).2;have:=hk k hk';omega
   have e:up w i p=up w j p:=by have:=hk i (by omega);have:=hk j h2;omega
   have hi:=hk i (by omega);have:=h (up w i p).toNat (by have:= (hok i).2;omega) (j - i - 1) (by omega);apply this;rw [Int.toNat_of_nonneg hi,show j - i - 1 + 1=j - i by omega,← up_add,show i + (j - i)=j by omega,e]
end Go.Proofs.YtbmbbcaaimehkaaGreat
end
section
namespace Go.Proofs.YtbmbbcaaimehkaaGreat
open Go.Lf
section
variable {β γ:Type} {R:β ->Prop}
theorem QN {c:Bool} {A B:Option β} (h1:c=true ->∃ b,A=some b∧R b) (h2:c=false ->∃ b,B=some b∧R b):∃ b,(bif c then A else B)=some b∧R b:=by
 cases c
 ·exact h2 rfl
 ·exact h1 rfl
theorem JH {body:γ ->(γ ->Option β) ->Option β} (r1:β) (r2:Option β) {s0:γ} (S:Nat ->γ) (h0:S 0=s0) (c:Nat ->Prop) {n F:Nat} (hF:n < F)
 (hb:∀ k,k < n ->((∀ next,body (S k) next=some r1)∧c k)∨((∀ next,body (S k) next=next (S (k + 1)))∧¬ c k)) (he:∀ next,body (S n) next=r2)
 (h1:∀ k,k < n ->c k ->R r1) (h2:(∀ k,k < n ->¬ c k) ->∃ b,r2=some b∧R b):∃ b,loop F body s0=some b∧R b:=by
 by_cases hz:∃ k,k < n∧c k
 ·obtain⟨k0,hk0⟩:=hz;obtain⟨m,hm,⟨hmn,hcm⟩,hlt⟩:=QX (c:=fun k=>k < n∧c k) hk0;refine⟨r1,Ya S h0 (n:=m) (by omega) (fun k hk=>?_) ?_,h1 m hmn hcm⟩
  ·rcases hb k (by omega) with⟨_,q⟩ | ⟨q,_⟩
   ·exact absurd ⟨by omega,q⟩ (hlt k hk)
   ·exact q
  ·rcases hb m hmn with⟨q,_⟩ | ⟨_,q⟩
   ·exact q
   ·exact absurd hcm q
 ·have hno:∀ k,k < n ->¬ c k:=fun k hk q=>hz ⟨k,hk,q⟩
  obtain⟨b,e,hR⟩:=h2 hno;refine⟨b,?_,hR⟩;rw [← e];exact Ya S h0 hF (fun k hk=>(hb k hk).elim (fun q=>absurd q.2 (hno k hk)) fun q=>q.1) he
end
theorem ZaY {w:Zb} {q:Int} (h:okN w q) (h2:¬ q < 0):∃ k:Nat,q= (k:Int)∧k < w.ZA.length:= ⟨q.toNat,by omega,by have:=h.2;omega⟩
theorem Uw {w:Zb} {p:Nat} (hp:p < w.ZA.length):ZM w.ZA (p:Int)=some (inn w p):=Yy 0 hp
theorem Zeq (k:Nat):decide ((k:Int) >=0)=true:=decide_eq_true (by omega)
def Chn (w:Zb) (p:Nat):Prop:=okN w (inn w p)∧∃ n,n <=w.ZA.length∧(∀ j,j < n ->¬ up w j p < 0∧okN w (inn w (up w j p)))∧up w n p < 0
theorem Zti {w:Zb}:(∀ p,p < w.ZA.length ->Chn w p)↔Inn w:=by
 constructor
 ·intro h;exact⟨fun p hp=>(h p hp).1,fun p hp=>let⟨_,n,h1,_,h3⟩:=h p hp;ZbA h3 h1⟩
 ·intro h p hp;refine⟨h.rng p hp,?_⟩;obtain⟨m,h1,h2,h3⟩:=QX (c:=fun k=>up w k p < 0) (h.acy p hp);refine⟨m,h1,fun j hj=>⟨h3 j hj,?_⟩,h2⟩;have hq:okN w ((p:Int)):= ⟨by omega,by omega⟩
  obtain⟨k,e,hk⟩:=ZaY (h.up hq j) (h3 j hj);rw [e];exact h.rng k hk
open Classical in
theorem Zjh {F:Nat} {w:Zb} (hF:1000 <=F) (h8:w.ZA.length <=8) {p:Nat} (hp:p < w.ZA.length) (next:Int ->Option Bool):
 ((ZM w.ZA (p:Int)).bind fun KX=>(bif((decide (KX < (-1))) || (decide (KX >= (w.ZA.length:Int)))) then some false else loop F (Zfp w (p:Int) next) (0,(p:Int))))=if Chn w p then next ((p + 1:Nat):Int) else some false:=by
 rw [Uw hp];simp only [Bq0];by_cases hr:okN w (inn w p)
 ·have e:(decide (inn w p < (-1)) || decide (inn w p >= (w.ZA.length:Int)))=false:=by
   have h1:=hr.1;have h2:=hr.2;rw [decide_eq_false (by omega),decide_eq_false (by omega)];rfl
  rw [e,Cq0];obtain⟨m,hm,hs,hlt⟩:=QX (c:=fun k=>up w k p < 0∨k=w.ZA.length∨¬ okN w (inn w (up w k p))) (n:=w.ZA.length) (.inr (.inl rfl))
  have hj:∀ j,j < m ->¬ up w j p < 0∧j ≠ w.ZA.length∧okN w (inn w (up w j p)):=fun j hj=>by
   have:=hlt j hj;refine⟨fun q=>this (.inl q),fun q=>this (.inr (.inl q)),?_⟩;by_cases z:okN w (inn w (up w j p))
   ·exact z
   ·exact absurd (.inr (.inr z)) this
  have hok:∀ j,j <=m ->okN w (up w j p):=fun j hjm=>by
   induction j with
   | zero=>exact⟨by show(-1:Int) <= (p:Int);omega,by show(p:Int) < _;omega⟩
   | succ j ih=>
     have:=hj j (by omega);rw [WG,if_neg this.1];exact this.2.2
  refine Ya (fun j=>((j:Int),up w j p)) rfl (n:=m) (by omega) (fun j hjm nx=>?_) (fun nx=>?_)
  ·obtain⟨a1,a2,a3⟩:=hj j hjm;obtain⟨k,e,hk⟩:=ZaY (hok j (by omega)) a1;unfold Zfp;dsimp only;rw [e,Zeq,Cq1,Yo (by omega),decide_eq_false (by omega),Cq0,Uw hk];have e2:inn w (k:Int)=inn w (up w j p):=by rw [e]
   have h1:=a3.1;have h2:=a3.2;simp only [Bq0];rw [e2,decide_eq_false (show ¬ inn w (up w j p) < -1 by omega),Bool.not_false,Yz];simp only [Bq0];rw [decide_eq_false (show ¬ inn w (up w j p) >= (w.ZA.length:Int) by omega)];simp only [Bool.or_self,Cq0];rw [WG,if_neg a1]
  ·by_cases hneg:up w m p < 0
   ·unfold Zfp;dsimp only;rw [decide_eq_false (by omega),Cq0,Yo (by omega),if_pos ⟨hr,m,hm,fun j hjm=>⟨(hj j hjm).1,(hj j hjm).2.2⟩,hneg⟩]
   ·have hnc:¬ Chn w p:=by
     rintro⟨_,n,h1,h2,h3⟩
     have hmn:m < n:=by
      rcases Nat.lt_or_ge m n with z | z
      ·exact z
      ·exact absurd (ZbA h3 z) hneg
     rcases hs with z | z | z
     ·exact hneg z
     ·omega
     ·exact z (h2 m hmn).2
    rw [if_neg hnc];obtain⟨k,e,hk⟩:=ZaY (hok m (Nat.le_refl _)) hneg;unfold Zfp;dsimp only;rw [e,Zeq,Cq1,Yo (by omega)];by_cases hml:m=w.ZA.length
    ·rw [decide_eq_true (by omega)];rfl
    ·rw [decide_eq_false (by omega),Cq0,Uw hk]
     have hb:¬ okN w (inn w (k:Int)):=by
      rcases hs with z | z | z
      ·exact absurd z hneg
      ·exact absurd z hml
      ·rwa [e] at z
     simp only [Bq0];by_cases h1:inn w (k:Int) < -1
     ·rw [decide_eq_true h1];rfl
     ·rw [decide_eq_false h1,Bool.not_false,Yz];simp only [Bq0]
      rw [decide_eq_true (show inn w (k:Int) >= (w.ZA.length:Int) by
       rcases Int.lt_or_le (inn w (k:Int)) (w.ZA.length:Int) with z | z
       ·exact absurd ⟨by omega,z⟩ hb
       ·exact z)]
      rfl
 ·rw [if_neg (fun q=>hr q.1)]
  have e:(decide (inn w p < (-1)) || decide (inn w p >= (w.ZA.length:Int)))=true:=by
   by_cases h1:inn w p < -1
   ·rw [decide_eq_true h1];rfl
   ·rw [decide_eq_true (show inn w p >= (w.ZA.length:Int) by
     rcases Int.lt_or_le (inn w p) (w.ZA.length:Int) with z | z
     ·exact absurd ⟨by omega,z⟩ hr
     ·exact z),Bool.or_true]
  rw [e];rfl
theorem Zp9 {F:Nat} (hF:1000 <=F) (w:Zb):∃ b,Zy3 F w=some b∧(b=true↔Wt w∧Inn w):=by
 unfold Zy3;refine QN (fun hc=>⟨false,rfl,?_⟩) (fun hc=>?_)
 ·simp only [Bool.false_eq_true,false_iff];rintro⟨s,_⟩;have:=s.m1;have:=s.m2;have:=s.p1;have:=s.p2;have:=s.bx;have:=s.hd;simp only [Bool.or_eq_true,decide_eq_true_eq,bne_iff_ne] at hc;omega
 ·simp only [Bool.or_eq_false_iff,decide_eq_false_iff_not,bne_eq_false_iff_eq] at hc;obtain⟨⟨⟨⟨⟨a1,a2⟩,a3⟩,a4⟩,a5⟩,a6⟩:=hc;refine JH false (loop F (Zfq F w) 0) (fun k=>(k:Int)) rfl (fun k=>(row w k).length ≠ w.ZA.length) (n:=w.entries.length) (by omega) (fun k hk=>?_) (fun next=>?_) (fun k hk hc=>?_) (fun hall=>?_)
  ·have hx:ZM w.entries (k:Int)=some (row w k):=Yy [] hk;by_cases hl:(row w k).length=w.ZA.length
   ·refine .inr ⟨fun next=>?_,fun q=>q hl⟩;unfold Ziz;rw [ZF hk,Cq1,hx];simp only [Bq0];rw [hl,Xw,Cq0,Yo (by omega)]
   ·refine .inl ⟨fun next=>?_,hl⟩;unfold Ziz;rw [ZF hk,Cq1,hx];simp only [Bq0];rw [Q8,decide_eq_true (by omega)];rfl
  ·unfold Ziz;rw [ZN];rfl
  ·simp only [Bool.false_eq_true,false_iff];rintro⟨s,_⟩;exact hc (s.len hk)
  ·have hrow:∀ l ∈ w.entries,l.length=w.ZA.length:=fun l hl=>by
    obtain⟨k,hk,rfl⟩:=List.getElem_of_mem hl;have:=hall k hk;unfold row at this;rw [List.getD_eq_getElem?_getD,List.getElem?_eq_getElem hk] at this;exact Classical.byContradiction this
   have ZER:Wt w:= ⟨by omega,by omega,by omega,by omega,by omega,by omega,hrow⟩
   refine JH false (some true) (fun k=>(k:Int)) rfl (fun k=>¬ Chn w k) (n:=w.ZA.length) (by omega) (fun k hk=>?_) (fun next=>?_) (fun k hk hc=>?_) (fun ZLi=>⟨true,rfl,?_⟩)
   ·by_cases hch:Chn w k
    ·refine .inr ⟨fun next=>?_,fun q=>q hch⟩;have:=Zjh hF (by omega) hk next;rw [if_pos hch] at this;unfold Zfq;rw [ZF hk,Cq1];exact this
    ·refine .inl ⟨fun next=>?_,hch⟩;have:=Zjh hF (by omega) hk next;rw [if_neg hch] at this;unfold Zfq;rw [ZF hk,Cq1];exact this
   ·unfold Zfq;rw [ZN];rfl
   ·simp only [Bool.false_eq_true,false_iff];rintro⟨_,h⟩;exact hc (Zti.2 h k hk)
   ·exact⟨fun _=>⟨ZER,Zti.1 fun p hp=>Classical.byContradiction (ZLi p hp)⟩,fun _=>rfl⟩
end Go.Proofs.YtbmbbcaaimehkaaGreat
end
section
namespace Go.Proofs.YtbmbbcaaimehkaaGreat
open Go.Lf
abbrev ZsB:Zh:= ⟨0,0,0,0,0⟩
theorem KI (x y:Zh):Y8 x y=true↔x=y:=by
 unfold Y8;cases x;cases y;simp [Zh.mk.injEq]
theorem Zgv (x y:Zt):Qh x y=true↔x=y:=by
 unfold Qh;cases x;cases y;simp [Zt.mk.injEq]
theorem Zja (x y:Yq):Zez x y=true↔x=y:=by
 unfold Zez;cases x;cases y;simp [Yq.mk.injEq]
def Pur (x:Zc):Prop:=
 (x.kind=1∧x.place=0∧x.at_=0∧x.age=0∧x.places= []∧x.ZU= [])∨
 (x.kind=2∧x.place=0∧x.at_=0∧x.age=0∧x.Zl=ZsB∧x.places ≠ []∧x.places.length=x.ZU.length)∨
 (x.kind=3∧x.Zl=ZsB∧x.places= []∧x.ZU= [])
theorem Zgj {α:Type} (l:List α):decide ((l.length:Int) > 0)=true↔l ≠ []:=by
 rw [decide_eq_true_eq]
 constructor
 ·rintro h rfl;simp at h
 ·intro h;have:=List.length_pos_iff.2 h;omega
theorem ZvZ (x:Zc):∃ b,Zul x=some b∧(b=true↔Pur x):=by
 unfold Zul Pur
 have nl:∀ l:List Int,decide ((l.length:Int) > 0)=false↔l= []:=fun l=>by
  rw [Bool.eq_false_iff,Ne,Zgj];exact Classical.not_not
 refine QN (fun hc=>⟨_,rfl,?_⟩) (fun hc=>QN (fun hc2=>⟨_,rfl,?_⟩) (fun hc2=>QN (fun hc3=>⟨_,rfl,?_⟩) (fun hc3=>⟨_,rfl,?_⟩)))
 ·have hk:x.kind=1:=by simpa using hc
  simp only [Bool.and_eq_true,Bool.not_eq_true',Bool.or_eq_false_iff,bne_eq_false_iff_eq,nl]
  constructor
  ·rintro⟨⟨⟨a,b⟩,c⟩,d,e⟩;exact .inl ⟨hk,a,b,c,d,e⟩
  ·rintro(⟨_,a,b,c,d,e⟩ | ⟨q,_⟩ | ⟨q,_⟩)
   ·exact⟨⟨⟨a,b⟩,c⟩,d,e⟩
   ·omega
   ·omega
 ·have hk:x.kind=2:=by simpa using hc2
  simp only [Bool.and_eq_true,Bool.not_eq_true',Bool.or_eq_false_iff,bne_eq_false_iff_eq,Bool.not_eq_false',KI,Zgj,beq_iff_eq]
  constructor
  ·rintro⟨⟨⟨⟨⟨a,b⟩,c⟩,d⟩,e⟩,f⟩;exact .inr (.inl ⟨hk,a,b,c,d,e,by omega⟩)
  ·rintro(⟨q,_⟩ | ⟨_,a,b,c,d,e,f⟩ | ⟨q,_⟩)
   ·omega
   ·exact⟨⟨⟨⟨⟨a,b⟩,c⟩,d⟩,e⟩,by omega⟩
   ·omega
 ·have hk:x.kind=3:=by simpa using hc3
  simp only [Bool.and_eq_true,Bool.not_eq_true',Bool.or_eq_false_iff,Bool.not_eq_false',KI,nl]
  constructor
  ·rintro⟨a,b,c⟩;exact .inr (.inr ⟨hk,a,b,c⟩)
  ·rintro(⟨q,_⟩ | ⟨q,_⟩ | ⟨_,a,b,c⟩)
   ·omega
   ·omega
   ·exact⟨a,b,c⟩
 ·simp only [Bool.false_eq_true,false_iff];have h1:x.kind ≠ 1:=by simpa using hc
  have h2:x.kind ≠ 2:=by simpa using hc2
  have h3:x.kind ≠ 3:=by simpa using hc3
  rintro(⟨q,_⟩ | ⟨q,_⟩ | ⟨q,_⟩)
  ·exact h1 q
  ·exact h2 q
  ·exact h3 q
def Zaa (w:Zb) (x:Zc) (i:Nat):Prop:=
 0 <=x.places.getD i 0∧x.places.getD i 0 < (w.ZA.length:Int)∧(0 < i ->x.places.getD (i - 1) 0 < x.places.getD i 0)∧1 <=x.ZU.getD i 0∧x.ZU.getD i 0 <=30
def Plc (w:Zb) (x:Zc):Prop:=∀ i,i < x.places.length ->Zaa w x i
theorem ZnT (w:Zb) (x:Zc) {i:Nat} (hi:i < x.places.length) (ha:i < x.ZU.length) (h9:x.places.length < 900) {β:Type} (r:β) (next:Option β):
 ((ZM x.places (i:Int)).bind fun x112=>(gd ((!((decide (x112 < 0)) || (decide (x112 >= (w.ZA.length:Int))))) && (decide ((i:Int) > 0))) (ZM x.places (Y6 ((i:Int) - 1))) default).bind fun x115=>(gd (!(((decide (x112 < 0)) || (decide (x112 >= (w.ZA.length:Int)))) || ((decide ((i:Int) > 0)) && (decide (x112 <=x115))))) (ZM x.ZU (i:Int)) default).bind fun ZjG=>(gd (!((((decide (x112 < 0)) || (decide (x112 >= (w.ZA.length:Int)))) || ((decide ((i:Int) > 0)) && (decide (x112 <=x115)))) || (decide (ZjG < 1)))) (ZM x.ZU (i:Int)) default).bind fun Zhk=>(bif(((((decide (x112 < 0)) || (decide (x112 >= (w.ZA.length:Int)))) || ((decide ((i:Int) > 0)) && (decide (x112 <=x115)))) || (decide (ZjG < 1))) || (decide (Zhk > 30))) then some r else next))=open Classical in if Zaa w x i then next else some r:=by
 rw [Yy 0 hi];simp only [Bq0]
 have key:∀ (c d e:Bool) (y y2:Int),ZM x.ZU (i:Int)=some (x.ZU.getD i 0) ->((gd (!(c || d)) (ZM x.ZU (i:Int)) default).bind fun ZjG=>(gd (!((c || d) || decide (ZjG < 1))) (ZM x.ZU (i:Int)) default).bind fun Zhk=>(bif(((c || d) || (decide (ZjG < 1))) || (decide (Zhk > 30))) then some r else next))=bif(c || d || decide (x.ZU.getD i 0 < 1) || decide (x.ZU.getD i 0 > 30)) then some r else next:=by
  intro c d e y y2 hg;rw [hg];cases h1:(c || d)
  ·simp only [Bool.not_false,Yz,Bq0,Bool.false_or];cases h2:decide (x.ZU.getD i 0 < 1)
   ·simp only [Bool.not_false,Yz,Bq0,Bool.false_or]
   ·simp only [Bool.not_true,XA,Bq0,Bool.true_or,Cq1]
  ·simp only [Bool.not_true,XA,Bq0,Bool.true_or,Cq1]
 by_cases hz:i=0
 ·subst hz;rw [show decide (((0:Nat):Int) > 0)=false from rfl];simp only [Bool.and_false,XA,Bq0,Bool.false_and];rw [key _ _ false 0 0 (Yy 0 ha)];unfold Zaa;by_cases hp:0 <=x.places.getD 0 0∧x.places.getD 0 0 < (w.ZA.length:Int)∧(0 < 0 ->x.places.getD (0 - 1) 0 < x.places.getD 0 0)∧1 <=x.ZU.getD 0 0∧x.ZU.getD 0 0 <=30
  ·rw [if_pos hp];obtain⟨a,b,_,c,d⟩:=hp;rw [decide_eq_false (show ¬ x.places.getD 0 0 < 0 by omega),decide_eq_false (show ¬ x.places.getD 0 0 >= (w.ZA.length:Int) by omega),decide_eq_false (show ¬ x.ZU.getD 0 0 < 1 by omega),decide_eq_false (show ¬ x.ZU.getD 0 0 > 30 by omega)];rfl
  ·rw [if_neg hp]
   have:(decide (x.places.getD 0 0 < 0) || decide (x.places.getD 0 0 >= (w.ZA.length:Int)) || false || decide (x.ZU.getD 0 0 < 1) || decide (x.ZU.getD 0 0 > 30))=true:=by
    simp only [Bool.or_eq_true,decide_eq_true_eq,Bool.or_false];rcases Int.lt_or_le (x.places.getD 0 0) 0 with z | z
    ·exact .inl (.inl (.inl z))
    ·rcases Int.lt_or_le (x.places.getD 0 0) (w.ZA.length:Int) with z2 | z2
     ·rcases Int.lt_or_le (x.ZU.getD 0 0) 1 with z3 | z3
      ·exact .inl (.inr z3)
      ·rcases Int.lt_or_le 30 (x.ZU.getD 0 0) with z4 | z4
       ·exact .inr z4
       ·exact absurd ⟨z,z2,fun q=>absurd q (by omega),z3,z4⟩ hp
     ·exact .inl (.inl (.inr z2))
   rw [this];rfl
 ·have hi0:decide ((i:Int) > 0)=true:=decide_eq_true (by omega)
  have hg1:ZM x.places (Y6 ((i:Int) - 1))=some (x.places.getD (i - 1) 0):=by
   rw [Zvn (by omega) (by omega)];exact Yy 0 (by omega)
  rw [hi0,hg1];simp only [Bool.and_true,Bool.true_and];have hgd:∀ c:Bool,gd (!c) (some (x.places.getD (i - 1) 0)) (default:Int)=some (bif c then default else x.places.getD (i - 1) 0):=fun c=>by cases c <;> rfl
  rw [hgd];simp only [Bq0];rw [key _ _ false 0 0 (Yy 0 ha)];unfold Zaa;by_cases hp:0 <=x.places.getD i 0∧x.places.getD i 0 < (w.ZA.length:Int)∧(0 < i ->x.places.getD (i - 1) 0 < x.places.getD i 0)∧1 <=x.ZU.getD i 0∧x.ZU.getD i 0 <=30
  ·rw [if_pos hp];obtain⟨a,b,c0,c,d⟩:=hp;have c0:=c0 (by omega);rw [decide_eq_false (show ¬ x.places.getD i 0 < 0 by omega),decide_eq_false (show ¬ x.places.getD i 0 >= (w.ZA.length:Int) by omega),decide_eq_false (show ¬ x.ZU.getD i 0 < 1 by omega),decide_eq_false (show ¬ x.ZU.getD i 0 > 30 by omega)];simp only [Bool.or_self,Cq0,Bool.false_or];rw [decide_eq_false (show ¬ x.places.getD i 0 <=x.places.getD (i - 1) 0 by omega)];rfl
  ·rw [if_neg hp]
   have:(decide (x.places.getD i 0 < 0) || decide (x.places.getD i 0 >= (w.ZA.length:Int)) || decide (x.places.getD i 0 <=bif decide (x.places.getD i 0 < 0) || decide (x.places.getD i 0 >= (w.ZA.length:Int)) then default else x.places.getD (i - 1) 0) || decide (x.ZU.getD i 0 < 1) || decide (x.ZU.getD i 0 > 30))=true:=by
    rcases Int.lt_or_le (x.places.getD i 0) 0 with z | z
    ·rw [decide_eq_true z];simp
    ·rcases Int.lt_or_le (x.places.getD i 0) (w.ZA.length:Int) with z2 | z2
     ·rw [decide_eq_false (show ¬ x.places.getD i 0 < 0 by omega),decide_eq_false (show ¬ x.places.getD i 0 >= (w.ZA.length:Int) by omega)];simp only [Bool.or_self,Cq0,Bool.false_or,Bool.or_eq_true,decide_eq_true_eq];rcases Int.lt_or_le (x.places.getD (i - 1) 0) (x.places.getD i 0) with z5 | z5
      ·rcases Int.lt_or_le (x.ZU.getD i 0) 1 with z3 | z3
       ·exact .inl (.inr z3)
       ·rcases Int.lt_or_le 30 (x.ZU.getD i 0) with z4 | z4
        ·exact .inr z4
        ·exact absurd ⟨z,z2,fun _=>z5,z3,z4⟩ hp
      ·exact .inl (.inl z5)
     ·rw [decide_eq_true (show x.places.getD i 0 >= (w.ZA.length:Int) by omega)];simp
   rw [this];rfl
def ZeR (w:Zb) (m p:Nat):Prop:=0 <= (E w m p).age∧(E w m p).age <=30∧0 <= (E w m p).ZO∧(E w m p).ZO < (w.entries.length:Int)∧((E w m p).here=true↔(E w m p).ZO= (m:Int))
def ZN5 (w:Zb) (x:Zc):Prop:=x.kind=3 ->0 <=x.place∧x.place < (w.ZA.length:Int)∧x.at_ ≠ x.ZO
structure Zkl (w:Zb) (x:Zc):Prop where
 to1:0 <=x.ZO
 to2:x.ZO < (w.entries.length:Int)
 YZ:Pur x
 JN:Plc w x
 ntd:ZN5 w x
structure ShR (w:Zb):Prop where
 shp:Wt w
 inn:Inn w
 sd1:0 <=w.said
 sd2:w.said <=40
 ent:∀ m,m < w.entries.length ->∀ p,p < w.ZA.length ->ZeR w m p
 Xq:∀ x ∈ w.wire,Zkl w x
theorem Pur.len {x:Zc} (h:Pur x):x.ZU.length=x.places.length:=by
 rcases h with⟨_,_,_,_,a,b⟩ | ⟨_,_,_,_,_,_,a⟩ | ⟨_,_,a,b⟩
 ·rw [a,b]
 ·omega
 ·rw [a,b]
theorem ZnZ {F:Nat} {w:Zb} (hF:1000 <=F) (h8:w.ZA.length <=8) (hr:∀ p:Nat,p < w.ZA.length ->okN w (inn w p)) {p:Nat} (hp:p < w.ZA.length) (next:Int ->Option Bool):
 ((ZM w.ZA (p:Int)).bind fun x25=>loop F (ZiU w (p:Int) next) (x25,0))=open Classical in if(∃ j,j <=w.ZA.length∧up w (j + 1) p= (p:Int)) then some false else next ((p + 1:Nat):Int):=by
 rw [Uw hp];simp only [Bq0]
 have hok:∀ k,okN w (up w k p):=fun k=>by
  induction k with
  | zero=>exact⟨by show(-1:Int) <= (p:Int);omega,by show(p:Int) < _;omega⟩
  | succ k ih=>
    rw [WG];by_cases h2:up w k p < 0
    ·rw [if_pos h2];exact ih
    ·rw [if_neg h2];obtain⟨j,e,hj⟩:=ZaY ih h2;rw [e];exact hr j hj
 have e0:(inn w p,(0:Int))= (up w (0 + 1) p,((0:Nat):Int)):=by
  rw [WG];show _= (if((p:Int)) < 0 then _ else _,_);rw [if_neg (by omega)];rfl
 obtain⟨m,hm,hs,hlt⟩:=QX (c:=fun k=>w.ZA.length < k∨up w (k + 1) p < 0∨up w (k + 1) p= (p:Int)) (n:=w.ZA.length + 1) (.inl (by omega))
 have hj:∀ j,j < m ->j <=w.ZA.length∧¬ up w (j + 1) p < 0∧up w (j + 1) p ≠ (p:Int):=fun j hj=>by
  have:=hlt j hj
  exact⟨by rcases Nat.lt_or_ge w.ZA.length j with z | z;· exact absurd (.inl z) this
           ·exact z,fun q=>this (.inr (.inl q)),fun q=>this (.inr (.inr q))⟩
 refine Ya (fun j=>(up w (j + 1) p,(j:Int))) e0.symm (n:=m) (by omega) (fun j hjm nx=>?_) (fun nx=>?_)
 ·obtain⟨a1,a2,a3⟩:=hj j hjm;obtain⟨k,e,hk⟩:=ZaY (hok (j + 1)) a2;unfold ZiU;dsimp only;rw [WG w (j + 1),if_neg a2];rw [e] at a3 ⊢;rw [decide_eq_true (show(j:Int) <= (w.ZA.length:Int) by omega),Zeq,Bool.and_self,Cq1,Ye,decide_eq_false a3,Cq0,Uw hk];simp only [Bq0];rw [Yo (by omega)]
 ·unfold ZiU;dsimp only;by_cases h1:w.ZA.length < m
  ·rw [decide_eq_false (show ¬ (m:Int) <= (w.ZA.length:Int) by omega),Bool.false_and,Cq0,Yo (by omega),if_neg];rintro⟨j,q1,q2⟩;exact(hj j (by omega)).2.2 q2
  ·by_cases h2:up w (m + 1) p < 0
   ·rw [decide_eq_false (show ¬ up w (m + 1) p >=0 by omega),Bool.and_false,Cq0,Yo (by omega),if_neg];rintro⟨j,q1,q2⟩;rcases Nat.lt_or_ge j m with z | z
    ·exact(hj j z).2.2 q2
    ·have:=ZbA h2 (show m + 1 <=j + 1 by omega);omega
   ·have h3:up w (m + 1) p= (p:Int):=by rcases hs with z | z | z <;> first | exact absurd z h1 | exact absurd z h2 | exact z
    rw [decide_eq_true (show(m:Int) <= (w.ZA.length:Int) by omega),h3,Zeq,Bool.and_self,Cq1,Ye,decide_eq_true rfl,Cq1,if_pos ⟨m,by omega,h3⟩]
theorem ZtE {F:Nat} (hF:1000 <=F) {w:Zb} (sm:Wi 900 w):∃ b,Zy8 F w=some b∧(b=true↔ShR w):=by
 unfold Zy8;refine QN (fun hc=>⟨false,rfl,?_⟩) (fun hc=>?_)
 ·simp only [Bool.false_eq_true,false_iff];intro s;have:=s.shp.m1;have:=s.shp.m2;have:=s.shp.p1;have:=s.shp.p2;have:=s.shp.bx;have:=s.shp.hd;have:=s.sd1;have:=s.sd2;simp only [Bool.or_eq_true,decide_eq_true_eq,bne_iff_ne] at hc;omega
 simp only [Bool.or_eq_false_iff,decide_eq_false_iff_not,bne_eq_false_iff_eq] at hc;obtain⟨⟨⟨⟨⟨⟨⟨a1,a2⟩,a3⟩,a4⟩,a5⟩,a6⟩,a7⟩,a8⟩:=hc;refine JH false (loop F (Zfx F w) 0) (fun k=>(k:Int)) rfl (fun k=>¬ okN w (inn w k)) (n:=w.ZA.length) (by omega) (fun k hk=>?_) (fun next=>?_) (fun k hk hc=>?_) (fun hr=>?_)
 ·by_cases ho:okN w (inn w k)
  ·refine .inr ⟨fun next=>?_,fun q=>q ho⟩;have h1:=ho.1;have h2:=ho.2;unfold ZiV;rw [ZF hk,Cq1,Uw hk];simp only [Bq0];rw [decide_eq_false (by omega),decide_eq_false (by omega),Bool.or_self,Cq0,Yo (by omega)]
  ·refine .inl ⟨fun next=>?_,ho⟩;unfold ZiV;rw [ZF hk,Cq1,Uw hk];simp only [Bq0];by_cases h1:inn w (k:Int) < -1
   ·rw [decide_eq_true h1];rfl
   ·rw [decide_eq_true (show inn w (k:Int) >= (w.ZA.length:Int) by
     rcases Int.lt_or_le (inn w (k:Int)) (w.ZA.length:Int) with z | z
     ·exact absurd ⟨by omega,z⟩ ho
     ·exact z),Bool.or_true];rfl
 ·unfold ZiV;rw [ZN];rfl
 ·simp only [Bool.false_eq_true,false_iff];intro s;exact hc (s.inn.rng k hk)
 have hr:∀ p:Nat,p < w.ZA.length ->okN w (inn w p):=fun p hp=>Classical.byContradiction (hr p hp)
 refine JH false (loop F (ZdJ F w) 0) (fun k=>(k:Int)) rfl (fun p=>∃ j,j <=w.ZA.length∧up w (j + 1) p= (p:Int)) (n:=w.ZA.length) (by omega) (fun k hk=>?_) (fun next=>?_) (fun k hk hc=>?_) (fun hac=>?_)
 ·by_cases ho:∃ j,j <=w.ZA.length∧up w (j + 1) k= (k:Int)
  ·refine .inl ⟨fun next=>?_,ho⟩;have:=ZnZ hF (by omega) hr hk next;rw [if_pos ho] at this;unfold Zfx;rw [ZF hk,Cq1];exact this
  ·refine .inr ⟨fun next=>?_,ho⟩;have:=ZnZ hF (by omega) hr hk next;rw [if_neg ho] at this;unfold Zfx;rw [ZF hk,Cq1];exact this
 ·unfold Zfx;rw [ZN];rfl
 ·simp only [Bool.false_eq_true,false_iff];intro s;obtain⟨j,q1,q2⟩:=hc;exact(Ztn hr).1 s.inn.acy k hk j q1 q2
 have ZP1:Inn w:= ⟨hr,(Ztn hr).2 fun p hp j hj q=>hac p hp ⟨j,hj,q⟩⟩
 refine JH false (loop F (KF F w) 0) (fun k=>(k:Int)) rfl (fun m=>¬ ((row w m).length=w.ZA.length∧∀ p,p < w.ZA.length ->ZeR w m p)) (n:=w.entries.length) (by omega) (fun m hm=>?_) (fun next=>?_) (fun k hk hc=>?_) (fun hen=>?_)
 ·have hx:ZM w.entries (m:Int)=some (row w m):=Yy [] hm;by_cases hl:(row w m).length=w.ZA.length
  ·have hgp:∀ p,p < w.ZA.length ->ZM (row w m) (p:Int)=some (E w m p):=fun p hp=>Yy default (by rw [hl];exact hp)
   have step:∀ next:Int ->Option Bool,∀ p,p < w.ZA.length ->∀ nx,Zfw w (m:Int) next (row w m) (p:Int) nx=open Classical in if ZeR w m p then nx ((p + 1:Nat):Int) else some false:=fun next p hp nx=>by
    unfold Zfw;rw [decide_eq_true (show(p:Int) < ((row w m).length:Int) by omega),Cq1,hgp p hp];simp only [Bq0];by_cases he:ZeR w m p
    ·obtain⟨e1,e2,e3,e4,e5⟩:=he
     have e6:((E w m p).here != ((E w m p).ZO== (m:Int)))=false:=by
      rw [bne_eq_false_iff_eq,Bool.eq_iff_iff,e5,beq_iff_eq]
     rw [if_pos ⟨e1,e2,e3,e4,e5⟩,decide_eq_false (by omega),decide_eq_false (by omega),decide_eq_false (by omega),decide_eq_false (by omega),e6];simp only [Bool.or_self,Cq0];rw [Yo (by omega)]
    ·rw [if_neg he]
     have:(decide ((E w m p).age < 0) || decide ((E w m p).age > 30) || decide ((E w m p).ZO < 0) || decide ((E w m p).ZO >= (w.entries.length:Int)) || ((E w m p).here != ((E w m p).ZO== (m:Int))))=true:=by
      rw [← Bool.not_eq_false];intro hf;simp only [Bool.or_eq_false_iff,decide_eq_false_iff_not,bne_eq_false_iff_eq] at hf;obtain⟨⟨⟨⟨q1,q2⟩,q3⟩,q4⟩,q5⟩:=hf;exact he ⟨by omega,by omega,by omega,by omega,by rw [q5,beq_iff_eq]⟩
     rw [this];rfl
   have body:∀ next nx0,ZdJ F w (m:Int) next=loop F (Zfw w (m:Int) next (row w m)) nx0∨nx0 ≠ 0:=fun next nx0=>by
    by_cases h0:nx0=0
    ·subst h0;left;unfold ZdJ;rw [ZF hm,Cq1,hx];simp only [Bq0];rw [hl,Xw,Cq0]
    ·exact .inr h0
   by_cases hall:∀ p,p < w.ZA.length ->ZeR w m p
   ·refine .inr ⟨fun next=>?_,fun q=>q ⟨hl,hall⟩⟩;rw [(body next 0).resolve_right (fun q=>q rfl)];refine Ya (fun p=>(p:Int)) rfl (n:=w.ZA.length) (by omega) (fun p hp nx=>?_) (fun nx=>?_)
    ·rw [step next p hp nx,if_pos (hall p hp)]
    ·unfold Zfw;rw [decide_eq_false (by omega),Cq0,Yo (by omega)]
   ·refine .inl ⟨fun next=>?_,fun q=>hall q.2⟩;rw [(body next 0).resolve_right (fun q=>q rfl)];have hz:∃ p,p < w.ZA.length∧¬ ZeR w m p:=Classical.byContradiction fun q=>hall fun p hp=>Classical.byContradiction fun q2=>q ⟨p,hp,q2⟩
    obtain⟨p0,hp0⟩:=hz;obtain⟨p1,_,hp1,hlt⟩:=QX (c:=fun p=>p < w.ZA.length∧¬ ZeR w m p) hp0;refine Ya (fun p=>(p:Int)) rfl (n:=p1) (by omega) (fun p hp nx=>?_) (fun nx=>?_)
    ·rw [step next p (by omega) nx,if_pos (Classical.byContradiction fun q=>hlt p hp ⟨by omega,q⟩)]
    ·rw [step next p1 hp1.1 nx,if_neg hp1.2]
  ·refine .inl ⟨fun next=>?_,fun q=>hl q.1⟩;unfold ZdJ;rw [ZF hm,Cq1,hx];simp only [Bq0];rw [Q8,decide_eq_true (by omega)];rfl
 ·unfold ZdJ;rw [ZN];rfl
 ·simp only [Bool.false_eq_true,false_iff];intro s;exact hc ⟨s.shp.len hk,s.ent k hk⟩
 have hen:∀ m,m < w.entries.length ->(row w m).length=w.ZA.length∧∀ p,p < w.ZA.length ->ZeR w m p:=fun m hm=>Classical.byContradiction (hen m hm)
 have ZER:Wt w:= ⟨by omega,by omega,by omega,by omega,by omega,by omega,fun l hl=>by
  obtain⟨k,hk,rfl⟩:=List.getElem_of_mem hl;have:= (hen k hk).1;unfold row at this
  rwa [List.getD_eq_getElem?_getD,List.getElem?_eq_getElem hk] at this⟩
 refine JH false (some true) (fun k=>(k:Int)) rfl (fun k=>∃ h:k < w.wire.length,¬ Zkl w w.wire[k]) (n:=w.wire.length) (by have:=sm.wire;omega) (fun k hk=>?_) (fun next=>?_) (fun k hk hc=>?_) (fun hlt=>⟨true,rfl,?_⟩)
 ·have hwl:=sm.wire;have hx:w.wire[k] ∈ w.wire:=List.getElem_mem hk;obtain⟨s1,s2⟩:=sm.Xq _ hx;generalize hX:w.wire[k]=x at *;have hgx:ZM w.wire (k:Int)=some x:=by rw [YD hk,hX]
  have bad:(∀ next,KF F w (k:Int) next=some false)∧¬ Zkl w x∨(∀ next,KF F w (k:Int) next=next ((k + 1:Nat):Int))∧Zkl w x:=by
   obtain⟨pb,hpb,hpi⟩:=ZvZ x;by_cases ht:0 <=x.ZO∧x.ZO < (w.entries.length:Int)
   ·have e1:(decide (x.ZO < 0) || decide (x.ZO >= (w.entries.length:Int)))=false:=by
     rw [decide_eq_false (by omega),decide_eq_false (by omega)];rfl
    cases pb with
    | false=>
      have hnp:¬ Pur x:=fun q=>by have:=hpi.2 q;cases this
      refine .inl ⟨fun next=>?_,fun l=>hnp l.YZ⟩;unfold KF;rw [ZF hk,Cq1,hgx];simp only [Bq0];rw [e1,Bool.not_false,Yz,hpb];rfl
    | true=>
      have hp:Pur x:=hpi.1 rfl;have hal:=hp.len
      have body:∀ next,KF F w (k:Int) next=loop F (Zfv w (k:Int) next x) 0:=fun next=>by
       unfold KF;rw [ZF hk,Cq1,hgx];simp only [Bq0];rw [e1,Bool.not_false,Yz,hpb];rfl
      have step:∀ (next:Int ->Option Bool) (i:Nat),i < x.places.length ->∀ nx,Zfv w (k:Int) next x (i:Int) nx=open Classical in if Zaa w x i then nx ((i + 1:Nat):Int) else some false:=fun next i hi nx=>by
       have:=ZnT w x hi (by omega) s1 false (nx (Y6 ((i:Int) + 1)));unfold Zfv;rw [ZF hi,Cq1,this,Yo (by omega)]
      by_cases hpl:Plc w x
      ·have fin:∀ next,KF F w (k:Int) next=bif((x.kind==3) && (((decide (x.place < 0)) || (decide (x.place >= (w.ZA.length:Int)))) || (x.at_==x.ZO))) then some false else next ((k + 1:Nat):Int):=fun next=>by
        rw [body];refine Ya (fun i=>(i:Int)) rfl (n:=x.places.length) (by omega) (fun i hi nx=>?_) (fun nx=>?_)
        ·rw [step next i hi nx,if_pos (hpl i hi)]
        ·unfold Zfv;rw [ZN,Cq0,Yo (by omega)]
       by_cases hn:ZN5 w x
       ·refine .inr ⟨fun next=>?_,⟨ht.1,ht.2,hp,hpl,hn⟩⟩;rw [fin]
        have:((x.kind==3) && (((decide (x.place < 0)) || (decide (x.place >= (w.ZA.length:Int)))) || (x.at_==x.ZO)))=false:=by
         by_cases h3:x.kind=3
         ·obtain⟨q1,q2,q3⟩:=hn h3;rw [decide_eq_false (by omega),decide_eq_false (by omega),Ye x.at_,decide_eq_false q3];simp
         ·rw [Ye,decide_eq_false h3];rfl
        rw [this];rfl
       ·refine .inl ⟨fun next=>?_,fun l=>hn l.ntd⟩;rw [fin]
        have:((x.kind==3) && (((decide (x.place < 0)) || (decide (x.place >= (w.ZA.length:Int)))) || (x.at_==x.ZO)))=true:=by
         rw [← Bool.not_eq_false];intro hf;apply hn;intro h3;simp only [Bool.and_eq_false_iff,Bool.or_eq_false_iff,decide_eq_false_iff_not,beq_eq_false_iff_ne] at hf;rcases hf with q | ⟨⟨q1,q2⟩,q3⟩
         ·exact absurd h3 q
         ·exact⟨by omega,by omega,q3⟩
        rw [this];rfl
      ·have hz:∃ i,i < x.places.length∧¬ Zaa w x i:=Classical.byContradiction fun q=>hpl fun i hi=>Classical.byContradiction fun q2=>q ⟨i,hi,q2⟩
       obtain⟨i0,hi0⟩:=hz;obtain⟨i1,_,hi1,hlt⟩:=QX (c:=fun i=>i < x.places.length∧¬ Zaa w x i) hi0;refine .inl ⟨fun next=>?_,fun l=>hpl l.JN⟩;rw [body];refine Ya (fun i=>(i:Int)) rfl (n:=i1) (by omega) (fun i hi nx=>?_) (fun nx=>?_)
       ·rw [step next i (by omega) nx,if_pos (Classical.byContradiction fun q=>hlt i hi ⟨by omega,q⟩)]
       ·rw [step next i1 hi1.1 nx,if_neg hi1.2]
   ·refine .inl ⟨fun next=>?_,fun l=>ht ⟨l.to1,l.to2⟩⟩
    have e1:(decide (x.ZO < 0) || decide (x.ZO >= (w.entries.length:Int)))=true:=by
     rw [← Bool.not_eq_false];intro hf;simp only [Bool.or_eq_false_iff,decide_eq_false_iff_not] at hf;exact ht ⟨by omega,by omega⟩
    unfold KF;rw [ZF hk,Cq1,hgx];simp only [Bq0];rw [e1,Bool.not_true,XA];rfl
  rcases bad with⟨b1,b2⟩ | ⟨b1,b2⟩
  ·exact .inl ⟨b1,hk,by rwa [hX]⟩
  ·exact .inr ⟨b1,fun⟨_,q⟩=>by rw [hX] at q;exact q b2⟩
 ·unfold KF;rw [ZN];rfl
 ·simp only [Bool.false_eq_true,false_iff];obtain⟨h,q⟩:=hc;intro s;exact q (s.Xq _ (List.getElem_mem h))
 ·refine⟨fun _=>⟨ZER,ZP1,by omega,by omega,fun m hm=>(hen m hm).2,fun x hx=>?_⟩,fun _=>rfl⟩;obtain⟨k,hk,rfl⟩:=List.getElem_of_mem hx;exact Classical.byContradiction fun q=>hlt k hk ⟨hk,q⟩
def Zdl (s:Yq):XE:= ⟨s.machine,s.age,-1,true⟩
def Znr (k:Nat) (s:Yq):XE:= ⟨s.machine,s.age,(k:Int),false⟩
def Zz (w:Zb) (i:Nat):Zc:=w.wire.getD i default
def W9 (w:Zb) (p k:Nat):List XE:= (List.range k).flatMap fun i=>(U3 (Zz w i) p (Zz w i).places.length).map (Znr i)
def Qy (w:Zb) (p:Nat):List XE:= (Xu w p w.entries.length).map Zdl ++ W9 w p w.wire.length
def UH (l:List XE):XE:=l.getLastD ⟨0,0,0,false⟩
theorem Zh4 (l:List XE) (x:XE):UH (l ++ [x])=x:=by unfold UH;simp
theorem Zhm (w:Zb) (p k:Nat):W9 w p (k + 1)=W9 w p k ++ (U3 (Zz w k) p (Zz w k).places.length).map (Znr k):=by
 unfold W9;rw [List.range_succ,List.flatMap_append];simp
theorem Zkp {w:Zb} {n:Nat} (h:∀ x ∈ w.wire,x.places.length <=n) (p:Nat):∀ k,k <=w.wire.length ->(W9 w p k).length <=n * k
 | 0,_=>by simp [W9]
 | k + 1,hk=>by
   have:=Zkp h p k (by omega);have h1:=ZdY (Zz w k) p (Zz w k).places.length;have h2:=h (Zz w k) (Yl (by omega));rw [Zhm,List.length_append,List.length_map,Nat.mul_succ];omega
def stR (l:List XE) (k:Nat):Int×Int×Int×Int×Int×Bool:= ((l.length:Int),(k:Int),(UH l).at_,(UH l).age,(UH l).letter,(UH l).is)
theorem ZtY (l:List XE):XE.mk (UH l).at_ (UH l).age (UH l).letter (UH l).is=UH l:=rfl
theorem ZqG (w:Zb) (p k:Nat):∀ s ∈ Xu w p k,s.here=true:=fun s hs=>by
 unfold Xu at hs;obtain⟨m,_,hm⟩:=List.mem_filterMap.1 hs;by_cases h:(E w m p).here=true
 ·rw [if_pos h] at hm;cases hm;rfl
 ·rw [if_neg h] at hm;cases hm
theorem ZpW (x:Zc) (p j:Nat):∀ s ∈ U3 x p j,s.here=false:=fun s hs=>by
 unfold U3 at hs;obtain⟨m,_,hm⟩:=List.mem_filterMap.1 hs;by_cases h:x.places.getD m 0= (p:Int)
 ·rw [if_pos h] at hm;cases hm;rfl
 ·rw [if_neg h] at hm;cases hm
theorem ZoO {F:Nat} (hF:1000 <=F) {w:Zb} (s:Wt w) (hv:∀ x ∈ w.wire,x.ZU.length=x.places.length∧x.places.length <=900) (hw:w.wire.length < 900) {p:Nat} (hp:p < w.ZA.length):
 Zrh F w (p:Int)=some (UH (Qy w p),decide ((Qy w p).length=1)):=by
 have h0:=s.m2;have hh:=ZcX w p w.entries.length
 have hlen:∀ k,k <=w.wire.length ->(W9 w p k).length <=900 * 900:=fun k hk=>by
  have:=Zkp (fun x hx=>(hv x hx).2) p k hk;exact Nat.le_trans this (by apply Nat.mul_le_mul (Nat.le_refl _);omega)
 have h1:loop F (ZiT F w (p:Int)) (stR ((Xu w p w.entries.length).map Zdl) 0)=some (UH (Qy w p),decide ((Qy w p).length=1)):=by
  refine Ya (fun k=>stR ((Xu w p w.entries.length).map Zdl ++ W9 w p k) k) (by simp [W9]) (n:=w.wire.length) (by omega) (fun k hk next=>?_) (fun next=>?_)
  ·have hl:=hlen k (by omega);have hgx:ZM w.wire (k:Int)=some (Zz w k):=Yy default hk;have hx:Zz w k ∈ w.wire:=Yl hk;obtain⟨v1,v2⟩:=hv _ hx;rw [Zhm];generalize Zz w k=x at *;have hll:((Xu w p w.entries.length).map Zdl ++ W9 w p k).length <=5 + 900 * 900:=by rw [List.length_append,List.length_map];omega
   rw [← List.append_assoc];generalize (Xu w p w.entries.length).map Zdl ++ W9 w p k=l at hll ⊢;unfold ZiT;dsimp only [stR];rw [ZF hk,Cq1,hgx];simp only [Bq0];refine Ya (fun j=>stR (l ++ (U3 x p j).map (Znr k)) j) (by simp [U3,stR]) (n:=x.places.length) (by omega) (fun j hj Zwu=>?_) (fun Zwu=>?_)
   ·have hl2:=ZdY x p j;rw [ZeY];unfold Zmk;dsimp only [stR];rw [ZF hj,Cq1,Yy 0 hj];simp only [Bq0];rw [decide_eq_true (show(j:Int) < (x.ZU.length:Int) by omega),Bool.and_true,Ye,ZaA];unfold ZiR;dsimp only;by_cases hq:x.places.getD j 0= (p:Int)
    ·rw [if_pos hq,if_pos hq,Yy 0 (show j < x.ZU.length by omega)];simp only [Bq0];rw [Yo (by rw [List.length_append,List.length_map];omega),Yo (by omega),List.map_append,← List.append_assoc,List.map_cons,List.map_nil,Zh4];simp [Znr,Int.add_assoc]
    ·rw [if_neg hq,if_neg hq,Yo (by omega),List.append_nil]
   ·unfold Zmk;dsimp only [stR];rw [ZN,Cq0,Yo (by omega)]
  ·unfold ZiT;dsimp only [stR];rw [ZN,Cq0,ZtY,Ye];unfold Qy;congr 2;by_cases h:((Xu w p w.entries.length).map Zdl ++ W9 w p w.wire.length).length=1
   ·rw [decide_eq_true h,decide_eq_true (by omega)]
   ·rw [decide_eq_false h,decide_eq_false (by omega)]
 unfold Zrh;refine Ya (fun k=>stR ((Xu w p k).map Zdl) k) (by rfl) (n:=w.entries.length) (by omega) (fun k hk next=>?_) (fun next=>?_)
 ·unfold Zml;dsimp only [stR];rw [ZF hk,Cq1,s.row hk];simp only [Bq0];rw [s.ent hk hp];simp only [Bq0];have hl:=ZcX w p k;rw [Jj];unfold ZiS;dsimp only;cases hE:(E w k p).here with
  | true=>
    simp only [Cq1,if_true];rw [Yo (by rw [List.length_map];omega),Yo (by omega),List.map_append,List.map_cons,List.map_nil,Zh4];simp [Zdl]
  | false=>
    simp only [Cq0];rw [Yo (by omega)];simp
 ·unfold Zml;dsimp only [stR];rw [ZN];exact h1
def toS (s:XE):Yq:= ⟨s.at_,s.is,s.age⟩
theorem Zdz {α β:Type} (l:List α) (d:α) (f:α ->List β):(List.range l.length).flatMap (fun i=>f (l.getD i d))=l.flatMap f:=by
 induction l with
 | nil=>rfl
 | cons x l ih=>
   rw [List.length_cons,List.range_succ_eq_map,List.flatMap_cons,List.flatMap_map,List.flatMap_cons];have:(fun a=>f ((x::l).getD a.succ d))=fun a=>f (l.getD a d):=by funext a;simp
   rw [this,ih];rfl
theorem ZsC {w:Zb} (hp:∀ x ∈ w.wire,x.kind=2∨x.places= []) (p:Nat):(Qy w p).map toS=YN w p:=by
 unfold Qy YN W9 X6;rw [List.map_append,List.map_map,List.map_flatMap];congr 1
 ·have:∀ s ∈ Xu w p w.entries.length,(toS ∘ Zdl) s=id s:=fun s hs=>by
   have:=ZqG w p _ s hs;cases s;simp only [Function.comp,Zdl,toS,id] at this ⊢;rw [this]
  rw [List.map_congr_left this,List.map_id]
 ·rw [← Zdz w.wire default];unfold List.flatMap;congr 1;apply List.map_congr_left;intro i hi;have hx:w.wire.getD i default ∈ w.wire:=Yl (List.mem_range.1 hi);rw [List.map_map];unfold Zz;generalize w.wire.getD i default=x at *
  have h1:∀ s ∈ U3 x p x.places.length,(toS ∘ Znr i) s=id s:=fun s hs=>by
   have:=ZpW x p _ s hs;cases s;simp only [Function.comp,Znr,toS,id] at this ⊢;rw [this]
  rw [List.map_congr_left h1,List.map_id];unfold WB;rcases hp x hx with h | h
  ·rw [if_pos h]
  ·rw [h];by_cases hk:x.kind=2
   ·rw [if_pos hk]
   ·rw [if_neg hk];simp [U3]
theorem ZAX {w:Zb} (hp:∀ x ∈ w.wire,x.kind=2∨x.places= []) (p:Nat):toS (UH (Qy w p))=Wy (YN w p):=by
 rw [← ZsC hp];unfold UH Wy;rcases List.eq_nil_or_concat (Qy w p) with h | ⟨l,x,h⟩
 ·rw [h];rfl
 ·rw [h];simp
theorem len_eq {w:Zb} (hp:∀ x ∈ w.wire,x.kind=2∨x.places= []) (p:Nat):(YN w p).length= (Qy w p).length:=by rw [← ZsC hp,List.length_map]
theorem Pur.two {x:Zc} (h:Pur x):x.kind=2∨x.places= []:=by
 rcases h with⟨_,_,_,_,a,b⟩ | ⟨a,_⟩ | ⟨_,_,a,b⟩
 ·exact .inr a
 ·exact .inl a
 ·exact .inr a
theorem ShR.two {w:Zb} (h:ShR w):∀ x ∈ w.wire,x.kind=2∨x.places= []:=fun x hx=>(h.Xq x hx).YZ.two
def MvX (w:Zb) (x:Zc):Prop:=x.kind=1∨x.kind=3∨(x.kind=2∧x.places ≠ []∧x.ZU.length=x.places.length∧Plc w x)
theorem Zqi {F:Nat} (hF:1000 <=F) {w:Zb} (sm:Wi 900 w):∃ b,Zuq F w=some b∧(b=true↔∀ x ∈ w.wire,MvX w x):=by
 unfold Zuq;refine JH false (some true) (fun k=>(k:Int)) rfl (fun k=>∃ h:k < w.wire.length,¬ MvX w w.wire[k]) (n:=w.wire.length) (by have:=sm.wire;omega) (fun k hk=>?_) (fun next=>?_) (fun k hk hc=>?_) (fun hlt=>⟨true,rfl,?_⟩)
 ·have hwl:=sm.wire;have hx:w.wire[k] ∈ w.wire:=List.getElem_mem hk;obtain⟨s1,s2⟩:=sm.Xq _ hx;generalize hX:w.wire[k]=x at *;have hgx:ZM w.wire (k:Int)=some x:=by rw [YD hk,hX]
  have bad:(∀ next,Zag F w (k:Int) next=some false)∧¬ MvX w x∨(∀ next,Zag F w (k:Int) next=next ((k + 1:Nat):Int))∧MvX w x:=by
   by_cases h1:x.kind=1
   ·refine .inr ⟨fun next=>?_,.inl h1⟩;unfold Zag;rw [ZF hk,Cq1,hgx];simp only [Bq0];rw [h1];show Za6 (k:Int) next ()=_;unfold Za6;rw [Yo (by omega)]
   ·have b0:∀ next,Zag F w (k:Int) next=ZdH F w (k:Int) next x (x.kind==3):=fun next=>by
     unfold Zag;rw [ZF hk,Cq1,hgx];simp only [Bq0];rw [Ye x.kind 1,decide_eq_false h1];rfl
    by_cases h3:x.kind=3
    ·refine .inr ⟨fun next=>?_,.inr (.inl h3)⟩;rw [b0,h3];show Za6 (k:Int) next ()=_;unfold Za6;rw [Yo (by omega)]
    ·by_cases h2:x.kind=2
     ·have b1:∀ next,Zag F w (k:Int) next=bif((decide ((x.places.length:Int) < 1)) || ((x.ZU.length:Int) != (x.places.length:Int))) then some false else loop F (ZdI w (k:Int) next x) 0:=fun next=>by
       rw [b0];unfold ZdH;rw [Ye x.kind 3,decide_eq_false h3,Cq0,h2];rfl
      by_cases hl:x.places ≠ []∧x.ZU.length=x.places.length
      ·have hpos:=List.length_pos_iff.2 hl.1
       have b2:∀ next,Zag F w (k:Int) next=loop F (ZdI w (k:Int) next x) 0:=fun next=>by
        rw [b1,decide_eq_false (by omega),Q8,decide_eq_false (by omega)];rfl
       have step:∀ (next:Int ->Option Bool) (i:Nat),i < x.places.length ->∀ nx,ZdI w (k:Int) next x (i:Int) nx=open Classical in if Zaa w x i then nx ((i + 1:Nat):Int) else some false:=fun next i hi nx=>by
        have:=ZnT w x hi (by omega) s1 false (nx (Y6 ((i:Int) + 1)));unfold ZdI;rw [ZF hi,Cq1,this,Yo (by omega)]
       by_cases hpl:Plc w x
       ·refine .inr ⟨fun next=>?_,.inr (.inr ⟨h2,hl.1,hl.2,hpl⟩)⟩;rw [b2];refine Ya (fun i=>(i:Int)) rfl (n:=x.places.length) (by omega) (fun i hi nx=>?_) (fun nx=>?_)
        ·rw [step next i hi nx,if_pos (hpl i hi)]
        ·unfold ZdI;rw [ZN,Cq0];unfold Za6;rw [Yo (by omega)]
       ·have hz:∃ i,i < x.places.length∧¬ Zaa w x i:=Classical.byContradiction fun q=>hpl fun i hi=>Classical.byContradiction fun q2=>q ⟨i,hi,q2⟩
        obtain⟨i0,hi0⟩:=hz;obtain⟨i1,_,hi1,hlt⟩:=QX (c:=fun i=>i < x.places.length∧¬ Zaa w x i) hi0;refine .inl ⟨fun next=>?_,fun l=>?_⟩
        ·rw [b2];refine Ya (fun i=>(i:Int)) rfl (n:=i1) (by omega) (fun i hi nx=>?_) (fun nx=>?_)
         ·rw [step next i (by omega) nx,if_pos (Classical.byContradiction fun q=>hlt i hi ⟨by omega,q⟩)]
         ·rw [step next i1 hi1.1 nx,if_neg hi1.2]
        ·rcases l with q | q | ⟨_,_,_,q⟩
         ·exact h1 q
         ·exact h3 q
         ·exact hpl q
      ·refine .inl ⟨fun next=>?_,fun l=>?_⟩
       ·rw [b1]
        have:((decide ((x.places.length:Int) < 1)) || ((x.ZU.length:Int) != (x.places.length:Int)))=true:=by
         rw [← Bool.not_eq_false];intro hf;simp only [Bool.or_eq_false_iff,decide_eq_false_iff_not,bne_eq_false_iff_eq] at hf;exact hl ⟨List.length_pos_iff.1 (by omega),by omega⟩
        rw [this];rfl
       ·rcases l with q | q | ⟨_,q1,q2,_⟩
        ·exact h1 q
        ·exact h3 q
        ·exact hl ⟨q1,q2⟩
     ·refine .inl ⟨fun next=>?_,fun l=>?_⟩
      ·rw [b0];unfold ZdH;rw [Ye x.kind 3,decide_eq_false h3,Cq0,Ye x.kind 2,decide_eq_false h2];rfl
      ·rcases l with q | q | ⟨q,_⟩
       ·exact h1 q
       ·exact h3 q
       ·exact h2 q
  rcases bad with⟨b1,b2⟩ | ⟨b1,b2⟩
  ·exact .inl ⟨b1,hk,by rwa [hX]⟩
  ·exact .inr ⟨b1,fun⟨_,q⟩=>by rw [hX] at q;exact q b2⟩
 ·unfold Zag;rw [ZN];rfl
 ·simp only [Bool.false_eq_true,false_iff];obtain⟨h,q⟩:=hc;intro s;exact q (s _ (List.getElem_mem h))
 ·refine⟨fun _ x hx=>?_,fun _=>rfl⟩;obtain⟨k,hk,rfl⟩:=List.getElem_of_mem hx;exact Classical.byContradiction fun q=>hlt k hk ⟨hk,q⟩
end Go.Proofs.YtbmbbcaaimehkaaGreat
end
section
namespace Go.Proofs.YtbmbbcaaimehkaaGreat
open Go.Lf
section
variable {β γ:Type} {R:β ->Prop}
theorem Zi4 {body:γ ->(γ ->Option β) ->Option β} (r1:Nat ->β) (r2:Option β) {s0:γ} (S:Nat ->γ) (h0:S 0=s0) (c:Nat ->Prop) {n F:Nat} (hF:n < F)
 (hb:∀ k,k < n ->((∀ next,body (S k) next=some (r1 k))∧c k)∨((∀ next,body (S k) next=next (S (k + 1)))∧¬ c k)) (he:∀ next,body (S n) next=r2)
 (h1:∀ k,k < n ->c k ->R (r1 k)) (h2:(∀ k,k < n ->¬ c k) ->∃ b,r2=some b∧R b):∃ b,loop F body s0=some b∧R b:=by
 by_cases hz:∃ k,k < n∧c k
 ·obtain⟨k0,hk0⟩:=hz;obtain⟨m,hm,⟨hmn,hcm⟩,hlt⟩:=QX (c:=fun k=>k < n∧c k) hk0;refine⟨r1 m,Ya S h0 (n:=m) (by omega) (fun k hk=>?_) ?_,h1 m hmn hcm⟩
  ·rcases hb k (by omega) with⟨_,q⟩ | ⟨q,_⟩
   ·exact absurd ⟨by omega,q⟩ (hlt k hk)
   ·exact q
  ·rcases hb m hmn with⟨q,_⟩ | ⟨_,q⟩
   ·exact q
   ·exact absurd hcm q
 ·have hno:∀ k,k < n ->¬ c k:=fun k hk q=>hz ⟨k,hk,q⟩
  obtain⟨b,e,hR⟩:=h2 hno;refine⟨b,?_,hR⟩;rw [← e];exact Ya S h0 hF (fun k hk=>(hb k hk).elim (fun q=>absurd q.2 (hno k hk)) fun q=>q.1) he
end
theorem Zdo {F:Nat} (hF:1000 <=F) {l:List Int} (hl:l.length <=900) (x:Int):∃ b,Zre F l x=some b∧(b=true↔x ∈ l):=by
 have:∃ k,ZyT F l x=some k∧(0 <=k↔x ∈ l):=by
  unfold ZyT;refine Zi4 (fun k=>(k:Int)) (some (-1)) (fun k=>(k:Int)) rfl (fun k=>∃ h:k < l.length,x=l[k]) (n:=l.length) (by omega) (fun k hk=>?_) (fun next=>?_) (fun k hk hc=>?_) (fun hno=>⟨-1,rfl,?_⟩)
  ·by_cases h:x=l[k]
   ·refine .inl ⟨fun next=>?_,hk,h⟩;unfold Zir;rw [ZF hk,Cq1,YD hk];simp only [Bq0];rw [Ye,decide_eq_true h];rfl
   ·refine .inr ⟨fun next=>?_,fun⟨_,q⟩=>h q⟩;unfold Zir;rw [ZF hk,Cq1,YD hk];simp only [Bq0];rw [Ye,decide_eq_false h,Cq0,Yo (by omega)]
  ·unfold Zir;rw [ZN];rfl
  ·obtain⟨h,e⟩:=hc;exact⟨fun _=>e ▸ List.getElem_mem h,fun _=>by omega⟩
  ·refine⟨fun q=>absurd q (by omega),fun q=>?_⟩;obtain⟨k,hk,e⟩:=List.getElem_of_mem q;exact absurd ⟨hk,e.symm⟩ (hno k hk)
 obtain⟨k,h1,h2⟩:=this;refine⟨decide (k >=0),?_,?_⟩
 ·unfold Zre;rw [h1];rfl
 ·rw [decide_eq_true_eq];exact h2
def Zjw (w:Zb) (p q:Int):Prop:=∃ x ∈ w.wire,x.kind=2∧p ∈ x.places∧q ∈ x.places
theorem ZtH {F:Nat} (hF:1000 <=F) {w:Zb} (sm:Wi 900 w) (l:List Yq) (p q:Int):∃ b,Zrd F ⟨w,l⟩ p q=some b∧(b=true↔Zjw w p q):=by
 unfold Zrd;have hwl:=sm.wire;refine Zi4 (fun _=>true) (some false) (fun k=>(k:Int)) rfl (fun k=>∃ h:k < w.wire.length,(w.wire[k]).kind=2∧p ∈ (w.wire[k]).places∧q ∈ (w.wire[k]).places) (n:=w.wire.length) (by omega) (fun k hk=>?_) (fun next=>?_) (fun k hk hc=>?_) (fun hno=>⟨false,rfl,?_⟩)
 ·have hx:w.wire[k] ∈ w.wire:=List.getElem_mem hk;obtain⟨s1,s2⟩:=sm.Xq _ hx;obtain⟨b1,e1,i1⟩:=Zdo (F:=F) hF (l:=w.wire[k].places) (by omega) p;obtain⟨b2,e2,i2⟩:=Zdo (F:=F) hF (l:=w.wire[k].places) (by omega) q
  have hb:∀ next,Zit F ⟨w,l⟩ p q (k:Int) next=bif(((w.wire[k].kind==2) && b1) && b2) then some true else next ((k + 1:Nat):Int):=fun next=>by
   unfold Zit;rw [ZF hk,Cq1,YD hk];simp only [Bq0];rw [e1,e2];cases h2:(w.wire[k].kind==2)
   ·simp only [XA,Bq0,Bool.false_and,Cq0];rw [Yo (by omega)]
   ·simp only [Yz,Bq0,Bool.true_and];cases b1
    ·simp only [XA,Bq0,Bool.false_and,Cq0];rw [Yo (by omega)]
    ·simp only [Yz,Bq0,Bool.true_and];cases b2
     ·simp only [Cq0];rw [Yo (by omega)]
     ·simp only [Cq1];unfold Zis;rw [Zeq]
  by_cases hc:w.wire[k].kind=2∧p ∈ w.wire[k].places∧q ∈ w.wire[k].places
  ·refine .inl ⟨fun next=>?_,hk,hc⟩;rw [hb,Ye,decide_eq_true hc.1,i1.2 hc.2.1,i2.2 hc.2.2];rfl
  ·refine .inr ⟨fun next=>?_,fun⟨_,z⟩=>hc z⟩;rw [hb]
   have:(((w.wire[k].kind==2) && b1) && b2)=false:=by
    rw [← Bool.not_eq_true];intro z;simp only [Bool.and_eq_true,beq_iff_eq] at z;exact hc ⟨z.1.1,i1.1 z.1.2,i2.1 z.2⟩
   rw [this];rfl
 ·unfold Zit;rw [ZN];rfl
 ·obtain⟨h,z⟩:=hc;exact⟨fun _=>⟨_,List.getElem_mem h,z⟩,fun _=>rfl⟩
 ·simp only [Bool.false_eq_true,false_iff];rintro⟨x,hx,z⟩;obtain⟨k,hk,rfl⟩:=List.getElem_of_mem hx;exact hno k hk ⟨hk,z⟩
def sp (w:Zb) (p:Nat):Yq:=Wy (YN w p)
def spL (w:Zb):List Yq:= (List.range w.ZA.length).map (sp w)
def ZIn (w:Zb) (p:Nat):Prop:= (YN w p).length=1∧(0 <=inn w p ->(sp w (inn w p).toNat).machine= (sp w p).machine∧(sp w (inn w p).toNat).here= (sp w p).here∧((sp w p).here=false ->Zjw w p (inn w p)))
def spK (w:Zb) (k:Nat):List Yq:= (List.range k).map (sp w) ++ List.replicate (w.ZA.length - k) ⟨0,false,0⟩
theorem Zsa {w:Zb} {k:Nat} (h:k < w.ZA.length):YA (spK w k) (k:Int) (sp w k)=spK w (k + 1):=by
 unfold YA spK;rw [Int.toNat_natCast,List.set_append_right _ _ (by simp),List.range_succ,List.map_append,List.append_assoc];congr 1;rw [List.length_map,List.length_range,Nat.sub_self,show w.ZA.length - k= (w.ZA.length - (k + 1)) + 1 by omega,List.replicate_succ,List.set_cons_zero];rfl
theorem ZAC {w:Zb} {k:Nat} (h:k <=w.ZA.length):(spK w k).length=w.ZA.length:=by simp [spK];omega
theorem ZAD (w:Zb):spK w w.ZA.length=spL w:=by simp [spK,spL]
theorem MvX.mvd {w:Zb} (sm:Wi 900 w) (h:∀ x ∈ w.wire,MvX w x):Mvd 900 w.wire:=fun x hx hk=>by
 rcases h x hx with q | q | ⟨_,_,q,_⟩
 ·omega
 ·omega
 ·exact⟨q,by have:= (sm.Xq x hx).1;omega⟩
theorem ZjJ {F:Nat} (hF:1000 <=F) (hM:F <=1000000) {w:Zb} (s:Wt w) (hi:Inn w) (sm:Wi 900 w) (hv:Mvd 900 w.wire):
 ∃ x,Zy2 F ⟨w,List.replicate w.ZA.length ⟨0,false,0⟩⟩=some x∧((x.2=true↔∀ p,p < w.ZA.length ->ZIn w p)∧(x.2=true ->x.1= ⟨w,spL w⟩)):=by
 have h8:=s.p2;have hwh:∀ p,p < w.ZA.length ->Zj2 F w (p:Int)=some (sp w p,((YN w p).length:Int)):=fun p hp=>Zhl hF hM s hv sm.wire hp
 unfold Zy2
 let l1:Nat ->List Yq:=fun k=>if(YN w k).length=1 then spK w (k + 1) else spK w k
 refine Zi4 (fun k=>(⟨w,l1 k⟩,false)) (some (⟨w,spL w⟩,true)) (fun k=>((k:Int),spK w k)) (by simp [spK]) (fun k=>¬ ZIn w k) (n:=w.ZA.length) (by omega) (fun k hk=>?_) (fun next=>?_) (fun k hk hc=>?_) (fun hno=>⟨_,rfl,?_⟩)
 ·have hok:=hi.rng k hk
  have b0:∀ next,Zfo F ⟨w,List.replicate w.ZA.length ⟨0,false,0⟩⟩ ((k:Int),spK w k) next= (bif(((YN w k).length:Int) !=1) then some (⟨w,spK w k⟩,false) else(bif decide (inn w k < 0) then Zck (k:Int) next (YA (spK w k) (k:Int) (sp w k)) else(Zj2 F w (inn w k)).bind fun WW=>(gd ((!((WW.1.machine != (sp w k).machine) || (WW.1.here != (sp w k).here))) && (!(sp w k).here)) (Zrd F ⟨w,YA (spK w k) (k:Int) (sp w k)⟩ (k:Int) (inn w k)) default).bind fun x44=>(bif(((WW.1.machine != (sp w k).machine) || (WW.1.here != (sp w k).here)) || ((!(sp w k).here) && (!x44))) then some (⟨w,YA (spK w k) (k:Int) (sp w k)⟩,false) else Zck (k:Int) next (YA (spK w k) (k:Int) (sp w k))))):=fun next=>by
   unfold Zfo;dsimp only;rw [ZF hk,Cq1,Uw hk];simp only [Bq0];rw [hwh k hk];simp only [Bq0];rw [Yy ⟨0,false,0⟩ (show k < (spK w k).length by rw [ZAC (by omega)];exact hk)];simp only [Bq0]
  by_cases h1:(YN w k).length=1
  ·have e1:(((YN w k).length:Int) !=1)=false:=by rw [h1];rfl
   have hl1:l1 k=spK w (k + 1):=if_pos h1;have jn:∀ next,Zck (k:Int) next (spK w (k + 1))=next (((k + 1:Nat):Int),spK w (k + 1)):=fun next=>by unfold Zck;rw [Yo (by omega)]
   by_cases h2:inn w k < 0
   ·refine .inr ⟨fun next=>?_,fun q=>q ⟨h1,fun z=>by omega⟩⟩;rw [b0,e1,Cq0,decide_eq_true h2,Cq1,Zsa hk,jn]
   ·obtain⟨q,eq,hq⟩:=ZaY hok h2;obtain⟨b,hb,hbi⟩:=ZtH hF sm (spK w (k + 1)) (k:Int) (inn w k)
    have b1:∀ next,Zfo F ⟨w,List.replicate w.ZA.length ⟨0,false,0⟩⟩ ((k:Int),spK w k) next=bif((((sp w q).machine != (sp w k).machine) || ((sp w q).here != (sp w k).here)) || ((!(sp w k).here) && (!(bif((!(((sp w q).machine != (sp w k).machine) || ((sp w q).here != (sp w k).here))) && (!(sp w k).here)) then b else default)))) then some (⟨w,spK w (k + 1)⟩,false) else next (((k + 1:Nat):Int),spK w (k + 1)):=fun next=>by
     rw [b0,e1,Cq0,decide_eq_false h2,Cq0,Zsa hk,hb,eq,hwh q hq];simp only [Bq0];have hgd:∀ c:Bool,gd c (some b) (default:Bool)=some (bif c then b else default):=fun c=>by cases c <;> rfl
     rw [hgd];simp only [Bq0];rw [jn]
    have eqn:(inn w k).toNat=q:=by omega
    by_cases ht:(sp w q).machine= (sp w k).machine∧(sp w q).here= (sp w k).here∧((sp w k).here=false ->Zjw w k (inn w k))
    ·refine .inr ⟨fun next=>?_,fun z=>z ⟨h1,fun _=>by rw [eqn];exact ht⟩⟩;rw [b1,ht.1,ht.2.1];simp only [Xw,Bool.or_self,Bool.not_false,Bool.true_and,Bool.false_or];cases hh:(sp w k).here with
     | true=>rfl
     | false=>
       rw [hbi.2 (ht.2.2 hh)];rfl
    ·refine .inl ⟨fun next=>?_,fun z=>ht (by have:=z.2 (by omega);rwa [eqn] at this)⟩;rw [b1,hl1]
     have:((((sp w q).machine != (sp w k).machine) || ((sp w q).here != (sp w k).here)) || ((!(sp w k).here) && (!(bif((!(((sp w q).machine != (sp w k).machine) || ((sp w q).here != (sp w k).here))) && (!(sp w k).here)) then b else default))))=true:=by
      rw [← Bool.not_eq_false];intro hf;rw [Bool.or_eq_false_iff] at hf;obtain⟨hf1,hf2⟩:=hf;rw [hf1] at hf2;rw [Bool.or_eq_false_iff,bne_eq_false_iff_eq,bne_eq_false_iff_eq] at hf1;refine ht ⟨hf1.1,hf1.2,fun hh=>?_⟩;rw [hh] at hf2;simp only [Bool.not_false,Bool.and_self,Cq1,Bool.true_and,Bool.not_eq_false'] at hf2;exact hbi.1 hf2
     rw [this];rfl
  ·refine .inl ⟨fun next=>?_,fun z=>h1 z.1⟩;have hl1:l1 k=spK w k:=if_neg h1;rw [b0,hl1,Q8,decide_eq_true (by omega)];rfl
 ·unfold Zfo;dsimp only;rw [ZN,Cq0,ZAD]
 ·refine⟨?_,fun q=>by cases q⟩;simp only [Bool.false_eq_true,false_iff];intro z;exact hc (z k hk)
 ·exact⟨⟨fun _ p hp=>Classical.byContradiction (hno p hp),fun _=>rfl⟩,fun _=>rfl⟩
def RtX (w:Zb) (p:Nat) (m a:Int):Prop:=0 <=a∧a <= (sp w p).age∧0 <=m∧m < (w.entries.length:Int)∧(a= (sp w p).age ->m= (sp w p).machine)∧(a ≠ (sp w p).age ->a < (E w m.toNat p).age)
instance (w:Zb) (p:Nat) (m a:Int):Decidable (RtX w p m a):=by unfold RtX;infer_instance
theorem Zr9 {w:Zb} {p:Nat} (hp:p < w.ZA.length):ZM (spL w) (p:Int)=some (sp w p):=by
 rw [Yy default (by simp [spL];exact hp)];simp [spL,hp]
theorem Zdy {w:Zb} (s:Wt w) {p:Nat} (hp:p < w.ZA.length) (m a:Int):Zl6 ⟨w,spL w⟩ (p:Int) m a=some (decide (RtX w p m a)):=by
 unfold Zl6;rw [Zr9 hp];simp only [Bq0];unfold Zl5;dsimp only;by_cases h1:0 <=a∧a <= (sp w p).age
 ·rw [decide_eq_false (show ¬ a < 0 by omega),decide_eq_false (show ¬ a > (sp w p).age by omega)];simp only [Bool.or_self,Bool.not_false,Yz,Bq0,Bool.false_or];by_cases h2:0 <=m∧m < (w.entries.length:Int)
  ·rw [decide_eq_true h2.1,decide_eq_true h2.2];simp only [Bool.and_self,Bool.not_true,Cq0];by_cases h3:a= (sp w p).age
   ·rw [Ye,decide_eq_true h3,Cq1,Ye];congr 1;by_cases h4:m= (sp w p).machine
    ·rw [decide_eq_true h4,decide_eq_true (show RtX w p m a from⟨h1.1,h1.2,h2.1,h2.2,fun _=>h4,fun q=>absurd h3 q⟩)]
    ·rw [decide_eq_false h4,decide_eq_false (fun q:RtX w p m a=>h4 (q.2.2.2.2.1 h3))]
   ·obtain⟨k,rfl⟩:∃ k:Nat,m= (k:Int):= ⟨m.toNat,by omega⟩
    rw [Ye,decide_eq_false h3,Cq0,s.row (by omega)];simp only [Bq0];rw [s.ent (by omega) hp];simp only [Bq0];congr 1;by_cases h4:(E w k p).age > a
    ·rw [decide_eq_true h4,decide_eq_true (show RtX w p (k:Int) a from⟨h1.1,h1.2,h2.1,h2.2,fun q=>absurd q h3,fun _=>h4⟩)]
    ·rw [decide_eq_false h4,decide_eq_false (fun q:RtX w p (k:Int) a=>h4 (q.2.2.2.2.2 h3))]
  ·have:(decide (m >=0) && decide (m < (w.entries.length:Int)))=false:=by
    rw [← Bool.not_eq_true];intro z;simp only [Bool.and_eq_true,decide_eq_true_eq] at z;exact h2 z
   rw [this,decide_eq_false (fun q:RtX w p m a=>h2 ⟨q.2.2.1,q.2.2.2.1⟩)];rfl
 ·have:(decide (a < 0) || decide (a > (sp w p).age))=true:=by
   rw [← Bool.not_eq_false];intro z;simp only [Bool.or_eq_false_iff,decide_eq_false_iff_not] at z;exact h1 ⟨by omega,by omega⟩
  rw [this,decide_eq_false (fun q:RtX w p m a=>h1 ⟨q.1,q.2.1⟩)];rfl
end Go.Proofs.YtbmbbcaaimehkaaGreat
end
section
namespace Go.Proofs.YtbmbbcaaimehkaaGreat
open Go.Lf
def ZrZ (w:Zb) (m p:Nat):Prop:=
 (E w m p= ⟨true,(m:Int),(E w m p).age⟩∧0 <= (E w m p).age∧(E w m p).age <=30)∨
 (E w m p ≠ ⟨true,(m:Int),(E w m p).age⟩∧(E w m p).here=false∧(E w m p).ZO ≠ (m:Int)∧RtX w p (E w m p).ZO (E w m p).age)
theorem ZmL {F:Nat} (hF:1000 <=F) {w:Zb} (s:Wt w):∃ b,Zup F ⟨w,spL w⟩=some b∧(b=true↔∀ m,m < w.entries.length ->∀ p,p < w.ZA.length ->ZrZ w m p):=by
 have h5:=s.m2;have h8:=s.p2;unfold Zup;refine JH false (some true) (fun k=>(k:Int)) rfl (fun m=>¬ ∀ p,p < w.ZA.length ->ZrZ w m p) (n:=w.entries.length) (by omega) (fun m hm=>?_) (fun next=>?_) (fun k hk hc=>?_) (fun hno=>⟨true,rfl,fun _ m hm=>Classical.byContradiction (hno m hm),fun _=>rfl⟩)
 ·have b0:∀ next,Ziy F ⟨w,spL w⟩ (m:Int) next=loop F (Zfn ⟨w,spL w⟩ (m:Int) next (row w m)) 0:=fun next=>by
   unfold Ziy;rw [ZF hm,Cq1,s.row hm];rfl
  have step:∀ (next:Int ->Option Bool) (p:Nat),p < w.ZA.length ->∀ nx,Zfn ⟨w,spL w⟩ (m:Int) next (row w m) (p:Int) nx=open Classical in if ZrZ w m p then nx ((p + 1:Nat):Int) else some false:=fun next p hp nx=>by
   unfold Zfn;rw [s.len hm,ZF hp,Cq1,s.ent hm hp];simp only [Bq0];have hj:Zfm (p:Int) nx ()=nx ((p + 1:Nat):Int):=by unfold Zfm;rw [Yo (by omega)]
   by_cases he:E w m p= ⟨true,(m:Int),(E w m p).age⟩
   ·rw [(Zgv _ _).2 he,Cq1];by_cases ha:0 <= (E w m p).age∧(E w m p).age <=30
    ·rw [if_pos (.inl ⟨he,ha⟩),decide_eq_false (by omega),decide_eq_false (by omega),Bool.or_self,Cq0,hj]
    ·have:(decide ((E w m p).age < 0) || decide ((E w m p).age > 30))=true:=by
      rw [← Bool.not_eq_false];intro z;simp only [Bool.or_eq_false_iff,decide_eq_false_iff_not] at z;exact ha ⟨by omega,by omega⟩
     rw [this,if_neg (by rintro(⟨_,q⟩ | ⟨q,_⟩);· exact ha q
                         ·exact q he)];rfl
   ·have e1:Qh (E w m p) ⟨true,(m:Int),(E w m p).age⟩=false:=by rw [← Bool.not_eq_true,Zgv];exact he
    rw [e1,Cq0];by_cases h2:(E w m p).here=false∧(E w m p).ZO ≠ (m:Int)
    ·have e2:((E w m p).here || ((E w m p).ZO== (m:Int)))=false:=by rw [h2.1,Ye,decide_eq_false h2.2];rfl
     rw [e2,Bool.not_false,Yz,Zdy s hp];simp only [Bq0,Bool.false_or];by_cases h3:RtX w p (E w m p).ZO (E w m p).age
     ·rw [decide_eq_true h3,if_pos (.inr ⟨he,h2.1,h2.2,h3⟩),Bool.not_true,Cq0,hj]
     ·rw [decide_eq_false h3,if_neg (by rintro(⟨q,_⟩ | ⟨_,_,_,q⟩);· exact he q
                                        ·exact h3 q)];rfl
    ·have e2:((E w m p).here || ((E w m p).ZO== (m:Int)))=true:=by
      rw [← Bool.not_eq_false];intro z;simp only [Bool.or_eq_false_iff,beq_eq_false_iff_ne] at z;exact h2 z
     rw [e2,if_neg (by rintro(⟨q,_⟩ | ⟨_,q1,q2,_⟩);· exact he q
                       ·exact h2 ⟨q1,q2⟩)];rfl
  by_cases hall:∀ p,p < w.ZA.length ->ZrZ w m p
  ·refine .inr ⟨fun next=>?_,fun q=>q hall⟩;rw [b0];refine Ya (fun p=>(p:Int)) rfl (n:=w.ZA.length) (by omega) (fun p hp nx=>?_) (fun nx=>?_)
   ·rw [step next p hp nx,if_pos (hall p hp)]
   ·unfold Zfn;rw [s.len hm,ZN,Cq0,Yo (by omega)]
  ·refine .inl ⟨fun next=>?_,hall⟩;have hz:∃ p,p < w.ZA.length∧¬ ZrZ w m p:=Classical.byContradiction fun q=>hall fun p hp=>Classical.byContradiction fun q2=>q ⟨p,hp,q2⟩
   obtain⟨p0,hp0⟩:=hz;obtain⟨p1,_,hp1,hlt⟩:=QX (c:=fun p=>p < w.ZA.length∧¬ ZrZ w m p) hp0;rw [b0];refine Ya (fun p=>(p:Int)) rfl (n:=p1) (by omega) (fun p hp nx=>?_) (fun nx=>?_)
   ·rw [step next p (by omega) nx,if_pos (Classical.byContradiction fun q=>hlt p hp ⟨by omega,q⟩)]
   ·rw [step next p1 hp1.1 nx,if_neg hp1.2]
 ·unfold Ziy;rw [ZN];rfl
 ·simp only [Bool.false_eq_true,false_iff];intro z;exact hc (z k hk)
def QY (w:Zb) (m:Int) (y:Zh):Prop:=0 <=y.place∧y.place < (w.ZA.length:Int)∧0 <=y.from_∧y.from_ < (w.entries.length:Int)∧RtX w y.place.toNat m y.age∧1 <=y.hops∧y.hops <=Y6 (1 + y.age)
theorem ZkD {w:Zb} (s:Wt w) (m:Int) (y:Zh):∃ b,Zun ⟨w,spL w⟩ m y=some b∧(b=true↔QY w m y):=by
 unfold Zun Zra Zl5;simp only [Bq0];by_cases h1:0 <=y.place∧y.place < (w.ZA.length:Int)
 ·obtain⟨p,hp⟩:∃ p:Nat,y.place= (p:Int):= ⟨y.place.toNat,by omega⟩
  have hpl:p < w.ZA.length:=by omega
  rw [hp,decide_eq_true (show(p:Int) >=0 by omega),decide_eq_true (show(p:Int) < (w.ZA.length:Int) by omega)];simp only [Bool.and_self,Yz,Bq0,Bool.true_and];by_cases h2:0 <=y.from_∧y.from_ < (w.entries.length:Int)
  ·rw [decide_eq_true h2.1,decide_eq_true h2.2];simp only [Bool.and_self,Yz,Bq0,Bool.true_and];rw [Zdy s hpl];refine⟨_,rfl,?_⟩;simp only [Bool.and_eq_true,decide_eq_true_eq];unfold QY;rw [hp,Int.toNat_natCast]
   constructor
   ·rintro⟨⟨a,b⟩,c⟩;exact⟨by omega,by omega,h2.1,h2.2,a,b,c⟩
   ·rintro⟨_,_,_,_,a,b,c⟩;exact⟨⟨a,b⟩,c⟩
  ·have:(decide (y.from_ >=0) && decide (y.from_ < (w.entries.length:Int)))=false:=by
    rw [← Bool.not_eq_true];intro z;simp only [Bool.and_eq_true,decide_eq_true_eq] at z;exact h2 z
   rw [this];refine⟨_,rfl,?_⟩;simp only [Bool.false_and,Bool.false_eq_true,false_iff];rintro⟨_,_,a,b,_⟩;exact h2 ⟨a,b⟩
 ·have:(decide (y.place >=0) && decide (y.place < (w.ZA.length:Int)))=false:=by
   rw [← Bool.not_eq_true];intro z;simp only [Bool.and_eq_true,decide_eq_true_eq] at z;exact h1 z
  rw [this];refine⟨_,rfl,?_⟩;simp only [Bool.false_and,Bool.false_eq_true,false_iff];rintro⟨a,b,_⟩;exact h1 ⟨a,b⟩
def ZzW (w:Zb) (x:Zc):Prop:=0 <=x.ZO∧x.ZO < (w.entries.length:Int)∧(x.kind ≠ 2 ->x.places= []∧x.ZU= [])∧
 (x.kind=1 ->QY w x.ZO x.Zl∧x.place=0∧x.at_=0∧x.age=0)∧
 (x.kind=3 ->x.at_ ≠ x.ZO∧0 <=x.place∧x.place < (w.ZA.length:Int)∧RtX w x.place.toNat x.at_ x.age∧x.Zl=ZsB)∧
 (x.kind ≠ 1 ->x.kind ≠ 3 ->x.Zl=ZsB∧x.place=0∧x.at_=0∧x.age=0)
theorem Zn0 {w:Zb} (s:Wt w) {x:Zc} (h9:x.places.length <=900∧x.ZU.length <=900):∃ b,Zy1 ⟨w,spL w⟩ x=some b∧(b=true↔ZzW w x):=by
 unfold Zy1 Zl5;simp only [Bq0];refine QN (fun hc=>⟨false,rfl,?_⟩) (fun hc=>?_)
 ·simp only [Bool.false_eq_true,false_iff];rintro⟨a,b,_⟩;rw [decide_eq_true (show x.ZO >=0 from a),decide_eq_true b] at hc;cases hc
 simp only [Bool.not_eq_false',Bool.and_eq_true,decide_eq_true_eq] at hc;refine QN (fun hc2=>⟨false,rfl,?_⟩) (fun hc2=>?_)
 ·simp only [Bool.false_eq_true,false_iff];rintro⟨_,_,a,_⟩;simp only [Bool.and_eq_true,bne_iff_ne,decide_eq_true_eq] at hc2;obtain⟨a1,a2⟩:=a hc2.1;rw [a1,a2] at hc2;exact absurd hc2.2 (by decide)
 have hk2:x.kind ≠ 2 ->x.places= []∧x.ZU= []:=fun hk=>by
  rw [Q8,decide_eq_true hk,Bool.true_and,decide_eq_false_iff_not,Zab (by omega) (by omega)] at hc2;exact⟨List.length_eq_zero_iff.1 (by omega),List.length_eq_zero_iff.1 (by omega)⟩
 have hj:∀ a b c d e f g h,Zfl x (a,b,c,d,e,f,g,h)=some ((((Y8 (Zh.mk a b c d e) x.Zl) && (f==x.place)) && (g==x.at_)) && (h==x.age)):=fun _ _ _ _ _ _ _ _=>rfl
 refine QN (fun h1=>?_) (fun h1=>?_)
 ·have h1:x.kind=1:=by simpa using h1
  obtain⟨b,hb,hbi⟩:=ZkD s x.ZO x.Zl;rw [hb];simp only [Bq0];refine QN (fun h2=>⟨false,rfl,?_⟩) (fun h2=>⟨_,hj _ _ _ _ _ _ _ _,?_⟩)
  ·simp only [Bool.false_eq_true,false_iff];rintro⟨_,_,_,a,_⟩;rw [hbi.2 (a h1).1] at h2;cases h2
  ·have h2:QY w x.ZO x.Zl:=hbi.1 (by simpa using h2);simp only [Bool.and_eq_true,KI,beq_iff_eq]
   constructor
   ·rintro⟨⟨⟨_,a⟩,b⟩,c⟩;exact⟨hc.1,hc.2,hk2,fun _=>⟨h2,a.symm,b.symm,c.symm⟩,fun q=>by omega,fun q=>absurd h1 q⟩
   ·rintro⟨_,_,_,a,_⟩;obtain⟨_,a1,a2,a3⟩:=a h1;exact⟨⟨⟨trivial,a1.symm⟩,a2.symm⟩,a3.symm⟩
 have h1:x.kind ≠ 1:=by simpa using h1
 refine QN (fun h3=>?_) (fun h3=>?_)
 ·have h3:x.kind=3:=by simpa using h3
  unfold Zra;dsimp only;by_cases hat:x.at_=x.ZO
  ·rw [hat,Ye,decide_eq_true rfl];refine⟨false,rfl,?_⟩;simp only [Bool.false_eq_true,false_iff];rintro⟨_,_,_,_,a,_⟩;exact(a h3).1 hat
  ·rw [Ye,decide_eq_false hat];simp only [Bool.not_false,Yz,Bq0,Bool.false_or];by_cases hp:0 <=x.place∧x.place < (w.ZA.length:Int)
   ·rw [decide_eq_true (show x.place >=0 from hp.1),decide_eq_true hp.2];obtain⟨p,ep⟩:∃ p:Nat,x.place= (p:Int):= ⟨x.place.toNat,by omega⟩
    simp only [Bool.and_self,Bool.not_true,Bool.not_false,Yz,Bool.false_or];rw [show Zl6 ⟨w,spL w⟩ x.place x.at_ x.age=some (decide (RtX w x.place.toNat x.at_ x.age)) by rw [ep,Zdy s (by omega),Int.toNat_natCast]];simp only [Bq0];refine QN (fun h4=>⟨false,rfl,?_⟩) (fun h4=>⟨_,hj _ _ _ _ _ _ _ _,?_⟩)
    ·simp only [Bool.false_eq_true,false_iff];rintro⟨_,_,_,_,a,_⟩;rw [decide_eq_true (a h3).2.2.2.1] at h4;cases h4
    ·have h4:RtX w x.place.toNat x.at_ x.age:=by simpa using h4
     simp only [Bool.and_eq_true,KI,beq_iff_eq]
     constructor
     ·rintro⟨⟨⟨a,_⟩,_⟩,_⟩;exact⟨hc.1,hc.2,hk2,fun q=>absurd q h1,fun _=>⟨hat,hp.1,hp.2,h4,a.symm⟩,fun _ q=>absurd h3 q⟩
     ·rintro⟨_,_,_,_,a,_⟩;exact⟨⟨⟨(a h3).2.2.2.2.symm,trivial⟩,trivial⟩,trivial⟩
   ·have:(decide (x.place >=0) && decide (x.place < (w.ZA.length:Int)))=false:=by
     rw [← Bool.not_eq_true];intro z;simp only [Bool.and_eq_true,decide_eq_true_eq] at z;exact hp z
    rw [this];refine⟨false,rfl,?_⟩;simp only [Bool.false_eq_true,false_iff];rintro⟨_,_,_,_,a,_⟩;exact hp ⟨(a h3).2.1,(a h3).2.2.1⟩
 have h3:x.kind ≠ 3:=by simpa using h3
 refine⟨_,hj _ _ _ _ _ _ _ _,?_⟩;simp only [Bool.and_eq_true,KI,beq_iff_eq]
 constructor
 ·rintro⟨⟨⟨a,b⟩,c⟩,d⟩;exact⟨hc.1,hc.2,hk2,fun q=>absurd q h1,fun q=>absurd q h3,fun _ _=>⟨a.symm,b.symm,c.symm,d.symm⟩⟩
 ·rintro⟨_,_,_,_,_,a⟩;obtain⟨a1,a2,a3,a4⟩:=a h1 h3;exact⟨⟨⟨a1.symm,a2.symm⟩,a3.symm⟩,a4.symm⟩
def Q0 (l:List Zc):List Int:= (l.filter fun x=>x.kind==1).map fun x=>x.Zl.msg
def Qz (l:List (List Zh)):List Int:=l.flatMap fun x=>x.map fun y=>y.msg
def msgs (w:Zb):List Int:=w.boxes.flatten ++ Qz w.held ++ Q0 w.wire
theorem ZcZ {α:Type} {l:List (List α)} {k:Nat} (h:k < l.length):(l.take (k + 1)).flatten= (l.take k).flatten ++ l[k]:=by
 rw [List.take_add_one,List.getElem?_eq_getElem h,List.flatten_append];simp
theorem Za4 {l:List (List Zh)} {k:Nat} (h:k < l.length):Qz (l.take (k + 1))=Qz (l.take k) ++ l[k].map fun y=>y.msg:=by
 unfold Qz;rw [List.take_add_one,List.getElem?_eq_getElem h,List.flatMap_append];simp
theorem Zgh {l:List Zc} {k:Nat} (h:k < l.length):Q0 (l.take (k + 1))=Q0 (l.take k) ++ if l[k].kind=1 then [l[k].Zl.msg] else []:=by
 unfold Q0;rw [List.take_add_one,List.getElem?_eq_getElem h,List.filter_append,List.map_append];congr 1;by_cases hk:l[k].kind=1
 ·rw [if_pos hk];simp [hk]
 ·rw [if_neg hk];simp [hk]
theorem Zcj {α:Type} {l:List (List α)} {n:Nat} (h:∀ x ∈ l,x.length <=n):l.flatten.length <=n * l.length:=by
 induction l with
 | nil=>simp
 | cons x l ih=>
   have:=ih fun y hy=>h y (by simp [hy])
   have:=h x (by simp);rw [List.flatten_cons,List.length_append,List.length_cons,Nat.mul_succ];omega
theorem Zt9 {l:List (List Zh)} {n:Nat} (h:∀ x ∈ l,x.length <=n):(Qz l).length <=n * l.length:=by
 induction l with
 | nil=>simp [Qz]
 | cons x l ih=>
   have:=ih fun y hy=>h y (by simp [hy])
   have:=h x (by simp);unfold Qz at *;rw [List.flatMap_cons,List.length_append,List.length_map,List.length_cons,Nat.mul_succ];omega
theorem Zql (l:List Zc):(Q0 l).length <=l.length:=by
 unfold Q0;rw [List.length_map];exact List.length_filter_le _ _
theorem ZuH {xs ys:List Int} (h:xs.length + ys.length <=1000000):app 8 xs ys=some (xs ++ ys):=ZfZ h (by decide)
structure BdM (w:Zb):Prop where
 b:w.boxes.flatten.length <=160000
 h:(Qz w.held).length <=160000
 m:(Q0 w.wire).length <=400
theorem BdM.of {w:Zb} (sm:Wi 400 w):BdM w:=by
 have h1:=Zcj (n:=400) fun x hx=>Nat.le_of_lt (sm.box x hx)
 have h2:=Zt9 (n:=400) fun x hx=>Nat.le_of_lt (sm.hel x hx)
 have h3:=Zql w.wire;have:=sm.boxes;have:=sm.held;have:=sm.wire;exact⟨by omega,by omega,by omega⟩
theorem WH {α:Type} (l:List (List α)) (k:Nat):(l.take k).flatten.length <=l.flatten.length:=by
 have:=congrArg (fun z=>z.flatten.length) (List.take_append_drop k l);simp only [List.flatten_append,List.length_append] at this;omega
theorem UW (l:List (List Zh)) (k:Nat):(Qz (l.take k)).length <= (Qz l).length:=by
 have:=congrArg (fun z=>(Qz z).length) (List.take_append_drop k l);simp only [Qz,List.flatMap_append,List.length_append] at this ⊢;omega
theorem ZbB (l:List Zc) (k:Nat):(Q0 (l.take k)).length <= (Q0 l).length:=by
 have:=congrArg (fun z=>(Q0 z).length) (List.take_append_drop k l);simp only [Q0,List.filter_append,List.map_append,List.length_append] at this ⊢;omega
def J8 (l:List Int):List Int:=l.mergeSort fun x y=>decide (x <=y)
theorem Zvz {l:List Int} (h:l.length <=1000000):Zuk l=some (J8 l):=by
 unfold Zuk J8;rw [Nat.ble_eq_true_of_le h];rfl
theorem Zdv (l:List Int):(J8 l).Perm l:=List.mergeSort_perm _ _
theorem Zlj (l:List Int):(J8 l).Pairwise (· <=·):=by
 have:=List.pairwise_mergeSort (le:=fun x y:Int=>decide (x <=y)) (fun a b c h1 h2=>by simp at *;omega) (fun a b=>by simp;omega) l;exact this.imp fun h=>by simpa using h
theorem ZjL {l l':List Int} (h:l.Perm l') (hs:l'.Pairwise (· <=·)):J8 l=l':=
 List.Perm.eq_of_pairwise (le:= (· <=·)) (fun a b _ _ h1 h2=>by omega) (Zlj l) hs ((Zdv l).trans h)
def XJ (n:Nat):List Int:= (List.range n).map Int.ofNat
theorem ZjM (n:Nat):(XJ n).Pairwise (· <=·):=by
 unfold XJ;rw [List.pairwise_map];exact List.pairwise_lt_range.imp fun{a b} h=>by show(a:Int) <= (b:Int);omega
theorem ZhB {n k:Nat} (h:k < n):(XJ n)[k]? =some (k:Int):=by simp [XJ,h]
theorem Qm (n:Nat):(XJ n).length=n:=by simp [XJ]
theorem Zuw {l:List Int} (h:∀ k (hk:k < l.length),l[k]= (k:Int)):l=XJ l.length:=by
 apply List.ext_getElem?;intro k;by_cases hk:k < l.length
 ·rw [ZhB hk,List.getElem?_eq_getElem hk,h k hk]
 ·rw [List.getElem?_eq_none (by omega),List.getElem?_eq_none (by rw [Qm];omega)]
def ZIo (w:Zb):Prop:=0 <=w.said∧w.said <=40∧(msgs w).Perm (XJ w.said.toNat)
theorem ZjP {F:Nat} (hF:400000 <=F) {w:Zb} (sm:Wi 400 w) (l:List Yq):∃ b,Zuo F ⟨w,l⟩=some b∧(b=true↔ZIo w):=by
 obtain⟨B1,B2,B3⟩:=BdM.of sm;have W1:=sm.boxes;have W2:=sm.held;have W3:=sm.wire;unfold Zuo;refine QN (fun hc=>⟨false,rfl,?_⟩) (fun hc=>?_)
 ·simp only [Bool.false_eq_true,false_iff];rintro⟨a,b,_⟩;simp only [Bool.or_eq_true,decide_eq_true_eq] at hc;omega
 simp only [Bool.or_eq_false_iff,decide_eq_false_iff_not] at hc
 have h4:∃ b,loop F (Za5 ⟨w,l⟩ (J8 (msgs w))) 0=some b∧(b=true↔ZIo w):=by
  have hl:(J8 (msgs w)).length= (msgs w).length:= (Zdv _).length_eq;have hl2:(msgs w).length <=320400:=by unfold msgs;rw [List.length_append,List.length_append];omega
  refine JH false (some (((J8 (msgs w)).length:Int)==w.said)) (fun k=>(k:Int)) rfl (fun k=>∃ h:k < (J8 (msgs w)).length,(J8 (msgs w))[k] ≠ (k:Int)) (n:= (J8 (msgs w)).length) (by omega) (fun k hk=>?_) (fun next=>?_) (fun k hk hc=>?_) (fun hno=>⟨_,rfl,?_⟩)
  ·have b0:∀ next,Za5 ⟨w,l⟩ (J8 (msgs w)) (k:Int) next=bif((J8 (msgs w))[k] != (k:Int)) then some false else next (Y6 ((k:Int) + 1)):=fun next=>by
    unfold Za5;rw [ZF hk,Cq1,YD hk];rfl
   by_cases h:(J8 (msgs w))[k]= (k:Int)
   ·refine .inr ⟨fun next=>?_,fun⟨_,q⟩=>q h⟩;rw [b0,h,Xw,Cq0,Yo (by omega)]
   ·refine .inl ⟨fun next=>?_,hk,h⟩;rw [b0,Q8,decide_eq_true h];rfl
  ·unfold Za5;rw [ZN];rfl
  ·obtain⟨h,q⟩:=hc;simp only [Bool.false_eq_true,false_iff];rintro⟨_,_,hp⟩;have e:=ZjL hp (ZjM _);have hk':k < w.said.toNat:=by rw [e,Qm] at h;exact h
   have:(J8 (msgs w))[k]? =some (k:Int):=by rw [e];exact ZhB hk'
   rw [List.getElem?_eq_getElem h] at this;exact q (by simpa using this)
  ·have e:=Zuw fun k hk=>Classical.byContradiction fun q=>hno k hk ⟨hk,q⟩
   rw [beq_iff_eq]
   constructor
   ·intro h;refine⟨by omega,by omega,?_⟩;have h2:w.said.toNat= (J8 (msgs w)).length:=by omega
    rw [h2,← e];exact(Zdv _).symm
   ·rintro⟨_,_,hp⟩;have:=hp.length_eq;rw [Qm] at this;omega
 have h3:loop F (Ziv F ⟨w,l⟩) (w.boxes.flatten ++ Qz w.held,0)=loop F (Za5 ⟨w,l⟩ (J8 (msgs w))) 0:=by
  refine Ya (fun k=>(w.boxes.flatten ++ Qz w.held ++ Q0 (w.wire.take k),(k:Int))) (by simp [Q0]) (n:=w.wire.length) (by omega) (fun k hk next=>?_) (fun next=>?_)
  ·have hm:=ZbB w.wire k;have hll:(w.boxes.flatten ++ Qz w.held ++ Q0 (w.wire.take k)).length <=320400:=by rw [List.length_append,List.length_append];omega
   rw [Zgh hk];unfold Ziv;dsimp only;rw [ZF hk,Cq1,YD hk];simp only [Bq0];rw [Ye,ZaA];unfold Ziu;by_cases h1:w.wire[k].kind=1
   ·rw [if_pos h1,if_pos h1,ZuH (by rw [List.length_singleton];omega)];simp only [Bq0];rw [Yo (by omega),← List.append_assoc]
   ·rw [if_neg h1,if_neg h1,Yo (by omega),List.append_nil]
  ·unfold Ziv;dsimp only;rw [ZN,Cq0,List.take_of_length_le (Nat.le_refl _)];show(Zuk (msgs w)).bind _=_;rw [Zvz (by unfold msgs;rw [List.length_append,List.length_append];omega)];rfl
 have h1:loop F (Ziw F ⟨w,l⟩) (w.boxes.flatten,0)=loop F (Za5 ⟨w,l⟩ (J8 (msgs w))) 0:=by
  refine Ya (fun k=>(w.boxes.flatten ++ Qz (w.held.take k),(k:Int))) (by simp [Qz]) (n:=w.held.length) (by omega) (fun k hk next=>?_) (fun next=>?_)
  ·have hm:=UW w.held k;have hm2:=UW w.held (k + 1);have hrow:=sm.hel _ (List.getElem_mem hk);rw [Za4 hk] at hm2;rw [Za4 hk];rw [List.length_append,List.length_map] at hm2;unfold Ziw;dsimp only;rw [ZF hk,Cq1,YD hk];simp only [Bq0];refine Ya (fun j=>(w.boxes.flatten ++ Qz (w.held.take k) ++ (w.held[k].take j).map (fun y=>y.msg),(j:Int))) (by simp) (n:=w.held[k].length) (by omega) (fun j hj nx=>?_) (fun nx=>?_)
   ·unfold Zmc;dsimp only;rw [ZF hj,Cq1,YD hj];simp only [Bq0];rw [ZuH (by rw [List.length_append,List.length_append,List.length_map,List.length_take,List.length_singleton];omega)];simp only [Bq0];rw [Yo (by omega),List.take_add_one,List.getElem?_eq_getElem hj,List.map_append];simp
   ·unfold Zmc;dsimp only;rw [ZN,Cq0,List.take_of_length_le (Nat.le_refl _),Yo (by omega),List.append_assoc]
  ·unfold Ziw;dsimp only;rw [ZN,Cq0,List.take_of_length_le (Nat.le_refl _)];exact h3
 have h0:loop F (Zix F ⟨w,l⟩) ([],0)=loop F (Za5 ⟨w,l⟩ (J8 (msgs w))) 0:=by
  refine Ya (fun k=>((w.boxes.take k).flatten,(k:Int))) (by simp) (n:=w.boxes.length) (by omega) (fun k hk next=>?_) (fun next=>?_)
  ·have hm:=WH w.boxes k;have hm2:=WH w.boxes (k + 1);rw [ZcZ hk,List.length_append] at hm2;rw [ZcZ hk];unfold Zix;dsimp only;rw [ZF hk,Cq1,YD hk];simp only [Bq0];rw [ZuH (by omega)];simp only [Bq0];rw [Yo (by omega)]
  ·unfold Zix;dsimp only;rw [ZN,Cq0,List.take_of_length_le (Nat.le_refl _)];exact h1
 rw [h0];exact h4
def ZE (w:Zb) (m:Nat):List Zh:=w.held.getD m []
structure Wd (w:Zb):Prop where
 shr:ShR w
 loc:∀ p,p < w.ZA.length ->(YN w p).length=1
 tog:∀ p,p < w.ZA.length ->0 <=inn w p ->(sp w (inn w p).toNat).machine= (sp w p).machine∧(sp w (inn w p).toNat).here= (sp w p).here∧((sp w p).here=false ->Zjw w p (inn w p))
 ent:∀ m,m < w.entries.length ->∀ p,p < w.ZA.length ->(E w m p).here=false ->RtX w p (E w m p).ZO (E w m p).age
 hel:∀ m,m < w.entries.length ->∀ x ∈ ZE w m,QY w m x∧sp w x.place.toNat= ⟨(m:Int),false,x.age⟩
 mai:∀ x ∈ w.wire,x.kind=1 ->QY w x.ZO x.Zl
 ntd:∀ x ∈ w.wire,x.kind=3 ->RtX w x.place.toNat x.at_ x.age
 msg:(msgs w).Perm (XJ w.said.toNat)
theorem ZkL {w:Zb} {p k:Nat} {s:Yq}:s ∈ Xu w p k↔∃ m,m < k∧(E w m p).here=true∧s= ⟨(m:Int),true,(E w m p).age⟩:=by
 unfold Xu;rw [List.mem_filterMap]
 constructor
 ·rintro⟨m,h1,h2⟩;by_cases h:(E w m p).here=true
  ·rw [if_pos h] at h2;cases h2;exact⟨m,List.mem_range.1 h1,h,rfl⟩
  ·rw [if_neg h] at h2;cases h2
 ·rintro⟨m,h1,h2,rfl⟩;exact⟨m,List.mem_range.2 h1,if_pos h2⟩
theorem Zaj {x:Zc} {p j:Nat} {s:Yq}:s ∈ U3 x p j↔∃ i,i < j∧x.places.getD i 0= (p:Int)∧s= ⟨x.ZO,false,x.ZU.getD i 0⟩:=by
 unfold U3;rw [List.mem_filterMap]
 constructor
 ·rintro⟨m,h1,h2⟩;by_cases h:x.places.getD m 0= (p:Int)
  ·rw [if_pos h] at h2;cases h2;exact⟨m,List.mem_range.1 h1,h,rfl⟩
  ·rw [if_neg h] at h2;cases h2
 ·rintro⟨m,h1,h2,rfl⟩;exact⟨m,List.mem_range.2 h1,if_pos h2⟩
theorem Zvj {l:List Zc} {p:Nat} {s:Yq}:s ∈ X6 l p↔∃ x ∈ l,x.kind=2∧∃ i,i < x.places.length∧x.places.getD i 0= (p:Int)∧s= ⟨x.ZO,false,x.ZU.getD i 0⟩:=by
 unfold X6;rw [List.mem_flatMap]
 constructor
 ·rintro⟨x,h1,h2⟩;unfold WB at h2;by_cases h:x.kind=2
  ·rw [if_pos h] at h2;exact⟨x,h1,h,Zaj.1 h2⟩
  ·rw [if_neg h] at h2;cases h2
 ·rintro⟨x,h1,h2,h3⟩;exact⟨x,h1,by unfold WB;rw [if_pos h2];exact Zaj.2 h3⟩
theorem ZEi {w:Zb} {p:Nat} (h:(YN w p).length=1):YN w p= [sp w p]:=by
 obtain⟨x,e⟩:=List.length_eq_one_iff.1 h;unfold sp Wy;rw [e];rfl
theorem Zhr {w:Zb} {p:Nat} (h:(YN w p).length=1):(∃ m,m < w.entries.length∧(E w m p).here=true∧sp w p= ⟨(m:Int),true,(E w m p).age⟩)∨(∃ x ∈ w.wire,x.kind=2∧∃ i,i < x.places.length∧x.places.getD i 0= (p:Int)∧sp w p= ⟨x.ZO,false,x.ZU.getD i 0⟩):=by
 have hm:sp w p ∈ YN w p:=by rw [ZEi h];simp
 unfold YN at hm;rcases List.mem_append.1 hm with q | q
 ·exact .inl (ZkL.1 q)
 ·exact .inr (Zvj.1 q)
structure WdP (w:Zb):Prop where
 shp:Wt w
 inn:Inn w
 mov:∀ x ∈ w.wire,MvX w x
 tog:∀ p,p < w.ZA.length ->ZIn w p
 ent:∀ m,m < w.entries.length ->∀ p,p < w.ZA.length ->ZrZ w m p
 msg:ZIo w
 Xq:∀ x ∈ w.wire,ZzW w x
 hel:∀ m,m < w.entries.length ->∀ x ∈ ZE w m,QY w m x∧sp w x.place.toNat= ⟨(m:Int),false,x.age⟩
theorem ZAp {w:Zb}:WdP w↔Wd w:=by
 constructor
 ·intro h
  have ZQd:∀ p,p < w.ZA.length ->(sp w p).age <=30:=fun p hp=>by
   rcases Zhr (h.tog p hp).1 with⟨m,h1,h2,h3⟩ | ⟨x,h1,h2,i,h3,h4,h5⟩
   ·rw [h3];rcases h.ent m h1 p hp with⟨_,_,q⟩ | ⟨_,q,_⟩
    ·exact q
    ·rw [h2] at q;cases q
   ·rw [h5];rcases h.mov x h1 with q | q | ⟨_,_,_,q⟩
    ·omega
    ·omega
    ·exact(q i h3).2.2.2.2
  have ZPU:∀ x ∈ w.wire,Zkl w x:=fun x hx=>by
   have hl:=h.Xq x hx;obtain⟨a1,a2,a3,a4,a5,a6⟩:=hl;rcases h.mov x hx with q | q | ⟨q,q1,q2,q3⟩
   ·obtain⟨b1,b2⟩:=a3 (by omega);obtain⟨_,c1,c2,c3⟩:=a4 q;refine⟨a1,a2,.inl ⟨q,c1,c2,c3,b1,b2⟩,fun i hi=>?_,fun z=>by omega⟩;rw [b1] at hi;simp at hi
   ·obtain⟨b1,b2⟩:=a3 (by omega);obtain⟨c1,c2,c3,c4,c5⟩:=a5 q;refine⟨a1,a2,.inr (.inr ⟨q,c5,b1,b2⟩),fun i hi=>?_,fun _=>⟨c2,c3,c1⟩⟩;rw [b1] at hi;simp at hi
   ·obtain⟨c1,c2,c3,c4⟩:=a6 (by omega) (by omega);exact⟨a1,a2,.inr (.inl ⟨q,c2,c3,c4,c1,q1,q2.symm⟩),q3,fun z=>by omega⟩
  refine⟨⟨h.shp,h.inn,h.msg.1,h.msg.2.1,fun m hm p hp=>?_,ZPU⟩,fun p hp=>(h.tog p hp).1,fun p hp=>(h.tog p hp).2,fun m hm p hp hh=>?_,h.hel,fun x hx hk=>((h.Xq x hx).2.2.2.1 hk).1,fun x hx hk=>((h.Xq x hx).2.2.2.2.1 hk).2.2.2.1,h.msg.2.2⟩
  ·rcases h.ent m hm p hp with⟨e,q1,q2⟩ | ⟨e,q1,q2,q3⟩
   ·have e1:(E w m p).here=true:=by rw [e]
    have e2:(E w m p).ZO= (m:Int):=by rw [e]
    exact⟨q1,q2,by rw [e2];omega,by rw [e2];omega,fun _=>e2,fun _=>e1⟩
   ·have:=ZQd p hp;refine⟨q3.1,by have:=q3.2.1;omega,q3.2.2.1,q3.2.2.2.1,fun z=>?_,fun z=>absurd z q2⟩;rw [q1] at z;cases z
  ·rcases h.ent m hm p hp with⟨e,q1,q2⟩ | ⟨e,q1,q2,q3⟩
   ·have e1:(E w m p).here=true:=by rw [e]
    rw [hh] at e1;cases e1
   ·exact q3
 ·intro h;refine⟨h.shr.shp,h.shr.inn,fun x hx=>?_,fun p hp=>⟨h.loc p hp,h.tog p hp⟩,fun m hm p hp=>?_,⟨h.shr.sd1,h.shr.sd2,h.msg⟩,fun x hx=>?_,h.hel⟩
  ·have hl:=h.shr.Xq x hx;rcases hl.YZ with⟨q,_⟩ | ⟨q,_,_,_,_,q1,q2⟩ | ⟨q,_⟩
   ·exact .inl q
   ·exact .inr (.inr ⟨q,q1,q2.symm,hl.JN⟩)
   ·exact .inr (.inl q)
  ·obtain⟨a1,a2,a3,a4,a5⟩:=h.shr.ent m hm p hp;cases hh:(E w m p).here with
   | true=>
     have h2:=a5.1 hh;refine .inl ⟨?_,a1,a2⟩;have:E w m p= ⟨(E w m p).here,(E w m p).ZO,(E w m p).age⟩:=rfl;rw [hh,h2] at this;exact this
   | false=>
     have h2:(E w m p).ZO ≠ (m:Int):=fun q=>by have:=a5.2 q;rw [hh] at this;cases this
     refine .inr ⟨fun q=>?_,hh,h2,h.ent m hm p hp hh⟩;have:=congrArg Zt.here q;rw [hh] at this;cases this
  ·have hl:=h.shr.Xq x hx;rcases hl.YZ with⟨q,q1,q2,q3,q4,q5⟩ | ⟨q,q1,q2,q3,q4,q5,q6⟩ | ⟨q,q1,q2,q3⟩
   ·exact⟨hl.to1,hl.to2,fun _=>⟨q4,q5⟩,fun _=>⟨h.mai x hx q,q1,q2,q3⟩,fun z=>by omega,fun z=>absurd q z⟩
   ·exact⟨hl.to1,hl.to2,fun z=>absurd q z,fun z=>by omega,fun z=>by omega,fun _ _=>⟨q4,q1,q2,q3⟩⟩
   ·have:=hl.ntd q;exact⟨hl.to1,hl.to2,fun _=>⟨q2,q3⟩,fun z=>by omega,fun _=>⟨this.2.2,this.1,this.2.1,h.ntd x hx q,q1⟩,fun _ z=>absurd q z⟩
theorem Zjg {F:Nat} (hF:400000 <=F) (hM:F <=1000000) {w:Zb} (sm:Wi 400 w):∃ e,Zmq F w=some e∧((e=0∨e=2)∧(e=0↔Wd w)):=by
 have sm9:Wi 900 w:=sm.mono (by omega);have W3:=sm.wire
 suffices h:∃ e,Zmq F w=some e∧((e=0∨e=2)∧(e=0↔WdP w)) by
  obtain⟨e,h1,h2,h3⟩:=h;exact⟨e,h1,h2,h3.trans ZAp⟩
 have two:¬ WdP w ->((2:Int)=0∨(2:Int)=2)∧((2:Int)=0↔WdP w):=fun h=>⟨.inr rfl,fun q=>absurd q (by decide),fun q=>absurd q h⟩
 unfold Zmq;obtain⟨b1,e1,i1⟩:=Zp9 (F:=F) (by omega) w;obtain⟨b2,e2,i2⟩:=Zqi (F:=F) (by omega) sm9;rw [e1];simp only [Bq0];cases b1 with
 | false=>
   simp only [Bool.not_false,Bool.not_true,XA,Bq0,Bool.true_or,Cq1];exact⟨2,rfl,two fun h=>by have:=i1.2 ⟨h.shp,h.inn⟩;cases this⟩
 | true=>
   obtain⟨s,hi⟩:=i1.1 rfl;have h8:=s.p2;have h5:=s.m2;rw [e2];simp only [Bool.not_true,Bool.not_false,Yz,Bq0,Bool.false_or];cases b2 with
   | false=>exact⟨2,rfl,two fun h=>by have:=i2.2 h.mov;cases this⟩
   | true=>
     have hmv:=i2.1 rfl;simp only [Bool.not_true,Cq0]
     have hmk:mkL (Yq.mk 0 false 0) 24 (w.ZA.length:Int) (w.ZA.length:Int)=some (List.replicate w.ZA.length ⟨0,false,0⟩):=by
      unfold mkL;rw [decide_eq_true (by omega),decide_eq_true (by omega),Nat.ble_eq_true_of_le (by rw [Int.toNat_natCast];omega),Int.toNat_natCast];rfl
     rw [hmk];simp only [Bq0];obtain⟨x,e3,i3,j3⟩:=ZjJ (F:=F) (by omega) hM s hi sm9 (MvX.mvd sm9 hmv);rw [e3];simp only [Bq0];cases hx:x.2 with
     | false=>
       simp only [Bool.not_false,Bool.not_true,XA,Bq0,Bool.true_or,Cq1];exact⟨2,rfl,two fun h=>by have:=i3.2 h.tog;rw [hx] at this;cases this⟩
     | true=>
       have ZPP:=i3.1 hx;have hx1:=j3 hx;rw [hx1];obtain⟨b4,e4,i4⟩:=ZmL (F:=F) (by omega) s;obtain⟨b5,e5,i5⟩:=ZjP (F:=F) (by omega) sm (spL w);rw [e4];simp only [Bool.not_true,Bool.not_false,Yz,Bq0,Bool.false_or];cases b4 with
       | false=>
         simp only [Bool.not_false,Bool.not_true,XA,Bq0,Bool.true_or,Cq1];exact⟨2,rfl,two fun h=>by have:=i4.2 h.ent;cases this⟩
       | true=>
         have hent:=i4.1 rfl;rw [e5];simp only [Bool.not_true,Bool.not_false,Yz,Bq0,Bool.false_or];cases b5 with
         | false=>exact⟨2,rfl,two fun h=>by have:=i5.2 h.msg;cases this⟩
         | true=>
           have ZPW:=i5.1 rfl;simp only [Bool.not_true,Cq0];refine JH 2 (loop F (ZfC F w x) 0) (fun k=>(k:Int)) rfl (fun k=>∃ h:k < w.wire.length,¬ ZzW w w.wire[k]) (n:=w.wire.length) (by omega) (fun k hk=>?_) (fun next=>?_) (fun k hk hc=>?_) (fun hno=>?_)
           ·obtain⟨b,eb,ib⟩:=Zn0 s (x:=w.wire[k]) ⟨Nat.le_of_lt (sm9.Xq _ (List.getElem_mem hk)).1,Nat.le_of_lt (sm9.Xq _ (List.getElem_mem hk)).2⟩
            have b0:∀ next,ZiX F w x (k:Int) next=bif(!b) then some 2 else next ((k + 1:Nat):Int):=fun next=>by
             unfold ZiX;rw [ZF hk,Cq1,YD hk];simp only [Bq0];rw [hx1,eb];simp only [Bq0];rw [Yo (by omega)]
            by_cases hl:ZzW w w.wire[k]
            ·refine .inr ⟨fun next=>?_,fun⟨_,q⟩=>q hl⟩;rw [b0,ib.2 hl];rfl
            ·refine .inl ⟨fun next=>?_,hk,hl⟩
             have:b=false:=by cases b;· rfl
                              ·exact absurd (ib.1 rfl) hl
             rw [b0,this];rfl
           ·unfold ZiX;rw [ZN];rfl
           ·obtain⟨h,q⟩:=hc;exact two fun z=>q (z.Xq _ (List.getElem_mem h))
           have hlet:∀ x ∈ w.wire,ZzW w x:=fun y hy=>by
            obtain⟨k,hk,rfl⟩:=List.getElem_of_mem hy;exact Classical.byContradiction fun q=>hno k hk ⟨hk,q⟩
           have ZWa:w.held.length=w.entries.length:=s.hd;refine JH 2 (some 0) (fun k=>(k:Int)) rfl (fun m=>¬ ∀ x ∈ ZE w m,QY w m x∧sp w x.place.toNat= ⟨(m:Int),false,x.age⟩) (n:=w.held.length) (by omega) (fun m hm=>?_) (fun next=>?_) (fun k hk hc=>?_) (fun hno=>⟨0,rfl,?_⟩)
           ·have hgm:ZM w.held (m:Int)=some (ZE w m):=Yy [] hm;have hlen:(ZE w m).length < 400:=sm.hel _ (Yl hm)
            have b0:∀ next,ZfC F w x (m:Int) next=loop F (ZfB x (m:Int) next (ZE w m)) 0:=fun next=>by
             unfold ZfC;rw [ZF hm,Cq1,hgm];rfl
            have step:∀ (next:Int ->Option Int) (j:Nat) (hj:j < (ZE w m).length),∀ nx,ZfB x (m:Int) next (ZE w m) (j:Int) nx=open Classical in if QY w m (ZE w m)[j]∧sp w (ZE w m)[j].place.toNat= ⟨(m:Int),false,(ZE w m)[j].age⟩ then nx ((j + 1:Nat):Int) else some 2:=fun next j hj nx=>by
             obtain⟨b,eb,ib⟩:=ZkD s (m:Int) (ZE w m)[j];unfold ZfB;rw [ZF hj,Cq1,YD hj];simp only [Bq0];rw [hx1,eb];simp only [Bq0];by_cases hml:QY w m (ZE w m)[j]
             ·rw [ib.2 hml];simp only [Bool.not_true,Bool.not_false,Yz];obtain⟨p,hp⟩:∃ p:Nat,(ZE w m)[j].place= (p:Int):= ⟨(ZE w m)[j].place.toNat,by have:=hml.1;omega⟩
              have hpl:p < w.ZA.length:=by have:=hml.2.1;omega
              rw [hp,Zr9 hpl];simp only [Bq0,Int.toNat_natCast,Bool.false_or];by_cases hs:sp w p= ⟨(m:Int),false,(ZE w m)[j].age⟩
              ·rw [if_pos ⟨hml,hs⟩,(Zja _ _).2 hs,Bool.not_true,Cq0,Yo (by omega)]
              ·have:Zez (sp w p) ⟨(m:Int),false,(ZE w m)[j].age⟩=false:=by rw [← Bool.not_eq_true,Zja];exact hs
               rw [if_neg (fun q=>hs q.2),this];rfl
             ·have:b=false:=by cases b;· rfl
                               ·exact absurd (ib.1 rfl) hml
              rw [this,if_neg (fun q=>hml q.1)];rfl
            by_cases hall:∀ x ∈ ZE w m,QY w m x∧sp w x.place.toNat= ⟨(m:Int),false,x.age⟩
            ·refine .inr ⟨fun next=>?_,fun q=>q hall⟩;rw [b0];refine Ya (fun p=>(p:Int)) rfl (n:= (ZE w m).length) (by omega) (fun j hj nx=>?_) (fun nx=>?_)
             ·rw [step next j hj nx,if_pos (hall _ (List.getElem_mem hj))]
             ·unfold ZfB;rw [ZN,Cq0,Yo (by omega)]
            ·refine .inl ⟨fun next=>?_,hall⟩
             have hz:∃ j,∃ hj:j < (ZE w m).length,¬ (QY w m (ZE w m)[j]∧sp w (ZE w m)[j].place.toNat= ⟨(m:Int),false,(ZE w m)[j].age⟩):=Classical.byContradiction fun q=>hall fun y hy=>by
              obtain⟨j,hj,rfl⟩:=List.getElem_of_mem hy;exact Classical.byContradiction fun q2=>q ⟨j,hj,q2⟩
             obtain⟨j0,hj0⟩:=hz;obtain⟨j1,_,⟨hj1,hb1⟩,hlt⟩:=QX (c:=fun j=>∃ hj:j < (ZE w m).length,¬ (QY w m (ZE w m)[j]∧sp w (ZE w m)[j].place.toNat= ⟨(m:Int),false,(ZE w m)[j].age⟩)) hj0;rw [b0];refine Ya (fun p=>(p:Int)) rfl (n:=j1) (by omega) (fun j hj nx=>?_) (fun nx=>?_)
             ·rw [step next j (by omega) nx,if_pos (Classical.byContradiction fun q=>hlt j hj ⟨by omega,q⟩)]
             ·rw [step next j1 hj1 nx,if_neg hb1]
           ·unfold ZfC;rw [ZN];rfl
           ·exact two fun z=>hc (z.hel k (by omega))
           ·exact⟨.inl rfl,fun _=>⟨s,hi,hmv,ZPP,hent,ZPW,hlet,fun m hm=>Classical.byContradiction (hno m (by omega))⟩,fun _=>rfl⟩
def KY (w:Zb) (p:Nat):XE:=UH (Qy w p)
theorem Zkr {w:Zb} (h:∀ x ∈ w.wire,x.kind=2∨x.places= []) (p:Nat):toS (KY w p)=sp w p:=ZAX h p
theorem Zfb {w:Zb} (s:Wt w) (h2:∀ x ∈ w.wire,x.kind=2∨x.places= []) {p:Nat} (hp:p < w.ZA.length) (m a:Int):Zmj w (p:Int) (KY w p) m a=some (decide (RtX w p m a)):=by
 have e1:(KY w p).age= (sp w p).age:=by rw [← Zkr h2];rfl
 have e2:(KY w p).at_= (sp w p).machine:=by rw [← Zkr h2];rfl
 unfold Zmj;rw [e1,e2];by_cases h1:0 <=a∧a <= (sp w p).age∧0 <=m∧m < (w.entries.length:Int)
 ·obtain⟨a1,a2,a3,a4⟩:=h1;rw [decide_eq_false (show ¬ m < 0 by omega),decide_eq_false (show ¬ m >= (w.entries.length:Int) by omega),decide_eq_false (show ¬ a < 0 by omega),decide_eq_false (show ¬ a > (sp w p).age by omega)];simp only [Bool.or_self,Cq0];by_cases h3:a= (sp w p).age
  ·rw [Ye,decide_eq_true h3,Cq1,Ye];congr 1;by_cases h4:m= (sp w p).machine
   ·rw [decide_eq_true h4.symm,decide_eq_true (show RtX w p m a from⟨a1,a2,a3,a4,fun _=>h4,fun q=>absurd h3 q⟩)]
   ·rw [decide_eq_false (fun q=>h4 q.symm),decide_eq_false (fun q:RtX w p m a=>h4 (q.2.2.2.2.1 h3))]
  ·obtain⟨k,rfl⟩:∃ k:Nat,m= (k:Int):= ⟨m.toNat,by omega⟩
   rw [Ye,decide_eq_false h3,Cq0,s.row (by omega)];simp only [Bq0];rw [s.ent (by omega) hp];simp only [Bq0];congr 1;by_cases h4:(E w k p).age > a
   ·rw [decide_eq_true h4,decide_eq_true (show RtX w p (k:Int) a from⟨a1,a2,a3,a4,fun q=>absurd q h3,fun _=>h4⟩)]
   ·rw [decide_eq_false h4,decide_eq_false (fun q:RtX w p (k:Int) a=>h4 (q.2.2.2.2.2 h3))]
 ·have:(decide (m < 0) || decide (m >= (w.entries.length:Int)) || decide (a < 0) || decide (a > (sp w p).age))=true:=by
   rw [← Bool.not_eq_false];intro z;simp only [Bool.or_eq_false_iff,decide_eq_false_iff_not] at z;exact h1 ⟨by omega,by omega,by omega,by omega⟩
  rw [this,decide_eq_false (fun q:RtX w p m a=>h1 ⟨q.1,q.2.1,q.2.2.1,q.2.2.2.1⟩)];rfl
def ZaP (w:Zb):List XE:= (List.range w.ZA.length).map (KY w)
theorem ZbE {w:Zb} {p:Nat} (hp:p < w.ZA.length):ZM (ZaP w) (p:Int)=some (KY w p):=by
 rw [Yy default (by simp [ZaP];exact hp)];simp [ZaP,hp]
theorem ZaM {a:Int} (h1:0 <=a) (h2:a <=30):Y6 (a + 1)=a + 1:=Zab (by omega) (by omega)
def UD (w:Zb) (m:Int) (y:Zh) (waits:Bool):Prop:=0 <=y.place∧y.place < (w.ZA.length:Int)∧0 <=y.from_∧y.from_ < (w.entries.length:Int)∧0 <=y.age∧y.age <=30∧1 <=y.hops∧y.hops <=y.age + 1∧
 (waits=true ->sp w y.place.toNat= ⟨m,false,y.age⟩)∧(waits=false ->RtX w y.place.toNat m y.age)
theorem ZnY {w:Zb} (s:Wt w) (h2:∀ x ∈ w.wire,x.kind=2∨x.places= []) (m:Int) (y:Zh) (wt:Bool):∃ b,ZoR w (ZaP w) y m wt=some b∧(b=true↔UD w m y wt):=by
 unfold ZoR;refine QN (fun hc=>⟨false,rfl,?_⟩) (fun hc=>?_)
 ·simp only [Bool.false_eq_true,false_iff];rintro⟨a1,a2,a3,a4,a5,a6,a7,a8,_⟩;rw [ZaM a5 a6] at hc;simp only [Bool.or_eq_true,decide_eq_true_eq] at hc;omega
 ·simp only [Bool.or_eq_false_iff,decide_eq_false_iff_not] at hc;obtain⟨⟨⟨⟨⟨⟨⟨a1,a2⟩,a3⟩,a4⟩,a5⟩,a6⟩,a7⟩,a8⟩:=hc;rw [ZaM (by omega) (by omega)] at a8;obtain⟨p,hp⟩:∃ p:Nat,y.place= (p:Int):= ⟨y.place.toNat,by omega⟩
  have hpl:p < w.ZA.length:=by omega
  rw [hp,ZbE hpl];simp only [Bq0];have es:=Zkr h2 p;refine QN (fun hw=>⟨_,rfl,?_⟩) (fun hw=>?_)
  ·simp only [Bool.and_eq_true,Bool.not_eq_true',beq_iff_eq];unfold UD;rw [hp,Int.toNat_natCast,← es];unfold toS;rw [Yq.mk.injEq]
   constructor
   ·rintro⟨⟨b1,b2⟩,b3⟩;exact⟨by omega,by omega,by omega,by omega,by omega,by omega,by omega,by omega,fun _=>⟨b2,b1,b3⟩,fun q=>(by rw [hw] at q;cases q)⟩
   ·rintro⟨_,_,_,_,_,_,_,_,b,_⟩;obtain⟨b1,b2,b3⟩:=b hw;exact⟨⟨b2,b1⟩,b3⟩
  ·rw [Zfb s h2 hpl];refine⟨_,rfl,?_⟩;rw [decide_eq_true_eq];unfold UD;rw [hp,Int.toNat_natCast]
   constructor
   ·intro h;exact⟨by omega,by omega,by omega,by omega,by omega,by omega,by omega,by omega,fun q=>(by rw [hw] at q;cases q),fun _=>h⟩
   ·rintro⟨_,_,_,_,_,_,_,_,_,b⟩;exact b hw
theorem ZkF {w:Zb} {p:Nat} (h:(Qy w p).length=1):Qy w p= [KY w p]:=by
 obtain⟨x,e⟩:=List.length_eq_one_iff.1 h;unfold KY UH;rw [e];rfl
theorem Zko {w:Zb} {p k:Nat} {r:XE}:r ∈ W9 w p k↔∃ j,j < k∧∃ s ∈ U3 (Zz w j) p (Zz w j).places.length,r=Znr j s:=by
 unfold W9;rw [List.mem_flatMap]
 constructor
 ·rintro⟨j,h1,h2⟩;obtain⟨s,h3,h4⟩:=List.mem_map.1 h2;exact⟨j,List.mem_range.1 h1,s,h3,h4.symm⟩
 ·rintro⟨j,h1,s,h2,h3⟩;exact⟨j,List.mem_range.2 h1,List.mem_map.2 ⟨s,h2,h3.symm⟩⟩
theorem Ze3 {w:Zb} {p:Nat} (h:(Qy w p).length=1):((KY w p).is=true∧(KY w p).letter=-1)∨((KY w p).is=false∧∃ k,k < w.wire.length∧(KY w p).letter= (k:Int)∧(p:Int) ∈ (Zz w k).places):=by
 have hm:KY w p ∈ Qy w p:=by rw [ZkF h];simp
 unfold Qy at hm;rcases List.mem_append.1 hm with q | q
 ·obtain⟨s,h1,h2⟩:=List.mem_map.1 q;rw [← h2];exact .inl ⟨rfl,rfl⟩
 ·obtain⟨k,h1,s,h2,h3⟩:=Zko.1 q;obtain⟨i,h4,h5,_⟩:=Zaj.1 h2;rw [h3];exact .inr ⟨rfl,k,h1,rfl,by rw [← h5];exact Yl h4⟩
theorem Zd0 {w:Zb} {p:Nat} (h:(Qy w p).length=1) {k:Nat} (hk:k < w.wire.length) (hp:(p:Int) ∈ (Zz w k).places):(KY w p).letter= (k:Int):=by
 obtain⟨i,hi,e⟩:=List.getElem_of_mem hp;have e2:(Zz w k).places.getD i 0= (p:Int):=by rw [List.getD_eq_getElem?_getD,List.getElem?_eq_getElem hi];exact e
 have hm:Znr k ⟨(Zz w k).ZO,false,(Zz w k).ZU.getD i 0⟩ ∈ Qy w p:=by
  unfold Qy;exact List.mem_append_right _ (Zko.2 ⟨k,hk,_,Zaj.2 ⟨i,hi,e2,rfl⟩,rfl⟩)
 rw [ZkF h] at hm;rw [← List.mem_singleton.1 hm];rfl
theorem ZnD {w:Zb} (h2:∀ x ∈ w.wire,x.kind=2∨x.places= []) {p q:Nat} (hp:(Qy w p).length=1) (hq:(Qy w q).length=1) (e:(KY w p).is= (KY w q).is):
 (KY w p).letter= (KY w q).letter↔((KY w p).is=false ->Zjw w p q):=by
 rcases Ze3 hp with⟨a1,a2⟩ | ⟨a1,k,hk,a2,a3⟩
 ·rcases Ze3 hq with⟨b1,b2⟩ | ⟨b1,j,hj,b2,b3⟩
  ·rw [a1,a2,b2];simp
  ·rw [a1,b1] at e;cases e
 ·rcases Ze3 hq with⟨b1,b2⟩ | ⟨b1,j,hj,b2,b3⟩
  ·rw [a1,b1] at e;cases e
  ·have kd:∀ i,i < w.wire.length ->∀ x:Int,x ∈ (Zz w i).places ->(Zz w i).kind=2:=fun i hi x hx=>by
    rcases h2 (Zz w i) (Yl hi) with z | z
    ·exact z
    ·rw [z] at hx;cases hx
   constructor
   ·intro h _;rw [a2,b2] at h;have:k=j:=by omega
    subst this;exact⟨Zz w k,Yl hk,kd k hk _ a3,a3,b3⟩
   ·intro h;obtain⟨x,hx,_,h3,h4⟩:=h a1;obtain⟨i,hi,rfl⟩:=List.getElem_of_mem hx;have ei:w.wire[i]=Zz w i:=by unfold Zz;rw [List.getD_eq_getElem?_getD,List.getElem?_eq_getElem hi];rfl
    rw [ei] at h3 h4;rw [Zd0 hp hi h3,Zd0 hq hi h4]
theorem Zlz {F:Nat} (hF:400000 <=F) {w:Zb} (sm:Wi 400 w):Zy5 F w=some (msgs w):=by
 obtain⟨B1,B2,B3⟩:=BdM.of sm;have W1:=sm.boxes;have W2:=sm.held;have W3:=sm.wire
 have h3:loop F (ZiP w) (w.boxes.flatten ++ Qz w.held,0)=some (msgs w):=by
  refine Ya (fun k=>(w.boxes.flatten ++ Qz w.held ++ Q0 (w.wire.take k),(k:Int))) (by simp [Q0]) (n:=w.wire.length) (by omega) (fun k hk next=>?_) (fun next=>?_)
  ·have hm:=ZbB w.wire k;have hll:(w.boxes.flatten ++ Qz w.held ++ Q0 (w.wire.take k)).length <=320400:=by rw [List.length_append,List.length_append];omega
   rw [Zgh hk];unfold ZiP;dsimp only;rw [ZF hk,Cq1,YD hk];simp only [Bq0];rw [Ye,ZaA];unfold ZiO;by_cases h1:w.wire[k].kind=1
   ·rw [if_pos h1,if_pos h1,ZuH (by rw [List.length_singleton];omega)];simp only [Bq0];rw [Yo (by omega),← List.append_assoc]
   ·rw [if_neg h1,if_neg h1,Yo (by omega),List.append_nil]
  ·unfold ZiP;dsimp only;rw [ZN,Cq0,List.take_of_length_le (Nat.le_refl _)];rfl
 have h1:loop F (ZiQ F w) (w.boxes.flatten,0)=some (msgs w):=by
  refine Ya (fun k=>(w.boxes.flatten ++ Qz (w.held.take k),(k:Int))) (by simp [Qz]) (n:=w.held.length) (by omega) (fun k hk next=>?_) (fun next=>?_)
  ·have hm:=UW w.held k;have hm2:=UW w.held (k + 1);have hrow:=sm.hel _ (List.getElem_mem hk);rw [Za4 hk] at hm2;rw [Za4 hk];rw [List.length_append,List.length_map] at hm2;unfold ZiQ;dsimp only;rw [ZF hk,Cq1,YD hk];simp only [Bq0];refine Ya (fun j=>(w.boxes.flatten ++ Qz (w.held.take k) ++ (w.held[k].take j).map (fun y=>y.msg),(j:Int))) (by simp) (n:=w.held[k].length) (by omega) (fun j hj nx=>?_) (fun nx=>?_)
   ·unfold Zmh;dsimp only;rw [ZF hj,Cq1,YD hj];simp only [Bq0];rw [ZuH (by rw [List.length_append,List.length_append,List.length_map,List.length_take,List.length_singleton];omega)];simp only [Bq0];rw [Yo (by omega),List.take_add_one,List.getElem?_eq_getElem hj,List.map_append];simp
   ·unfold Zmh;dsimp only;rw [ZN,Cq0,List.take_of_length_le (Nat.le_refl _),Yo (by omega),List.append_assoc]
  ·unfold ZiQ;dsimp only;rw [ZN,Cq0,List.take_of_length_le (Nat.le_refl _)];exact h3
 unfold Zy5;refine Ya (fun k=>((w.boxes.take k).flatten,(k:Int))) (by simp) (n:=w.boxes.length) (by omega) (fun k hk next=>?_) (fun next=>?_)
 ·have hm:=WH w.boxes k;have hm2:=WH w.boxes (k + 1);rw [ZcZ hk,List.length_append] at hm2;rw [ZcZ hk];unfold Zmi;dsimp only;rw [ZF hk,Cq1,YD hk];simp only [Bq0];rw [ZuH (by omega)];simp only [Bq0];rw [Yo (by omega)]
 ·unfold Zmi;dsimp only;rw [ZN,Cq0,List.take_of_length_le (Nat.le_refl _)];exact h1
def Zdh (n:Nat) (l:List Int):List Bool:= (List.range n).map fun i:Nat=>decide (((i:Nat):Int) ∈ l)
theorem ZtG {n:Nat} {l:List Int} {x:Int} (h0:0 <=x) (h1:x < (n:Int)):ZM (Zdh n l) x=some (decide (x ∈ l)):=by
 obtain⟨k,rfl⟩:∃ k:Nat,x= (k:Int):= ⟨x.toNat,by omega⟩
 rw [Yy default (by simp [Zdh];omega)];simp [Zdh,show k < n by omega]
theorem ZtF {n:Nat} {l:List Int} {x:Int} (h0:0 <=x) (h1:x < (n:Int)):YA (Zdh n l) x true=Zdh n (l ++ [x]):=by
 obtain⟨k,rfl⟩:∃ k:Nat,x= (k:Int):= ⟨x.toNat,by omega⟩
 unfold YA Zdh;rw [Int.toNat_natCast];apply List.ext_getElem?;intro i;rw [List.getElem?_set];by_cases hi:i < n
 ·by_cases e:k=i
  ·subst e;rw [if_pos rfl];simp [hi]
  ·rw [if_neg e];have:((i:Int)= (k:Int))↔False:= ⟨fun q=>e (by omega),False.elim⟩
   simp [hi,this]
 ·by_cases e:k=i
  ·subst e;omega
  ·rw [if_neg e];simp [hi]
theorem ZhP {α:Type} {l:List α}:l.Nodup↔∀ k (h:k < l.length),l[k] ∉ l.take k:=by
 constructor
 ·intro hn k hk hm;obtain⟨j,hj,e⟩:=List.getElem_of_mem hm;rw [List.length_take] at hj;rw [List.getElem_take] at e;have:= (List.getElem_inj hn).1 e;omega
 ·intro h;rw [List.nodup_iff_pairwise_ne] <;> skip
  rw [List.pairwise_iff_getElem];intro i j hi hj hij e;exact h j hj (by rw [← e];exact List.mem_take_iff_getElem.2 ⟨i,by omega,rfl⟩)
theorem ZhG {l:List Int} {n:Nat}:l.Perm (XJ n)↔l.Nodup∧(∀ x ∈ l,0 <=x∧x < (n:Int))∧l.length=n:=by
 have hn:(XJ n).Nodup:=by
  unfold XJ;exact List.Pairwise.map _ (fun a b h q=>h (by have:((a:Nat):Int)= ((b:Nat):Int):=q;omega)) List.nodup_range
 constructor
 ·intro h;refine⟨h.nodup_iff.2 hn,fun x hx=>?_,by rw [h.length_eq,Qm]⟩;have:=h.mem_iff.1 hx;unfold XJ at this;obtain⟨k,hk,rfl⟩:=List.mem_map.1 this;have:=List.mem_range.1 hk;exact⟨by show(0:Int) <= (k:Int);omega,by show(k:Int) < _;omega⟩
 ·rintro⟨h1,h2,h3⟩
  have hsub:l ⊆ XJ n:=fun x hx=>by
   obtain⟨a,b⟩:=h2 x hx;unfold XJ;exact List.mem_map.2 ⟨x.toNat,List.mem_range.2 (by omega),by show((x.toNat:Nat):Int)=x;omega⟩
  have hsub2:XJ n ⊆ l:=fun x hx=>by
   apply Classical.byContradiction;intro hx2
   have:= (List.nodup_cons.2 ⟨hx2,h1⟩).length_le_of_subset (l₂:=XJ n) (fun y hy=>by
    rcases List.mem_cons.1 hy with z | z
    ·rw [z];exact hx
    ·exact hsub z)
   rw [List.length_cons,Qm] at this;omega
  exact(List.perm_ext_iff_of_nodup h1 hn).2 fun a=>⟨fun h=>hsub h,fun h=>hsub2 h⟩
theorem ZvH {F:Nat} (hF:400000 <=F) {w:Zb} (h0:0 <=w.said) {l:List Int} (hl:l.length <=330000):∃ b,loop F (ZdK w l) (0,List.replicate w.said.toNat false)=some b∧(b=true↔l.Perm (XJ w.said.toNat)):=by
 rw [ZhG]
 refine JH false (some ((l.length:Int)==w.said)) (fun k=>((k:Int),Zdh w.said.toNat (l.take k))) (by
  simp only [List.take_zero];congr 1;unfold Zdh;apply List.ext_getElem?;intro i;by_cases hi:i < w.said.toNat <;> simp [hi]) (fun k=>∃ h:k < l.length,¬ (0 <=l[k]∧l[k] < w.said∧l[k] ∉ l.take k)) (n:=l.length) (by omega) (fun k hk=>?_) (fun next=>?_) (fun k hk hc=>?_) (fun hno=>⟨_,rfl,?_⟩)
 ·by_cases hr:0 <=l[k]∧l[k] < w.said
  ·have hr2:l[k] < (w.said.toNat:Int):=by omega
   have b0:∀ next,ZdK w l ((k:Int),Zdh w.said.toNat (l.take k)) next=bif decide (l[k] ∈ l.take k) then some false else next (((k + 1:Nat):Int),Zdh w.said.toNat (l.take (k + 1))):=fun next=>by
    unfold ZdK;dsimp only;rw [ZF hk,Cq1,YD hk];simp only [Bq0];rw [decide_eq_false (show ¬ l[k] < 0 by omega),decide_eq_false (show ¬ l[k] >=w.said by omega)];simp only [Bool.or_self,Bool.not_false,Yz];rw [ZtG hr.1 hr2];simp only [Bq0,Bool.false_or];rw [ZtF hr.1 hr2,Yo (by omega),List.take_add_one,List.getElem?_eq_getElem hk];rfl
   by_cases hs:l[k] ∈ l.take k
   ·refine .inl ⟨fun next=>?_,hk,fun q=>q.2.2 hs⟩;rw [b0,decide_eq_true hs];rfl
   ·refine .inr ⟨fun next=>?_,fun⟨_,q⟩=>q ⟨hr.1,hr.2,hs⟩⟩;rw [b0,decide_eq_false hs];rfl
  ·refine .inl ⟨fun next=>?_,hk,fun q=>hr ⟨q.1,q.2.1⟩⟩;unfold ZdK;dsimp only;rw [ZF hk,Cq1,YD hk];simp only [Bq0]
   have:(decide (l[k] < 0) || decide (l[k] >=w.said))=true:=by
    rw [← Bool.not_eq_false];intro z;simp only [Bool.or_eq_false_iff,decide_eq_false_iff_not] at z;exact hr ⟨by omega,by omega⟩
   rw [this];rfl
 ·unfold ZdK;dsimp only;rw [ZN];rfl
 ·obtain⟨h,q⟩:=hc;simp only [Bool.false_eq_true,false_iff];rintro⟨n1,n2,_⟩;have:=n2 _ (List.getElem_mem h);exact q ⟨this.1,by omega,ZhP.1 n1 k h⟩
 ·have hall:∀ k (h:k < l.length),0 <=l[k]∧l[k] < w.said∧l[k] ∉ l.take k:=fun k h=>Classical.byContradiction fun q=>hno k h ⟨h,q⟩
  rw [beq_iff_eq]
  constructor
  ·intro h;refine⟨ZhP.2 fun k hk=>(hall k hk).2.2,fun x hx=>?_,by omega⟩;obtain⟨k,hk,rfl⟩:=List.getElem_of_mem hx;have:=hall k hk;exact⟨this.1,by omega⟩
  ·rintro⟨_,_,h⟩;omega
noncomputable def ifc {α:Sort _} (c:Prop) (a b:α):α:=@ite α c (Classical.propDecidable c) a b
theorem Xp {α:Sort _} {c:Prop} (h:c) {a b:α}:ifc c a b=a:=by unfold ifc;exact if_pos h
theorem XG {α:Sort _} {c:Prop} (h:¬ c) {a b:α}:ifc c a b=b:=by unfold ifc;exact if_neg h
theorem Ut {β γ:Type} {body:γ ->(γ ->Option β) ->Option β} {r1 r2:Option β} {s0:γ} (S:Nat ->γ) (h0:S 0=s0) (c:Nat ->Prop) {n F:Nat} (hF:n < F)
 (hb:∀ k,k < n ->∀ next,body (S k) next=ifc (c k) (next (S (k + 1))) r1) (he:∀ next,body (S n) next=r2):loop F body s0=ifc (∀ k,k < n ->c k) r2 r1:=by
 by_cases hall:∀ k,k < n ->c k
 ·rw [Xp hall];exact Ya S h0 hF (fun k hk next=>by rw [hb k hk,Xp (hall k hk)]) he
 ·rw [XG hall];have hz:∃ k,k < n∧¬ c k:=Classical.byContradiction fun q=>hall fun p hp=>Classical.byContradiction fun q2=>q ⟨p,hp,q2⟩
  obtain⟨k0,hk0⟩:=hz;obtain⟨m,_,hm,hlt⟩:=QX (c:=fun k=>k < n∧¬ c k) hk0;exact Ya S h0 (n:=m) (by omega) (fun k hk next=>by rw [hb k (by omega),Xp (Classical.byContradiction fun q=>hlt k hk ⟨by omega,q⟩)]) (fun next=>by rw [hb m hm.1,XG hm.2])
theorem ZwB {α:Type} {z:α} {c:Nat} {a:Int} (h0:0 <=a) (h:c * a.toNat <=100000):mkL z c a a=some (List.replicate a.toNat z):=by
 unfold mkL;have e:Nat.ble (c * a.toNat) 100000=true:=by rw [Nat.ble_eq];exact h
 rw [decide_eq_true h0,decide_eq_true (show a <=a by omega),e];rfl
theorem Zfd {c:Prop} {b:Bool} (h:b=true↔c) {β:Type} (x y:β):(bif !b then x else y)=ifc c y x:=by
 cases b with
 | true=>rw [Xp (h.1 rfl)];rfl
 | false=>rw [XG (fun q=>by have:=h.2 q;cases this)];rfl
def ZpE (w:Zb) (p:Nat):Prop:=0 <=inn w p ->(KY w p).is= (KY w (inn w p).toNat).is∧(KY w p).at_= (KY w (inn w p).toNat).at_∧(KY w p).letter= (KY w (inn w p).toNat).letter
def ZuY (w:Zb) (m p:Nat):Prop:= (E w m p).here=false ->RtX w p (E w m p).ZO (E w m p).age
def ZpB (w:Zb) (x:Zc):Prop:= (x.kind=1 ->UD w x.ZO x.Zl false)∧(x.kind=3 ->RtX w x.place.toNat x.at_ x.age)
section
variable {F:Nat} {w:Zb}
theorem ZvU (hF:400000 <=F) (sm:Wi 400 w) (h:ShR w):loop F (ZfE F w (ZaP w)) 0=ifc (∀ k,k < w.wire.length ->ZpB w (Zz w k)) (some (decide ((msgs w).Perm (XJ w.said.toNat)))) (some false):=by
 have W3:=sm.wire;have s:=h.shp;refine Ut (fun k=>(k:Int)) rfl (fun k=>ZpB w (Zz w k)) (n:=w.wire.length) (by omega) (fun k hk next=>?_) (fun next=>?_)
 ·have hl:=h.Xq (Zz w k) (Yl hk);unfold ZfE;rw [ZF hk,Cq1,Yy default hk];simp only [Bq0]
  change (gd ((Zz w k).kind==1) (ZoR w (ZaP w) (Zz w k).Zl (Zz w k).ZO false) default).bind (fun Zno=>(gd ((!(((Zz w k).kind==1) && (!Zno))) && ((Zz w k).kind==3)) (ZM (ZaP w) (Zz w k).place) default).bind fun Znn=>(gd ((!(((Zz w k).kind==1) && (!Zno))) && ((Zz w k).kind==3)) (Zmj w (Zz w k).place Znn (Zz w k).at_ (Zz w k).age) default).bind fun x159=>(bif((((Zz w k).kind==1) && (!Zno)) || (((Zz w k).kind==3) && (!x159))) then some false else next (Y6 ((k:Int) + 1))))=_
  rw [Yo (by omega)];generalize Zz w k=x at hl ⊢;by_cases k1:x.kind=1
  ·obtain⟨b,e,i⟩:=ZnY s h.two x.ZO x.Zl false;have k3:(x.kind==3)=false:=by rw [beq_eq_false_iff_ne];omega
   rw [show(x.kind==1)=true from beq_iff_eq.2 k1,k3,Yz,e];simp only [Bq0,Bool.true_and,Bool.and_false,XA,Bool.false_and,Bool.or_false];have hi:b=true↔ZpB w x:=i.trans ⟨fun q=>⟨fun _=>q,fun q2=>by omega⟩,fun q=>q.1 k1⟩;exact Zfd hi _ _
  ·rw [show(x.kind==1)=false from beq_eq_false_iff_ne.2 k1,XA];simp only [Bq0,Bool.false_and,Bool.not_false,Bool.true_and,Bool.false_or];by_cases k3:x.kind=3
   ·obtain⟨n1,n2,n3⟩:=hl.ntd k3;obtain⟨p,hp⟩:∃ p:Nat,x.place= (p:Int):= ⟨x.place.toNat,by omega⟩
    have hpl:p < w.ZA.length:=by omega
    rw [show(x.kind==3)=true from beq_iff_eq.2 k3,Yz,hp,ZbE hpl];simp only [Bq0,Yz];rw [Zfb s h.two hpl];simp only [Bq0,Bool.true_and]
    have hi:decide (RtX w p x.at_ x.age)=true↔ZpB w x:=by
     rw [decide_eq_true_eq];unfold ZpB;rw [hp,Int.toNat_natCast];exact⟨fun q=>⟨fun q2=>absurd q2 k1,fun _=>q⟩,fun q=>q.2 k3⟩
    exact Zfd hi _ _
   ·rw [show(x.kind==3)=false from beq_eq_false_iff_ne.2 k3,XA];simp only [Bq0,XA,Bool.false_and,Cq0];rw [Xp (show ZpB w x from⟨fun q=>absurd q k1,fun q=>absurd q k3⟩)]
 ·unfold ZfE;rw [ZN,Cq0,Zlz hF sm];simp only [Bq0];have h1:=h.sd1;have h2:=h.sd2;rw [ZwB h1 (by omega)];simp only [Bq0]
  have hm:(msgs w).length <=320400:=by
   obtain⟨B1,B2,B3⟩:=BdM.of sm;unfold msgs;rw [List.length_append,List.length_append];omega
  obtain⟨b,e,i⟩:=ZvH hF h.sd1 (l:=msgs w) (by omega);rw [e];congr 1;by_cases hq:(msgs w).Perm (XJ w.said.toNat)
  ·rw [decide_eq_true hq];exact i.2 hq
  ·rw [decide_eq_false hq,← Bool.not_eq_true,i];exact hq
theorem ZvV (hF:400000 <=F) (sm:Wi 400 w) (h:ShR w):loop F (ZfF F w) (ZaP w,0)=ifc (∀ m,m < w.held.length ->∀ k,k < (ZE w m).length ->UD w (m:Int) ((ZE w m).getD k default) true) (loop F (ZfE F w (ZaP w)) 0) (some false):=by
 have W2:=sm.held;have s:=h.shp;refine Ut (fun m=>(ZaP w,(m:Int))) rfl (fun m=>∀ k,k < (ZE w m).length ->UD w (m:Int) ((ZE w m).getD k default) true) (n:=w.held.length) (by omega) (fun m hm next=>?_) (fun next=>?_)
 ·have hrow:=sm.hel (ZE w m) (Yl hm);unfold ZfF;dsimp only;rw [ZF hm,Cq1,Yy [] hm];simp only [Bq0]
  change loop F (ZiY w (m:Int) next (ZE w m)) (ZaP w,0)=_
  refine Ut (fun j=>(ZaP w,(j:Int))) rfl (fun k=>UD w (m:Int) ((ZE w m).getD k default) true) (n:= (ZE w m).length) (by omega) (fun j hj nx=>?_) (fun nx=>?_)
  ·unfold ZiY;dsimp only;rw [ZF hj,Cq1,Yy default hj];simp only [Bq0];obtain⟨b,e,i⟩:=ZnY s h.two (m:Int) ((ZE w m).getD j default) true;rw [e];simp only [Bq0];rw [Yo (by omega)];exact Zfd i _ _
  ·unfold ZiY;dsimp only;rw [ZN,Cq0,Yo (by omega)]
 ·unfold ZfF;dsimp only;rw [ZN,Cq0]
theorem ZAJ (hF:400000 <=F) (h:ShR w):loop F (ZfG F w (ZaP w)) 0=ifc (∀ m,m < w.entries.length ->∀ p,p < w.ZA.length ->ZuY w m p) (loop F (ZfF F w) (ZaP w,0)) (some false):=by
 have s:=h.shp;have h5:=s.m2;have h8:=s.p2;refine Ut (fun m=>(m:Int)) rfl (fun m=>∀ p,p < w.ZA.length ->ZuY w m p) (n:=w.entries.length) (by omega) (fun m hm next=>?_) (fun next=>?_)
 ·unfold ZfG;rw [ZF hm,Cq1,s.row hm];simp only [Bq0];refine Ut (fun p=>(p:Int)) rfl (fun p=>ZuY w m p) (n:=w.ZA.length) (by omega) (fun p hp nx=>?_) (fun nx=>?_)
  ·unfold Zmw;rw [s.len hm,ZF hp,Cq1,s.ent hm hp];simp only [Bq0];rw [Yo (by omega)];cases hh:(E w m p).here with
   | true=>
     simp only [Bool.not_true,XA,Bq0,Bool.false_and,Cq0];rw [Xp (show ZuY w m p from fun q=>by rw [hh] at q;cases q)]
   | false=>
     simp only [Bool.not_false,Yz,Bool.true_and];rw [ZbE hp];simp only [Bq0];rw [Zfb s h.two hp];simp only [Bq0];exact Zfd (show decide (RtX w p (E w m p).ZO (E w m p).age)=true↔ZuY w m p from by rw [decide_eq_true_eq];exact⟨fun q _=>q,fun q=>q hh⟩) _ _
  ·unfold Zmw;rw [s.len hm,ZN,Cq0,Yo (by omega)]
 ·unfold ZfG;rw [ZN,Cq0]
theorem ZAI (hF:400000 <=F) (h:ShR w):loop F (ZfH F w (ZaP w)) 0=ifc (∀ p,p < w.ZA.length ->ZpE w p) (loop F (ZfG F w (ZaP w)) 0) (some false):=by
 have s:=h.shp;have h5:=s.m2;have h8:=s.p2;refine Ut (fun p=>(p:Int)) rfl (fun p=>ZpE w p) (n:=w.ZA.length) (by omega) (fun p hp next=>?_) (fun next=>?_)
 ·unfold ZfH;rw [ZF hp,Cq1,Uw hp];simp only [Bq0];rw [Yo (by omega)];by_cases hi:0 <=inn w p
  ·obtain⟨q,hq⟩:∃ q:Nat,inn w p= (q:Int):= ⟨(inn w p).toNat,by omega⟩
   have hr:= (h.inn.rng p hp).2;have hql:q < w.ZA.length:=by omega
   rw [hq,decide_eq_true (show(q:Int) >=0 by omega),Yz,ZbE hp];simp only [Bq0,Yz];rw [ZbE hql];simp only [Bq0,Bool.true_and]
   have t0:ZpE w p↔((KY w p).is= (KY w q).is∧(KY w p).at_= (KY w q).at_∧(KY w p).letter= (KY w q).letter):=by
    unfold ZpE;rw [hq,Int.toNat_natCast];exact⟨fun z=>z (by omega),fun z _=>z⟩
   by_cases a1:(KY w p).is= (KY w q).is
   ·rw [a1,Xw];simp only [Bool.not_false,Yz,Bq0,Bool.false_or];by_cases a2:(KY w p).at_= (KY w q).at_
    ·rw [a2,Xw];simp only [Bool.not_false,Yz,Bq0,Bool.false_or];rw [Q8,ZaA];by_cases a3:(KY w p).letter= (KY w q).letter
     ·rw [if_neg (fun z=>z a3),Xp (t0.2 ⟨a1,a2,a3⟩)]
     ·rw [if_pos a3,XG (fun z=>a3 (t0.1 z).2.2)]
    ·rw [Q8,decide_eq_true a2];simp only [Bool.not_true,XA,Bq0,Bool.true_or,Cq1];rw [XG (fun z=>a2 (t0.1 z).2.1)]
   ·have:((KY w p).is != (KY w q).is)=true:=bne_iff_ne.2 a1;rw [this];simp only [Bool.not_true,XA,Bq0,Bool.true_or,Cq1];rw [XG (fun z=>a1 (t0.1 z).1)]
  ·rw [decide_eq_false (show ¬ inn w p >=0 by omega)];simp only [XA,Bq0,Bool.false_and,Cq0];rw [Xp (show ZpE w p from fun q=>absurd q hi)]
 ·unfold ZfH;rw [ZN,Cq0]
def Zli (w:Zb) (k:Nat):List XE:= (List.range k).map (KY w) ++ List.replicate (w.ZA.length - k) ⟨0,0,0,false⟩
theorem Zvv {w:Zb} {k:Nat} (h:k < w.ZA.length):YA (Zli w k) (k:Int) (KY w k)=Zli w (k + 1):=by
 unfold YA Zli;rw [Int.toNat_natCast,show w.ZA.length - k= (w.ZA.length - (k + 1)) + 1 by omega,List.replicate_succ,List.set_append_right _ _ (by simp),List.range_succ,List.map_append];simp
theorem Zvw {w:Zb} {k:Nat} (h:k <=w.ZA.length):(Zli w k).length=w.ZA.length:=by simp [Zli];omega
theorem ZtK (hF:400000 <=F) (sm:Wi 400 w) (h:ShR w):loop F (ZiZ F w) (0,List.replicate w.ZA.length ⟨0,0,0,false⟩)=ifc (∀ p,p < w.ZA.length ->(Qy w p).length=1) (loop F (ZfH F w (ZaP w)) 0) (some false):=by
 have s:=h.shp;have h5:=s.m2;have h8:=s.p2;have W:=sm.wire;refine Ut (fun p=>((p:Int),Zli w p)) (by simp [Zli]) (fun p=>(Qy w p).length=1) (n:=w.ZA.length) (by omega) (fun p hp next=>?_) (fun next=>?_)
 ·unfold ZiZ;dsimp only;rw [ZF hp,Cq1,ZoO (by omega) s (fun x hx=>⟨(h.Xq x hx).YZ.len,by have:= (sm.Xq x hx).1;omega⟩) (by omega) hp];simp only [Bq0];rw [Yy default (by rw [Zvw (by omega)];exact hp)];simp only [Bq0];rw [Yo (by omega),show UH (Qy w p)=KY w p from rfl,Zvv hp];exact Zfd decide_eq_true_iff _ _
 ·unfold ZiZ;dsimp only;rw [ZN,Cq0,show Zli w w.ZA.length=ZaP w from by simp [Zli,ZaP]]
end
theorem UD.ZJC {w:Zb} (hag:∀ p,p < w.ZA.length ->(sp w p).age <=30) {m:Int} {y:Zh}:UD w m y false↔QY w m y:=by
 unfold UD QY
 constructor
 ·rintro⟨a1,a2,a3,a4,a5,a6,a7,a8,_,b⟩;exact⟨a1,a2,a3,a4,b rfl,a7,by rw [Int.add_comm,ZaM a5 a6];exact a8⟩
 ·rintro⟨a1,a2,a3,a4,b,a7,a8⟩;have h1:=b.1;have h2:=b.2.1;have h3:=hag y.place.toNat (by omega);rw [Int.add_comm,ZaM (by omega) (by omega)] at a8;exact⟨a1,a2,a3,a4,by omega,by omega,a7,a8,fun q=>(by cases q),fun _=>b⟩
theorem UD.ZJD {w:Zb} (hag:∀ p,p < w.ZA.length ->(sp w p).age <=30) {m:Nat} (hm:m < w.entries.length) {y:Zh}:UD w (m:Int) y true↔QY w (m:Int) y∧sp w y.place.toNat= ⟨(m:Int),false,y.age⟩:=by
 constructor
 ·rintro⟨a1,a2,a3,a4,a5,a6,a7,a8,b,_⟩;have e:=b rfl;refine⟨⟨a1,a2,a3,a4,⟨a5,by rw [e];exact Int.le_refl _,by omega,by omega,fun _=>by rw [e],fun q=>?_⟩,a7,by rw [Int.add_comm,ZaM a5 a6];exact a8⟩,e⟩;rw [e] at q;exact absurd rfl q
 ·rintro⟨⟨a1,a2,a3,a4,b,a7,a8⟩,e⟩;have h1:=b.1;have h2:=b.2.1;have h3:=hag y.place.toNat (by omega);rw [Int.add_comm,ZaM (by omega) (by omega)] at a8;exact⟨a1,a2,a3,a4,by omega,by omega,a7,a8,fun _=>e,fun q=>(by cases q)⟩
theorem ZbD {w:Zb} (h:ShR w) {p:Nat} (hp:p < w.ZA.length) (hl:(YN w p).length=1):(sp w p).age <=30:=by
 rcases Zhr hl with⟨m,h1,h2,h3⟩ | ⟨x,h1,h2,i,h3,h4,h5⟩
 ·rw [h3];exact(h.ent m h1 p hp).2.1
 ·rw [h5];exact((h.Xq x h1).JN i h3).2.2.2.2
theorem ZpD {w:Zb} (h:ShR w) (hl:∀ p,p < w.ZA.length ->(Qy w p).length=1) {p:Nat} (hp:p < w.ZA.length):ZpE w p↔(0 <=inn w p ->(sp w (inn w p).toNat).machine= (sp w p).machine∧(sp w (inn w p).toNat).here= (sp w p).here∧((sp w p).here=false ->Zjw w p (inn w p))):=by
 unfold ZpE;by_cases hi:0 <=inn w p
 ·obtain⟨q,hq⟩:∃ q:Nat,inn w p= (q:Int):= ⟨(inn w p).toNat,by omega⟩
  have hr:= (h.inn.rng p hp).2;have hql:q < w.ZA.length:=by omega
  rw [hq,Int.toNat_natCast,← Zkr h.two p,← Zkr h.two q];unfold toS;have same:=fun e=>ZnD h.two (hl p hp) (hl q hql) e
  constructor
  ·intro z _;obtain⟨a,b,c⟩:=z (by omega);exact⟨b.symm,a.symm,(same a).1 c⟩
  ·intro z _;obtain⟨a,b,c⟩:=z (by omega);exact⟨b.symm,a.symm,(same b.symm).2 c⟩
 ·exact⟨fun _ q=>absurd q hi,fun _ q=>absurd q hi⟩
theorem ZhV {w:Zb} {P:Zc ->Prop}:(∀ k,k < w.wire.length ->P (Zz w k))↔∀ x ∈ w.wire,P x:=by
 constructor
 ·intro h x hx;obtain⟨i,hi,rfl⟩:=List.getElem_of_mem hx;have:=h i hi;unfold Zz at this
  rwa [List.getD_eq_getElem?_getD,List.getElem?_eq_getElem hi] at this
 ·intro h k hk;exact h _ (Yl hk)
theorem KC {α:Type} {l:List α} {d:α} {P:α ->Prop}:(∀ k,k < l.length ->P (l.getD k d))↔∀ x ∈ l,P x:=by
 constructor
 ·intro h x hx;obtain⟨i,hi,rfl⟩:=List.getElem_of_mem hx;have:=h i hi
  rwa [List.getD_eq_getElem?_getD,List.getElem?_eq_getElem hi] at this
 ·intro h k hk;exact h _ (Yl hk)
theorem Zkm {F:Nat} (hF:400000 <=F) {w:Zb} (sm:Wi 400 w):∃ b,ZoS F w=some b∧(b=true↔Wd w):=by
 have sm9:Wi 900 w:=sm.mono (by omega);obtain⟨b,e,i⟩:=ZtE (F:=F) (by omega) sm9;unfold ZoS;rw [e];simp only [Bq0];rw [Zfd i];by_cases h:ShR w
 ·rw [Xp h];have hz:=h.shp.p2;rw [ZwB (by omega) (by rw [Int.toNat_natCast];omega),Int.toNat_natCast];simp only [Bq0];rw [ZtK hF sm h,ZAI hF h,ZAJ hF h,ZvV hF sm h,ZvU hF sm h];by_cases h1:∀ p,p < w.ZA.length ->(Qy w p).length=1
  ·have h1P:∀ p,p < w.ZA.length ->(YN w p).length=1:=fun p hp=>by rw [len_eq h.two];exact h1 p hp
   have hag:∀ p,p < w.ZA.length ->(sp w p).age <=30:=fun p hp=>ZbD h hp (h1P p hp)
   rw [Xp h1];by_cases h2:∀ p,p < w.ZA.length ->ZpE w p
   ·rw [Xp h2];by_cases h3:∀ m,m < w.entries.length ->∀ p,p < w.ZA.length ->ZuY w m p
    ·rw [Xp h3];have hhd:=h.shp.hd;by_cases h4:∀ m,m < w.held.length ->∀ k,k < (ZE w m).length ->UD w (m:Int) ((ZE w m).getD k default) true
     ·rw [Xp h4];by_cases h5:∀ k,k < w.wire.length ->ZpB w (Zz w k)
      ·rw [Xp h5];refine⟨_,rfl,?_⟩;rw [decide_eq_true_eq];have h5':= (ZhV (P:=ZpB w)).1 h5
       constructor
       ·intro h6;exact⟨h,h1P,fun p hp=>(ZpD h h1 hp).1 (h2 p hp),h3,fun m hm x hx=>(UD.ZJD hag hm).1 ((KC (P:=fun x=>UD w (m:Int) x true)).1 (h4 m (by omega)) x hx),fun x hx hk=>(UD.ZJC hag).1 ((h5' x hx).1 hk),fun x hx hk=>(h5' x hx).2 hk,h6⟩
       ·intro h6;exact h6.msg
      ·rw [XG h5];refine⟨_,rfl,?_⟩;simp only [Bool.false_eq_true,false_iff];intro z;exact h5 (ZhV.2 fun x hx=>⟨fun q=>(UD.ZJC hag).2 (z.mai x hx q),fun q=>z.ntd x hx q⟩)
     ·rw [XG h4];refine⟨_,rfl,?_⟩;simp only [Bool.false_eq_true,false_iff];intro z;exact h4 fun m hm=>(KC (P:=fun x=>UD w (m:Int) x true)).2 fun x hx=>(UD.ZJD hag (by omega)).2 (z.hel m (by omega) x hx)
    ·rw [XG h3];refine⟨_,rfl,?_⟩;simp only [Bool.false_eq_true,false_iff];intro z;exact h3 z.ent
   ·rw [XG h2];refine⟨_,rfl,?_⟩;simp only [Bool.false_eq_true,false_iff];intro z;exact h2 fun p hp=>(ZpD h h1 hp).2 (z.tog p hp)
  ·rw [XG h1];refine⟨_,rfl,?_⟩;simp only [Bool.false_eq_true,false_iff];intro z;exact h1 fun p hp=>by rw [← len_eq h.two];exact z.loc p hp
 ·rw [XG h];refine⟨_,rfl,?_⟩;simp only [Bool.false_eq_true,false_iff];intro z;exact h z.shr
end Go.Proofs.YtbmbbcaaimehkaaGreat
end
section
namespace Go.Proofs.YtbmbbcaaimehkaaGreat
open Go.Lf
theorem ZvC {F:Nat} (hF:400000 <=F) (w:Zb):∃ b,Zzd F w=some b∧(b=true ->Wi 201 w):=by
 unfold Zzd;refine QN (fun _=>⟨false,rfl,fun q=>by cases q⟩) (fun hc=>?_);simp only [Bool.or_eq_false_iff,decide_eq_false_iff_not] at hc;obtain⟨⟨⟨⟨c1,c2⟩,c3⟩,c4⟩,c5⟩:=hc
 have e3:loop F (ZfI w) 0=ifc (∀ k,k < w.wire.length ->(Zz w k).places.length <=20∧(Zz w k).ZU.length <=20) (some true) (some false):=by
  refine Ut (fun k=>(k:Int)) rfl (fun k=>(Zz w k).places.length <=20∧(Zz w k).ZU.length <=20) (n:=w.wire.length) (by omega) (fun k hk next=>?_) (fun next=>?_)
  ·unfold ZfI;rw [ZF hk,Cq1,Yy default hk];simp only [Bq0];rw [Yo (by omega),show w.wire.getD k default=Zz w k from rfl];by_cases h:(Zz w k).places.length <=20∧(Zz w k).ZU.length <=20
   ·rw [Xp h,decide_eq_false (by omega),decide_eq_false (by omega)];rfl
   ·rw [XG h]
    have:(decide (((Zz w k).places.length:Int) > 20) || decide (((Zz w k).ZU.length:Int) > 20))=true:=by
     rw [← Bool.not_eq_false];intro z;simp only [Bool.or_eq_false_iff,decide_eq_false_iff_not] at z;exact h ⟨by omega,by omega⟩
    rw [this];rfl
  ·unfold ZfI;rw [ZN];rfl
 have e2:loop F (ZfJ F w) 0=ifc (∀ k,k < w.held.length ->(w.held.getD k []).length <=100) (loop F (ZfI w) 0) (some false):=by
  refine Ut (fun k=>(k:Int)) rfl (fun k=>(w.held.getD k []).length <=100) (n:=w.held.length) (by omega) (fun k hk next=>?_) (fun next=>?_)
  ·unfold ZfJ;rw [ZF hk,Cq1,Yy [] hk];simp only [Bq0];rw [Yo (by omega)];by_cases h:(w.held.getD k []).length <=100
   ·rw [Xp h,decide_eq_false (by omega)];rfl
   ·rw [XG h,decide_eq_true (by omega)];rfl
  ·unfold ZfJ;rw [ZN];rfl
 have e1:loop F (ZfK F w) 0=ifc (∀ k,k < w.entries.length ->(w.entries.getD k []).length <=20) (loop F (ZfJ F w) 0) (some false):=by
  refine Ut (fun k=>(k:Int)) rfl (fun k=>(w.entries.getD k []).length <=20) (n:=w.entries.length) (by omega) (fun k hk next=>?_) (fun next=>?_)
  ·unfold ZfK;rw [ZF hk,Cq1,Yy [] hk];simp only [Bq0];rw [Yo (by omega)];by_cases h:(w.entries.getD k []).length <=20
   ·rw [Xp h,decide_eq_false (by omega)];rfl
   ·rw [XG h,decide_eq_true (by omega)];rfl
  ·unfold ZfK;rw [ZN];rfl
 have e0:loop F (Zi0 F w) 0=ifc (∀ k,k < w.boxes.length ->(w.boxes.getD k []).length <=100) (loop F (ZfK F w) 0) (some false):=by
  refine Ut (fun k=>(k:Int)) rfl (fun k=>(w.boxes.getD k []).length <=100) (n:=w.boxes.length) (by omega) (fun k hk next=>?_) (fun next=>?_)
  ·unfold Zi0;rw [ZF hk,Cq1,Yy [] hk];simp only [Bq0];rw [Yo (by omega)];by_cases h:(w.boxes.getD k []).length <=100
   ·rw [Xp h,decide_eq_false (by omega)];rfl
   ·rw [XG h,decide_eq_true (by omega)];rfl
  ·unfold Zi0;rw [ZN];rfl
 rw [e0];by_cases h0:∀ k,k < w.boxes.length ->(w.boxes.getD k []).length <=100
 ·rw [Xp h0,e1];by_cases h1:∀ k,k < w.entries.length ->(w.entries.getD k []).length <=20
  ·rw [Xp h1,e2];by_cases h2:∀ k,k < w.held.length ->(w.held.getD k []).length <=100
   ·rw [Xp h2,e3];by_cases h3:∀ k,k < w.wire.length ->(Zz w k).places.length <=20∧(Zz w k).ZU.length <=20
    ·rw [Xp h3];refine⟨true,rfl,fun _=>⟨by omega,by omega,by omega,by omega,by omega,fun l hl=>?_,fun l hl=>?_,fun l hl=>?_,fun l hl=>?_⟩⟩
     ·have:= (KC (P:=fun l:List Int=>l.length <=100)).1 h0 l hl;omega
     ·have:= (KC (P:=fun l:List Zt=>l.length <=20)).1 h1 l hl;omega
     ·have:= (KC (P:=fun l:List Zh=>l.length <=100)).1 h2 l hl;omega
     ·have:= (ZhV (P:=fun x=>x.places.length <=20∧x.ZU.length <=20)).1 h3 l hl;omega
    ·rw [XG h3];exact⟨false,rfl,fun q=>by cases q⟩
   ·rw [XG h2];exact⟨false,rfl,fun q=>by cases q⟩
  ·rw [XG h1];exact⟨false,rfl,fun q=>by cases q⟩
 ·rw [XG h0];exact⟨false,rfl,fun q=>by cases q⟩
def nx (w:Zb) (p m:Nat):Nat:= (E w m p).ZO.toNat
def tr (w:Zb) (p m:Nat):Nat ->Nat
 | 0=>m
 | i + 1=>nx w p (tr w p m i)
section
variable {F:Nat} {w:Zb}
theorem Wd.mvd (h:Wd w) (sm:Wi 900 w):Mvd 900 w.wire:=fun x hx hk=>by
 have h1:= (h.shr.Xq x hx).YZ.len;have h2:=sm.Xq x hx
 first
  | exact⟨h1,by omega⟩
  | exact⟨by omega,h1⟩
theorem Zvh (hF:1000 <=F) (hM:F <=1000000) (h:Wd w) (sm:Wi 900 w) {p:Nat} (hp:p < w.ZA.length):Zj2 F w (p:Int)=some (sp w p,1):=by
 rw [Zhl hF hM h.shr.shp (h.mvd sm) sm.wire hp,h.loc p hp];rfl
theorem ZBZ (hF:1000 <=F) (h:Wd w) (sm:Wi 900 w) {p:Nat} (hp:p < w.ZA.length):Zrh F w (p:Int)=some (KY w p,true):=by
 rw [ZoO hF h.shr.shp (fun x hx=>⟨(h.shr.Xq x hx).YZ.len,by have:= (sm.Xq x hx).1;omega⟩) sm.wire hp,← len_eq h.shr.two,h.loc p hp];rfl
end
end Go.Proofs.YtbmbbcaaimehkaaGreat
end
section
namespace Go.Proofs.YtbmbbcaaimehkaaGreat
open Go.Lf
section
variable {F:Nat} {w:Zb}
theorem Zpa (hF:400000 <=F) (hM:F <=1000000) (sm:Wi 400 w) (h:¬ Wd w):Zmq F w=some 2:=by
 obtain⟨e,h1,h2,h3⟩:=Zjg hF hM sm;rw [h1];rcases h2 with q | q
 ·exact absurd (h3.1 q) h
 ·rw [q]
theorem Zjf (hF:400000 <=F) (hM:F <=1000000) (sm:Wi 400 w) (h:Wd w):Zmq F w=some 0:=by
 obtain⟨e,h1,h2,h3⟩:=Zjg hF hM sm;rw [h1,h3.2 h]
theorem Zvg (hF:400000 <=F) (sm:Wi 400 w) (h:¬ Wd w):ZoS F w=some false:=by
 obtain⟨b,h1,h2⟩:=Zkm hF sm;rw [h1];cases b with
 | false=>rfl
 | true=>exact absurd (h2.1 rfl) h
theorem Zvf (hF:400000 <=F) (sm:Wi 400 w) (h:Wd w):ZoS F w=some true:=by
 obtain⟨b,h1,h2⟩:=Zkm hF sm;rw [h1,h2.2 h]
end
end Go.Proofs.YtbmbbcaaimehkaaGreat
end
section
namespace Go.Proofs.YtbmbbcaaimehkaaGreat
open Go.Lf
theorem app0 {α:Type} {b:Nat} {l:List α} (h:l.length <=900000) (hb:b <=1000):app b [] l=some l:=by
 rw [ZfZ (by simp;omega) hb];rfl
theorem ZfQ {α β:Type} {F b:Nat} {l:List (List α)} {g:List α ->Option (List α)} {body:List (List α)×Int ->(List (List α)×Int ->Option β) ->Option β} {r:Option β} {s:List (List α)×Int} (hs:s= ([],0)) (hF:l.length < F) (hl:l.length <=900)
 (hb:∀ k (h:k < l.length) next,body (l.take k,(k:Int)) next=next (l.take (k + 1),((k + 1:Nat):Int))) (he:∀ next,body (l,(l.length:Int)) next=r):loop F body s=r:=by
 subst hs;exact Ya (fun k=>(l.take k,(k:Int))) (by simp) hF hb (fun next=>by rw [List.take_of_length_le (Nat.le_refl _)];exact he next)
theorem U4 {α:Type} {l:List α} {k b:Nat} (h:k < l.length) (hl:l.length <=900) (hb:b <=1000):app b (l.take k) [l[k]]=some (l.take (k + 1)):=by
 rw [app1 (by rw [List.length_take];omega) hb,List.take_add_one,List.getElem?_eq_getElem h];rfl
theorem ZuC {F:Nat} (hF:1000 <=F) {l:List (List Int)} (hl:l.length < 900) (hr:∀ x ∈ l,x.length < 900):ZyY F l=some l:=by
 unfold ZyY;refine ZfQ (b:=8) (g:=fun _=>none) (l:=l) rfl (by omega) (by omega) (fun k h next=>?_) (fun next=>?_)
 ·have:=hr _ (List.getElem_mem h);unfold Zl9;dsimp only;rw [ZF h,Cq1,YD h];simp only [Bq0];unfold Zmb;rw [app0 (by omega) (by omega)];simp only [Bq0];rw [U4 h (by omega) (by omega)];simp only [Bq0];rw [Yo (by omega)]
 ·unfold Zl9;dsimp only;rw [ZN];rfl
theorem ZmO {F:Nat} (hF:1000 <=F) {l:List (List Zt)} (hl:l.length < 900) (hr:∀ x ∈ l,x.length < 900):ZyX F l=some l:=by
 unfold ZyX;refine ZfQ (b:=8) (g:=fun _=>none) (l:=l) rfl (by omega) (by omega) (fun k h next=>?_) (fun next=>?_)
 ·have:=hr _ (List.getElem_mem h);unfold Zl8;dsimp only;rw [ZF h,Cq1,YD h];simp only [Bq0];unfold Zs8;rw [app0 (by omega) (by omega)];simp only [Bq0];rw [U4 h (by omega) (by omega)];simp only [Bq0];rw [Yo (by omega)]
 ·unfold Zl8;dsimp only;rw [ZN];rfl
theorem Zru {F:Nat} (hF:1000 <=F) {l:List (List Zh)} (hl:l.length < 900) (hr:∀ x ∈ l,x.length < 900):ZyW F l=some l:=by
 unfold ZyW;refine ZfQ (b:=8) (g:=fun _=>none) (l:=l) rfl (by omega) (by omega) (fun k h next=>?_) (fun next=>?_)
 ·have:=hr _ (List.getElem_mem h);unfold Zl7;dsimp only;rw [ZF h,Cq1,YD h];simp only [Bq0];unfold Zs7;rw [app0 (by omega) (by omega)];simp only [Bq0];rw [U4 h (by omega) (by omega)];simp only [Bq0];rw [Yo (by omega)]
 ·unfold Zl7;dsimp only;rw [ZN];rfl
theorem ZuB {F:Nat} (hF:1000 <=F) {w:Zb} (sm:Wi 900 w):Zy9 F w=some w:=by
 have h1:=sm.ZA;have h2:=sm.wire;unfold Zy9 Zmb;rw [app0 (by omega) (by omega)];simp only [Bq0];rw [ZuC hF sm.boxes sm.box,ZmO hF sm.entries sm.row,Zru hF sm.held sm.hel];simp only [Bq0];refine Ya (fun k=>((k:Int),w.wire.take k)) (by simp) (n:=w.wire.length) (by omega) (fun k h next=>?_) (fun next=>?_)
 ·have:=sm.Xq _ (List.getElem_mem h);unfold Zmm;dsimp only;rw [ZF h,Cq1,YD h];simp only [Bq0];unfold Zmb;rw [app0 (by omega) (by omega),app0 (by omega) (by omega)];simp only [Bq0];rw [show Zc.mk w.wire[k].kind w.wire[k].ZO w.wire[k].Zl w.wire[k].places w.wire[k].ZU w.wire[k].place w.wire[k].at_ w.wire[k].age=w.wire[k] from rfl,U4 h (by omega) (by omega)];simp only [Bq0];rw [Yo (by omega)]
 ·unfold Zmm;dsimp only;rw [ZN,Cq0,List.take_of_length_le (Nat.le_refl _)]
theorem Zzm {F:Nat} (hF:1000 <=F) {w:Zb} (sm:Wi 900 w):Zy4 F w=some w:=by
 have h1:=sm.ZA;have h2:=sm.wire;have h3:=sm.boxes;have h4:=sm.entries;have h5:=sm.held
 have e3:loop F (ZiL w w.ZA w.boxes w.entries w.held) (0,[])=some w:=by
  refine Ya (fun k=>((k:Int),w.wire.take k)) (by simp) (n:=w.wire.length) (by omega) (fun k h next=>?_) (fun next=>?_)
  ·have:=sm.Xq _ (List.getElem_mem h);unfold ZiL;dsimp only;rw [ZF h,Cq1,YD h];simp only [Bq0];rw [app0 (by omega) (by omega),app0 (by omega) (by omega)];simp only [Bq0];rw [show Zc.mk w.wire[k].kind w.wire[k].ZO w.wire[k].Zl w.wire[k].places w.wire[k].ZU w.wire[k].place w.wire[k].at_ w.wire[k].age=w.wire[k] from rfl,U4 h (by omega) (by omega)];simp only [Bq0];rw [Yo (by omega)]
  ·unfold ZiL;dsimp only;rw [ZN,Cq0,List.take_of_length_le (Nat.le_refl _)]
 have e2:loop F (ZiM F w w.ZA w.boxes w.entries) (0,[])=some w:=by
  refine Ya (fun k=>((k:Int),w.held.take k)) (by simp) (n:=w.held.length) (by omega) (fun k h next=>?_) (fun next=>?_)
  ·have:=sm.hel _ (List.getElem_mem h);unfold ZiM;dsimp only;rw [ZF h,Cq1,YD h];simp only [Bq0];rw [app0 (by omega) (by omega)];simp only [Bq0];rw [U4 h (by omega) (by omega)];simp only [Bq0];rw [Yo (by omega)]
  ·unfold ZiM;dsimp only;rw [ZN,Cq0,List.take_of_length_le (Nat.le_refl _)];exact e3
 have e1:loop F (ZiN F w w.ZA w.boxes) (0,[])=some w:=by
  refine Ya (fun k=>((k:Int),w.entries.take k)) (by simp) (n:=w.entries.length) (by omega) (fun k h next=>?_) (fun next=>?_)
  ·have:=sm.row _ (List.getElem_mem h);unfold ZiN;dsimp only;rw [ZF h,Cq1,YD h];simp only [Bq0];rw [app0 (by omega) (by omega)];simp only [Bq0];rw [U4 h (by omega) (by omega)];simp only [Bq0];rw [Yo (by omega)]
  ·unfold ZiN;dsimp only;rw [ZN,Cq0,List.take_of_length_le (Nat.le_refl _)];exact e2
 unfold Zy4;rw [app0 (by omega) (by omega)];simp only [Bq0];refine Ya (fun k=>((k:Int),w.boxes.take k)) (by simp) (n:=w.boxes.length) (by omega) (fun k h next=>?_) (fun next=>?_)
 ·have:=sm.box _ (List.getElem_mem h);unfold Zmg;dsimp only;rw [ZF h,Cq1,YD h];simp only [Bq0];rw [app0 (by omega) (by omega)];simp only [Bq0];rw [U4 h (by omega) (by omega)];simp only [Bq0];rw [Yo (by omega)]
 ·unfold Zmg;dsimp only;rw [ZN,Cq0,List.take_of_length_le (Nat.le_refl _)];exact e1
def InR (p:Int) (n:Nat):Prop:=0 <=p∧p < (n:Int)
instance (p:Int) (n:Nat):Decidable (InR p n):=by unfold InR;infer_instance
def Ask (w:Zb) (s:ZaJ):Prop:=
 (s.act=1∧InR s.a w.entries.length∧InR s.b w.ZA.length)∨(s.act=2∧InR s.a w.ZA.length∧InR s.b w.entries.length)∨(s.act=3∧InR s.a w.ZA.length∧InR s.b w.ZA.length)∨(s.act=4∧InR s.a w.ZA.length)∨(s.act=5∧InR s.a w.wire.length)
instance (w:Zb) (s:ZaJ):Decidable (Ask w s):=by unfold Ask;infer_instance
def ZOR (w:Zb) (p x:Nat):Bool:= (List.range w.ZA.length).any fun j=>up w j (x:Int)== (p:Int)
def ZIP (w:Zb) (p k:Nat):List Int:= ((List.range k).filter (ZOR w p)).map Int.ofNat
def ZCL (w:Zb) (p:Nat):List Int:=ZIP w p w.ZA.length
def old (w:Zb) (q:Int):Bool:=decide ((sp w q.toNat).age >=30)
def lim (w:Zb) (s:ZaJ):Bool:=if s.act=1 then decide (w.said >=40) else if s.act=2 then(ZCL w s.a.toNat).any (old w) else false
def Alw (w:Zb) (s:ZaJ):Prop:=
 (s.act=2 ->(sp w s.a.toNat).here=true∧(sp w s.a.toNat).machine ≠ s.b)∧
 (s.act=3 ->s.b ∉ ZCL w s.a.toNat∧inn w s.a=-1∧(sp w s.a.toNat).here=true∧(sp w s.b.toNat).here=true∧(sp w s.a.toNat).machine= (sp w s.b.toNat).machine)∧
 (s.act=4 ->(sp w s.a.toNat).here=true∧inn w s.a ≠ -1)
instance (w:Zb) (s:ZaJ):Decidable (Alw w s):=by unfold Alw;infer_instance
section
variable {F:Nat} {w:Zb}
theorem InR.nat {p:Int} {n:Nat} (h:InR p n):∃ k:Nat,p= (k:Int)∧k < n:= ⟨p.toNat,by have:=h.1;omega,by have h1:=h.1;have h2:=h.2;omega⟩
theorem ZNS (h:Wd w) (p:Nat):(KY w p).age= (sp w p).age:=by rw [← Zkr h.shr.two];rfl
end
end Go.Proofs.YtbmbbcaaimehkaaGreat
end
section
namespace Go.Proofs.YtbmbbcaaimehkaaGreat
open Go.Lf
section
variable {F:Nat} {w:Zb}
end
end Go.Proofs.YtbmbbcaaimehkaaGreat
end
section
namespace Go.Proofs.YtbmbbcaaimehkaaGreat
open Go.Lf
def XV (w:Zb) (p:Nat):List Int:=w.boxes.getD p []
def Zap (to:Int) (y:Zh):Zc:= ⟨1,to,y,[],[],0,0,0⟩
def Zso (to p at_ age:Int):Zc:= ⟨3,to,⟨0,0,0,0,0⟩,[],[],p,at_,age⟩
def Wo (x:Zh) (e:Zt):Zh:= ⟨x.msg,x.place,x.from_,e.age,x.hops + 1⟩
def told (m:Int) (x:Zh) (e:Zt) (now:Bool):List Zc:=if now=false∧x.from_ ≠ m∧x.from_ ≠ e.ZO then [Zso x.from_ x.place e.ZO e.age] else []
def Ql (w:Zb) (m:Nat) (x:Zh) (now:Bool):Zb×List Zi:=
 if(E w m x.place.toNat).here=true then({w with boxes:=YA w.boxes x.place (XV w x.place.toNat ++ [x.msg])},[⟨1,x.place,(m:Int),x.msg,x.hops⟩])
 else if now=false∧(E w m x.place.toNat).age <=x.age then({w with held:=YA w.held (m:Int) (ZE w m ++ [x])},[])
 else({w with wire:=w.wire ++ Zap (E w m x.place.toNat).ZO (Wo x (E w m x.place.toNat))::told (m:Int) x (E w m x.place.toNat) now},[])
section
variable {F:Nat} {w:Zb}
theorem Zpc (s:Wt w) {p:Nat} (hp:p < w.ZA.length):ZM w.boxes (p:Int)=some (XV w p):=Yy [] (by rw [s.bx];exact hp)
theorem Zat (s:Wt w) {m:Nat} (hm:m < w.entries.length):ZM w.held (m:Int)=some (ZE w m):=Yy [] (by rw [s.hd];exact hm)
theorem ZmT (s:Wt w) (sm:Wi 900 w) {p:Nat} (hp:p < w.ZA.length):(XV w p).length < 900:=sm.box _ (Yl (by rw [s.bx];exact hp))
theorem Zid (s:Wt w) (sm:Wi 900 w) {m:Nat} (hm:m < w.entries.length):(ZE w m).length < 900:=sm.hel _ (Yl (by rw [s.hd];exact hm))
theorem ZvY (s:Wt w) (sm:Wi 900 w) {m:Nat} {x:Zh} {p:Nat} (hx:x.place= (p:Int)) (hp:p < w.ZA.length) {ev:List Zi} (he:ev.length <=800000):
 Zgq ⟨w,ev⟩ (m:Int) x=some ⟨{w with boxes:=YA w.boxes x.place (XV w p ++ [x.msg])},ev ++ [⟨1,x.place,(m:Int),x.msg,x.hops⟩]⟩:=by
 have h1:=ZmT s sm hp;unfold Zgq;rw [hx,Zpc s hp];simp only [Bq0];rw [app1 (by omega) (by omega)];simp only [Bq0];rw [app1 (by omega) (by omega)]
 rfl
theorem Zqa (s:Wt w) (sm:Wi 900 w) {m:Nat} (hm:m < w.entries.length) {x:Zh} (hp:x.place.toNat < w.ZA.length) (h0:0 <=x.place) (hh:0 <=x.hops) (hh2:x.hops <=1000) (now:Bool) {ev:List Zi} (he:ev.length <=800000):
 Zum ⟨w,ev⟩ (m:Int) x now=some ⟨(Ql w m x now).1,ev ++ (Ql w m x now).2⟩:=by
 obtain⟨p,hx⟩:∃ p:Nat,x.place= (p:Int):= ⟨x.place.toNat,by omega⟩
 have h1:=Zid s sm hm;have h2:=sm.wire;rw [hx,Int.toNat_natCast] at hp;unfold Zum Ql;dsimp only;rw [s.row hm];simp only [Bq0];rw [hx,s.ent hm hp];simp only [Bq0];rw [Int.toNat_natCast];cases hE:(E w m p).here with
 | true=>
   rw [Cq1,ZvY s sm hx hp he,if_pos rfl,hx];rfl
 | false=>
   rw [Cq0,if_neg (by simp)];by_cases hc:now=false∧(E w m p).age <=x.age
   ·rw [if_pos hc,hc.1,decide_eq_false (show ¬ (E w m p).age > x.age by have:=hc.2;omega),Bool.or_self,Cq0,Zat s hm];simp only [Bq0];rw [app1 (by omega) (by omega)];simp only [Bq0,List.append_nil]
   ·have e:(decide ((E w m p).age > x.age) || now)=true:=by
     rw [← Bool.not_eq_false];intro z;simp only [Bool.or_eq_false_iff,decide_eq_false_iff_not] at z;exact hc ⟨z.2,by omega⟩
    rw [if_neg hc,e,Cq1,app1 (by omega) (by omega)];simp only [Bq0];rw [Zab (by omega) (by omega)];unfold told Zap Wo Zso;rw [hx];by_cases ht:now=false∧x.from_ ≠ (m:Int)∧x.from_ ≠ (E w m p).ZO
    ·rw [if_pos ht,ht.1,Q8,Q8,decide_eq_true ht.2.1,decide_eq_true ht.2.2];simp only [Bool.not_false,Bool.and_self,Cq1];rw [app1 (by rw [List.length_append,List.length_singleton];omega) (by omega)];simp only [Bq0,List.append_nil,List.append_assoc]
     rfl
    ·have e2:(((!now) && (x.from_ != (m:Int))) && (x.from_ != (E w m p).ZO))=false:=by
      rw [← Bool.not_eq_true];intro z;simp only [Bool.and_eq_true,Bool.not_eq_true',bne_iff_ne] at z;exact ht ⟨z.1.1,z.1.2,z.2⟩
     rw [e2,Cq0,if_neg ht,List.append_nil]
end
end Go.Proofs.YtbmbbcaaimehkaaGreat
end
section
namespace Go.Proofs.YtbmbbcaaimehkaaGreat
open Go.Lf
theorem Xy {α:Type} (l:List α) (k:Int) (x:α):(YA l k x).length=l.length:=by simp [YA]
theorem JV {α:Type} {l:List α} {k j:Nat} {x d:α} (h:k < l.length):(YA l (k:Int) x).getD j d=if j=k then x else l.getD j d:=by
 unfold YA;rw [Int.toNat_natCast,List.getD_eq_getElem?_getD,List.getElem?_set,List.getD_eq_getElem?_getD];by_cases e:k=j
 ·subst e;simp [h]
 ·rw [if_neg e,if_neg (fun q=>e q.symm)]
theorem Kg {α:Type} {l:List α} {k:Nat} {x:α} (h:k < l.length):ZM (YA l (k:Int) x) (k:Int)=some x:=by
 rw [Yy x (by rw [Xy];exact h),JV h,if_pos rfl]
theorem Ze5 {α:Type} (l:List α) (k:Int) (x y:α):YA (YA l k x) k y=YA l k y:=by simp [YA]
theorem Zkt {α:Type} {l:List α} {k:Nat} (d:α) (h:k < l.length):YA l (k:Int) (l.getD k d)=l:=by
 unfold YA;rw [Int.toNat_natCast];apply List.ext_getElem?;intro i;rw [List.getElem?_set];by_cases e:k=i
 ·subst e;rw [if_pos rfl,if_pos h,List.getD_eq_getElem?_getD,List.getElem?_eq_getElem h];rfl
 ·rw [if_neg e]
def setW (w:Zb) (m p:Nat) (e:Zt):Zb:= {w with entries:=YA w.entries (m:Int) (YA (row w m) (p:Int) e)}
theorem Wt.setW {w:Zb} (s:Wt w) {m p:Nat} (hm:m < w.entries.length) (e:Zt):Wt (setW w m p e):=by
 refine⟨by show 1 <= (YA _ _ _).length;rw [Xy];exact s.m1,by show(YA _ _ _).length <=5;rw [Xy];exact s.m2,s.p1,s.p2,s.bx,by show w.held.length= (YA _ _ _).length;rw [Xy];exact s.hd,fun l hl=>?_⟩;have hl':l ∈ YA w.entries (m:Int) (YA (Proofs.YtbmbbcaaimehkaaGreat.row w m) (p:Int) e):=hl;unfold YA at hl';rcases List.mem_or_eq_of_mem_set hl' with q | q
 ·exact s.rw_ _ q
 ·rw [q];simp only [List.length_set];exact s.len hm
theorem Zd2 (w:Zb) (m p:Nat) (e:Zt):(setW w m p e).entries.length=w.entries.length:=Xy _ _ _
theorem Znc {w:Zb} (s:Wt w) {m p:Nat} (hm:m < w.entries.length) (hp:p < w.ZA.length) (e:Zt) (m' p':Nat):E (setW w m p e) m' p'=if m'=m∧p'=p then e else E w m' p':=by
 have hr:row (setW w m p e) m'=if m'=m then YA (row w m) (p:Int) e else row w m':=JV hm
 unfold E;rw [hr];by_cases h:m'=m
 ·subst h;rw [if_pos rfl,JV (by rw [s.len hm];exact hp)];by_cases h2:p'=p
  ·rw [if_pos h2,if_pos ⟨rfl,h2⟩]
  ·rw [if_neg h2,if_neg (fun q=>h2 q.2)]
 ·rw [if_neg h,if_neg (fun q=>h q.1)]
structure MvL (w:Zb) (x:Zc) (m:Nat):Prop where
 ZO:x.ZO= (m:Int)
 hm:m < w.entries.length
 len:x.ZU.length=x.places.length
 few:x.places.length <=8
 rng:∀ i,i < x.places.length ->InR (x.places.getD i 0) w.ZA.length
def JN (x:Zc) (i:Nat):Nat:= (x.places.getD i 0).toNat
theorem MvL.JN {w:Zb} {x:Zc} {m:Nat} (v:MvL w x m) {i:Nat} (hi:i < x.places.length):x.places.getD i 0= (Proofs.YtbmbbcaaimehkaaGreat.JN x i:Int)∧Proofs.YtbmbbcaaimehkaaGreat.JN x i < w.ZA.length:=by
 have:=v.rng i hi;unfold InR at this;unfold Proofs.YtbmbbcaaimehkaaGreat.JN;omega
def Y4 (w:Zb) (x:Zc):Nat ->Zb
 | 0=>w
 | k + 1=>setW (Y4 w x k) x.ZO.toNat (JN x k) ⟨true,x.ZO,x.ZU.getD k 0⟩
theorem Xr (w:Zb) (x:Zc):∀ k,(Y4 w x k).ZA=w.ZA∧(Y4 w x k).boxes=w.boxes∧(Y4 w x k).held=w.held∧(Y4 w x k).wire=w.wire∧(Y4 w x k).said=w.said∧(Y4 w x k).entries.length=w.entries.length:=by
 intro k
 induction k with
 | zero=>exact⟨rfl,rfl,rfl,rfl,rfl,rfl⟩
 | succ k ih=>exact⟨ih.1,ih.2.1,ih.2.2.1,ih.2.2.2.1,ih.2.2.2.2.1,(Zd2 _ _ _ _).trans ih.2.2.2.2.2⟩
theorem ZaB {w:Zb} (s:Wt w) {x:Zc} {m:Nat} (v:MvL w x m):∀ k,Wt (Y4 w x k):=by
 intro k
 induction k with
 | zero=>exact s
 | succ k ih=>exact ih.setW (by rw [(Xr w x k).2.2.2.2.2,v.ZO,Int.toNat_natCast];exact v.hm) _
theorem Zrx {w:Zb} (s:Wt w) {x:Zc} {m:Nat} (v:MvL w x m):∀ k,k <=x.places.length ->∀ i,i < k ->(E (Y4 w x k) m (JN x i)).here=true:=by
 intro k
 induction k with
 | zero=>intro _ i hi;omega
 | succ k ih=>
   intro hk i hi;have hp:= (v.JN (i:=k) (by omega)).2;show(E (setW (Y4 w x k) x.ZO.toNat (JN x k) _) m (JN x i)).here=true;rw [Znc (ZaB s v k) (by rw [(Xr w x k).2.2.2.2.2,v.ZO,Int.toNat_natCast];exact v.hm) (by rw [(Xr w x k).1];exact hp)];by_cases e:m=x.ZO.toNat∧JN x i=JN x k
   ·rw [if_pos e]
   ·rw [if_neg e];refine ih (by omega) i ?_;rcases Nat.lt_or_ge i k with q | q
    ·exact q
    ·have:i=k:=by omega
     subst this;exact absurd ⟨by rw [v.ZO,Int.toNat_natCast],rfl⟩ e
def Jq (p:Nat) (y:Zh):Bool:=y.place== (p:Int)
def ZqW (m:Nat) (y:Zh):Zi:= ⟨1,y.place,(m:Int),y.msg,y.hops⟩
def WK (w:Zb) (m p:Nat):Zb:=
 {w with boxes:=YA w.boxes (p:Int) (XV w p ++ ((ZE w m).filter (Jq p)).map (fun y=>y.msg)),held:=YA w.held (m:Int) ((ZE w m).filter fun y=>!Jq p y)}
def Zic (w:Zb) (m p:Nat):List Zi:= ⟨3,(p:Int),(m:Int),0,0⟩::((ZE w m).filter (Jq p)).map (ZqW m)
def Yd (w:Zb) (x:Zc):Nat ->Zb×List Zi
 | 0=>(Y4 w x x.places.length,[])
 | k + 1=>(WK (Yd w x k).1 x.ZO.toNat (JN x k),(Yd w x k).2 ++ Zic (Yd w x k).1 x.ZO.toNat (JN x k))
def Zae (w:Zb) (x:Zc):Zb×List Zi:=Yd w x x.places.length
theorem Uu (w:Zb) (x:Zc):∀ k,(Yd w x k).1.ZA=w.ZA∧(Yd w x k).1.wire=w.wire∧(Yd w x k).1.said=w.said∧(Yd w x k).1.entries= (Y4 w x x.places.length).entries∧(Yd w x k).1.boxes.length=w.boxes.length∧(Yd w x k).1.held.length=w.held.length:=by
 intro k
 induction k with
 | zero=>
   have:=Xr w x x.places.length;exact⟨this.1,this.2.2.2.1,this.2.2.2.2.1,rfl,by rw [show(Yd w x 0).1=Y4 w x x.places.length from rfl,this.2.1],by rw [show(Yd w x 0).1=Y4 w x x.places.length from rfl,this.2.2.1]⟩
 | succ k ih=>exact⟨ih.1,ih.2.1,ih.2.2.1,ih.2.2.2.1,(Xy _ _ _).trans ih.2.2.2.2.1,(Xy _ _ _).trans ih.2.2.2.2.2⟩
theorem UQ {w:Zb} (s:Wt w) {x:Zc} {m:Nat} (v:MvL w x m) (k:Nat):Wt (Yd w x k).1:=by
 have c:=ZaB s v x.places.length;have h:=Uu w x k;have h2:=Xr w x x.places.length;exact⟨by rw [h.2.2.2.1];exact c.m1,by rw [h.2.2.2.1];exact c.m2,by rw [h.1];exact s.p1,by rw [h.1];exact s.p2,by rw [h.2.2.2.2.1,h.1];exact s.bx,by rw [h.2.2.2.2.2,h.2.2.2.1,h2.2.2.2.2.2];exact s.hd,by rw [h.2.2.2.1,h.1,← h2.1];exact c.rw_⟩
theorem ZAL {u:Zb} {ev:List Zi} {x:Zh} {b:List Int} (hb:ZM u.boxes x.place=some b) (h1:b.length <=800000) (he:ev.length <=800000) (m:Int):
 Zgq ⟨u,ev⟩ m x=some ⟨{u with boxes:=YA u.boxes x.place (b ++ [x.msg])},ev ++ [⟨1,x.place,m,x.msg,x.hops⟩]⟩:=by
 unfold Zgq;rw [hb];simp only [Bq0];rw [app1 (by omega) (by omega)];simp only [Bq0];rw [app1 (by omega) (by omega)]
 rfl
theorem K6 {α:Type} {f:α ->Bool} {l:List α} {j:Nat} (h:j < l.length):(l.take (j + 1)).filter f= (l.take j).filter f ++ (if f l[j] then [l[j]] else []):=by
 rw [List.take_add_one,List.getElem?_eq_getElem h,List.filter_append];congr 1;show List.filter f [l[j]]=_;by_cases q:f l[j]=true
 ·rw [if_pos q,List.filter_cons,if_pos q];rfl
 ·rw [if_neg q,List.filter_cons,if_neg q];rfl
theorem UZ {α:Type} (f:α ->Bool) (l:List α) (j:Nat):((l.take j).filter f).length <=l.length:=Nat.le_trans (List.length_filter_le _ _) (by rw [List.length_take];omega)
section
variable {F:Nat}
theorem Zxp (hF:1000 <=F) {u:Zb} (s:Wt u) {m p:Nat} (hm:m < u.entries.length) (hp:p < u.ZA.length) (hl:(ZE u m).length <=900) (hb:(XV u p).length <=100000) {x:Zc} (hx:x.ZO= (m:Int)) {ev:List Zi} (he:ev.length <=700000) (i:Int)
 (next:Int×(List Int)×(List (List Int))×(List (List Zt))×(List (List Zh))×(List Zc)×Int×(List Zi) ->Option Yn):
 loop F (ZiF x i next (p:Int) (ZE u m)) (0,u.ZA,u.boxes,u.entries,YA u.held (m:Int) [],u.wire,u.said,ev)=
  next (Y6 (i + 1),(WK u m p).ZA,(WK u m p).boxes,(WK u m p).entries,(WK u m p).held,(WK u m p).wire,(WK u m p).said,ev ++ ((ZE u m).filter (Jq p)).map (ZqW m)):=by
 have hbl:p < u.boxes.length:=by rw [s.bx];exact hp
 have hhl:m < u.held.length:=by rw [s.hd];exact hm
 refine Ya (fun j=>((j:Int),u.ZA,YA u.boxes (p:Int) (XV u p ++ (((ZE u m).take j).filter (Jq p)).map (fun y=>y.msg)),u.entries,YA u.held (m:Int) (((ZE u m).take j).filter fun y=>!Jq p y),u.wire,u.said,ev ++ (((ZE u m).take j).filter (Jq p)).map (ZqW m))) ?_ (n:= (ZE u m).length) (by omega) (fun j hj nx=>?_) (fun nx=>?_)
 ·simp only [List.take_zero,List.filter_nil,List.map_nil,List.append_nil];unfold XV;rw [Zkt [] hbl];rfl
 ·have l1:=UZ (Jq p) (ZE u m) j;have l2:=UZ (fun y=>!Jq p y) (ZE u m) j;unfold ZiF ZiE;dsimp only;rw [ZF hj,Cq1,YD hj];simp only [Bq0];rw [K6 hj,K6 hj,Yo (by omega)];by_cases h:(ZE u m)[j].place= (p:Int)
  ·have e:Jq p (ZE u m)[j]=true:=beq_iff_eq.2 h;rw [e,if_pos rfl,h,Xw,Cq0];simp only [Bool.not_true,Bool.false_eq_true,if_false,List.append_nil];rw [ZAL (b:=XV u p ++ (((ZE u m).take j).filter (Jq p)).map (fun y=>y.msg)) (by rw [h];exact Kg hbl) (by rw [List.length_append,List.length_map];omega) (by rw [List.length_append,List.length_map];omega)];simp only [Bq0];rw [h,Ze5,List.map_append,List.map_append,List.append_assoc,List.append_assoc];unfold ZqW;simp only [List.map_cons,List.map_nil,h,hx]
  ·have e:Jq p (ZE u m)[j]=false:=beq_eq_false_iff_ne.2 h;rw [e,Q8,decide_eq_true h,Cq1,hx];simp only [Bool.not_false,if_true,Bool.false_eq_true,if_false,List.append_nil];rw [Kg hhl];simp only [Bq0];rw [app1 (by omega) (by omega)];simp only [Bq0];rw [Ze5]
 ·unfold ZiF;dsimp only;rw [ZN,Cq0,List.take_of_length_le (Nat.le_refl _)]
  rfl
end
end Go.Proofs.YtbmbbcaaimehkaaGreat
end
