/- Part 10. -/
import Derived.Shelf.Sort.Plain
import Derived.Test.YtcnahmgekicbdaaGreatRa9
set_option linter.all false
set_option maxHeartbeats 2000000
section
noncomputable section
namespace Go.YL
open Go.Lf
variable {X:Ctx} {f:FuncId} {wm wm0:Nat} {h:H} {i o c:Nat} {cs:List Value} {xs:List Int}
theorem Zwy (he:QJ (Zq .i64) wm0 h cs o xs) {j:Nat} (hj:j < xs.length):cs[o + j]? =some (.int .i64 xs[j]):=by
 obtain⟨q,h1,_⟩:=he.get j xs[j] (List.getElem?_eq_getElem hj);have h1:(cs.drop (o + j * 1)).take 1= [.int .i64 xs[j]]:=h1;rw [Nat.mul_one] at h1;have:=congrArg (fun l=>l[0]?) h1
 simpa [List.getElem?_take,List.getElem?_drop] using this
end Go.YL
end
end
section
set_option maxRecDepth 100000
noncomputable section
namespace Go.Proofs.YtcnahmgekicbdaaGreat
open Go.YL Go.Lf
section
end
section
def ZfZ (v9:Int) (XP:(Int ->Option Bool)):Unit ->Option Bool:=fun _=>
 XP (Yy (v9 + 1))
def Zi5 (v9:Int) (XP:(Int ->Option Bool)) (KG:Zd):Bool ->Option Bool:=fun v58=>
 (bif v58 then(bif((KG.kX !=0) || (KG.n !=0)) then some false else(ZfZ v9 XP) ()) else some false)
def Zi6 (p0:Zc) (v9:Int) (XP:(Int ->Option Bool)) (KG:Zd):Bool ->Option Bool:=fun v47=>
 (bif v47 then(ZgV p0 KG.kX).bind fun x49=>(bif((!x49) || (KG.n !=0)) then some false else(ZfZ v9 XP) ()) else(bif(KG.kZ==5) then(Zi5 v9 XP KG) (KG.kZ==5) else(Zi5 v9 XP KG) (KG.kZ==6)))
def Zi7 (p0:Zc) (v9:Int) (XP:(Int ->Option Bool)) (KG:Zd):Bool ->Option Bool:=fun v35=>
 (bif v35 then(ZgV p0 KG.kX).bind fun x37=>(bif(!x37) then some false else(ZfZ v9 XP) ()) else(bif(KG.kZ==3) then(Zi6 p0 v9 XP KG) (KG.kZ==3) else(Zi6 p0 v9 XP KG) (KG.kZ==4)))
def Zi8 (p0:Zc) (p1:(List Zd)):Int ->(Int ->Option Bool) ->Option Bool:=fun v9 XP=>
 (bif decide (v9 < (p1.length:Int)) then(ZO p1 v9).bind fun KG=>(ZgV p0 KG.kV).bind fun x25=>(bif((!x25) || (decide (KG.n < 0))) then some false else(bif(KG.kZ==1) then(Zi7 p0 v9 XP KG) (KG.kZ==1) else(Zi7 p0 v9 XP KG) (KG.kZ==2))) else some (decide ((p1.length:Int) <=400)))
def Zut (F:Nat) (p0:Zc) (p1:(List Zd)):Option Bool:=
 loop F (Zi8 p0 p1) 0
def ZmB (p2:Int) (x3:(List Int)):Int ->(Int ->Option Bool) ->Option Bool:=fun v14 Zif=>
 (bif decide (v14 < (x3.length:Int)) then(ZO x3 v14).bind fun x17=>(bif(x17==p2) then some true else Zif (Yy (v14 + 1))) else some false)
def Zus (F:Nat) (p0:Zc) (p1:Int) (p2:Int):Option Bool:=
 (bif(p1==p2) then some true else(Zzw F p0 p1).bind fun x3=>loop F (ZmB p2 x3) 0)
def ZfX (v28:Int) (WS:(Int×Int ->Option Int)):Int×Int×Bool ->Option Int:=fun(v47,v48,Zv8)=>
 (bif Zv8 then some v47 else WS (Yy (v28 + 1),v47))
def Zi0 (p0:Zc) (v28:Int) (WS:(Int×Int ->Option Int)):Int×Int×Int×Bool ->(Int×Int×Int×Bool ->Option Int) ->Option Int:=fun(v62,v64,v65,Zv6) Zp7=>
 (bif decide (v62 >=0) then(bif Zv6 then none else(bif decide ((Yy (v65 + 1)) > (p0.Zf.length:Int)) then(bif(!false) then(ZfX v28 WS) (2,Yy (v65 + 1),true) else(ZO p0.Zf v62).bind fun x73=>Zp7 (x73.J3,2,Yy (v65 + 1),true)) else(bif(!true) then(ZfX v28 WS) (v64,Yy (v65 + 1),false) else(ZO p0.Zf v62).bind fun x77=>Zp7 (x77.J3,v64,Yy (v65 + 1),false)))) else(ZfX v28 WS) (v64,v65,Zv6))
def ZfY (F:Nat) (p0:Zc):Int×Int ->(Int×Int ->Option Int) ->Option Int:=fun(v28,v30) WS=>
 (bif decide (v28 < (p0.Zf.length:Int)) then(ZO p0.Zf v28).bind fun x55=>loop F (Zi0 p0 v28 WS) (x55.J3,v30,0,false) else some 0)
def Zi1 (F:Nat) (p0:Zc):Int ->(Int ->Option Int) ->Option Int:=fun v12 Za5=>
 (bif decide (v12 < (p0.Zf.length:Int)) then(ZO p0.Zf v12).bind fun x15=>(gd ((!((decide (x15.at_ < 0)) || (decide (x15.at_ >=p0.qG)))) && (x15.J3 != (-1))) (Zcn p0 x15.J3) default).bind fun x21=>(bif(((decide (x15.at_ < 0)) || (decide (x15.at_ >=p0.qG))) || ((x15.J3 != (-1)) && (!x21))) then some 2 else Za5 (Yy (v12 + 1))) else loop F (ZfY F p0) (0,0))
def ZqZ (F:Nat) (p0:Zc):Option Int:=
 (bif((((decide (p0.qG < 1)) || (decide (p0.qG > 4))) || (decide ((p0.Zf.length:Int) < 1))) || (decide ((p0.Zf.length:Int) > 8))) then some 2 else loop F (Zi1 F p0) 0)
def Zzx:(List Int) ->Option ((List Int)×Int):=fun v18=>
 some (v18,0)
def ZqY (p0:Zc):Int×(List Int) ->(Int×(List Int) ->Option ((List Int)×Int)) ->Option ((List Int)×Int):=fun(v31,v33) ZHc=>
 (bif decide (v31 >=0) then(app 8 v33 [v31]).bind fun z41=>(bif(!true) then(Zzx) z41 else(ZO p0.Zf v31).bind fun x47=>ZHc (x47.J3,z41)) else(Zzx) v33)
def ZPe (F:Nat) (p0:Zc) (p1:Int):Option ((List Int)×Int):=
 (ZqZ F p0).bind fun x3=>(gd (!(x3 !=0)) (Zcn p0 p1) default).bind fun x4=>(bif((x3 !=0) || (!x4)) then some ([],2) else(ZO p0.Zf p1).bind fun x24=>loop F (ZqY p0) (x24.J3,[]))
end
section
theorem ZI4 {F wm h} {p0:Zc} {p1:(List Zd)} {Zl Zk Yu Yt} {r} (ZP:wm <=h.size) (Zx:Sl Zg wm h Zl Zk p0.Zf) (Y0:Sl Zu wm h Yu Yt p1) (hL:Zut F p0 p1=some r):
 WR XX 27 #[.agg [.int .i64 p0.qG,.slice Zl p0.Zf.length Zk].toArray,.slice Yu p1.length Yt] wm h (CP (fun(v:Value) (Gb:List (Ast wm))=>v= .bool r∧Gb= []) [] h):=by
 refine bg Tryz.ntmps27 ZP Z7.nil ?_;intro T hT hS;unfold Zut at hL;refine r3 ?_;rintro _ h2 ⟨b1,eb1,rfl,hS⟩;refine r12 ?_;refine WC.loop (WL.lift hL (fun v9 s=>∃ WT h3,s= ⟨WT,[],h3,none⟩∧Sp wm T h [bx wm b1 [.int .i64 p0.qG,.slice Zl p0.Zf.length Zk]] h3∧WT.at 1= .slice Yu p1.length Yt∧WT.at 2= .pointer (some ⟨b1,0,none⟩)∧WT.at 7= .slice Yu p1.length Yt∧WT.at 8= .int .i64 (p1.length:Int)∧WT.at 9= .int .i64 v9) ⟨_,_,rfl,hS.only sl,XZ⟩ ?_);clear hL hS;rintro XP v9 s Wt hL ⟨WT,h3,rfl,hS,e5,e6,e7,e8,e10⟩;dsimp only [Zi8] at hL;refine r6 ?_;refine cn hL ?_ ?_
 ·intro hc hL;refine r2 ?_;refine WC.KO (r:=r) (fun(_:Unit) s=>∃ ZqR h12,s= ⟨ZqR,[],h12,none⟩∧Sp wm T h [bx wm b1 [.int .i64 p0.qG,.slice Zl p0.Zf.length Zk]] h12∧ZqR.at 1= .slice Yu p1.length Yt∧ZqR.at 2= .pointer (some ⟨b1,0,none⟩)∧ZqR.at 7= .slice Yu p1.length Yt∧ZqR.at 8= .int .i64 (p1.length:Int)∧ZqR.at 9= .int .i64 v9) (ZfZ v9 XP) ?_ ?_
  ·clear hL hS;rintro _ s hL ⟨ZqR,h12,rfl,hS,e14,e15,e16,e17,e18⟩;dsimp only [ZfZ] at hL;refine r4 ?_;exact YE.YX (Wt _ _ hL ⟨_,_,rfl,hS.only sl,XZ⟩)
  ·skip;refine r3 ?_;obtain⟨KG,Zod,hL⟩:=bS hL;obtain⟨b20,o21,_,ZEo,ZyP,ZyJ,ZOr⟩:=Sl.at_ Y0 Zod;refine r1 ?_;refine WO.w gN rfl (Qh Zbu Um (Z4 fh rfl) (At.fz hS.fz ZyJ ZyP) (j:=0) rfl rfl (ws:= (cE KG)) rfl) ?_;refine r1 ?_;rintro _ h23 ⟨b22,Z2H,rfl,hS⟩;refine r1 ?_;rintro h24 hS;refine r8 ?_;obtain⟨x25,hx25,hL⟩:=bS hL;refine WO.cp gN rfl (YS.fn Zom (Zb lk (Zb lk Zj))) (Zi2 (hS.JD Zx) hx25) ?_;refine r8 ?_;refine cn hL ?_ ?_
   ·intro hc hL;refine r8 ?_;refine Xj.ret ?_;refine r3 ?_;exact rt hL hT hS
   ·intro hc hL;refine r9 ?_;refine WC.KO (r:=r) (fun(v35:Bool) s=>∃ ZaM h26,s= ⟨ZaM,[],h26,none⟩∧Sp wm T h [bx wm b1 [.int .i64 p0.qG,.slice Zl p0.Zf.length Zk],bx wm b22 (cE KG)] h26∧ZaM.at 1= .slice Yu p1.length Yt∧ZaM.at 2= .pointer (some ⟨b1,0,none⟩)∧ZaM.at 6= .pointer (some ⟨b22,0,none⟩)∧ZaM.at 7= .slice Yu p1.length Yt∧ZaM.at 8= .int .i64 (p1.length:Int)∧ZaM.at 9= .int .i64 v9∧ZaM.at 24= .int .i64 KG.kZ∧ZaM.at 25= .bool v35) (Zi7 p0 v9 XP KG) ?_ ?_
    ·clear hL hS;rintro v35 s hL ⟨ZaM,h26,rfl,hS,e28,e29,e30,e31,e32,e33,e34,e36⟩;dsimp only [Zi7] at hL;refine cn hL ?_ ?_
     ·intro hc hL;refine r5 ?_;obtain⟨x37,Zoc,hL⟩:=bS hL;refine WO.cp gN rfl (YS.fn Zom (Zb lk (Zb lk Zj))) (Zi2 (hS.JD Zx) Zoc) ?_;refine r3 ?_;refine cn hL ?_ ?_
      ·intro hc hL;refine r8 ?_;refine Xj.ret ?_;refine r3 ?_;exact rt hL hT hS
      ·intro hc hL;refine r3 ?_;exact Xj.YX _ hL ⟨_,_,rfl,hS.only sl,XZ⟩
     ·intro hc hL;refine WC.KO (r:=r) (fun(v47:Bool) s=>∃ K7 h38,s= ⟨K7,[],h38,none⟩∧Sp wm T h [bx wm b1 [.int .i64 p0.qG,.slice Zl p0.Zf.length Zk],bx wm b22 (cE KG)] h38∧K7.at 1= .slice Yu p1.length Yt∧K7.at 2= .pointer (some ⟨b1,0,none⟩)∧K7.at 6= .pointer (some ⟨b22,0,none⟩)∧K7.at 7= .slice Yu p1.length Yt∧K7.at 8= .int .i64 (p1.length:Int)∧K7.at 9= .int .i64 v9∧K7.at 24= .int .i64 KG.kZ∧K7.at 33= .bool v47) (Zi6 p0 v9 XP KG) ?_ ?_
      ·clear hL hS;rintro v47 s hL ⟨K7,h38,rfl,hS,e40,e41,e42,e43,e44,e45,e46,e48⟩;dsimp only [Zi6] at hL;refine cn hL ?_ ?_
       ·intro hc hL;refine r5 ?_;obtain⟨x49,ZeF,hL⟩:=bS hL;refine WO.cp gN rfl (YS.fn Zom (Zb lk (Zb lk Zj))) (Zi2 (hS.JD Zx) ZeF) ?_;refine r8 ?_;refine cn hL ?_ ?_
        ·intro hc hL;refine r8 ?_;refine Xj.ret ?_;refine r3 ?_;exact rt hL hT hS
        ·intro hc hL;refine r3 ?_;exact Xj.YX _ hL ⟨_,_,rfl,hS.only sl,XZ⟩
       ·intro hc hL;refine WC.KO (r:=r) (fun(v58:Bool) s=>∃ ZgU h50,s= ⟨ZgU,[],h50,none⟩∧Sp wm T h [bx wm b1 [.int .i64 p0.qG,.slice Zl p0.Zf.length Zk],bx wm b22 (cE KG)] h50∧ZgU.at 1= .slice Yu p1.length Yt∧ZgU.at 2= .pointer (some ⟨b1,0,none⟩)∧ZgU.at 6= .pointer (some ⟨b22,0,none⟩)∧ZgU.at 7= .slice Yu p1.length Yt∧ZgU.at 8= .int .i64 (p1.length:Int)∧ZgU.at 9= .int .i64 v9∧ZgU.at 46= .bool v58) (Zi5 v9 XP KG) ?_ ?_
        ·clear hL hS;rintro v58 s hL ⟨ZgU,h50,rfl,hS,e52,e53,e54,e55,e56,e57,e59⟩;dsimp only [Zi5] at hL;refine cn hL ?_ ?_
         ·intro hc hL;refine r12 ?_;refine cn hL ?_ ?_
          ·intro hc hL;refine r8 ?_;refine Xj.ret ?_;refine r3 ?_;exact rt hL hT hS
          ·intro hc hL;refine r3 ?_;exact Xj.YX _ hL ⟨_,_,rfl,hS.only sl,XZ⟩
         ·intro hc hL;refine r8 ?_;refine Xj.ret ?_;refine r3 ?_;exact rt hL hT hS
        ·skip;refine r6 ?_;refine cn hL ?_ ?_
         ·intro hc hL;refine r1 ?_;exact Xj.YX _ hL ⟨_,_,rfl,hS.only sl,XZ⟩
         ·intro hc hL;refine r4 ?_;exact Xj.YX _ hL ⟨_,_,rfl,hS.only sl,XZ⟩
      ·skip;refine r6 ?_;refine cn hL ?_ ?_
       ·intro hc hL;refine r1 ?_;exact Xj.YX _ hL ⟨_,_,rfl,hS.only sl,XZ⟩
       ·intro hc hL;refine r4 ?_;exact Xj.YX _ hL ⟨_,_,rfl,hS.only sl,XZ⟩
    ·skip;refine r6 ?_;refine cn hL ?_ ?_
     ·intro hc hL;refine r1 ?_;exact Xj.YX _ hL ⟨_,_,rfl,hS.only sl,XZ⟩
     ·intro hc hL;refine r4 ?_;exact Xj.YX _ hL ⟨_,_,rfl,hS.only sl,XZ⟩
 ·intro hc hL;refine r14 ?_;exact rt hL hT hS
theorem ZI5 {F h} {p0:Zc} {p1:(List Zd)} {Zl Zk Yu Yt} {r} (Zx:Sl Zg h.size h Zl Zk p0.Zf) (Y0:Sl Zu h.size h Yu Yt p1) (hL:Zut F p0 p1=some r):Pure XX 27 #[.agg [.int .i64 p0.qG,.slice Zl p0.Zf.length Zk].toArray,.slice Yu p1.length Yt] h (.bool r):=
 WR.YR rfl (ZI4 (Nat.le_refl _) Zx Y0 hL)
theorem ZIZ {F wm h} {p0:Zc} {p1 p2:Int} {Zl Zk} {r} (ZP:wm <=h.size) (Zx:Sl Zg wm h Zl Zk p0.Zf) (hL:Zus F p0 p1 p2=some r):
 WR XX 31 #[.agg [.int .i64 p0.qG,.slice Zl p0.Zf.length Zk].toArray,.int .i64 p1,.int .i64 p2] wm h (CP (fun(v:Value) (Gb:List (Ast wm))=>v= .bool r∧Gb= []) [] h):=by
 refine bg Tryz.ntmps31 ZP Z7.nil ?_;intro T hT hS;unfold Zus at hL;refine r3 ?_;rintro _ h2 ⟨b1,eb1,rfl,hS⟩;refine r11 ?_;refine cn hL ?_ ?_
 ·intro hc hL;refine r7 ?_;exact rt hL hT hS
 ·intro hc hL;refine r7 ?_;obtain⟨x3,hx3,hL⟩:=bS hL;refine WO.cl gN rfl (YS.fn ZNZ (Zb lk (Zb lk Zj))) hS .n (fun g' hz hf hO=>ZIW (by rw [hz];exact hS.hw) ((hS.sl Zx).mono hf) hx3) ?_;rintro _ h7 _ ⟨a4,n5,c6,rfl,rfl⟩ hS;obtain rfl:=hS.on k0;refine r5 ?_;refine WC.loop (WL.lift hL (fun v14 s=>∃ Zug h9,s= ⟨Zug,[],h9,none⟩∧Sp wm T h [ow wm (Zq .i64) a4 x3.length c6 x3] h9∧Zug.at 2= .int .i64 p2∧Zug.at 14= .slice a4 x3.length c6∧Zug.at 15= .int .i64 (x3.length:Int)∧Zug.at 16= .int .i64 v14) ⟨_,_,rfl,hS.only sl,XZ⟩ ?_);clear hL hS;rintro Zif v14 s ZlY hL ⟨Zug,h9,rfl,hS,e11,e12,e13,e15⟩;dsimp only [ZmB] at hL;refine r6 ?_;refine cn hL ?_ ?_
  ·intro hc hL;refine r6 ?_;obtain⟨x17,ZjV,hL⟩:=bS hL;obtain⟨b18,o19,_,ZEq,ZEC,ZEv⟩:=Src.at_ (hS.UO k0) ZjV;refine r12 ?_;refine cn hL ?_ ?_
   ·intro hc hL;refine r11 ?_;exact rt hL hT hS
   ·intro hc hL;refine r7 ?_;exact YE.YX (ZlY _ _ hL ⟨_,_,rfl,hS.only sl,XZ⟩)
  ·intro hc hL;refine r11 ?_;exact rt hL hT hS
theorem ZI0 {F h} {p0:Zc} {p1 p2:Int} {Zl Zk} {r} (Zx:Sl Zg h.size h Zl Zk p0.Zf) (hL:Zus F p0 p1 p2=some r):Pure XX 31 #[.agg [.int .i64 p0.qG,.slice Zl p0.Zf.length Zk].toArray,.int .i64 p1,.int .i64 p2] h (.bool r):=
 WR.YR rfl (ZIZ (Nat.le_refl _) Zx hL)
theorem Zzy {F wm h} {p0:Zc} {Zl Zk} {r} (ZP:wm <=h.size) (Zx:Sl Zg wm h Zl Zk p0.Zf) (hL:ZqZ F p0=some r):
 WR XX 34 #[.agg [.int .i64 p0.qG,.slice Zl p0.Zf.length Zk].toArray] wm h (CP (fun(v:Value) (Gb:List (Ast wm))=>v= .int .i64 r∧Gb= []) [] h):=by
 refine WF.Zcy (args:= [_]) (fn:=Tryz.f34) Kq0 (by exact rfl) Tryz.ntmps34 (by simp) ?_;simp only [ZB,ZK,Nat.reduceAdd];obtain⟨T,hT,hS⟩:∃ T,T=Qs (wm:=wm) []∧Sp wm T h [] h:= ⟨_,rfl,Sp.start ZP Z7.nil⟩
 unfold ZqZ at hL;refine r3 ?_;rintro _ h2 ⟨b1,eb1,rfl,hS⟩;refine r1 ?_;rintro _ h4 ⟨b3,eb3,rfl,hS⟩;refine r16 ?_;refine r11 ?_;refine cn hL ?_ ?_
 ·intro hc hL;refine r3 ?_;rintro h5 hS;refine r4 ?_;have hr:=Oi0 hL;subst hr;exact Qc.gen rfl (Xl (ZJ rfl (ZJ rfl (YQ rfl fh))) (Qz Zph (hS.U6 k0) (j:=0) rfl (v:= .int .i64 2) rfl) Zr) rfl ⟨_,⟨rfl,rfl⟩,hT ▸ hS.only .n⟩
 ·intro hc hL;refine r12 ?_;refine WC.loop (WL.lift hL (fun v12 s=>∃ fr7 h6,s= ⟨fr7,[],h6,none⟩∧Sp wm T h [bx wm b1 [.int .i64 p0.qG,.slice Zl p0.Zf.length Zk],bx wm b3 [.int .i64 0]] h6∧fr7.at 1= .pointer (some ⟨b1,0,none⟩)∧fr7.at 2= .pointer (some ⟨b3,0,none⟩)∧fr7.at 28= .slice Zl p0.Zf.length Zk∧fr7.at 29= .int .i64 (p0.Zf.length:Int)∧fr7.at 30= .int .i64 v12) ⟨_,_,rfl,hS.only sl,XZ⟩ ?_);clear hL hS;rintro Za5 v12 s ZlZ hL ⟨fr7,h6,rfl,hS,e8,e9,e10,e11,e13⟩;dsimp only [Zi1] at hL;refine r6 ?_;refine cn hL ?_ ?_
  ·intro hc hL;refine r6 ?_;obtain⟨x15,Zt6,hL⟩:=bS hL;obtain⟨b16,o17,_,ZEr,ZyR,ZyL,ZOu⟩:=Sl.at_ Zx Zt6;refine r1 ?_;refine WO.w gN rfl (Qh ZjA KN (Z4 fh rfl) (At.fz hS.fz ZyL ZyR) (j:=0) rfl rfl (ws:= (cP x15)) rfl) ?_;refine r1 ?_;rintro _ h19 ⟨b18,Z2J,rfl,hS⟩;refine r1 ?_;rintro h20 hS;refine r16 ?_;refine r6 ?_;obtain⟨x21,ZxW,hL⟩:=Xh hL;refine WO.gcp (Zh.ZAO rfl rfl rfl (Yb rfl (Zi rfl fh))) rfl (fun hg=>(YS.fn ZkN (Zb (Q0 (Yb rfl fh) rfl hg) (Zb (Q0 fh rfl hg) Zj)))) (fun hg=>ZfT (hS.JD Zx) (ZxW hg)) ?_;refine r1 ?_;refine WO.gv (Zh.no rfl rfl rfl (ZJ rfl (Zi rfl fh))) rfl (fun hg=>(Zm5 (Q0 (YQ rfl (Zi rfl fh)) rfl hg) (ZoI fh hg) lk)) ?_;refine r3 ?_;refine cn hL ?_ ?_
   ·intro hc hL;refine r3 ?_;rintro h22 hS;refine r8 ?_;have hr:=Oi0 hL;subst hr;exact Qc.gen rfl (Xl (ZJ rfl (ZJ rfl (ZJ rfl (Yb rfl e9)))) (Qz Zph (hS.U6 k0) (j:=0) rfl (v:= .int .i64 2) rfl) Zr) rfl ⟨_,⟨rfl,rfl⟩,hT ▸ hS.only .n⟩
   ·intro hc hL;refine r7 ?_;exact YE.YX (ZlZ _ _ hL ⟨_,_,rfl,hS.only sl,XZ⟩)
  ·intro hc hL;refine r15 ?_;have hS:=hS.ZPE;refine WC.loop (WL.lift hL (fun p s=>match p with | (v28,v30)=>∃ Zud h23,∃ (ZtY:List Nat),s= ⟨Zud,(ZJl ZtY ++ []),h23,none⟩∧Sp wm T h [bx wm b1 [.int .i64 p0.qG,.slice Zl p0.Zf.length Zk],bx wm b3 [.int .i64 v30],cds wm ZtY] h23∧Zud.at 1= .pointer (some ⟨b1,0,none⟩)∧Zud.at 2= .pointer (some ⟨b3,0,none⟩)∧Zud.at 59= .int .i64 (p0.Zf.length:Int)∧Zud.at 60= .int .i64 v28) ⟨_,_,[],rfl,hS.only sl,XZ⟩ ?_);clear hL hS;rintro WS ⟨v28,v30⟩ s ZlX hL ⟨Zud,h23,ZtY,rfl,hS,e25,e26,e27,e29⟩;dsimp only [ZfY] at hL;refine r6 ?_;refine cn hL ?_ ?_
   ·intro hc hL;refine r13 ?_;rintro _ h34 ⟨b33,ZPj,rfl,hS⟩;refine r1 ?_;rintro h35 hS;refine r6 ?_;refine WO.inl gN rfl (YS.fn Zol (Zb lk (Zb lk Zj))) (WF.begin (args:= [_,_]) (fn:=Tryz.f55) Kq0 (by exact rfl) Tryz.ntmps55 (by simp) ?_);simp only [ZB,ZK,Nat.reduceAdd];refine r3 ?_;rintro _ h37 ⟨b36,ZUG,rfl,hS⟩;refine r1 ?_;rintro _ h39 ⟨b38,Z2B,rfl,hS⟩;refine r5 ?_;refine WO.w gN rfl (KY (Zb lk (Zb lk Zj))) ?_;refine r4 ?_;refine Z8.J4 rfl (ZC lk Zr) ?_;refine r3 ?_;refine WC.ZlD (first:= []) (cap:= [.pointer (some ⟨b36,0,none⟩),.pointer (some ⟨b38,0,none⟩)]) hS lk Zok ?_;intro h40 l41 ZJj ZQp ZkO hS;refine WR.Zds (r:=r) (fun(p:Int×Int×Bool) (v:Value) (h45:H)=>match p with | (v47,v48,Zv8)=>v= .tuple [].toArray∧Sp wm T h [bx wm b1 [.int .i64 p0.qG,.slice Zl p0.Zf.length Zk],bx wm b3 [.int .i64 v47],bx wm b33 [.int .i64 v48],bx wm b36 [.int .i64 p0.qG,.slice Zl p0.Zf.length Zk],bx wm b38 [.int .i64 v28],cds wm ZtY,ob wm l41 (lst Zv8 Code.ret ZQp),ob wm ZJj .deferred] h45) (ZfX v28 WS) ?_ (WF.begin (args:= [_,_,_]) (fn:=Tryz.f84) Kq0 (by exact rfl) Tryz.ntmps84 (by simp) ?_)
    ·clear hL hS;rintro⟨v47,v48,Zv8⟩ v h45 hL ⟨rfl,hS⟩;dsimp only [ZfX] at hL;rcases Jv Zv8 with hc | hc
     ·replace hL:=QW hc hL;rw [hc] at hS;refine RgS.stop (c:=Code.ret) ZkO hS k6 ?_;rintro h51 hS;refine r7 ?_;refine Qc.Zjq hS k6 ?_;rintro h52 hS;refine Qc.Zk7 hS k5 ?_;rintro h53 hS;have hr:=Oi0 hL;subst hr;exact Qc.gen rfl (Xl (YQ rfl (Yb rfl (Zi rfl e26))) (Qz Zph (hS.U6 k1) (j:=0) rfl (v:= .int .i64 v47) rfl) Zr) rfl ⟨_,⟨rfl,rfl⟩,hT ▸ hS.only .n⟩
     ·replace hL:=QX hc hL;rw [hc] at hS;refine RgS.sp ZkO hS k6 ?_;rintro h54 hS;refine r7 ?_;have hS:=hS.ZPD k6 k5;exact YE.YX (ZlX _ _ hL ⟨_,_,(ZJj::ZtY),rfl,hS.only sl,XZ⟩)
    ·skip;simp only [ZB,ZK,Nat.reduceAdd];refine r5 ?_;obtain⟨x55,ZSb,hL⟩:=bS hL;obtain⟨b56,o57,_,ZXG,ZYC,ZYo,ZX8⟩:=Sl.at_ Zx ZSb;refine r7 ?_;refine WC.loop (WL.lift hL (fun p s=>match p with | (v62,v64,v65,Zv6)=>∃ ZyZ h58,s= ⟨ZyZ,[],h58,none⟩∧Sp wm T h [bx wm b36 [.int .i64 p0.qG,.slice Zl p0.Zf.length Zk],bx wm b1 [.int .i64 p0.qG,.slice Zl p0.Zf.length Zk],bx wm b3 [.int .i64 v64],bx wm b33 [.int .i64 v65],bx wm b38 [.int .i64 v28],cds wm ZtY,ob wm l41 (lst Zv6 Code.ret ZQp),ob wm ZJj .deferred] h58∧ZyZ.at 0= .func (.yield l41) #[] #[]∧ZyZ.at 1= .pointer (some ⟨b36,0,none⟩)∧ZyZ.at 4= .int .i64 v62) ⟨_,_,rfl,hS.only sl,XZ⟩ ?_);clear hL hS;rintro Zp7 ⟨v62,v64,v65,Zv6⟩ s ZsE hL ⟨ZyZ,h58,rfl,hS,e60,e61,e63⟩;dsimp only [Zi0] at hL;refine r7 ?_;refine cn hL ?_ ?_
     ·intro hc hL;refine r8 ?_;obtain⟨Zt8,hL⟩:=Zhs hL;rw [Zt8] at hS;refine WO.ZAM gN rfl lk lks hS k6 ZkO rfl rfl ?_;refine r1 ?_;refine AsS.sp ZkO hS k6 ?_;rintro h69 hS;refine r6 ?_;rintro h70 hS;refine r11 ?_;refine cn hL ?_ ?_
      ·intro hc hL;refine r3 ?_;rintro h71 hS;refine r4 ?_;refine BdS.stop .ret ZkO hS k2 ?_;rintro h72 hS;refine r3 ?_;refine cn hL ?_ ?_
       ·intro hc hL;refine r5 ?_;exact Z8.gen (vs:= []) rfl Zr rfl ⟨_,hL,⟨rfl,hS.only sl⟩⟩
       ·intro hc hL;refine r7 ?_;obtain⟨x73,ZHB,hL⟩:=bS hL;obtain⟨b74,o75,_,ZXC,ZYz,ZYl,ZX2⟩:=Sl.at_ Zx ZHB;refine r5 ?_;exact YE.YX (ZsE _ _ hL ⟨_,_,rfl,hS.only sl,XZ⟩)
      ·intro hc hL;refine r2 ?_;refine BdS.sp ZkO hS k1 ?_;rintro h76 hS;refine r3 ?_;refine cn hL ?_ ?_
       ·intro hc hL;refine r5 ?_;exact Z8.gen (vs:= []) rfl Zr rfl ⟨_,hL,⟨rfl,hS.only sl⟩⟩
       ·intro hc hL;refine r7 ?_;obtain⟨x77,ZR4,hL⟩:=bS hL;obtain⟨b78,o79,_,ZXA,ZYx,ZYk,ZX0⟩:=Sl.at_ Zx ZR4;refine r5 ?_;exact YE.YX (ZsE _ _ hL ⟨_,_,rfl,hS.only sl,XZ⟩)
     ·intro hc hL;refine r4 ?_;refine Z8.YX ?_;exact Z8.gen (vs:= []) rfl Zr rfl ⟨_,hL,⟨rfl,hS.only sl⟩⟩
   ·intro hc hL;refine r8 ?_;rintro h80 hS;refine r3 ?_;refine Qc.Zk7 hS k2 ?_;rintro h81 hS;have hr:=Oi0 hL;subst hr;exact Qc.gen rfl (Xl (Zi rfl e26) (Qz Zph (hS.U6 k0) (j:=0) rfl (v:= .int .i64 0) rfl) Zr) rfl ⟨_,⟨rfl,rfl⟩,hT ▸ hS.only .n⟩
end
section
def ZiX (p0:Zc) (p1:Zd):Bool ->Option Bool:=fun v25=>
 (bif v25 then(Zcn p0 p1.kX).bind fun x27=>some x27 else some false)
def ZiY (p0:Zc) (p1:Zd):Bool ->Option Bool:=fun v18=>
 (bif v18 then(Zcn p0 p1.kX).bind fun x20=>some (x20 && (p1.n==0)) else(bif(p1.kZ==1) then(ZiX p0 p1) (p1.kZ==1) else(ZiX p0 p1) (p1.kZ==2)))
def ZiZ (p0:Zc) (p1:Zd):Bool ->Option Bool:=fun v11=>
 (bif v11 then some ((p1.kX==0) && (p1.n==0)) else(bif(p1.kZ==3) then(ZiY p0 p1) (p1.kZ==3) else(ZiY p0 p1) (p1.kZ==4)))
def ZqX (p0:Zc) (p1:Zd):Option Bool:=
 (Zcn p0 p1.kV).bind fun x5=>(bif((!x5) || (decide (p1.n < 0))) then some false else(bif(p1.kZ==5) then(ZiZ p0 p1) (p1.kZ==5) else(ZiZ p0 p1) (p1.kZ==6)))
def ZiW (v17:Int) (Q6:(Int×Int×Int ->Option Int)):Int×Int ->Option Int:=fun(v25,v27)=>
 Q6 (v25,v27,Yy (v17 + 1))
def ZiV (p2:Zd) (v13:Int) (v17:Int) (Q6:(Int×Int×Int ->Option Int)) (x32:Zd):Int ->Option Int:=fun v43=>
 (bif((x32.kZ==2) && (x32.n==p2.n)) then(ZiW v17 Q6) (v43,Yy (v13 + 1)) else(ZiW v17 Q6) (v43,v13))
def WV:Unit ->Option Int:=fun _=>
 some 0
def ZfV (F:Nat) (p0:Zc) (p1:(List Zd)) (p2:Zd):Int ->(Int ->Option Int) ->Option Int:=fun v58 Zxl=>
 (bif decide (v58 < (p1.length:Int)) then(ZO p1 v58).bind fun x61=>(gd (x61.kZ==4) (ZO p0.Zf x61.kV) default).bind fun x67=>(gd (x61.kZ==4) (ZO p0.Zf p2.kV) default).bind fun x70=>(gd ((x61.kZ==4) && (x67.at_==x70.at_)) (Zus F p0 p2.kX x61.kX) default).bind fun x73=>(bif(((x61.kZ==4) && (x67.at_==x70.at_)) && x73) then some 5 else Zxl (Yy (v58 + 1))) else(WV) ())
def ZfU (F:Nat) (p1:(List Zd)) (x76:(List Int)):Int ->(Int ->Option Int) ->Option Int:=fun v87 Zxj=>
 (bif decide (v87 < (x76.length:Int)) then(ZO x76 v87).bind fun x90=>(Zco F p1 6 x90 0).bind fun x93=>(bif(x93==0) then some 3 else Zxj (Yy (v87 + 1))) else(WV) ())
def Zd2 (F:Nat) (p0:Zc) (p1:(List Zd)) (p2:Zd):Int×Int×Int ->(Int×Int×Int ->Option Int) ->Option Int:=fun(v11,v13,v17) Q6=>
 (bif decide (v17 < (p1.length:Int)) then(ZO p1 v17).bind fun x32=>(bif(((x32.kZ==1) && (x32.n==p2.n)) && ((p2.kZ==1) || ((x32.kV==p2.kX) && (x32.kX==p2.kV)))) then(ZiV p2 v13 v17 Q6 x32) (Yy (v11 + 1)) else(ZiV p2 v13 v17 Q6 x32) v11) else(bif(p2.kZ==1) then(bif decide (v11 > 0) then some 2 else(WV) ()) else(bif(p2.kZ==2) then(bif((v11==0) || (decide (v13 > 0))) then some 2 else loop F (ZfV F p0 p1 p2) 0) else(bif(p2.kZ==6) then(Zco F p1 5 p2.kV 0).bind fun x74=>(gd (!(x74==0)) (Zco F p1 6 p2.kV 0) default).bind fun x75=>(bif((x74==0) || (decide (x75 > 0))) then some 3 else(Zul F p0 p2.kV).bind fun x76=>loop F (ZfU F p1 x76) 0) else(bif(p2.kZ==4) then(Zco F p1 6 p2.kX 0).bind fun x94=>(gd (!(x94==0)) (Zco F p1 4 p2.kV p2.kX) default).bind fun x95=>(gd (!(x94==0)) (Zco F p1 3 p2.kV p2.kX) default).bind fun x96=>(bif((x94==0) || (decide (x95 >=x96))) then some 4 else(WV) ()) else(WV) ())))))
def Zup (F:Nat) (p0:Zc) (p1:(List Zd)) (p2:Zd):Option Int:=
 (gd (p2.kZ !=6) (Zco F p1 5 p2.kV 0) default).bind fun x5=>(bif((p2.kZ !=6) && (decide (x5 > 0))) then some 1 else loop F (Zd2 F p0 p1 p2) (0,0,0))
def Zum (F:Nat) (p0:QG) (p1:Int):Option Bool:=
 (ZdE F p0 (Zd.mk 5 p1 0 0)).bind fun x3=>some (decide (x3 > 0))
def Zzl (F:Nat) (p0:QG) (p1:Zd):Option Bool:=
 (bif(p1.kZ==1) then(Zjd F p0 1 p1.n).bind fun x5=>some x5 else(bif(p1.kZ==2) then(ZdE F p0 (Zd.mk 1 p1.kX p1.kV p1.n)).bind fun x6=>(gd (!(x6==0)) (Zjd F p0 2 p1.n) default).bind fun x7=>some ((x6==0) || x7) else some false))
def Zcl (F:Nat) (p0:QG) (p1:Zd):Bool×Bool ->Option Bool:=fun(v19,Zwb)=>
 (bif Zwb then some v19 else(Zum F p0 p1.kV).bind fun x25=>(gd (!(!x25)) (ZgF F p0 p1.kV) default).bind fun x26=>some ((!x25) || x26))
def ZiS (F:Nat) (p0:QG) (p1:Zd):Int×Bool×Bool ->(Int×Bool×Bool ->Option Bool) ->Option Bool:=fun(v35,v37,ZtC) ZlL=>
 (bif decide (v35 < (p0.qK.Zf.length:Int)) then(ZO p0.qK.Zf v35).bind fun x40=>(bif(x40.J3==p1.kV) then(bif ZtC then none else(ZgF F p0 v35).bind fun x49=>(bif(!x49) then(bif(!false) then(Zcl F p0 p1) (true,true) else ZlL (Yy (v35 + 1),true,true)) else(bif(!true) then(Zcl F p0 p1) (v37,false) else ZlL (Yy (v35 + 1),v37,false)))) else ZlL (Yy (v35 + 1),v37,ZtC)) else(Zcl F p0 p1) (v37,ZtC))
def Zzk (F:Nat) (p0:QG) (p1:Zd):Option Bool:=
 (bif(p1.kZ !=6) then some false else loop F (ZiS F p0 p1) (0,false,false))
def Zzj (F:Nat) (p0:QG) (p1:Zd):Option Bool:=
 (bif(p1.kZ !=4) then some false else(ZgF F p0 p1.kX).bind fun x9=>(gd (!(!x9)) (ZdE F p0 p1) default).bind fun x10=>(gd (!(!x9)) (ZdE F p0 (Zd.mk 3 p1.kV p1.kX p1.n)) default).bind fun WN=>some ((!x9) || (decide (x10 >=WN))))
end
section
theorem ZIS {wm h} {p0:Zc} {p1:Zd} {Zl Zk} {r} (ZP:wm <=h.size) (Zx:Sl Zg wm h Zl Zk p0.Zf) (hL:ZqX p0 p1=some r):
 WR XX 51 #[.agg [.int .i64 p0.qG,.slice Zl p0.Zf.length Zk].toArray,.agg [.int .i64 p1.kZ,.int .i64 p1.kV,.int .i64 p1.kX,.int .i64 p1.n].toArray] wm h (CP (fun(v:Value) (Gb:List (Ast wm))=>v= .bool r∧Gb= []) [] h):=by
 refine bg Tryz.ntmps51 ZP Z7.nil ?_;intro T hT hS;unfold ZqX at hL;refine r3 ?_;rintro _ h2 ⟨b1,eb1,rfl,hS⟩;refine r1 ?_;rintro _ h4 ⟨b3,eb3,rfl,hS⟩;refine r9 ?_;obtain⟨x5,hx5,hL⟩:=bS hL;refine WO.cp gN rfl (YS.fn ZkN (Zb lk (Zb lk Zj))) (ZfT (hS.JD Zx) hx5) ?_;refine r8 ?_;refine cn hL ?_ ?_
 ·intro hc hL;refine r7 ?_;exact rt hL hT hS
 ·intro hc hL;refine r10 ?_;refine WC.KO (r:=r) (fun(v11:Bool) s=>∃ fr7 h6,s= ⟨fr7,[],h6,none⟩∧Sp wm T h [bx wm b1 [.int .i64 p0.qG,.slice Zl p0.Zf.length Zk],bx wm b3 (cE p1)] h6∧fr7.at 2= .pointer (some ⟨b1,0,none⟩)∧fr7.at 3= .pointer (some ⟨b3,0,none⟩)∧fr7.at 16= .int .i64 p1.kZ∧fr7.at 17= .bool v11) (ZiZ p0 p1) ?_ ?_
  ·clear hL hS;rintro v11 s hL ⟨fr7,h6,rfl,hS,e8,e9,e10,e12⟩;dsimp only [ZiZ] at hL;refine cn hL ?_ ?_
   ·intro hc hL;refine r16 ?_;exact rt hL hT hS
   ·intro hc hL;refine WC.KO (r:=r) (fun(v18:Bool) s=>∃ Zdt h13,s= ⟨Zdt,[],h13,none⟩∧Sp wm T h [bx wm b1 [.int .i64 p0.qG,.slice Zl p0.Zf.length Zk],bx wm b3 (cE p1)] h13∧Zdt.at 2= .pointer (some ⟨b1,0,none⟩)∧Zdt.at 3= .pointer (some ⟨b3,0,none⟩)∧Zdt.at 16= .int .i64 p1.kZ∧Zdt.at 28= .bool v18) (ZiY p0 p1) ?_ ?_
    ·clear hL hS;rintro v18 s hL ⟨Zdt,h13,rfl,hS,e15,e16,e17,e19⟩;dsimp only [ZiY] at hL;refine cn hL ?_ ?_
     ·intro hc hL;refine r5 ?_;obtain⟨x20,Zqu,hL⟩:=bS hL;refine WO.cp gN rfl (YS.fn ZkN (Zb lk (Zb lk Zj))) (ZfT (hS.JD Zx) Zqu) ?_;refine r11 ?_;exact rt hL hT hS
     ·intro hc hL;refine WC.KO (r:=r) (fun(v25:Bool) s=>∃ Zy3 h21,s= ⟨Zy3,[],h21,none⟩∧Sp wm T h [bx wm b1 [.int .i64 p0.qG,.slice Zl p0.Zf.length Zk],bx wm b3 (cE p1)] h21∧Zy3.at 2= .pointer (some ⟨b1,0,none⟩)∧Zy3.at 3= .pointer (some ⟨b3,0,none⟩)∧Zy3.at 40= .bool v25) (ZiX p0 p1) ?_ ?_
      ·clear hL hS;rintro v25 s hL ⟨Zy3,h21,rfl,hS,e23,e24,e26⟩;dsimp only [ZiX] at hL;refine cn hL ?_ ?_
       ·intro hc hL;refine r5 ?_;obtain⟨x27,hx27,hL⟩:=bS hL;refine WO.cp gN rfl (YS.fn ZkN (Zb lk (Zb lk Zj))) (ZfT (hS.JD Zx) hx27) ?_;refine r6 ?_;exact rt hL hT hS
       ·intro hc hL;refine r9 ?_;exact rt hL hT hS
      ·skip;refine r6 ?_;refine cn hL ?_ ?_
       ·intro hc hL;refine r1 ?_;exact Xj.YX _ hL ⟨_,_,rfl,hS.only sl,XZ⟩
       ·intro hc hL;refine r4 ?_;exact Xj.YX _ hL ⟨_,_,rfl,hS.only sl,XZ⟩
    ·skip;refine r6 ?_;refine cn hL ?_ ?_
     ·intro hc hL;refine r1 ?_;exact Xj.YX _ hL ⟨_,_,rfl,hS.only sl,XZ⟩
     ·intro hc hL;refine r4 ?_;exact Xj.YX _ hL ⟨_,_,rfl,hS.only sl,XZ⟩
  ·skip;refine r6 ?_;refine cn hL ?_ ?_
   ·intro hc hL;refine r1 ?_;exact Xj.YX _ hL ⟨_,_,rfl,hS.only sl,XZ⟩
   ·intro hc hL;refine r4 ?_;exact Xj.YX _ hL ⟨_,_,rfl,hS.only sl,XZ⟩
theorem ZIQ {F wm h} {p0:Zc} {p1:(List Zd)} {p2:Zd} {Zl Zk Yu Yt} {r} (ZP:wm <=h.size) (Zx:Sl Zg wm h Zl Zk p0.Zf) (Y0:Sl Zu wm h Yu Yt p1) (hL:Zup F p0 p1 p2=some r):
 WR XX 53 #[.agg [.int .i64 p0.qG,.slice Zl p0.Zf.length Zk].toArray,.slice Yu p1.length Yt,.agg [.int .i64 p2.kZ,.int .i64 p2.kV,.int .i64 p2.kX,.int .i64 p2.n].toArray] wm h (CP (fun(v:Value) (Gb:List (Ast wm))=>v= .int .i64 r∧Gb= []) [] h):=by
 refine bg Tryz.ntmps53 ZP Z7.nil ?_;intro T hT hS;unfold Zup at hL;refine r3 ?_;rintro _ h2 ⟨b1,eb1,rfl,hS⟩;refine r1 ?_;rintro _ h4 ⟨b3,eb3,rfl,hS⟩;refine r13 ?_;obtain⟨x5,hx5,hL⟩:=Xh hL;refine WO.gcp (Zh.yes rfl rfl rfl (Yb rfl (Zi rfl fh))) rfl (fun hg=>(YS.fn Ziy (Zb (Q0 (Yb rfl fh) rfl hg) (Zb lk (Zb (Q0 fh rfl hg) (Zb lk Zj)))))) (fun hg=>Zd3 (hS.JD Y0) (hx5 hg)) ?_;refine r4 ?_;refine cn hL ?_ ?_
 ·intro hc hL;refine r7 ?_;exact rt hL hT hS
 ·intro hc hL;refine r16 ?_;refine r1 ?_;refine WC.loop (WL.lift hL (fun p s=>match p with | (v11,v13,v17)=>∃ fr7 h6,s= ⟨fr7,[],h6,none⟩∧Sp wm T h [bx wm b1 [.int .i64 p0.qG,.slice Zl p0.Zf.length Zk],bx wm b3 (cE p2)] h6∧fr7.at 1= .slice Yu p1.length Yt∧fr7.at 3= .pointer (some ⟨b1,0,none⟩)∧fr7.at 5= .pointer (some ⟨b3,0,none⟩)∧fr7.at 7= .int .i64 v11∧fr7.at 8= .int .i64 v13∧fr7.at 25= .slice Yu p1.length Yt∧fr7.at 26= .int .i64 (p1.length:Int)∧fr7.at 27= .int .i64 v17) ⟨_,_,rfl,hS.only sl,XZ⟩ ?_);clear hL hS;rintro Q6 ⟨v11,v13,v17⟩ s Zhg hL ⟨fr7,h6,rfl,hS,e8,e9,e10,e12,e14,e15,e16,e18⟩;dsimp only [Zd2] at hL;refine r6 ?_;refine cn hL ?_ ?_
  ·intro hc hL;refine r2 ?_;refine WC.KO (r:=r) (fun(p:Int×Int) s=>match p with | (v25,v27)=>∃ ZdW h20,s= ⟨ZdW,[],h20,none⟩∧Sp wm T h [bx wm b1 [.int .i64 p0.qG,.slice Zl p0.Zf.length Zk],bx wm b3 (cE p2)] h20∧ZdW.at 1= .slice Yu p1.length Yt∧ZdW.at 3= .pointer (some ⟨b1,0,none⟩)∧ZdW.at 5= .pointer (some ⟨b3,0,none⟩)∧ZdW.at 7= .int .i64 v25∧ZdW.at 8= .int .i64 v27∧ZdW.at 25= .slice Yu p1.length Yt∧ZdW.at 26= .int .i64 (p1.length:Int)∧ZdW.at 27= .int .i64 v17) (ZiW v17 Q6) ?_ ?_
   ·clear hL hS;rintro⟨v25,v27⟩ s hL ⟨ZdW,h20,rfl,hS,e22,e23,e24,e26,e28,e29,e30,e31⟩;dsimp only [ZiW] at hL;refine r4 ?_;exact YE.YX (Zhg _ _ hL ⟨_,_,rfl,hS.only sl,XZ⟩)
   ·skip;refine r3 ?_;obtain⟨x32,hx32,hL⟩:=bS hL;obtain⟨b33,o34,_,ZXP,ZOR,ZOC,ZYf⟩:=Sl.at_ Y0 hx32;refine r1 ?_;refine WO.w gN rfl (Qh Zbu Um (Z4 fh rfl) (At.fz hS.fz ZOC ZOR) (j:=0) rfl rfl (ws:= (cE x32)) rfl) ?_;refine r1 ?_;rintro _ h36 ⟨b35,Z2C,rfl,hS⟩;refine r1 ?_;rintro h37 hS;refine r2 ?_;refine WC.KO (r:=r) (fun(v43:Int) s=>∃ K7 h38,s= ⟨K7,[],h38,none⟩∧Sp wm T h [bx wm b1 [.int .i64 p0.qG,.slice Zl p0.Zf.length Zk],bx wm b3 (cE p2),bx wm b35 (cE x32)] h38∧K7.at 1= .slice Yu p1.length Yt∧K7.at 3= .pointer (some ⟨b1,0,none⟩)∧K7.at 5= .pointer (some ⟨b3,0,none⟩)∧K7.at 7= .int .i64 v43∧K7.at 8= .int .i64 v13∧K7.at 10= .pointer (some ⟨b35,0,none⟩)∧K7.at 25= .slice Yu p1.length Yt∧K7.at 26= .int .i64 (p1.length:Int)∧K7.at 27= .int .i64 v17) (ZiV p2 v13 v17 Q6 x32) ?_ ?_
    ·clear hL hS;rintro v43 s hL ⟨K7,h38,rfl,hS,e40,e41,e42,e44,e45,e46,e47,e48,e49⟩;dsimp only [ZiV] at hL;refine r14 ?_;refine cn hL ?_ ?_
     ·intro hc hL;refine r6 ?_;exact Xj.YX _ hL ⟨_,_,rfl,hS.only sl,XZ⟩
     ·intro hc hL;refine r2 ?_;exact Xj.YX _ hL ⟨_,_,rfl,hS.only sl,XZ⟩
    ·skip;refine r16 ?_;refine r12 ?_;refine WO.gv (Zh.no2 rfl rfl rfl (ZJ rfl (Yb rfl (Zi rfl fh)))) rfl (fun hg=>(Zm5 (Q0 (YQ rfl (Zi rfl fh)) rfl hg) (ZoI fh hg) lk)) ?_;refine WO.gv (Zh.yes rfl rfl rfl (ZJ rfl (ZJ rfl fh))) rfl (fun hg=>(ZzX (Q0 (ZJ rfl (YQ rfl fh)) rfl hg) lk (ZoI fh hg))) ?_;refine r3 ?_;refine cn hL ?_ ?_
     ·intro hc hL;refine r5 ?_;exact Xj.YX _ hL ⟨_,_,rfl,hS.only sl,XZ⟩
     ·intro hc hL;refine r1 ?_;exact Xj.YX _ hL ⟨_,_,rfl,hS.only sl,XZ⟩
  ·intro hc hL;refine r5 ?_;refine WC.KO (r:=r) (fun(_:Unit) s=>∃ ZgU h50,s= ⟨ZgU,[],h50,none⟩∧Sp wm T h [] h50) (WV) ?_ ?_
   ·clear hL hS;rintro _ s hL ⟨ZgU,h50,rfl,hS⟩;dsimp only [WV] at hL;refine r6 ?_;exact rt hL hT hS
   ·skip;refine r13 ?_;refine cn hL ?_ ?_
    ·intro hc hL;refine r6 ?_;refine cn hL ?_ ?_
     ·intro hc hL;refine r7 ?_;refine Xj.ret ?_;exact rt hL hT hS
     ·intro hc hL;refine r2 ?_;exact Xj.YX _ hL ⟨_,_,rfl,hS.only .n⟩
    ·intro hc hL;refine r6 ?_;refine cn hL ?_ ?_
     ·intro hc hL;refine r11 ?_;refine cn hL ?_ ?_
      ·intro hc hL;refine r8 ?_;refine Xj.ret ?_;exact rt hL hT hS
      ·intro hc hL;refine r10 ?_;refine WC.loop (WL.lift hL (fun v58 s=>∃ ZdV h52,s= ⟨ZdV,[],h52,none⟩∧Sp wm T h [bx wm b1 [.int .i64 p0.qG,.slice Zl p0.Zf.length Zk],bx wm b3 (cE p2)] h52∧ZdV.at 3= .pointer (some ⟨b1,0,none⟩)∧ZdV.at 5= .pointer (some ⟨b3,0,none⟩)∧ZdV.at 89= .slice Yu p1.length Yt∧ZdV.at 90= .int .i64 (p1.length:Int)∧ZdV.at 91= .int .i64 v58) ⟨_,_,rfl,hS.only sl,XZ⟩ ?_);clear hL hS;rintro Zxl v58 s ZBN hL ⟨ZdV,h52,rfl,hS,e54,e55,e56,e57,e59⟩;dsimp only [ZfV] at hL;refine r6 ?_;refine cn hL ?_ ?_
       ·intro hc hL;refine r6 ?_;obtain⟨x61,ZHC,hL⟩:=bS hL;obtain⟨b62,o63,_,ZXF,ZON,ZOz,ZX7⟩:=Sl.at_ Y0 ZHC;refine r1 ?_;refine WO.w gN rfl (Qh Zbu Um (Z4 fh rfl) (At.fz hS.fz ZOz ZON) (j:=0) rfl rfl (ws:= (cE x61)) rfl) ?_;refine r1 ?_;rintro _ h65 ⟨b64,Z2u,rfl,hS⟩;refine r1 ?_;rintro h66 hS;refine r3 ?_;refine WC.Xd mixed Kq0 ?_;refine r8 ?_;obtain⟨x67,Zqt,hL⟩:=Xh hL;obtain⟨b68,o69,_,hQ⟩:=Sl.atG (fun hg=>Zx) Zqt;have ZyD:=fun hg=>(hQ hg).1
        have ZEz:=fun hg=>(hQ hg).2.1
        have ZOy:=fun hg=>(hQ hg).2.2.1
        have ZX6:=fun hg=>(hQ hg).2.2.2
        refine WX.gv (Zh.yes rfl rfl rfl (YQ rfl fh)) rfl (fun hg=>(Qi Znw KN (Q0 (Yb rfl fh) rfl hg) (Q0 fh rfl hg) rfl (ZyD hg) (Zqt hg))) ?_ rfl;refine r1 ?_;refine WX.gv (Zh.yes rfl rfl rfl (YQ rfl (Yb rfl fh))) rfl (fun hg=>(Qd ZbM (Q0 fh rfl hg) (At.fz hS.fz (ZOy hg) (ZEz hg)) (j:=0) rfl (v:= .int .i64 x67.at_) rfl)) ?_ rfl;refine r4 ?_;obtain⟨x70,ZMy,hL⟩:=Xh hL;obtain⟨b71,o72,_,hQ⟩:=Sl.atG (fun hg=>Zx) ZMy;have ZOc:=fun hg=>(hQ hg).1
        have ZOM:=fun hg=>(hQ hg).2.1
        have ZOx:=fun hg=>(hQ hg).2.2.1
        have ZX4:=fun hg=>(hQ hg).2.2.2
        refine WX.gv (Zh.yes rfl rfl rfl (ZJ rfl (Yb rfl (Zi rfl fh)))) rfl (fun hg=>(Qi Znw KN (Q0 (Yb rfl fh) rfl hg) (Q0 fh rfl hg) rfl (ZOc hg) (ZMy hg))) ?_ rfl;refine r1 ?_;refine WX.gv (Zh.yes rfl rfl rfl (ZJ rfl (YQ rfl (Zi rfl fh)))) rfl (fun hg=>(Qd ZbM (Q0 fh rfl hg) (At.fz hS.fz (ZOx hg) (ZOM hg)) (j:=0) rfl (v:= .int .i64 x70.at_) rfl)) ?_ rfl;refine r8 ?_;obtain⟨x73,ZHB,hL⟩:=Xh hL;refine WX.gcp (Zh.yes rfl rfl rfl (YQ rfl (Zi rfl fh))) rfl (fun hg=>(YS.fn ZN0 (Zb (Q0 (YQ rfl fh) rfl hg) (Zb (Q0 (Yb rfl fh) rfl hg) (Zb (Q0 fh rfl hg) Zj))))) (fun hg=>ZI0 (hS.JD Zx) (ZHB hg)) ?_ rfl rfl;refine r3 ?_;refine cn hL ?_ ?_
        ·intro hc hL;refine r11 ?_;refine Xj.ret ?_;exact rt hL hT hS
        ·intro hc hL;refine r7 ?_;exact YE.YX (ZBN _ _ hL ⟨_,_,rfl,hS.only sl,XZ⟩)
       ·intro hc hL;refine r5 ?_;exact Xj.YX _ hL ⟨_,_,rfl,hS.only .n⟩
     ·intro hc hL;refine r6 ?_;refine cn hL ?_ ?_
      ·intro hc hL;refine r6 ?_;obtain⟨x74,ZR6,hL⟩:=bS hL;refine WO.cp gN rfl (YS.fn Ziy (Zb lk (Zb lk (Zb lk (Zb lk Zj))))) (Zd3 (hS.JD Y0) ZR6) ?_;refine r5 ?_;obtain⟨x75,ZR5,hL⟩:=Xh hL;refine WO.gcp (Zh.no rfl rfl rfl (Yb rfl (Zi rfl fh))) rfl (fun hg=>(YS.fn Ziy (Zb (Q0 (Yb rfl fh) rfl hg) (Zb lk (Zb (Q0 fh rfl hg) (Zb lk Zj)))))) (fun hg=>Zd3 (hS.JD Y0) (ZR5 hg)) ?_;refine r4 ?_;refine cn hL ?_ ?_
       ·intro hc hL;refine r8 ?_;refine Xj.ret ?_;exact rt hL hT hS
       ·intro hc hL;refine r7 ?_;obtain⟨x76,ZHA,hL⟩:=bS hL;refine WO.cl gN rfl (YS.fn ZNJ (Zb lk (Zb lk Zj))) hS .n (fun g' hz hf hO=>ZIH (by rw [hz];exact hS.hw) ((hS.sl Zx).mono hf) ZHA) ?_;rintro _ h80 _ ⟨a77,n78,c79,rfl,rfl⟩ hS;obtain rfl:=hS.on k0;refine r5 ?_;refine WC.loop (WL.lift hL (fun v87 s=>∃ Zuc h82,s= ⟨Zuc,[],h82,none⟩∧Sp wm T h [ow wm (Zq .i64) a77 x76.length c79 x76] h82∧Zuc.at 1= .slice Yu p1.length Yt∧Zuc.at 141= .slice a77 x76.length c79∧Zuc.at 142= .int .i64 (x76.length:Int)∧Zuc.at 143= .int .i64 v87) ⟨_,_,rfl,hS.only sl,XZ⟩ ?_);clear hL hS;rintro Zxj v87 s ZBK hL ⟨Zuc,h82,rfl,hS,e84,e85,e86,e88⟩;dsimp only [ZfU] at hL;refine r6 ?_;refine cn hL ?_ ?_
        ·intro hc hL;refine r6 ?_;obtain⟨x90,hx90,hL⟩:=bS hL;obtain⟨b91,o92,_,ZXz,ZYw,ZXZ⟩:=Src.at_ (hS.UO k0) hx90;refine r9 ?_;obtain⟨x93,hx93,hL⟩:=bS hL;refine WO.cp gN rfl (YS.fn Ziy (Zb lk (Zb lk (Zb lk (Zb lk Zj))))) (Zd3 (hS.JD Y0) hx93) ?_;refine r3 ?_;refine cn hL ?_ ?_
         ·intro hc hL;refine r11 ?_;refine Xj.ret ?_;exact rt hL hT hS
         ·intro hc hL;refine r7 ?_;exact YE.YX (ZBK _ _ hL ⟨_,_,rfl,hS.only sl,XZ⟩)
        ·intro hc hL;refine r5 ?_;exact Xj.YX _ hL ⟨_,_,rfl,hS.only .n⟩
      ·intro hc hL;refine r6 ?_;refine cn hL ?_ ?_
       ·intro hc hL;refine r1 ?_;refine WC.Xd mixed Kq0 ?_;refine r3 ?_;obtain⟨x94,ZR0,hL⟩:=bS hL;refine WX.cp gN rfl (YS.fn Ziy (Zb lk (Zb lk (Zb lk (Zb lk Zj))))) (Zd3 (hS.JD Y0) ZR0) ?_ rfl rfl;refine r7 ?_;obtain⟨x95,hx95,hL⟩:=Xh hL;refine WX.gcp (Zh.no rfl rfl rfl (YQ rfl (Zi rfl fh))) rfl (fun hg=>(YS.fn Ziy (Zb (Q0 (YQ rfl fh) rfl hg) (Zb lk (Zb (Q0 (Yb rfl fh) rfl hg) (Zb (Q0 fh rfl hg) Zj)))))) (fun hg=>Zd3 (hS.JD Y0) (hx95 hg)) ?_ rfl rfl;refine r5 ?_;obtain⟨x96,hx96,hL⟩:=Xh hL;refine WX.gcp (Zh.no rfl rfl rfl (ZJ rfl (Yb rfl (Zi rfl fh)))) rfl (fun hg=>(YS.fn Ziy (Zb (Q0 (YQ rfl fh) rfl hg) (Zb lk (Zb (Q0 (Yb rfl fh) rfl hg) (Zb (Q0 fh rfl hg) Zj)))))) (fun hg=>Zd3 (hS.JD Y0) (hx96 hg)) ?_ rfl rfl;refine r4 ?_;refine cn hL ?_ ?_
        ·intro hc hL;refine r7 ?_;refine Xj.ret ?_;exact rt hL hT hS
        ·intro hc hL;refine r2 ?_;exact Xj.YX _ hL ⟨_,_,rfl,hS.only .n⟩
       ·intro hc hL;refine r2 ?_;exact Xj.YX _ hL ⟨_,_,rfl,hS.only .n⟩
theorem Zzm {F wm h} {p0:QG} {p1:Int} {Zl Zk ZI ZH} {r} (ZP:wm <=h.size) (Zx:Sl Zg wm h Zl Zk p0.qK.Zf) (Xb:Sl Zu wm h ZI ZH p0.before) (hL:Zum F p0 p1=some r):
 WR XX 78 #[.agg [.int .i64 p0.qK.qG,.slice Zl p0.qK.Zf.length Zk,.slice ZI p0.before.length ZH].toArray,.int .i64 p1] wm h (CP (fun(v:Value) (Gb:List (Ast wm))=>v= .bool r∧Gb= []) [] h):=by
 refine bg Tryz.ntmps78 ZP Z7.nil ?_;intro T hT hS;unfold Zum at hL;refine r3 ?_;rintro _ h2 ⟨b1,eb1,rfl,hS⟩;refine r7 ?_;refine WO.w gN rfl (UZ Ztg (ZT lk (ZT lk YU)) rfl (cs':= [.int .i64 5,.int .i64 p1,.int .i64 0,.int .i64 0]) rfl) ?_;obtain⟨x3,hx3,hL⟩:=bS hL;refine WO.cp gN rfl (YS.fn Ziz (Zb lk (Zb lk Zj))) (ZeN (p1:= (Zd.mk 5 p1 0 0)) (hS.JD Zx) (hS.JD Xb) hx3) ?_;refine r5 ?_;exact rt hL hT hS
theorem ZIL {F wm h} {p0:QG} {p1:Zd} {Zl Zk ZI ZH} {r} (ZP:wm <=h.size) (Zx:Sl Zg wm h Zl Zk p0.qK.Zf) (Xb:Sl Zu wm h ZI ZH p0.before) (hL:Zzl F p0 p1=some r):
 WR XX 79 #[.agg [.int .i64 p0.qK.qG,.slice Zl p0.qK.Zf.length Zk,.slice ZI p0.before.length ZH].toArray,.agg [.int .i64 p1.kZ,.int .i64 p1.kV,.int .i64 p1.kX,.int .i64 p1.n].toArray] wm h (CP (fun(v:Value) (Gb:List (Ast wm))=>v= .bool r∧Gb= []) [] h):=by
 refine bg Tryz.ntmps79 ZP Z7.nil ?_;intro T hT hS;unfold Zzl at hL;refine r3 ?_;rintro _ h2 ⟨b1,eb1,rfl,hS⟩;refine r1 ?_;rintro _ h4 ⟨b3,eb3,rfl,hS⟩;refine r16 ?_;refine r1 ?_;refine cn hL ?_ ?_
 ·intro hc hL;refine r5 ?_;obtain⟨x5,hx5,hL⟩:=bS hL;refine WO.cp gN rfl (YS.fn ZyC (Zb lk (Zb lk (Zb lk Zj)))) (Zs2 (hS.JD Zx) (hS.JD Xb) hx5) ?_;refine r6 ?_;exact rt hL hT hS
 ·intro hc hL;refine r6 ?_;refine cn hL ?_ ?_
  ·intro hc hL;refine r9 ?_;refine WO.w gN rfl (UZ Ztg (ZT lk (ZT lk (ZT lk (ZT lk YU)))) rfl (cs':= [.int .i64 1,.int .i64 p1.kX,.int .i64 p1.kV,.int .i64 p1.n]) rfl) ?_;obtain⟨x6,hx6,hL⟩:=bS hL;refine WO.cp gN rfl (YS.fn Ziz (Zb lk (Zb lk Zj))) (ZeN (p1:= (Zd.mk 1 p1.kX p1.kV p1.n)) (hS.JD Zx) (hS.JD Xb) hx6) ?_;refine r5 ?_;obtain⟨x7,hx7,hL⟩:=Xh hL;refine WO.gcp (Zh.no rfl rfl rfl (Yb rfl (Zi rfl fh))) rfl (fun hg=>(YS.fn ZyC (Zb (Q0 (Yb rfl fh) rfl hg) (Zb lk (Zb (Q0 fh rfl hg) Zj))))) (fun hg=>Zs2 (hS.JD Zx) (hS.JD Xb) (hx7 hg)) ?_;refine r7 ?_;exact rt hL hT hS
  ·intro hc hL;refine r9 ?_;exact rt hL hT hS
theorem ZIK {F wm h} {p0:QG} {p1:Zd} {Zl Zk ZI ZH} {r} (ZP:wm <=h.size) (Zx:Sl Zg wm h Zl Zk p0.qK.Zf) (Xb:Sl Zu wm h ZI ZH p0.before) (hL:Zzk F p0 p1=some r):
 WR XX 80 #[.agg [.int .i64 p0.qK.qG,.slice Zl p0.qK.Zf.length Zk,.slice ZI p0.before.length ZH].toArray,.agg [.int .i64 p1.kZ,.int .i64 p1.kV,.int .i64 p1.kX,.int .i64 p1.n].toArray] wm h (CP (fun(v:Value) (Gb:List (Ast wm))=>v= .bool r∧Gb= []) [] h):=by
 refine WF.Zcy (args:= [_,_]) (fn:=Tryz.f80) Kq0 (by exact rfl) Tryz.ntmps80 (by simp) ?_;simp only [ZB,ZK,Nat.reduceAdd];obtain⟨T,hT,hS⟩:∃ T,T=Qs (wm:=wm) []∧Sp wm T h [] h:= ⟨_,rfl,Sp.start ZP Z7.nil⟩
 unfold Zzk at hL;refine r3 ?_;rintro _ h2 ⟨b1,eb1,rfl,hS⟩;refine r1 ?_;rintro _ h4 ⟨b3,eb3,rfl,hS⟩;refine r1 ?_;rintro _ h6 ⟨b5,eb5,rfl,hS⟩;refine r10 ?_;refine cn hL ?_ ?_
 ·intro hc hL;refine r3 ?_;rintro h7 hS;refine r4 ?_;have hr:=Oi0 hL;subst hr;exact Qc.gen rfl (Xl (Yb rfl (Zi rfl fh)) (Qz Zki (hS.U6 k0) (j:=0) rfl (v:= .bool false) rfl) Zr) rfl ⟨_,⟨rfl,rfl⟩,hT ▸ hS.only .n⟩
 ·intro hc hL;refine r9 ?_;refine WO.inl gN rfl (YS.fn Zyt (Zb lk (Zb lk Zj))) (WF.begin (args:= [_,_]) (fn:=Tryz.f57) Kq0 (by exact rfl) Tryz.ntmps57 (by simp) ?_);simp only [ZB,ZK,Nat.reduceAdd];refine r3 ?_;rintro _ h9 ⟨b8,eb8,rfl,hS⟩;refine r1 ?_;rintro _ h11 ⟨b10,Z2N,rfl,hS⟩;refine r5 ?_;refine WO.w gN rfl (KY (Zb lk (Zb lk Zj))) ?_;refine r4 ?_;refine Z8.J4 rfl (ZC lk Zr) ?_;refine r3 ?_;refine WC.ZlD (first:= []) (cap:= [.pointer (some ⟨b8,0,none⟩),.pointer (some ⟨b10,0,none⟩)]) hS lk Zyr ?_;intro h12 l13 ZPz ZQs ZkR hS;refine WR.Zds (r:=r) (fun(p:Bool×Bool) (v:Value) (h17:H)=>match p with | (v19,Zwb)=>v= .tuple [].toArray∧Sp wm T h [bx wm b1 [.int .i64 p0.qK.qG,.slice Zl p0.qK.Zf.length Zk,.slice ZI p0.before.length ZH],bx wm b3 (cE p1),bx wm b5 [.bool v19],bx wm b8 [.int .i64 p0.qK.qG,.slice Zl p0.qK.Zf.length Zk],bx wm b10 [.int .i64 p1.kV],ob wm l13 (lst Zwb Code.ret ZQs),ob wm ZPz .deferred] h17) (Zcl F p0 p1) ?_ (WF.begin (args:= [_,_,_]) (fn:=Tryz.f85) Kq0 (by exact rfl) Tryz.ntmps85 (by simp) ?_)
  ·clear hL hS;rintro⟨v19,Zwb⟩ v h17 hL ⟨rfl,hS⟩;dsimp only [Zcl] at hL;rcases Jv Zwb with hc | hc
   ·replace hL:=QW hc hL;rw [hc] at hS;refine RgS.stop (c:=Code.ret) ZkR hS k5 ?_;rintro h22 hS;refine r3 ?_;refine Qc.Zjq hS k5 ?_;rintro h23 hS;have hr:=Oi0 hL;subst hr;exact Qc.gen rfl (Xl (ZJ rfl fh) (Qz Zki (hS.U6 k2) (j:=0) rfl (v:= .bool v19) rfl) Zr) rfl ⟨_,⟨rfl,rfl⟩,hT ▸ hS.only .n⟩
   ·replace hL:=QX hc hL;rw [hc] at hS;refine RgS.sp ZkR hS k5 ?_;rintro h24 hS;refine r7 ?_;obtain⟨x25,hx25,hL⟩:=bS hL;refine WO.cp gN rfl (YS.fn ZEb (Zb lk (Zb lk Zj))) (WR.YR rfl (Zzm (Nat.le_refl _) (hS.JD Zx) (hS.JD Xb) hx25)) ?_;refine r5 ?_;obtain⟨x26,Zt4,hL⟩:=Xh hL;refine WO.gcp (Zh.no rfl rfl rfl (Yb rfl (Zi rfl fh))) rfl (fun hg=>(YS.fn ZqK (Zb (Q0 (Yb rfl fh) rfl hg) (Zb (Q0 fh rfl hg) Zj)))) (fun hg=>ZmI (hS.JD Zx) (hS.JD Xb) (Zt4 hg)) ?_;refine r2 ?_;rintro h27 hS;refine r3 ?_;refine Qc.Zjq hS k5 ?_;rintro h28 hS;have hr:=Oi0 hL;subst hr;exact Qc.gen rfl (Xl (ZJ rfl (ZJ rfl (Yb rfl (Zi rfl fh)))) (Qz Zki (hS.U6 k0) (j:=0) rfl (v:= .bool ((!x25) || x26)) rfl) Zr) rfl ⟨_,⟨rfl,rfl⟩,hT ▸ hS.only .n⟩
  ·skip;simp only [ZB,ZK,Nat.reduceAdd];refine r9 ?_;refine WC.loop (WL.lift hL (fun p s=>match p with | (v35,v37,ZtC)=>∃ Zci h29,s= ⟨Zci,[],h29,none⟩∧Sp wm T h [bx wm b10 [.int .i64 p1.kV],bx wm b1 [.int .i64 p0.qK.qG,.slice Zl p0.qK.Zf.length Zk,.slice ZI p0.before.length ZH],bx wm b3 (cE p1),bx wm b5 [.bool v37],bx wm b8 [.int .i64 p0.qK.qG,.slice Zl p0.qK.Zf.length Zk],ob wm l13 (lst ZtC Code.ret ZQs),ob wm ZPz .deferred] h29∧Zci.at 0= .func (.yield l13) #[] #[]∧Zci.at 2= .pointer (some ⟨b10,0,none⟩)∧Zci.at 7= .slice Zl p0.qK.Zf.length Zk∧Zci.at 8= .int .i64 (p0.qK.Zf.length:Int)∧Zci.at 9= .int .i64 v35) ⟨_,_,rfl,hS.only sl,XZ⟩ ?_);clear hL hS;rintro ZlL ⟨v35,v37,ZtC⟩ s ZlW hL ⟨Zci,h29,rfl,hS,e31,e32,e33,e34,e36⟩;dsimp only [ZiS] at hL;refine r6 ?_;refine cn hL ?_ ?_
   ·intro hc hL;refine r7 ?_;obtain⟨x40,Zt3,hL⟩:=bS hL;obtain⟨b41,o42,_,ZEk,ZEA,ZOA,ZYd⟩:=Sl.at_ Zx Zt3;refine r1 ?_;refine WO.w gN rfl (Qh ZjA KN (Z4 fh rfl) (At.fz hS.fz ZOA ZEA) (j:=0) rfl rfl (ws:= (cP x40)) rfl) ?_;refine r1 ?_;rintro _ h44 ⟨b43,ZUE,rfl,hS⟩;refine r2 ?_;rintro h45 hS;refine r11 ?_;refine WO.Zcg (Zh.yes rfl rfl rfl (Yb rfl fh)) (fun ZfI=>?_) (fun ZfI=>?_)
    ·replace hL:=QW ZfI hL;obtain⟨hc47,hL⟩:=Zhs hL;rw [hc47] at hS;refine WO.ZAM (Zh.on (Zh.yes rfl rfl rfl (Yb rfl fh)) ZfI) rfl (Q0 (Zi rfl fh) rfl ZfI) (Zb (Q0 fh rfl ZfI) Zj) hS k6 ZkR rfl rfl ?_;refine r3 ?_;refine AsS.sp ZkR hS k6 ?_;rintro h48 hS;refine r5 ?_;obtain⟨x49,ZeF,hL⟩:=bS hL;refine WO.cp gN rfl (YS.fn ZqK (Zb lk (Zb lk Zj))) (ZmI (hS.JD Zx) (hS.JD Xb) ZeF) ?_;refine r3 ?_;refine cn hL ?_ ?_
     ·intro hc hL;refine r3 ?_;rintro h50 hS;refine r4 ?_;refine BdS.stop .ret ZkR hS k1 ?_;rintro h51 hS;refine WO.w (Zh.on (Zh.yes rfl rfl rfl (Yb rfl (Zi rfl fh))) ZfI) rfl (Zgg lk) ?_;refine WO.w gN rfl (Zbg lk ZfI lk) ?_;refine r2 ?_;refine cn hL ?_ ?_
      ·intro hc hL;refine r5 ?_;exact Z8.gen (vs:= []) rfl Zr rfl ⟨_,hL,⟨rfl,hS.only sl⟩⟩
      ·intro hc hL;refine r7 ?_;exact YE.YX (ZlW _ _ hL ⟨_,_,rfl,hS.only sl,XZ⟩)
     ·intro hc hL;refine r2 ?_;refine BdS.sp ZkR hS k0 ?_;rintro h52 hS;refine WO.w (Zh.on (Zh.yes rfl rfl rfl (Yb rfl (Zi rfl fh))) ZfI) rfl (Zgg lk) ?_;refine WO.w gN rfl (Zbg lk ZfI lk) ?_;refine r2 ?_;refine cn hL ?_ ?_
      ·intro hc hL;refine r5 ?_;exact Z8.gen (vs:= []) rfl Zr rfl ⟨_,hL,⟨rfl,hS.only sl⟩⟩
      ·intro hc hL;refine r7 ?_;exact YE.YX (ZlW _ _ hL ⟨_,_,rfl,hS.only sl,XZ⟩)
    ·replace hL:=QX ZfI hL;refine WO.JH (Zh.yes rfl rfl rfl (Yb rfl fh)) ZfI rfl ?_;refine WO.JH (Zh.yes rfl rfl rfl (Yb rfl (Zi rfl fh))) ZfI rfl ?_;refine WO.w gN rfl (Zd8 lk ZfI lk) ?_;refine r2 ?_;refine WC.Zf9 lk rfl ?_;refine r7 ?_;exact YE.YX (ZlW _ _ hL ⟨_,_,rfl,hS.only sl,XZ⟩)
   ·intro hc hL;refine r4 ?_;refine Z8.YX ?_;exact Z8.gen (vs:= []) rfl Zr rfl ⟨_,hL,⟨rfl,hS.only sl⟩⟩
theorem ZIJ {F wm h} {p0:QG} {p1:Zd} {Zl Zk ZI ZH} {r} (ZP:wm <=h.size) (Zx:Sl Zg wm h Zl Zk p0.qK.Zf) (Xb:Sl Zu wm h ZI ZH p0.before) (hL:Zzj F p0 p1=some r):
 WR XX 81 #[.agg [.int .i64 p0.qK.qG,.slice Zl p0.qK.Zf.length Zk,.slice ZI p0.before.length ZH].toArray,.agg [.int .i64 p1.kZ,.int .i64 p1.kV,.int .i64 p1.kX,.int .i64 p1.n].toArray] wm h (CP (fun(v:Value) (Gb:List (Ast wm))=>v= .bool r∧Gb= []) [] h):=by
 refine bg Tryz.ntmps81 ZP Z7.nil ?_;intro T hT hS;unfold Zzj at hL;refine r3 ?_;rintro _ h2 ⟨b1,eb1,rfl,hS⟩;refine r1 ?_;rintro _ h4 ⟨b3,eb3,rfl,hS⟩;refine r11 ?_;refine cn hL ?_ ?_
 ·intro hc hL;refine r7 ?_;exact rt hL hT hS
 ·intro hc hL;refine r6 ?_;rintro _ h6 ⟨b5,eb5,rfl,hS⟩;refine r1 ?_;rintro h7 hS;refine r6 ?_;rintro h8 hS;refine r3 ?_;refine WC.Xd mixed Kq0 ?_;refine r3 ?_;obtain⟨x9,hx9,hL⟩:=bS hL;refine WX.cp gN rfl (YS.fn ZqK (Zb lk (Zb lk Zj))) (ZmI (hS.JD Zx) (hS.JD Xb) hx9) ?_ rfl rfl;refine r4 ?_;obtain⟨x10,ZSi,hL⟩:=Xh hL;refine WX.gcp (Zh.no rfl rfl rfl (Yb rfl fh)) rfl (fun hg=>(YS.fn Ziz (Zb (Q0 (Zi rfl fh) rfl hg) (Zb (Q0 fh rfl hg) Zj)))) (fun hg=>ZeN (hS.JD Zx) (hS.JD Xb) (ZSi hg)) ?_ rfl rfl;refine r2 ?_;obtain⟨WN,Zqv,hL⟩:=Xh hL;refine WX.gcp (Zh.no rfl rfl rfl (YQ rfl (Zi rfl fh))) rfl (fun hg=>(YS.fn Ziz (Zb (Q0 (Zi rfl fh) rfl hg) (Zb (Q0 fh rfl hg) Zj)))) (fun hg=>ZeN (p1:= (Zd.mk 3 p1.kV p1.kX p1.n)) (hS.JD Zx) (hS.JD Xb) (Zqv hg)) ?_ rfl rfl;refine r6 ?_;exact rt hL hT hS
end
end Go.Proofs.YtcnahmgekicbdaaGreat
end
end
