/- Part 10. -/
import Derived.Shelf.Sort.Plain
import Derived.Test.YtcnahmgekicbdaaGreatOa9
set_option linter.all false
set_option maxHeartbeats 2000000
section
noncomputable section
namespace Go.YF
open Go.Lf
variable {X:Ctx} {f:FuncId} {wm wm0:Nat} {h:H} {i o c:Nat} {cs:List Value} {xs:List Int}
theorem ZtY (he:Qn (Zm .i64) wm0 h cs o xs) {j:Nat} (hj:j < xs.length):cs[o + j]? =some (.int .i64 xs[j]):=by
 obtain⟨q,h1,_⟩:=he.get j xs[j] (List.getElem?_eq_getElem hj);have h1:(cs.drop (o + j * 1)).take 1= [.int .i64 xs[j]]:=h1;rw [Nat.mul_one] at h1;have:=congrArg (fun l=>l[0]?) h1
 simpa [List.getElem?_take,List.getElem?_drop] using this
end Go.YF
end
end
section
set_option maxRecDepth 100000
noncomputable section
namespace Go.Proofs.YtcnahmgekicbdaaGreat
open Go.YF Go.Lf
section
end
section
def ZeH (v28:Int) (U8:(Int×Int ->Option Int)):Int×Int×Bool ->Option Int:=fun(v47,v48,ZtC)=>
 (bif ZtC then some v47 else U8 (Yx (v28 + 1),v47))
def Zhn (p0:Zc) (v28:Int) (U8:(Int×Int ->Option Int)):Int×Int×Int×Bool ->(Int×Int×Int×Bool ->Option Int) ->Option Int:=fun(v62,v64,v65,ZtB) Zob=>
 (bif decide (v62 >=0) then(bif ZtB then none else(bif decide ((Yx (v65 + 1)) > (p0.Ze.length:Int)) then(bif(!false) then(ZeH v28 U8) (2,Yx (v65 + 1),true) else(ZJ p0.Ze v62).bind fun x73=>Zob (x73.Uw,2,Yx (v65 + 1),true)) else(bif(!true) then(ZeH v28 U8) (v64,Yx (v65 + 1),false) else(ZJ p0.Ze v62).bind fun x77=>Zob (x77.Uw,v64,Yx (v65 + 1),false)))) else(ZeH v28 U8) (v64,v65,ZtB))
def ZeI (F:Nat) (p0:Zc):Int×Int ->(Int×Int ->Option Int) ->Option Int:=fun(v28,v30) U8=>
 (bif decide (v28 < (p0.Ze.length:Int)) then(ZJ p0.Ze v28).bind fun x55=>loop F (Zhn p0 v28 U8) (x55.Uw,v30,0,false) else some 0)
def Zho (F:Nat) (p0:Zc):Int ->(Int ->Option Int) ->Option Int:=fun v12 ZuP=>
 (bif decide (v12 < (p0.Ze.length:Int)) then(ZJ p0.Ze v12).bind fun x15=>(gd ((!((decide (x15.at_ < 0)) || (decide (x15.at_ >=p0.qG)))) && (x15.Uw != (-1))) (ZkD p0 x15.Uw) default).bind fun x21=>(bif(((decide (x15.at_ < 0)) || (decide (x15.at_ >=p0.qG))) || ((x15.Uw != (-1)) && (!x21))) then some 2 else ZuP (Yx (v12 + 1))) else loop F (ZeI F p0) (0,0))
def Zwx (F:Nat) (p0:Zc):Option Int:=
 (bif((((decide (p0.qG < 1)) || (decide (p0.qG > 4))) || (decide ((p0.Ze.length:Int) < 1))) || (decide ((p0.Ze.length:Int) > 8))) then some 2 else loop F (Zho F p0) 0)
end
section
theorem ZFj {F wm h} {p0:Zc} {Zr Zq} {r} (ZK:wm <=h.size) (Z4:Sl Zi wm h Zr Zq p0.Ze) (hL:Zwx F p0=some r):
 WR XX 34 #[.agg [.int .i64 p0.qG,.slice Zr p0.Ze.length Zq].toArray] wm h (CP (fun(v:Value) (Gb:List (Ast wm))=>v= .int .i64 r∧Gb= []) [] h):=by
 refine WF.ZeX (args:= [_]) (fn:=Tryz.f34) Kq0 (by exact rfl) Tryz.ntmps34 (by simp) ?_;simp only [ZH,ZU,Nat.reduceAdd];obtain⟨T,hT,hS⟩:∃ T,T=Qa (wm:=wm) []∧Sp wm T h [] h:= ⟨_,rfl,Sp.start ZK Z5.nil⟩
 unfold Zwx at hL;refine r3 ?_;rintro _ h2 ⟨b1,eb1,rfl,hS⟩;refine r1 ?_;rintro _ h4 ⟨b3,eb3,rfl,hS⟩;refine r16 ?_;refine r11 ?_;refine cn hL ?_ ?_
 ·intro hc hL;refine r3 ?_;rintro h5 hS;refine r4 ?_;have hr:=Oi0 hL;subst hr;exact QG.gen rfl (Qr (ZA rfl (ZA rfl (YJ rfl fh))) (WS Znk (hS.Wm k0) (j:=0) rfl (v:= .int .i64 2) rfl) Zu) rfl ⟨_,⟨rfl,rfl⟩,hT ▸ hS.only .n⟩
 ·intro hc hL;refine r12 ?_;refine WC.loop (WL.lift hL (fun v12 s=>∃ fr7 h6,s= ⟨fr7,[],h6,none⟩∧Sp wm T h [bx wm b1 [.int .i64 p0.qG,.slice Zr p0.Ze.length Zq],bx wm b3 [.int .i64 0]] h6∧fr7.at 1= .pointer (some ⟨b1,0,none⟩)∧fr7.at 2= .pointer (some ⟨b3,0,none⟩)∧fr7.at 28= .slice Zr p0.Ze.length Zq∧fr7.at 29= .int .i64 (p0.Ze.length:Int)∧fr7.at 30= .int .i64 v12) ⟨_,_,rfl,hS.only sl,JN⟩ ?_);clear hL hS;rintro ZuP v12 s Zy0 hL ⟨fr7,h6,rfl,hS,e8,e9,e10,e11,e13⟩;dsimp only [Zho] at hL;refine r6 ?_;refine cn hL ?_ ?_
  ·intro hc hL;refine r6 ?_;obtain⟨x15,ZrO,hL⟩:=bS hL;obtain⟨b16,o17,_,ZBk,Zv1,ZvY,ZKx⟩:=Sl.at_ Z4 ZrO;refine r1 ?_;refine WO.w gN rfl (J2 Znj Zgf (ZV fh rfl) (At.fz hS.fz ZvY Zv1) (j:=0) rfl rfl (ws:= (cP x15)) rfl) ?_;refine r1 ?_;rintro _ h19 ⟨b18,ZXJ,rfl,hS⟩;refine r1 ?_;rintro h20 hS;refine r16 ?_;refine r6 ?_;obtain⟨x21,Zvh,hL⟩:=Q8 hL;refine WO.gcp (Zh.ZxS rfl rfl rfl (Z9 rfl (Zf rfl fh))) rfl (fun hg=>(Y8.fn ZvM (Zb (UL (Z9 rfl fh) rfl hg) (Zb (UL fh rfl hg) Zo)))) (fun hg=>ZoT (hS.slu Z4) (Zvh hg)) ?_;refine r1 ?_;refine WO.gv (Zh.no rfl rfl rfl (ZA rfl (Zf rfl fh))) rfl (fun hg=>(ZeZ (UL (YJ rfl (Zf rfl fh)) rfl hg) (Zjo fh hg) lk)) ?_;refine r3 ?_;refine cn hL ?_ ?_
   ·intro hc hL;refine r3 ?_;rintro h22 hS;refine r8 ?_;have hr:=Oi0 hL;subst hr;exact QG.gen rfl (Qr (ZA rfl (ZA rfl (ZA rfl (Z9 rfl e9)))) (WS Znk (hS.Wm k0) (j:=0) rfl (v:= .int .i64 2) rfl) Zu) rfl ⟨_,⟨rfl,rfl⟩,hT ▸ hS.only .n⟩
   ·intro hc hL;refine r7 ?_;exact Y0.XK (Zy0 _ _ hL ⟨_,_,rfl,hS.only sl,JN⟩)
  ·intro hc hL;refine r15 ?_;have hS:=hS.ZQz;refine WC.loop (WL.lift hL (fun p s=>match p with | (v28,v30)=>∃ ZrV h23,∃ (ZrK:List Nat),s= ⟨ZrV,(ZLv ZrK ++ []),h23,none⟩∧Sp wm T h [bx wm b1 [.int .i64 p0.qG,.slice Zr p0.Ze.length Zq],bx wm b3 [.int .i64 v30],cds wm ZrK] h23∧ZrV.at 1= .pointer (some ⟨b1,0,none⟩)∧ZrV.at 2= .pointer (some ⟨b3,0,none⟩)∧ZrV.at 59= .int .i64 (p0.Ze.length:Int)∧ZrV.at 60= .int .i64 v28) ⟨_,_,[],rfl,hS.only sl,JN⟩ ?_);clear hL hS;rintro U8 ⟨v28,v30⟩ s Zj9 hL ⟨ZrV,h23,ZrK,rfl,hS,e25,e26,e27,e29⟩;dsimp only [ZeI] at hL;refine r6 ?_;refine cn hL ?_ ?_
   ·intro hc hL;refine r13 ?_;rintro _ h34 ⟨b33,ZQn,rfl,hS⟩;refine r1 ?_;rintro h35 hS;refine r6 ?_;refine WO.inl gN rfl (Y8.fn ZqD (Zb lk (Zb lk Zo))) (WF.begin (args:= [_,_]) (fn:=Tryz.f55) Kq0 (by exact rfl) Tryz.ntmps55 (by simp) ?_);simp only [ZH,ZU,Nat.reduceAdd];refine r3 ?_;rintro _ h37 ⟨b36,ZXE,rfl,hS⟩;refine r1 ?_;rintro _ h39 ⟨b38,ZXD,rfl,hS⟩;refine r5 ?_;refine WO.w gN rfl (ZbI (Zb lk (Zb lk Zo))) ?_;refine r4 ?_;refine Yd.U9 rfl (ZW lk Zu) ?_;refine r3 ?_;refine WC.ZtX (first:= []) (cap:= [.pointer (some ⟨b36,0,none⟩),.pointer (some ⟨b38,0,none⟩)]) hS lk ZqC ?_;intro h40 l41 ZFB ZMe Zi9 hS;refine WR.Zes (r:=r) (fun(p:Int×Int×Bool) (v:Value) (h45:H)=>match p with | (v47,v48,ZtC)=>v= .tuple [].toArray∧Sp wm T h [bx wm b1 [.int .i64 p0.qG,.slice Zr p0.Ze.length Zq],bx wm b3 [.int .i64 v47],bx wm b33 [.int .i64 v48],bx wm b36 [.int .i64 p0.qG,.slice Zr p0.Ze.length Zq],bx wm b38 [.int .i64 v28],cds wm ZrK,ob wm l41 (lst ZtC Code.ret ZMe),ob wm ZFB .deferred] h45) (ZeH v28 U8) ?_ (WF.begin (args:= [_,_,_]) (fn:=Tryz.f84) Kq0 (by exact rfl) Tryz.ntmps84 (by simp) ?_)
    ·clear hL hS;rintro⟨v47,v48,ZtC⟩ v h45 hL ⟨rfl,hS⟩;dsimp only [ZeH] at hL;rcases JZ ZtC with hc | hc
     ·replace hL:=Q9 hc hL;rw [hc] at hS;refine RgS.stop (c:=Code.ret) Zi9 hS k6 ?_;rintro h51 hS;refine r7 ?_;refine QG.ZmZ hS k6 ?_;rintro h52 hS;refine QG.ZwN hS k5 ?_;rintro h53 hS;have hr:=Oi0 hL;subst hr;exact QG.gen rfl (Qr (YJ rfl (Z9 rfl (Zf rfl e26))) (WS Znk (hS.Wm k1) (j:=0) rfl (v:= .int .i64 v47) rfl) Zu) rfl ⟨_,⟨rfl,rfl⟩,hT ▸ hS.only .n⟩
     ·replace hL:=Ja hc hL;rw [hc] at hS;refine RgS.sp Zi9 hS k6 ?_;rintro h54 hS;refine r7 ?_;have hS:=hS.ZQy k6 k5;exact Y0.XK (Zj9 _ _ hL ⟨_,_,(ZFB::ZrK),rfl,hS.only sl,JN⟩)
    ·skip;simp only [ZH,ZU,Nat.reduceAdd];refine r5 ?_;obtain⟨x55,ZNY,hL⟩:=bS hL;obtain⟨b56,o57,_,ZTb,ZTO,ZTE,ZTt⟩:=Sl.at_ Z4 ZNY;refine r7 ?_;refine WC.loop (WL.lift hL (fun p s=>match p with | (v62,v64,v65,ZtB)=>∃ Zv7 h58,s= ⟨Zv7,[],h58,none⟩∧Sp wm T h [bx wm b36 [.int .i64 p0.qG,.slice Zr p0.Ze.length Zq],bx wm b1 [.int .i64 p0.qG,.slice Zr p0.Ze.length Zq],bx wm b3 [.int .i64 v64],bx wm b33 [.int .i64 v65],bx wm b38 [.int .i64 v28],cds wm ZrK,ob wm l41 (lst ZtB Code.ret ZMe),ob wm ZFB .deferred] h58∧Zv7.at 0= .func (.yield l41) #[] #[]∧Zv7.at 1= .pointer (some ⟨b36,0,none⟩)∧Zv7.at 4= .int .i64 v62) ⟨_,_,rfl,hS.only sl,JN⟩ ?_);clear hL hS;rintro Zob ⟨v62,v64,v65,ZtB⟩ s Zqw hL ⟨Zv7,h58,rfl,hS,e60,e61,e63⟩;dsimp only [Zhn] at hL;refine r7 ?_;refine cn hL ?_ ?_
     ·intro hc hL;refine r8 ?_;obtain⟨ZrQ,hL⟩:=Zq4 hL;rw [ZrQ] at hS;refine WO.ZGZ gN rfl lk lks hS k6 Zi9 rfl rfl ?_;refine r1 ?_;refine AsS.sp Zi9 hS k6 ?_;rintro h69 hS;refine r6 ?_;rintro h70 hS;refine r11 ?_;refine cn hL ?_ ?_
      ·intro hc hL;refine r3 ?_;rintro h71 hS;refine r4 ?_;refine BdS.stop .ret Zi9 hS k2 ?_;rintro h72 hS;refine r3 ?_;refine cn hL ?_ ?_
       ·intro hc hL;refine r5 ?_;exact Yd.gen (vs:= []) rfl Zu rfl ⟨_,hL,⟨rfl,hS.only sl⟩⟩
       ·intro hc hL;refine r7 ?_;obtain⟨x73,ZEc,hL⟩:=bS hL;obtain⟨b74,o75,_,ZKb,ZKK,ZTD,ZKq⟩:=Sl.at_ Z4 ZEc;refine r5 ?_;exact Y0.XK (Zqw _ _ hL ⟨_,_,rfl,hS.only sl,JN⟩)
      ·intro hc hL;refine r2 ?_;refine BdS.sp Zi9 hS k1 ?_;rintro h76 hS;refine r3 ?_;refine cn hL ?_ ?_
       ·intro hc hL;refine r5 ?_;exact Yd.gen (vs:= []) rfl Zu rfl ⟨_,hL,⟨rfl,hS.only sl⟩⟩
       ·intro hc hL;refine r7 ?_;obtain⟨x77,ZNS,hL⟩:=bS hL;obtain⟨b78,o79,_,ZTa,ZTM,ZTC,ZTs⟩:=Sl.at_ Z4 ZNS;refine r5 ?_;exact Y0.XK (Zqw _ _ hL ⟨_,_,rfl,hS.only sl,JN⟩)
     ·intro hc hL;refine r4 ?_;refine Yd.XK ?_;exact Yd.gen (vs:= []) rfl Zu rfl ⟨_,hL,⟨rfl,hS.only sl⟩⟩
   ·intro hc hL;refine r8 ?_;rintro h80 hS;refine r3 ?_;refine QG.ZwN hS k2 ?_;rintro h81 hS;have hr:=Oi0 hL;subst hr;exact QG.gen rfl (Qr (Zf rfl e26) (WS Znk (hS.Wm k0) (j:=0) rfl (v:= .int .i64 0) rfl) Zu) rfl ⟨_,⟨rfl,rfl⟩,hT ▸ hS.only .n⟩
end
section
end
section
end
end Go.Proofs.YtcnahmgekicbdaaGreat
end
end
