/- Part 10. -/
import Derived.Shelf.Sort.Plain
import Derived.Test.YtcnahmgekicbdaaGreatPb9
set_option linter.all false
set_option maxHeartbeats 2000000
section
noncomputable section
namespace Go.Xr
open Go.Lf
variable {X:Ctx} {f:FuncId} {wm wm0:Nat} {h:H} {i o c:Nat} {cs:List Value} {xs:List Int}
theorem ZxZ (he:QY (Zl .i64) wm0 h cs o xs) {j:Nat} (hj:j < xs.length):cs[o + j]? =some (.int .i64 xs[j]):=by
 obtain⟨q,h1,_⟩:=he.get j xs[j] (List.getElem?_eq_getElem hj);have h1:(cs.drop (o + j * 1)).take 1= [.int .i64 xs[j]]:=h1;rw [Nat.mul_one] at h1;have:=congrArg (fun l=>l[0]?) h1
 simpa [List.getElem?_take,List.getElem?_drop] using this
end Go.Xr
end
end
section
set_option maxRecDepth 100000
noncomputable section
namespace Go.Proofs.YtcnahmgekicbdaaGreat
open Go.Xr Go.Lf
section
end
section
def Zga (v28:Int) (Kr:(Int×Int ->Option Int)):Int×Int×Bool ->Option Int:=fun(v47,v48,ZxE)=>
 (bif ZxE then some v47 else Kr (Yd (v28 + 1),v47))
def ZiY (p0:Zc) (v28:Int) (Kr:(Int×Int ->Option Int)):Int×Int×Int×Bool ->(Int×Int×Int×Bool ->Option Int) ->Option Int:=fun(v62,v64,v65,ZxD) Zrv=>
 (bif decide (v62 >=0) then(bif ZxD then none else(bif decide ((Yd (v65 + 1)) > (p0.Zh.length:Int)) then(bif(!false) then(Zga v28 Kr) (2,Yd (v65 + 1),true) else(ZL p0.Zh v62).bind fun x73=>Zrv (x73.Xw,2,Yd (v65 + 1),true)) else(bif(!true) then(Zga v28 Kr) (v64,Yd (v65 + 1),false) else(ZL p0.Zh v62).bind fun x77=>Zrv (x77.Xw,v64,Yd (v65 + 1),false)))) else(Zga v28 Kr) (v64,v65,ZxD))
def Zgb (F:Nat) (p0:Zc):Int×Int ->(Int×Int ->Option Int) ->Option Int:=fun(v28,v30) Kr=>
 (bif decide (v28 < (p0.Zh.length:Int)) then(ZL p0.Zh v28).bind fun x55=>loop F (ZiY p0 v28 Kr) (x55.Xw,v30,0,false) else some 0)
def ZiZ (F:Nat) (p0:Zc):Int ->(Int ->Option Int) ->Option Int:=fun v12 ZyP=>
 (bif decide (v12 < (p0.Zh.length:Int)) then(ZL p0.Zh v12).bind fun x15=>(gd ((!((decide (x15.at_ < 0)) || (decide (x15.at_ >=p0.qG)))) && (x15.Xw != (-1))) (ZmU p0 x15.Xw) default).bind fun x21=>(bif(((decide (x15.at_ < 0)) || (decide (x15.at_ >=p0.qG))) || ((x15.Xw != (-1)) && (!x21))) then some 2 else ZyP (Yd (v12 + 1))) else loop F (Zgb F p0) (0,0))
def ZBJ (F:Nat) (p0:Zc):Option Int:=
 (bif((((decide (p0.qG < 1)) || (decide (p0.qG > 4))) || (decide ((p0.Zh.length:Int) < 1))) || (decide ((p0.Zh.length:Int) > 8))) then some 2 else loop F (ZiZ F p0) 0)
end
section
theorem ZLL {F wm h} {p0:Zc} {Zo Zn} {r} (Yb:wm <=h.size) (ZA:Sl Zj wm h Zo Zn p0.Zh) (hL:ZBJ F p0=some r):
 WR XX 34 #[.agg [.int .i64 p0.qG,.slice Zo p0.Zh.length Zn].toArray] wm h (CP (fun(v:Value) (Gb:List (Ast wm))=>v= .int .i64 r/\Gb= []) [] h):=by
 refine WF.Zgl (args:= [_]) (fn:=Tryz.f34) Kq0 (by exact rfl) Tryz.ntmps34 (by simp) ?_;simp only [Yl,Yr,Nat.reduceAdd];obtain⟨T,hT,hS⟩:∃ T,T=X8 (wm:=wm) []/\Sp wm T h [] h:= ⟨_,rfl,Sp.start Yb Yn.nil⟩
 unfold ZBJ at hL;refine r3 ?_;rintro _ h2 ⟨b1,eb1,rfl,hS⟩;refine r1 ?_;rintro _ h4 ⟨b3,eb3,rfl,hS⟩;refine r16 ?_;refine Kq ?_;refine cn hL ?_ ?_
 ·intro hc hL;refine r3 ?_;rintro h5 hS;refine r4 ?_;have hr:=Oi0 hL;subst hr;exact Jz.gen rfl (Uk (ZW rfl (ZW rfl (XB rfl fh))) (KX ZqC (hS.QT k0) (j:=0) rfl (v:= .int .i64 2) rfl) Zu) rfl ⟨_,⟨rfl,rfl⟩,hT ▸ hS.only .n⟩
 ·intro hc hL;refine r12 ?_;refine WC.loop (WL.lift hL (fun v12 s=>∃ fr7 h6,s= ⟨fr7,[],h6,none⟩/\Sp wm T h [bx wm b1 [.int .i64 p0.qG,.slice Zo p0.Zh.length Zn],bx wm b3 [.int .i64 0]] h6/\fr7.at 1= .pointer (some ⟨b1,0,none⟩)/\fr7.at 2= .pointer (some ⟨b3,0,none⟩)/\fr7.at 28= .slice Zo p0.Zh.length Zn/\fr7.at 29= .int .i64 (p0.Zh.length:Int)/\fr7.at 30= .int .i64 v12) ⟨_,_,rfl,hS.only sl,Qm⟩ ?_);clear hL hS;rintro ZyP v12 s ZEs hL ⟨fr7,h6,rfl,hS,e8,e9,e10,e11,e13⟩;dsimp only [ZiZ] at hL;refine r6 ?_;refine cn hL ?_ ?_
  ·intro hc hL;refine r6 ?_;obtain⟨x15,Zo8,hL⟩:=bS hL;obtain⟨b16,o17,_,ZHu,ZAX,ZAV,ZSu⟩:=Sl.at_ ZA Zo8;refine r1 ?_;refine WO.w gN rfl (QH Zlw ZfE (Yc fh rfl) (At.fz hS.fz ZAV ZAX) (j:=0) rfl rfl (ws:= (cP x15)) rfl) ?_;refine r1 ?_;rintro _ h19 ⟨b18,YaK,rfl,hS⟩;refine r1 ?_;rintro h20 hS;refine r16 ?_;refine r6 ?_;obtain⟨x21,Zo5,hL⟩:=XL hL;refine WO.gcp (Zf.ZDd rfl rfl rfl (YB rfl (Zq rfl fh))) rfl (fun hg=>(Xm.fn ZAm (Zb (QW (YB rfl fh) rfl hg) (Zb (QW fh rfl hg) Zm)))) (fun hg=>Zsi (hS.Wy ZA) (Zo5 hg)) ?_;refine r1 ?_;refine WO.gv (Zf.no rfl rfl rfl (ZW rfl (Zq rfl fh))) rfl (fun hg=>(ZnD (QW (XB rfl (Zq rfl fh)) rfl hg) (Zuj fh hg) lk)) ?_;refine r3 ?_;refine cn hL ?_ ?_
   ·intro hc hL;refine r3 ?_;rintro h22 hS;refine r8 ?_;have hr:=Oi0 hL;subst hr;exact Jz.gen rfl (Uk (ZW rfl (ZW rfl (ZW rfl (YB rfl e9)))) (KX ZqC (hS.QT k0) (j:=0) rfl (v:= .int .i64 2) rfl) Zu) rfl ⟨_,⟨rfl,rfl⟩,hT ▸ hS.only .n⟩
   ·intro hc hL;refine r7 ?_;exact Xp.XC (ZEs _ _ hL ⟨_,_,rfl,hS.only sl,Qm⟩)
  ·intro hc hL;refine r15 ?_;have hS:=hS.Z1h;refine WC.loop (WL.lift hL (fun p s=>match p with | (v28,v30)=>∃ ZvD h23,∃ (Zvi:List Nat),s= ⟨ZvD,(ZTv Zvi ++ []),h23,none⟩/\Sp wm T h [bx wm b1 [.int .i64 p0.qG,.slice Zo p0.Zh.length Zn],bx wm b3 [.int .i64 v30],cds wm Zvi] h23/\ZvD.at 1= .pointer (some ⟨b1,0,none⟩)/\ZvD.at 2= .pointer (some ⟨b3,0,none⟩)/\ZvD.at 59= .int .i64 (p0.Zh.length:Int)/\ZvD.at 60= .int .i64 v28) ⟨_,_,[],rfl,hS.only sl,Qm⟩ ?_);clear hL hS;rintro Kr ⟨v28,v30⟩ s Zmj hL ⟨ZvD,h23,Zvi,rfl,hS,e25,e26,e27,e29⟩;dsimp only [Zgb] at hL;refine r6 ?_;refine cn hL ?_ ?_
   ·intro hc hL;refine r13 ?_;rintro _ h34 ⟨b33,ZTc,rfl,hS⟩;refine r1 ?_;rintro h35 hS;refine r6 ?_;refine WO.inl gN rfl (Xm.fn ZtU (Zb lk (Zb lk Zm))) (WF.begin (args:= [_,_]) (fn:=Tryz.f55) Kq0 (by exact rfl) Tryz.ntmps55 (by simp) ?_);simp only [Yl,Yr,Nat.reduceAdd];refine r3 ?_;rintro _ h37 ⟨b36,YaF,rfl,hS⟩;refine r1 ?_;rintro _ h39 ⟨b38,YaE,rfl,hS⟩;refine r5 ?_;refine WO.w gN rfl (ZcV (Zb lk (Zb lk Zm))) ?_;refine r4 ?_;refine Z8.UM rfl (YA lk Zu) ?_;refine r3 ?_;refine WC.ZxW (first:= []) (cap:= [.pointer (some ⟨b36,0,none⟩),.pointer (some ⟨b38,0,none⟩)]) hS lk ZtS ?_;intro h40 l41 ZL2 ZUJ Zk6 hS;refine WR.ZeY (r:=r) (fun(p:Int×Int×Bool) (v:Value) (h45:H)=>match p with | (v47,v48,ZxE)=>v= .tuple [].toArray/\Sp wm T h [bx wm b1 [.int .i64 p0.qG,.slice Zo p0.Zh.length Zn],bx wm b3 [.int .i64 v47],bx wm b33 [.int .i64 v48],bx wm b36 [.int .i64 p0.qG,.slice Zo p0.Zh.length Zn],bx wm b38 [.int .i64 v28],cds wm Zvi,ob wm l41 (lst ZxE Code.ret ZUJ),ob wm ZL2 .deferred] h45) (Zga v28 Kr) ?_ (WF.begin (args:= [_,_,_]) (fn:=Tryz.f84) Kq0 (by exact rfl) Tryz.ntmps84 (by simp) ?_)
    ·clear hL hS;rintro⟨v47,v48,ZxE⟩ v h45 hL ⟨rfl,hS⟩;dsimp only [Zga] at hL;rcases UO ZxE with hc | hc
     ·replace hL:=Jl hc hL;rw [hc] at hS;refine RgS.stop (c:=Code.ret) Zk6 hS k6 ?_;rintro h51 hS;refine r7 ?_;refine Jz.Zqb hS k6 ?_;rintro h52 hS;refine Jz.ZBU hS k5 ?_;rintro h53 hS;have hr:=Oi0 hL;subst hr;exact Jz.gen rfl (Uk (XB rfl (YB rfl (Zq rfl e26))) (KX ZqC (hS.QT k1) (j:=0) rfl (v:= .int .i64 v47) rfl) Zu) rfl ⟨_,⟨rfl,rfl⟩,hT ▸ hS.only .n⟩
     ·replace hL:=Jm hc hL;rw [hc] at hS;refine RgS.sp Zk6 hS k6 ?_;rintro h54 hS;refine r7 ?_;have hS:=hS.Z1g k6 k5;exact Xp.XC (Zmj _ _ hL ⟨_,_,(ZL2::Zvi),rfl,hS.only sl,Qm⟩)
    ·skip;simp only [Yl,Yr,Nat.reduceAdd];refine r5 ?_;obtain⟨x55,ZXV,hL⟩:=bS hL;obtain⟨b56,o57,_,Z4d,Z47,Z4N,Z4w⟩:=Sl.at_ ZA ZXV;refine r7 ?_;refine WC.loop (WL.lift hL (fun p s=>match p with | (v62,v64,v65,ZxD)=>∃ ZA6 h58,s= ⟨ZA6,[],h58,none⟩/\Sp wm T h [bx wm b36 [.int .i64 p0.qG,.slice Zo p0.Zh.length Zn],bx wm b1 [.int .i64 p0.qG,.slice Zo p0.Zh.length Zn],bx wm b3 [.int .i64 v64],bx wm b33 [.int .i64 v65],bx wm b38 [.int .i64 v28],cds wm Zvi,ob wm l41 (lst ZxD Code.ret ZUJ),ob wm ZL2 .deferred] h58/\ZA6.at 0= .func (.yield l41) #[] #[]/\ZA6.at 1= .pointer (some ⟨b36,0,none⟩)/\ZA6.at 4= .int .i64 v62) ⟨_,_,rfl,hS.only sl,Qm⟩ ?_);clear hL hS;rintro Zrv ⟨v62,v64,v65,ZxD⟩ s ZtN hL ⟨ZA6,h58,rfl,hS,e60,e61,e63⟩;dsimp only [ZiY] at hL;refine r7 ?_;refine cn hL ?_ ?_
     ·intro hc hL;refine r8 ?_;obtain⟨Zvt,hL⟩:=Zhv hL;rw [Zvt] at hS;refine WO.ZNE gN rfl lk lks hS k6 Zk6 rfl rfl ?_;refine r1 ?_;refine AsS.sp Zk6 hS k6 ?_;rintro h69 hS;refine r6 ?_;rintro h70 hS;refine Kq ?_;refine cn hL ?_ ?_
      ·intro hc hL;refine r3 ?_;rintro h71 hS;refine r4 ?_;refine BdS.stop .ret Zk6 hS k2 ?_;rintro h72 hS;refine r3 ?_;refine cn hL ?_ ?_
       ·intro hc hL;refine r5 ?_;exact Z8.gen (vs:= []) rfl Zu rfl ⟨_,hL,⟨rfl,hS.only sl⟩⟩
       ·intro hc hL;refine r7 ?_;obtain⟨x73,ZXO,hL⟩:=bS hL;obtain⟨b74,o75,_,Z4a,Z43,Z4K,Z4v⟩:=Sl.at_ ZA ZXO;refine r5 ?_;exact Xp.XC (ZtN _ _ hL ⟨_,_,rfl,hS.only sl,Qm⟩)
      ·intro hc hL;refine r2 ?_;refine BdS.sp Zk6 hS k1 ?_;rintro h76 hS;refine r3 ?_;refine cn hL ?_ ?_
       ·intro hc hL;refine r5 ?_;exact Z8.gen (vs:= []) rfl Zu rfl ⟨_,hL,⟨rfl,hS.only sl⟩⟩
       ·intro hc hL;refine r7 ?_;obtain⟨x77,ZXL,hL⟩:=bS hL;obtain⟨b78,o79,_,Z38,Z41,Z4J,Z4t⟩:=Sl.at_ ZA ZXL;refine r5 ?_;exact Xp.XC (ZtN _ _ hL ⟨_,_,rfl,hS.only sl,Qm⟩)
     ·intro hc hL;refine r4 ?_;refine Z8.XC ?_;exact Z8.gen (vs:= []) rfl Zu rfl ⟨_,hL,⟨rfl,hS.only sl⟩⟩
   ·intro hc hL;refine r8 ?_;rintro h80 hS;refine r3 ?_;refine Jz.ZBU hS k2 ?_;rintro h81 hS;have hr:=Oi0 hL;subst hr;exact Jz.gen rfl (Uk (Zq rfl e26) (KX ZqC (hS.QT k0) (j:=0) rfl (v:= .int .i64 0) rfl) Zu) rfl ⟨_,⟨rfl,rfl⟩,hT ▸ hS.only .n⟩
end
section
end
section
end
end Go.Proofs.YtcnahmgekicbdaaGreat
end
end
