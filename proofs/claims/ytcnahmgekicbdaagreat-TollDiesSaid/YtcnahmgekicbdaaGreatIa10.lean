/- Part 10. -/
import Derived.Shelf.Sort.Plain
import Derived.Test.YtcnahmgekicbdaaGreatIa9
set_option linter.all false
set_option maxHeartbeats 2000000
section
noncomputable section
namespace Go.YN
open Go.Lf
variable {X:Ctx} {f:FuncId} {wm wm0:Nat} {h:H} {i o c:Nat} {cs:List Value} {xs:List Int}
theorem Zwk (he:QG (Zl .i64) wm0 h cs o xs) {j:Nat} (hj:j < xs.length):cs[o + j]? =some (.int .i64 xs[j]):=by
 obtain⟨q,h1,_⟩:=he.get j xs[j] (List.getElem?_eq_getElem hj);have h1:(cs.drop (o + j * 1)).take 1= [.int .i64 xs[j]]:=h1;rw [Nat.mul_one] at h1;have:=congrArg (fun l=>l[0]?) h1
 simpa [List.getElem?_take,List.getElem?_drop] using this
end Go.YN
end
end
section
set_option maxRecDepth 100000
noncomputable section
namespace Go.Proofs.YtcnahmgekicbdaaGreat
open Go.YN Go.Lf
section
end
section
def Zl5 (p2:Int) (x3:(List Int)):Int ->(Int ->Option Bool) ->Option Bool:=fun v14 Zij=>
 (bif decide (v14 < (x3.length:Int)) then(ZM x3 v14).bind fun x17=>(bif(x17==p2) then some true else Zij (YB (v14 + 1))) else some false)
def ZqE (F:Nat) (p0:Zb) (p1:Int) (p2:Int):Option Bool:=
 (bif(p1==p2) then some true else(Zy5 F p0 p1).bind fun x3=>loop F (Zl5 p2 x3) 0)
def Zgg (v28:Int) (WY:(Int×Int ->Option Int)):Int×Int×Bool ->Option Int:=fun(v47,v48,ZvU)=>
 (bif ZvU then some v47 else WY (YB (v28 + 1),v47))
def ZiT (p0:Zb) (v28:Int) (WY:(Int×Int ->Option Int)):Int×Int×Int×Bool ->(Int×Int×Int×Bool ->Option Int) ->Option Int:=fun(v62,v64,v65,ZvT) ZpR=>
 (bif decide (v62 >=0) then(bif ZvT then none else(bif decide ((YB (v65 + 1)) > (p0.Zf.length:Int)) then(bif(!false) then(Zgg v28 WY) (2,YB (v65 + 1),true) else(ZM p0.Zf v62).bind fun x73=>ZpR (x73.UE,2,YB (v65 + 1),true)) else(bif(!true) then(Zgg v28 WY) (v64,YB (v65 + 1),false) else(ZM p0.Zf v62).bind fun x77=>ZpR (x77.UE,v64,YB (v65 + 1),false)))) else(Zgg v28 WY) (v64,v65,ZvT))
def Zgh (F:Nat) (p0:Zb):Int×Int ->(Int×Int ->Option Int) ->Option Int:=fun(v28,v30) WY=>
 (bif decide (v28 < (p0.Zf.length:Int)) then(ZM p0.Zf v28).bind fun x55=>loop F (ZiT p0 v28 WY) (x55.UE,v30,0,false) else some 0)
def ZiU (F:Nat) (p0:Zb):Int ->(Int ->Option Int) ->Option Int:=fun v12 Zxe=>
 (bif decide (v12 < (p0.Zf.length:Int)) then(ZM p0.Zf v12).bind fun x15=>(gd ((!((decide (x15.at_ < 0)) || (decide (x15.at_ >=p0.qG)))) && (x15.UE != (-1))) (ZiS p0 x15.UE) default).bind fun x21=>(bif(((decide (x15.at_ < 0)) || (decide (x15.at_ >=p0.qG))) || ((x15.UE != (-1)) && (!x21))) then some 2 else Zxe (YB (v12 + 1))) else loop F (Zgh F p0) (0,0))
def ZqB (F:Nat) (p0:Zb):Option Int:=
 (bif((((decide (p0.qG < 1)) || (decide (p0.qG > 4))) || (decide ((p0.Zf.length:Int) < 1))) || (decide ((p0.Zf.length:Int) > 8))) then some 2 else loop F (ZiU F p0) 0)
def Zy6:(List Int) ->Option ((List Int)×Int):=fun v18=>
 some (v18,0)
def ZqA (p0:Zb):Int×(List Int) ->(Int×(List Int) ->Option ((List Int)×Int)) ->Option ((List Int)×Int):=fun(v31,v33) ZG3=>
 (bif decide (v31 >=0) then(app 8 v33 [v31]).bind fun z41=>(bif(!true) then(Zy6) z41 else(ZM p0.Zf v31).bind fun x47=>ZG3 (x47.UE,z41)) else(Zy6) v33)
def ZOH (F:Nat) (p0:Zb) (p1:Int):Option ((List Int)×Int):=
 (ZqB F p0).bind fun x3=>(gd (!(x3 !=0)) (ZiS p0 p1) default).bind fun x4=>(bif((x3 !=0) || (!x4)) then some ([],2) else(ZM p0.Zf p1).bind fun x24=>loop F (ZqA p0) (x24.UE,[]))
end
section
theorem ZIF {F wm h} {p0:Zb} {p1 p2:Int} {Zt Zr} {r} (ZR:wm <=h.size) (ZU:Sl Zj wm h Zt Zr p0.Zf) (hL:ZqE F p0 p1 p2=some r):
 WR XX 31 #[.agg [.int .i64 p0.qG,.slice Zt p0.Zf.length Zr].toArray,.int .i64 p1,.int .i64 p2] wm h (CP (fun(v:Value) (Gb:List (Ast wm))=>v= .bool r∧Gb= []) [] h):=by
 refine bg Tryz.ntmps31 ZR Yb.nil ?_;intro T hT hS;unfold ZqE at hL;refine r3 ?_;rintro _ h2 ⟨b1,eb1,rfl,hS⟩;refine r11 ?_;refine cn hL ?_ ?_
 ·intro hc hL;refine r7 ?_;exact rt hL hT hS
 ·intro hc hL;refine r7 ?_;obtain⟨x3,hx3,hL⟩:=bS hL;refine WO.cl gN rfl (Xh.fn ZNz (Zc lk (Zc lk Zo))) hS .n (fun g' hz hf hO=>ZIC (by rw [hz];exact hS.hw) ((hS.sl ZU).mono hf) hx3) ?_;rintro _ h7 _ ⟨a4,n5,c6,rfl,rfl⟩ hS;obtain rfl:=hS.on k0;refine r5 ?_;refine WC.loop (WL.lift hL (fun v14 s=>∃ Zt9 h9,s= ⟨Zt9,[],h9,none⟩∧Sp wm T h [ow wm (Zl .i64) a4 x3.length c6 x3] h9∧Zt9.at 2= .int .i64 p2∧Zt9.at 14= .slice a4 x3.length c6∧Zt9.at 15= .int .i64 (x3.length:Int)∧Zt9.at 16= .int .i64 v14) ⟨_,_,rfl,hS.only sl,J8⟩ ?_);clear hL hS;rintro Zij v14 s Zlu hL ⟨Zt9,h9,rfl,hS,e11,e12,e13,e15⟩;dsimp only [Zl5] at hL;refine r6 ?_;refine cn hL ?_ ?_
  ·intro hc hL;refine r6 ?_;obtain⟨x17,ZjG,hL⟩:=bS hL;obtain⟨b18,o19,_,ZEp,ZEy,ZEs⟩:=Src.at_ (hS.J2 k0) ZjG;refine r12 ?_;refine cn hL ?_ ?_
   ·intro hc hL;refine r11 ?_;exact rt hL hT hS
   ·intro hc hL;refine r7 ?_;exact YT.XR (Zlu _ _ hL ⟨_,_,rfl,hS.only sl,J8⟩)
  ·intro hc hL;refine r11 ?_;exact rt hL hT hS
theorem Zy9 {F h} {p0:Zb} {p1 p2:Int} {Zt Zr} {r} (ZU:Sl Zj h.size h Zt Zr p0.Zf) (hL:ZqE F p0 p1 p2=some r):Pure XX 31 #[.agg [.int .i64 p0.qG,.slice Zt p0.Zf.length Zr].toArray,.int .i64 p1,.int .i64 p2] h (.bool r):=
 WR.Xl rfl (ZIF (Nat.le_refl _) ZU hL)
theorem Zy7 {F wm h} {p0:Zb} {Zt Zr} {r} (ZR:wm <=h.size) (ZU:Sl Zj wm h Zt Zr p0.Zf) (hL:ZqB F p0=some r):
 WR XX 34 #[.agg [.int .i64 p0.qG,.slice Zt p0.Zf.length Zr].toArray] wm h (CP (fun(v:Value) (Gb:List (Ast wm))=>v= .int .i64 r∧Gb= []) [] h):=by
 refine WF.Zgw (args:= [_]) (fn:=Tryz.f34) Kq0 (by exact rfl) Tryz.ntmps34 (by simp) ?_;simp only [ZP,Z7,Nat.reduceAdd];obtain⟨T,hT,hS⟩:∃ T,T=Qo (wm:=wm) []∧Sp wm T h [] h:= ⟨_,rfl,Sp.start ZR Yb.nil⟩
 unfold ZqB at hL;refine r3 ?_;rintro _ h2 ⟨b1,eb1,rfl,hS⟩;refine r1 ?_;rintro _ h4 ⟨b3,eb3,rfl,hS⟩;refine r16 ?_;refine r11 ?_;refine cn hL ?_ ?_
 ·intro hc hL;refine r3 ?_;rintro h5 hS;refine r4 ?_;have hr:=Oi0 hL;subst hr;exact Q5.gen rfl (Qm (Zv rfl (Zv rfl (Yh rfl fh))) (KG Zo0 (hS.Wu k0) (j:=0) rfl (v:= .int .i64 2) rfl) Zx) rfl ⟨_,⟨rfl,rfl⟩,hT ▸ hS.only .n⟩
 ·intro hc hL;refine r12 ?_;refine WC.loop (WL.lift hL (fun v12 s=>∃ fr7 h6,s= ⟨fr7,[],h6,none⟩∧Sp wm T h [bx wm b1 [.int .i64 p0.qG,.slice Zt p0.Zf.length Zr],bx wm b3 [.int .i64 0]] h6∧fr7.at 1= .pointer (some ⟨b1,0,none⟩)∧fr7.at 2= .pointer (some ⟨b3,0,none⟩)∧fr7.at 28= .slice Zt p0.Zf.length Zr∧fr7.at 29= .int .i64 (p0.Zf.length:Int)∧fr7.at 30= .int .i64 v12) ⟨_,_,rfl,hS.only sl,J8⟩ ?_);clear hL hS;rintro Zxe v12 s ZBN hL ⟨fr7,h6,rfl,hS,e8,e9,e10,e11,e13⟩;dsimp only [ZiU] at hL;refine r6 ?_;refine cn hL ?_ ?_
  ·intro hc hL;refine r6 ?_;obtain⟨x15,ZtX,hL⟩:=bS hL;obtain⟨b16,o17,_,ZEq,Zyz,Zyw,ZN5⟩:=Sl.at_ ZU ZtX;refine r1 ?_;refine WO.w gN rfl (Ub ZoZ ZhU (Z6 fh rfl) (At.fz hS.fz Zyw Zyz) (j:=0) rfl rfl (ws:= (cP x15)) rfl) ?_;refine r1 ?_;rintro _ h19 ⟨b18,Z2f,rfl,hS⟩;refine r1 ?_;rintro h20 hS;refine r16 ?_;refine r6 ?_;obtain⟨x21,ZxL,hL⟩:=Qs hL;refine WO.gcp (Zi.Zvl rfl rfl rfl (ZN rfl (Ze rfl fh))) rfl (fun hg=>(Xh.fn Zyi (Zc (Uv (ZN rfl fh) rfl hg) (Zc (Uv fh rfl hg) Zo)))) (fun hg=>Zqz (hS.slu ZU) (ZxL hg)) ?_;refine r1 ?_;refine WO.gv (Zi.no rfl rfl rfl (Zv rfl (Ze rfl fh))) rfl (fun hg=>(ZmA (Uv (Yh rfl (Ze rfl fh)) rfl hg) (ZsR fh hg) lk)) ?_;refine r3 ?_;refine cn hL ?_ ?_
   ·intro hc hL;refine r3 ?_;rintro h22 hS;refine r8 ?_;have hr:=Oi0 hL;subst hr;exact Q5.gen rfl (Qm (Zv rfl (Zv rfl (Zv rfl (ZN rfl e9)))) (KG Zo0 (hS.Wu k0) (j:=0) rfl (v:= .int .i64 2) rfl) Zx) rfl ⟨_,⟨rfl,rfl⟩,hT ▸ hS.only .n⟩
   ·intro hc hL;refine r7 ?_;exact YT.XR (ZBN _ _ hL ⟨_,_,rfl,hS.only sl,J8⟩)
  ·intro hc hL;refine r15 ?_;have hS:=hS.ZUJ;refine WC.loop (WL.lift hL (fun p s=>match p with | (v28,v30)=>∃ Zt6 h23,∃ (ZtS:List Nat),s= ⟨Zt6,(ZPc ZtS ++ []),h23,none⟩∧Sp wm T h [bx wm b1 [.int .i64 p0.qG,.slice Zt p0.Zf.length Zr],bx wm b3 [.int .i64 v30],cds wm ZtS] h23∧Zt6.at 1= .pointer (some ⟨b1,0,none⟩)∧Zt6.at 2= .pointer (some ⟨b3,0,none⟩)∧Zt6.at 59= .int .i64 (p0.Zf.length:Int)∧Zt6.at 60= .int .i64 v28) ⟨_,_,[],rfl,hS.only sl,J8⟩ ?_);clear hL hS;rintro WY ⟨v28,v30⟩ s Zlt hL ⟨Zt6,h23,ZtS,rfl,hS,e25,e26,e27,e29⟩;dsimp only [Zgh] at hL;refine r6 ?_;refine cn hL ?_ ?_
   ·intro hc hL;refine r13 ?_;rintro _ h34 ⟨b33,ZUv,rfl,hS⟩;refine r1 ?_;rintro h35 hS;refine r6 ?_;refine WO.inl gN rfl (Xh.fn Zsw (Zc lk (Zc lk Zo))) (WF.begin (args:= [_,_]) (fn:=Tryz.f55) Kq0 (by exact rfl) Tryz.ntmps55 (by simp) ?_);simp only [ZP,Z7,Nat.reduceAdd];refine r3 ?_;rintro _ h37 ⟨b36,Z2c,rfl,hS⟩;refine r1 ?_;rintro _ h39 ⟨b38,Z2b,rfl,hS⟩;refine r5 ?_;refine WO.w gN rfl (ZcW (Zc lk (Zc lk Zo))) ?_;refine r4 ?_;refine Yf.WU rfl (ZO lk Zx) ?_;refine r3 ?_;refine WC.Zwj (first:= []) (cap:= [.pointer (some ⟨b36,0,none⟩),.pointer (some ⟨b38,0,none⟩)]) hS lk Zsv ?_;intro h40 l41 ZI5 ZPX Zku hS;refine WR.ZfZ (r:=r) (fun(p:Int×Int×Bool) (v:Value) (h45:H)=>match p with | (v47,v48,ZvU)=>v= .tuple [].toArray∧Sp wm T h [bx wm b1 [.int .i64 p0.qG,.slice Zt p0.Zf.length Zr],bx wm b3 [.int .i64 v47],bx wm b33 [.int .i64 v48],bx wm b36 [.int .i64 p0.qG,.slice Zt p0.Zf.length Zr],bx wm b38 [.int .i64 v28],cds wm ZtS,ob wm l41 (lst ZvU Code.ret ZPX),ob wm ZI5 .deferred] h45) (Zgg v28 WY) ?_ (WF.begin (args:= [_,_,_]) (fn:=Tryz.f84) Kq0 (by exact rfl) Tryz.ntmps84 (by simp) ?_)
    ·clear hL hS;rintro⟨v47,v48,ZvU⟩ v h45 hL ⟨rfl,hS⟩;dsimp only [Zgg] at hL;rcases Ux ZvU with hc | hc
     ·replace hL:=JE hc hL;rw [hc] at hS;refine RgS.stop (c:=Code.ret) Zku hS k6 ?_;rintro h51 hS;refine r7 ?_;refine Q5.ZoG hS k6 ?_;rintro h52 hS;refine Q5.Zzu hS k5 ?_;rintro h53 hS;have hr:=Oi0 hL;subst hr;exact Q5.gen rfl (Qm (Yh rfl (ZN rfl (Ze rfl e26))) (KG Zo0 (hS.Wu k1) (j:=0) rfl (v:= .int .i64 v47) rfl) Zx) rfl ⟨_,⟨rfl,rfl⟩,hT ▸ hS.only .n⟩
     ·replace hL:=JF hc hL;rw [hc] at hS;refine RgS.sp Zku hS k6 ?_;rintro h54 hS;refine r7 ?_;have hS:=hS.ZUI k6 k5;exact YT.XR (Zlt _ _ hL ⟨_,_,(ZI5::ZtS),rfl,hS.only sl,J8⟩)
    ·skip;simp only [ZP,Z7,Nat.reduceAdd];refine r5 ?_;obtain⟨x55,ZRK,hL⟩:=bS hL;obtain⟨b56,o57,_,ZXn,ZX2,ZXQ,ZXG⟩:=Sl.at_ ZU ZRK;refine r7 ?_;refine WC.loop (WL.lift hL (fun p s=>match p with | (v62,v64,v65,ZvT)=>∃ ZyF h58,s= ⟨ZyF,[],h58,none⟩∧Sp wm T h [bx wm b36 [.int .i64 p0.qG,.slice Zt p0.Zf.length Zr],bx wm b1 [.int .i64 p0.qG,.slice Zt p0.Zf.length Zr],bx wm b3 [.int .i64 v64],bx wm b33 [.int .i64 v65],bx wm b38 [.int .i64 v28],cds wm ZtS,ob wm l41 (lst ZvT Code.ret ZPX),ob wm ZI5 .deferred] h58∧ZyF.at 0= .func (.yield l41) #[] #[]∧ZyF.at 1= .pointer (some ⟨b36,0,none⟩)∧ZyF.at 4= .int .i64 v62) ⟨_,_,rfl,hS.only sl,J8⟩ ?_);clear hL hS;rintro ZpR ⟨v62,v64,v65,ZvT⟩ s Zsp hL ⟨ZyF,h58,rfl,hS,e60,e61,e63⟩;dsimp only [ZiT] at hL;refine r7 ?_;refine cn hL ?_ ?_
     ·intro hc hL;refine r8 ?_;obtain⟨ZtZ,hL⟩:=Zs2 hL;rw [ZtZ] at hS;refine WO.ZKu gN rfl lk lks hS k6 Zku rfl rfl ?_;refine r1 ?_;refine AsS.sp Zku hS k6 ?_;rintro h69 hS;refine r6 ?_;rintro h70 hS;refine r11 ?_;refine cn hL ?_ ?_
      ·intro hc hL;refine r3 ?_;rintro h71 hS;refine r4 ?_;refine BdS.stop .ret Zku hS k2 ?_;rintro h72 hS;refine r3 ?_;refine cn hL ?_ ?_
       ·intro hc hL;refine r5 ?_;exact Yf.gen (vs:= []) rfl Zx rfl ⟨_,hL,⟨rfl,hS.only sl⟩⟩
       ·intro hc hL;refine r7 ?_;obtain⟨x73,ZRG,hL⟩:=bS hL;obtain⟨b74,o75,_,ZXm,ZX0,ZXP,ZXF⟩:=Sl.at_ ZU ZRG;refine r5 ?_;exact YT.XR (Zsp _ _ hL ⟨_,_,rfl,hS.only sl,J8⟩)
      ·intro hc hL;refine r2 ?_;refine BdS.sp Zku hS k1 ?_;rintro h76 hS;refine r3 ?_;refine cn hL ?_ ?_
       ·intro hc hL;refine r5 ?_;exact Yf.gen (vs:= []) rfl Zx rfl ⟨_,hL,⟨rfl,hS.only sl⟩⟩
       ·intro hc hL;refine r7 ?_;obtain⟨x77,ZRE,hL⟩:=bS hL;obtain⟨b78,o79,_,ZXk,ZXY,ZXO,ZXD⟩:=Sl.at_ ZU ZRE;refine r5 ?_;exact YT.XR (Zsp _ _ hL ⟨_,_,rfl,hS.only sl,J8⟩)
     ·intro hc hL;refine r4 ?_;refine Yf.XR ?_;exact Yf.gen (vs:= []) rfl Zx rfl ⟨_,hL,⟨rfl,hS.only sl⟩⟩
   ·intro hc hL;refine r8 ?_;rintro h80 hS;refine r3 ?_;refine Q5.Zzu hS k2 ?_;rintro h81 hS;have hr:=Oi0 hL;subst hr;exact Q5.gen rfl (Qm (Ze rfl e26) (KG Zo0 (hS.Wu k0) (j:=0) rfl (v:= .int .i64 0) rfl) Zx) rfl ⟨_,⟨rfl,rfl⟩,hT ▸ hS.only .n⟩
end
section
end
section
end
end Go.Proofs.YtcnahmgekicbdaaGreat
end
end
