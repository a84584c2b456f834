/- Part 10. -/
import Derived.Shelf.Sort.Plain
import Derived.Test.YtcnahmgekicbdaaGreatDb9
set_option linter.all false
set_option maxHeartbeats 2000000
section
noncomputable section
namespace Go.Xv
open Go.Lf
variable {X:Ctx} {f:FuncId} {wm wm0:Nat} {h:H} {i o c:Nat} {cs:List Value} {xs:List Int}
theorem ZzG (he:Jd (Zl .i64) wm0 h cs o xs) {j:Nat} (hj:j < xs.length):cs[o + j]? =some (.int .i64 xs[j]):=by
 obtain⟨q,h1,_⟩:=he.get j xs[j] (List.getElem?_eq_getElem hj);have h1:(cs.drop (o + j * 1)).take 1= [.int .i64 xs[j]]:=h1;rw [Nat.mul_one] at h1;have:=congrArg (fun l=>l[0]?) h1
 simpa [List.getElem?_take,List.getElem?_drop] using this
end Go.Xv
end
end
section
set_option maxRecDepth 100000
noncomputable section
namespace Go.Proofs.YtcnahmgekicbdaaGreat
open Go.Xv Go.Lf
section
end
section
def Zg0 (v28:Int) (KM:(Int×Int ->Option Int)):Int×Int×Bool ->Option Int:=fun(v47,v48,Zzj)=>
 (bif Zzj then some v47 else KM (Yd (v28 + 1),v47))
def Zj4 (p0:Zc) (v28:Int) (KM:(Int×Int ->Option Int)):Int×Int×Int×Bool ->(Int×Int×Int×Bool ->Option Int) ->Option Int:=fun(v62,v64,v65,Zzi) ZsP=>
 (bif decide (v62 >=0) then(bif Zzi then none else(bif decide ((Yd (v65 + 1)) > (p0.Zh.length:Int)) then(bif(!false) then(Zg0 v28 KM) (2,Yd (v65 + 1),true) else(ZF p0.Zh v62).bind fun x73=>ZsP (x73.XA,2,Yd (v65 + 1),true)) else(bif(!true) then(Zg0 v28 KM) (v64,Yd (v65 + 1),false) else(ZF p0.Zh v62).bind fun x77=>ZsP (x77.XA,v64,Yd (v65 + 1),false)))) else(Zg0 v28 KM) (v64,v65,Zzi))
def Zg1 (F:Nat) (p0:Zc):Int×Int ->(Int×Int ->Option Int) ->Option Int:=fun(v28,v30) KM=>
 (bif decide (v28 < (p0.Zh.length:Int)) then(ZF p0.Zh v28).bind fun x55=>loop F (Zj4 p0 v28 KM) (x55.XA,v30,0,false) else some 0)
def Zj5 (F:Nat) (p0:Zc):Int ->(Int ->Option Int) ->Option Int:=fun v12 ZAH=>
 (bif decide (v12 < (p0.Zh.length:Int)) then(ZF p0.Zh v12).bind fun x15=>(gd ((!((decide (x15.at_ < 0)) || (decide (x15.at_ >=p0.qG)))) && (x15.XA != (-1))) (Zn9 p0 x15.XA) default).bind fun x21=>(bif(((decide (x15.at_ < 0)) || (decide (x15.at_ >=p0.qG))) || ((x15.XA != (-1)) && (!x21))) then some 2 else ZAH (Yd (v12 + 1))) else loop F (Zg1 F p0) (0,0))
def ZDI (F:Nat) (p0:Zc):Option Int:=
 (bif((((decide (p0.qG < 1)) || (decide (p0.qG > 4))) || (decide ((p0.Zh.length:Int) < 1))) || (decide ((p0.Zh.length:Int) > 8))) then some 2 else loop F (Zj5 F p0) 0)
end
section
theorem ZNJ {F wm h} {p0:Zc} {Zo Zn} {r} (Ye:wm <=h.size) (Zz:Sl Zj wm h Zo Zn p0.Zh) (hL:ZDI F p0=some r):
 WR XX 34 #[.agg [.int .i64 p0.qG,.slice Zo p0.Zh.length Zn].toArray] wm h (CP (fun(v:Value) (Gb:List (Ast wm))=>v= .int .i64 r/\Gb= []) [] h):=by
 refine WF.Zhj (args:= [_]) (fn:=Tryz.f34) Kq0 (by exact rfl) Tryz.ntmps34 (by simp) ?_;simp only [Yh,Yo,Nat.reduceAdd];obtain⟨T,hT,hS⟩:∃ T,T=Qe (wm:=wm) []/\Sp wm T h [] h:= ⟨_,rfl,Sp.start Ye Ym.nil⟩
 unfold ZDI at hL;refine r3 ?_;rintro _ h2 ⟨b1,eb1,rfl,hS⟩;refine r1 ?_;rintro _ h4 ⟨b3,eb3,rfl,hS⟩;refine r16 ?_;refine WQ ?_;refine cn hL ?_ ?_
 ·intro hc hL;refine r3 ?_;rintro h5 hS;refine r4 ?_;have hr:=Oi0 hL;subst hr;exact JF.gen rfl (J5 (ZW rfl (ZW rfl (XC rfl fh))) (Zaj Zr3 (hS.QW k0) (j:=0) rfl (v:= .int .i64 2) rfl) Zv) rfl ⟨_,⟨rfl,rfl⟩,hT ▸ hS.only .n⟩
 ·intro hc hL;refine r12 ?_;refine WC.loop (WL.lift hL (fun v12 s=>∃ fr7 h6,s= ⟨fr7,[],h6,none⟩/\Sp wm T h [bx wm b1 [.int .i64 p0.qG,.slice Zo p0.Zh.length Zn],bx wm b3 [.int .i64 0]] h6/\fr7.at 1= .pointer (some ⟨b1,0,none⟩)/\fr7.at 2= .pointer (some ⟨b3,0,none⟩)/\fr7.at 28= .slice Zo p0.Zh.length Zn/\fr7.at 29= .int .i64 (p0.Zh.length:Int)/\fr7.at 30= .int .i64 v12) ⟨_,_,rfl,hS.only sl,Qa⟩ ?_);clear hL hS;rintro ZAH v12 s ZGp hL ⟨fr7,h6,rfl,hS,e8,e9,e10,e11,e13⟩;dsimp only [Zj5] at hL;refine r6 ?_;refine cn hL ?_ ?_
  ·intro hc hL;refine r6 ?_;obtain⟨x15,ZqG,hL⟩:=bS hL;obtain⟨b16,o17,_,ZJo,ZCT,ZCQ,ZUx⟩:=Sl.at_ Zz ZqG;refine r1 ?_;refine WO.w gN rfl (QA ZmG Zgv (Ya fh rfl) (At.fz hS.fz ZCQ ZCT) (j:=0) rfl rfl (ws:= (cP x15)) rfl) ?_;refine r1 ?_;rintro _ h19 ⟨b18,Ydh,rfl,hS⟩;refine r1 ?_;rintro h20 hS;refine r16 ?_;refine r6 ?_;obtain⟨x21,ZqC,hL⟩:=XM hL;refine WO.gcp (Zf.ZFa rfl rfl rfl (YC rfl (Zr rfl fh))) rfl (fun hg=>(Xi.fn ZCj (Zb (Q8 (YC rfl fh) rfl hg) (Zb (Q8 fh rfl hg) Zm)))) (fun hg=>ZtD (hS.WN Zz) (ZqC hg)) ?_;refine r1 ?_;refine WO.gv (Zf.no rfl rfl rfl (ZW rfl (Zr rfl fh))) rfl (fun hg=>(Zo2 (Q8 (XC rfl (Zr rfl fh)) rfl hg) (ZvK fh hg) lk)) ?_;refine r3 ?_;refine cn hL ?_ ?_
   ·intro hc hL;refine r3 ?_;rintro h22 hS;refine r8 ?_;have hr:=Oi0 hL;subst hr;exact JF.gen rfl (J5 (ZW rfl (ZW rfl (ZW rfl (YC rfl e9)))) (Zaj Zr3 (hS.QW k0) (j:=0) rfl (v:= .int .i64 2) rfl) Zv) rfl ⟨_,⟨rfl,rfl⟩,hT ▸ hS.only .n⟩
   ·intro hc hL;refine r7 ?_;exact Xh.Xx (ZGp _ _ hL ⟨_,_,rfl,hS.only sl,Qa⟩)
  ·intro hc hL;refine r15 ?_;have hS:=hS.Z3P;refine WC.loop (WL.lift hL (fun p s=>match p with | (v28,v30)=>∃ Zxa h23,∃ (ZwN:List Nat),s= ⟨Zxa,(ZVF ZwN ++ []),h23,none⟩/\Sp wm T h [bx wm b1 [.int .i64 p0.qG,.slice Zo p0.Zh.length Zn],bx wm b3 [.int .i64 v30],cds wm ZwN] h23/\Zxa.at 1= .pointer (some ⟨b1,0,none⟩)/\Zxa.at 2= .pointer (some ⟨b3,0,none⟩)/\Zxa.at 59= .int .i64 (p0.Zh.length:Int)/\Zxa.at 60= .int .i64 v28) ⟨_,_,[],rfl,hS.only sl,Qa⟩ ?_);clear hL hS;rintro KM ⟨v28,v30⟩ s Znw hL ⟨Zxa,h23,ZwN,rfl,hS,e25,e26,e27,e29⟩;dsimp only [Zg1] at hL;refine r6 ?_;refine cn hL ?_ ?_
   ·intro hc hL;refine r13 ?_;rintro _ h34 ⟨b33,ZVi,rfl,hS⟩;refine r1 ?_;rintro h35 hS;refine r6 ?_;refine WO.inl gN rfl (Xi.fn Zvk (Zb lk (Zb lk Zm))) (WF.begin (args:= [_,_]) (fn:=Tryz.f55) Kq0 (by exact rfl) Tryz.ntmps55 (by simp) ?_);simp only [Yh,Yo,Nat.reduceAdd];refine r3 ?_;rintro _ h37 ⟨b36,Yda,rfl,hS⟩;refine r1 ?_;rintro _ h39 ⟨b38,Yc9,rfl,hS⟩;refine r5 ?_;refine WO.w gN rfl (Zdw (Zb lk (Zb lk Zm))) ?_;refine r4 ?_;refine Z8.Uu rfl (Yr lk Zv) ?_;refine r3 ?_;refine WC.ZzD (first:= []) (cap:= [.pointer (some ⟨b36,0,none⟩),.pointer (some ⟨b38,0,none⟩)]) hS lk Zvi ?_;intro h40 l41 ZN4 ZWW Zmb hS;refine WR.ZeD (r:=r) (fun(p:Int×Int×Bool) (v:Value) (h45:H)=>match p with | (v47,v48,Zzj)=>v= .tuple [].toArray/\Sp wm T h [bx wm b1 [.int .i64 p0.qG,.slice Zo p0.Zh.length Zn],bx wm b3 [.int .i64 v47],bx wm b33 [.int .i64 v48],bx wm b36 [.int .i64 p0.qG,.slice Zo p0.Zh.length Zn],bx wm b38 [.int .i64 v28],cds wm ZwN,ob wm l41 (lst Zzj Code.ret ZWW),ob wm ZN4 .deferred] h45) (Zg0 v28 KM) ?_ (WF.begin (args:= [_,_,_]) (fn:=Tryz.f84) Kq0 (by exact rfl) Tryz.ntmps84 (by simp) ?_)
    ·clear hL hS;rintro⟨v47,v48,Zzj⟩ v h45 hL ⟨rfl,hS⟩;dsimp only [Zg0] at hL;rcases U3 Zzj with hc | hc
     ·replace hL:=Q9 hc hL;rw [hc] at hS;refine RgS.stop (c:=Code.ret) Zmb hS k6 ?_;rintro h51 hS;refine r7 ?_;refine JF.ZrE hS k6 ?_;rintro h52 hS;refine JF.ZDS hS k5 ?_;rintro h53 hS;have hr:=Oi0 hL;subst hr;exact JF.gen rfl (J5 (XC rfl (YC rfl (Zr rfl e26))) (Zaj Zr3 (hS.QW k1) (j:=0) rfl (v:= .int .i64 v47) rfl) Zv) rfl ⟨_,⟨rfl,rfl⟩,hT ▸ hS.only .n⟩
     ·replace hL:=Ja hc hL;rw [hc] at hS;refine RgS.sp Zmb hS k6 ?_;rintro h54 hS;refine r7 ?_;have hS:=hS.Z3O k6 k5;exact Xh.Xx (Znw _ _ hL ⟨_,_,(ZN4::ZwN),rfl,hS.only sl,Qa⟩)
    ·skip;simp only [Yh,Yo,Nat.reduceAdd];refine r5 ?_;obtain⟨x55,Z0e,hL⟩:=bS hL;obtain⟨b56,o57,_,Z6F,Z7A,Z7g,Z6Z⟩:=Sl.at_ Zz Z0e;refine r7 ?_;refine WC.loop (WL.lift hL (fun p s=>match p with | (v62,v64,v65,Zzi)=>∃ ZC4 h58,s= ⟨ZC4,[],h58,none⟩/\Sp wm T h [bx wm b36 [.int .i64 p0.qG,.slice Zo p0.Zh.length Zn],bx wm b1 [.int .i64 p0.qG,.slice Zo p0.Zh.length Zn],bx wm b3 [.int .i64 v64],bx wm b33 [.int .i64 v65],bx wm b38 [.int .i64 v28],cds wm ZwN,ob wm l41 (lst Zzi Code.ret ZWW),ob wm ZN4 .deferred] h58/\ZC4.at 0= .func (.yield l41) #[] #[]/\ZC4.at 1= .pointer (some ⟨b36,0,none⟩)/\ZC4.at 4= .int .i64 v62) ⟨_,_,rfl,hS.only sl,Qa⟩ ?_);clear hL hS;rintro ZsP ⟨v62,v64,v65,Zzi⟩ s Zvd hL ⟨ZC4,h58,rfl,hS,e60,e61,e63⟩;dsimp only [Zj4] at hL;refine r7 ?_;refine cn hL ?_ ?_
     ·intro hc hL;refine r8 ?_;obtain⟨ZwZ,hL⟩:=ZiA hL;rw [ZwZ] at hS;refine WO.ZPE gN rfl lk lks hS k6 Zmb rfl rfl ?_;refine r1 ?_;refine AsS.sp Zmb hS k6 ?_;rintro h69 hS;refine r6 ?_;rintro h70 hS;refine WQ ?_;refine cn hL ?_ ?_
      ·intro hc hL;refine r3 ?_;rintro h71 hS;refine r4 ?_;refine BdS.stop .ret Zmb hS k2 ?_;rintro h72 hS;refine r3 ?_;refine cn hL ?_ ?_
       ·intro hc hL;refine r5 ?_;exact Z8.gen (vs:= []) rfl Zv rfl ⟨_,hL,⟨rfl,hS.only sl⟩⟩
       ·intro hc hL;refine r7 ?_;obtain⟨x73,ZZ7,hL⟩:=bS hL;obtain⟨b74,o75,_,Z6C,Z7w,Z7d,Z6Y⟩:=Sl.at_ Zz ZZ7;refine r5 ?_;exact Xh.Xx (Zvd _ _ hL ⟨_,_,rfl,hS.only sl,Qa⟩)
      ·intro hc hL;refine r2 ?_;refine BdS.sp Zmb hS k1 ?_;rintro h76 hS;refine r3 ?_;refine cn hL ?_ ?_
       ·intro hc hL;refine r5 ?_;exact Z8.gen (vs:= []) rfl Zv rfl ⟨_,hL,⟨rfl,hS.only sl⟩⟩
       ·intro hc hL;refine r7 ?_;obtain⟨x77,ZZ4,hL⟩:=bS hL;obtain⟨b78,o79,_,Z6A,Z7u,Z7c,Z6W⟩:=Sl.at_ Zz ZZ4;refine r5 ?_;exact Xh.Xx (Zvd _ _ hL ⟨_,_,rfl,hS.only sl,Qa⟩)
     ·intro hc hL;refine r4 ?_;refine Z8.Xx ?_;exact Z8.gen (vs:= []) rfl Zv rfl ⟨_,hL,⟨rfl,hS.only sl⟩⟩
   ·intro hc hL;refine r8 ?_;rintro h80 hS;refine r3 ?_;refine JF.ZDS hS k2 ?_;rintro h81 hS;have hr:=Oi0 hL;subst hr;exact JF.gen rfl (J5 (Zr rfl e26) (Zaj Zr3 (hS.QW k0) (j:=0) rfl (v:= .int .i64 0) rfl) Zv) rfl ⟨_,⟨rfl,rfl⟩,hT ▸ hS.only .n⟩
end
section
end
section
end
end Go.Proofs.YtcnahmgekicbdaaGreat
end
end
