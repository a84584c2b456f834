/- Plays Part 10 of the proof. -/
import Derived.Shelf.Sort.Plain
import Derived.Test.YtcnahmgekicbdaaGreatPa9
set_option linter.all false
set_option maxHeartbeats 2000000
section
noncomputable section
namespace Go.Xy
open Go.Lf
variable {X:Ctx} {f:FuncId} {wm wm0:Nat} {h:H} {i o c:Nat} {cs:List Value} {xs:List Int}
theorem ZzS (he:Q6 (Zm .i64) wm0 h cs o xs) {j:Nat} (hj:j < xs.length):cs[o + j]? =some (.int .i64 xs[j]):=by
 obtain⟨q,h1,_⟩:=he.get j xs[j] (List.getElem?_eq_getElem hj);have h1:(cs.drop (o + j * 1)).take 1= [.int .i64 xs[j]]:=h1;rw [Nat.mul_one] at h1;have:=congrArg (fun l=>l[0]?) h1
 simpa [List.getElem?_take,List.getElem?_drop] using this
end Go.Xy
end
end
section
set_option maxRecDepth 100000
noncomputable section
namespace Go.Proofs.YtcnahmgekicbdaaGreat
open Go.Xy Go.Lf
section
end
section
def ZgZ (v28:Int) (KA:(Int×Int ->Option Int)):Int×Int×Bool ->Option Int:=fun(v47,v48,Zzy)=>
 (bif Zzy then some v47 else KA (Ye (v28 + 1),v47))
def Zka (p0:Zc) (v28:Int) (KA:(Int×Int ->Option Int)):Int×Int×Int×Bool ->(Int×Int×Int×Bool ->Option Int) ->Option Int:=fun(v62,v64,v65,Zzx) Ztk=>
 (bif decide (v62 >=0) then(bif Zzx then none else(bif decide ((Ye (v65 + 1)) > (p0.Zi.length:Int)) then(bif(!false) then(ZgZ v28 KA) (2,Ye (v65 + 1),true) else(ZW p0.Zi v62).bind fun x73=>Ztk (x73.Xu,2,Ye (v65 + 1),true)) else(bif(!true) then(ZgZ v28 KA) (v64,Ye (v65 + 1),false) else(ZW p0.Zi v62).bind fun x77=>Ztk (x77.Xu,v64,Ye (v65 + 1),false)))) else(ZgZ v28 KA) (v64,v65,Zzx))
def Zg0 (F:Nat) (p0:Zc):Int×Int ->(Int×Int ->Option Int) ->Option Int:=fun(v28,v30) KA=>
 (bif decide (v28 < (p0.Zi.length:Int)) then(ZW p0.Zi v28).bind fun x55=>loop F (Zka p0 v28 KA) (x55.Xu,v30,0,false) else some 0)
def Zkb (F:Nat) (p0:Zc):Int ->(Int ->Option Int) ->Option Int:=fun v12 ZAZ=>
 (bif decide (v12 < (p0.Zi.length:Int)) then(ZW p0.Zi v12).bind fun x15=>(gd ((!((decide (x15.at_ < 0)) || (decide (x15.at_ >=p0.qG)))) && (x15.Xu != (-1))) (Zn8 p0 x15.Xu) default).bind fun x21=>(bif(((decide (x15.at_ < 0)) || (decide (x15.at_ >=p0.qG))) || ((x15.Xu != (-1)) && (!x21))) then some 2 else ZAZ (Ye (v12 + 1))) else loop F (Zg0 F p0) (0,0))
def ZDU (F:Nat) (p0:Zc):Option Int:=
 (bif((((decide (p0.qG < 1)) || (decide (p0.qG > 4))) || (decide ((p0.Zi.length:Int) < 1))) || (decide ((p0.Zi.length:Int) > 8))) then some 2 else loop F (Zkb F p0) 0)
end
section
theorem ZOo {F wm h} {p0:Zc} {Zq Zp} {r} (Yc:wm <=h.size) (ZB:Sl Zk wm h Zq Zp p0.Zi) (hL:ZDU F p0=some r):
 WR XX 34 #[.agg [.int .i64 p0.qG,.slice Zq p0.Zi.length Zp].toArray] wm h (CP (fun(v:Value) (Gb:List (Ast wm))=>v= .int .i64 r∧Gb= []) [] h):=by
 refine WF.Zhh (args:= [_]) (fn:=Tryz.f34) Kq0 (by exact rfl) Tryz.ntmps34 (by simp) ?_;simp only [Yl,Yv,Nat.reduceAdd];obtain⟨T,hT,hS⟩:∃ T,T=Qa (wm:=wm) []∧Sp wm T h [] h:= ⟨_,rfl,Sp.start Yc Yo.nil⟩
 unfold ZDU at hL;refine r3 ?_;rintro _ h2 ⟨b1,eb1,rfl,hS⟩;refine r1 ?_;rintro _ h4 ⟨b3,eb3,rfl,hS⟩;refine r16 ?_;refine Ky ?_;refine cn hL ?_ ?_
 ·intro hc hL;refine r3 ?_;rintro h5 hS;refine r4 ?_;have hr:=Oi0 hL;subst hr;exact JD.gen rfl (Uq (ZV rfl (ZV rfl (YQ rfl fh))) (Zaa Zr7 (hS.QX k0) (j:=0) rfl (v:= .int .i64 2) rfl) Zv) rfl ⟨_,⟨rfl,rfl⟩,hT ▸ hS.only .n⟩
 ·intro hc hL;refine r12 ?_;refine WC.loop (WL.lift hL (fun v12 s=>∃ fr7 h6,s= ⟨fr7,[],h6,none⟩∧Sp wm T h [bx wm b1 [.int .i64 p0.qG,.slice Zq p0.Zi.length Zp],bx wm b3 [.int .i64 0]] h6∧fr7.at 1= .pointer (some ⟨b1,0,none⟩)∧fr7.at 2= .pointer (some ⟨b3,0,none⟩)∧fr7.at 28= .slice Zq p0.Zi.length Zp∧fr7.at 29= .int .i64 (p0.Zi.length:Int)∧fr7.at 30= .int .i64 v12) ⟨_,_,rfl,hS.only sl,Qo⟩ ?_);clear hL hS;rintro ZAZ v12 s ZGD hL ⟨fr7,h6,rfl,hS,e8,e9,e10,e11,e13⟩;dsimp only [Zkb] at hL;refine r6 ?_;refine cn hL ?_ ?_
  ·intro hc hL;refine r6 ?_;obtain⟨x15,Zqz,hL⟩:=bS hL;obtain⟨b16,o17,_,ZJl,ZC8,ZC6,ZVn⟩:=Sl.at_ ZB Zqz;refine r1 ?_;refine WO.w gN rfl (QK ZmI Zgt (Z8 fh rfl) (At.fz hS.fz ZC6 ZC8) (j:=0) rfl rfl (ws:= (cP x15)) rfl) ?_;refine r1 ?_;rintro _ h19 ⟨b18,Ydc,rfl,hS⟩;refine r1 ?_;rintro h20 hS;refine r16 ?_;refine r6 ?_;obtain⟨x21,Zqw,hL⟩:=XM hL;refine WO.gcp (Ze.ZyP rfl rfl rfl (Yt rfl (Zn rfl fh))) rfl (fun hg=>(Xp.fn ZCy (Zb (Q0 (Yt rfl fh) rfl hg) (Zb (Q0 fh rfl hg) Zo)))) (fun hg=>Zuc (hS.WT ZB) (Zqw hg)) ?_;refine r1 ?_;refine WO.gv (Ze.no rfl rfl rfl (ZV rfl (Zn rfl fh))) rfl (fun hg=>(ZoU (Q0 (YQ rfl (Zn rfl fh)) rfl hg) (Zwn fh hg) lk)) ?_;refine r3 ?_;refine cn hL ?_ ?_
   ·intro hc hL;refine r3 ?_;rintro h22 hS;refine r8 ?_;have hr:=Oi0 hL;subst hr;exact JD.gen rfl (Uq (ZV rfl (ZV rfl (ZV rfl (Yt rfl e9)))) (Zaa Zr7 (hS.QX k0) (j:=0) rfl (v:= .int .i64 2) rfl) Zv) rfl ⟨_,⟨rfl,rfl⟩,hT ▸ hS.only .n⟩
   ·intro hc hL;refine r7 ?_;exact Xt.XD (ZGD _ _ hL ⟨_,_,rfl,hS.only sl,Qo⟩)
  ·intro hc hL;refine r15 ?_;have hS:=hS.Z21;refine WC.loop (WL.lift hL (fun p s=>match p with | (v28,v30)=>∃ Zxz h23,∃ (Zxe:List Nat),s= ⟨Zxz,(ZWo Zxe ++ []),h23,none⟩∧Sp wm T h [bx wm b1 [.int .i64 p0.qG,.slice Zq p0.Zi.length Zp],bx wm b3 [.int .i64 v30],cds wm Zxe] h23∧Zxz.at 1= .pointer (some ⟨b1,0,none⟩)∧Zxz.at 2= .pointer (some ⟨b3,0,none⟩)∧Zxz.at 59= .int .i64 (p0.Zi.length:Int)∧Zxz.at 60= .int .i64 v28) ⟨_,_,[],rfl,hS.only sl,Qo⟩ ?_);clear hL hS;rintro KA ⟨v28,v30⟩ s Znx hL ⟨Zxz,h23,Zxe,rfl,hS,e25,e26,e27,e29⟩;dsimp only [Zg0] at hL;refine r6 ?_;refine cn hL ?_ ?_
   ·intro hc hL;refine r13 ?_;rintro _ h34 ⟨b33,ZV5,rfl,hS⟩;refine r1 ?_;rintro h35 hS;refine r6 ?_;refine WO.inl gN rfl (Xp.fn ZvZ (Zb lk (Zb lk Zo))) (WF.begin (args:= [_,_]) (fn:=Tryz.f55) Kq0 (by exact rfl) Tryz.ntmps55 (by simp) ?_);simp only [Yl,Yv,Nat.reduceAdd];refine r3 ?_;rintro _ h37 ⟨b36,Yc7,rfl,hS⟩;refine r1 ?_;rintro _ h39 ⟨b38,Yc6,rfl,hS⟩;refine r5 ?_;refine WO.w gN rfl (ZdE (Zb lk (Zb lk Zo))) ?_;refine r4 ?_;refine Ya.UW rfl (YC lk Zv) ?_;refine r3 ?_;refine WC.ZzP (first:= []) (cap:= [.pointer (some ⟨b36,0,none⟩),.pointer (some ⟨b38,0,none⟩)]) hS lk ZvX ?_;intro h40 l41 ZOF ZXv Zmh hS;refine WR.ZfH (r:=r) (fun(p:Int×Int×Bool) (v:Value) (h45:H)=>match p with | (v47,v48,Zzy)=>v= .tuple [].toArray∧Sp wm T h [bx wm b1 [.int .i64 p0.qG,.slice Zq p0.Zi.length Zp],bx wm b3 [.int .i64 v47],bx wm b33 [.int .i64 v48],bx wm b36 [.int .i64 p0.qG,.slice Zq p0.Zi.length Zp],bx wm b38 [.int .i64 v28],cds wm Zxe,ob wm l41 (lst Zzy Code.ret ZXv),ob wm ZOF .deferred] h45) (ZgZ v28 KA) ?_ (WF.begin (args:= [_,_,_]) (fn:=Tryz.f84) Kq0 (by exact rfl) Tryz.ntmps84 (by simp) ?_)
    ·clear hL hS;rintro⟨v47,v48,Zzy⟩ v h45 hL ⟨rfl,hS⟩;dsimp only [ZgZ] at hL;rcases UY Zzy with hc | hc
     ·replace hL:=Jq hc hL;rw [hc] at hS;refine RgS.stop (c:=Code.ret) Zmh hS k6 ?_;rintro h51 hS;refine r7 ?_;refine JD.ZrE hS k6 ?_;rintro h52 hS;refine JD.ZD5 hS k5 ?_;rintro h53 hS;have hr:=Oi0 hL;subst hr;exact JD.gen rfl (Uq (YQ rfl (Yt rfl (Zn rfl e26))) (Zaa Zr7 (hS.QX k1) (j:=0) rfl (v:= .int .i64 v47) rfl) Zv) rfl ⟨_,⟨rfl,rfl⟩,hT ▸ hS.only .n⟩
     ·replace hL:=Jr hc hL;rw [hc] at hS;refine RgS.sp Zmh hS k6 ?_;rintro h54 hS;refine r7 ?_;have hS:=hS.Z20 k6 k5;exact Xt.XD (Znx _ _ hL ⟨_,_,(ZOF::Zxe),rfl,hS.only sl,Qo⟩)
    ·skip;simp only [Yl,Yv,Nat.reduceAdd];refine r5 ?_;obtain⟨x55,ZZE,hL⟩:=bS hL;obtain⟨b56,o57,_,Z6F,Z7z,Z7f,Z6Y⟩:=Sl.at_ ZB ZZE;refine r7 ?_;refine WC.loop (WL.lift hL (fun p s=>match p with | (v62,v64,v65,Zzx)=>∃ ZDh h58,s= ⟨ZDh,[],h58,none⟩∧Sp wm T h [bx wm b36 [.int .i64 p0.qG,.slice Zq p0.Zi.length Zp],bx wm b1 [.int .i64 p0.qG,.slice Zq p0.Zi.length Zp],bx wm b3 [.int .i64 v64],bx wm b33 [.int .i64 v65],bx wm b38 [.int .i64 v28],cds wm Zxe,ob wm l41 (lst Zzx Code.ret ZXv),ob wm ZOF .deferred] h58∧ZDh.at 0= .func (.yield l41) #[] #[]∧ZDh.at 1= .pointer (some ⟨b36,0,none⟩)∧ZDh.at 4= .int .i64 v62) ⟨_,_,rfl,hS.only sl,Qo⟩ ?_);clear hL hS;rintro Ztk ⟨v62,v64,v65,Zzx⟩ s ZvR hL ⟨ZDh,h58,rfl,hS,e60,e61,e63⟩;dsimp only [Zka] at hL;refine r7 ?_;refine cn hL ?_ ?_
     ·intro hc hL;refine r8 ?_;obtain⟨Zxp,hL⟩:=Ziu hL;rw [Zxp] at hS;refine WO.ZQi gN rfl lk lks hS k6 Zmh rfl rfl ?_;refine r1 ?_;refine AsS.sp Zmh hS k6 ?_;rintro h69 hS;refine r6 ?_;rintro h70 hS;refine Ky ?_;refine cn hL ?_ ?_
      ·intro hc hL;refine r3 ?_;rintro h71 hS;refine r4 ?_;refine BdS.stop .ret Zmh hS k2 ?_;rintro h72 hS;refine r3 ?_;refine cn hL ?_ ?_
       ·intro hc hL;refine r5 ?_;exact Ya.gen (vs:= []) rfl Zv rfl ⟨_,hL,⟨rfl,hS.only sl⟩⟩
       ·intro hc hL;refine r7 ?_;obtain⟨x73,ZZx,hL⟩:=bS hL;obtain⟨b74,o75,_,Z6C,Z7v,Z7c,Z6X⟩:=Sl.at_ ZB ZZx;refine r5 ?_;exact Xt.XD (ZvR _ _ hL ⟨_,_,rfl,hS.only sl,Qo⟩)
      ·intro hc hL;refine r2 ?_;refine BdS.sp Zmh hS k1 ?_;rintro h76 hS;refine r3 ?_;refine cn hL ?_ ?_
       ·intro hc hL;refine r5 ?_;exact Ya.gen (vs:= []) rfl Zv rfl ⟨_,hL,⟨rfl,hS.only sl⟩⟩
       ·intro hc hL;refine r7 ?_;obtain⟨x77,ZZu,hL⟩:=bS hL;obtain⟨b78,o79,_,Z6A,Z7t,Z7b,Z6V⟩:=Sl.at_ ZB ZZu;refine r5 ?_;exact Xt.XD (ZvR _ _ hL ⟨_,_,rfl,hS.only sl,Qo⟩)
     ·intro hc hL;refine r4 ?_;refine Ya.XD ?_;exact Ya.gen (vs:= []) rfl Zv rfl ⟨_,hL,⟨rfl,hS.only sl⟩⟩
   ·intro hc hL;refine r8 ?_;rintro h80 hS;refine r3 ?_;refine JD.ZD5 hS k2 ?_;rintro h81 hS;have hr:=Oi0 hL;subst hr;exact JD.gen rfl (Uq (Zn rfl e26) (Zaa Zr7 (hS.QX k0) (j:=0) rfl (v:= .int .i64 0) rfl) Zv) rfl ⟨_,⟨rfl,rfl⟩,hT ▸ hS.only .n⟩
end
section
end
section
end
end Go.Proofs.YtcnahmgekicbdaaGreat
end
end
