/- Part 10. -/
import Derived.Shelf.Sort.Plain
import Derived.Test.YtcnahmgekicbdaaGreatEa9
set_option linter.all false
set_option maxHeartbeats 2000000
section
noncomputable section
namespace Go.YL
open Go.Lf
variable {X:Ctx} {f:FuncId} {wm wm0:Nat} {h:H} {i o c:Nat} {cs:List Value} {xs:List Int}
theorem ZwF (he:QK (Zm .i64) wm0 h cs o xs) {j:Nat} (hj:j < xs.length):cs[o + j]? =some (.int .i64 xs[j]):=by
 obtain⟨q,h1,_⟩:=he.get j xs[j] (List.getElem?_eq_getElem hj);have h1:(cs.drop (o + j * 1)).take 1= [.int .i64 xs[j]]:=h1;rw [Nat.mul_one] at h1;have:=congrArg (fun l=>l[0]?) h1
 simpa [List.getElem?_take,List.getElem?_drop] using this
end Go.YL
end
end
section
set_option maxRecDepth 100000
noncomputable section
namespace Go.Proofs.YtcnahmgekicbdaaGreat
open Go.YL Go.Lf
section
end
section
def Zgj (v28:Int) (WS:(Int×Int ->Option Int)):Int×Int×Bool ->Option Int:=fun(v47,v48,Zwh)=>
 (bif Zwh then some v47 else WS (YA (v28 + 1),v47))
def Zjd (p0:Zb) (v28:Int) (WS:(Int×Int ->Option Int)):Int×Int×Int×Bool ->(Int×Int×Int×Bool ->Option Int) ->Option Int:=fun(v62,v64,v65,Zwg) Zqs=>
 (bif decide (v62 >=0) then(bif Zwg then none else(bif decide ((YA (v65 + 1)) > (p0.Zf.length:Int)) then(bif(!false) then(Zgj v28 WS) (2,YA (v65 + 1),true) else(ZR p0.Zf v62).bind fun x73=>Zqs (x73.U2,2,YA (v65 + 1),true)) else(bif(!true) then(Zgj v28 WS) (v64,YA (v65 + 1),false) else(ZR p0.Zf v62).bind fun x77=>Zqs (x77.U2,v64,YA (v65 + 1),false)))) else(Zgj v28 WS) (v64,v65,Zwg))
def Zgk (F:Nat) (p0:Zb):Int×Int ->(Int×Int ->Option Int) ->Option Int:=fun(v28,v30) WS=>
 (bif decide (v28 < (p0.Zf.length:Int)) then(ZR p0.Zf v28).bind fun x55=>loop F (Zjd p0 v28 WS) (x55.U2,v30,0,false) else some 0)
def Zje (F:Nat) (p0:Zb):Int ->(Int ->Option Int) ->Option Int:=fun v12 Zxu=>
 (bif decide (v12 < (p0.Zf.length:Int)) then(ZR p0.Zf v12).bind fun x15=>(gd ((!((decide (x15.at_ < 0)) || (decide (x15.at_ >=p0.qG)))) && (x15.U2 != (-1))) (ZmB p0 x15.U2) default).bind fun x21=>(bif(((decide (x15.at_ < 0)) || (decide (x15.at_ >=p0.qG))) || ((x15.U2 != (-1)) && (!x21))) then some 2 else Zxu (YA (v12 + 1))) else loop F (Zgk F p0) (0,0))
def Zzl (F:Nat) (p0:Zb):Option Int:=
 (bif((((decide (p0.qG < 1)) || (decide (p0.qG > 4))) || (decide ((p0.Zf.length:Int) < 1))) || (decide ((p0.Zf.length:Int) > 8))) then some 2 else loop F (Zje F p0) 0)
end
section
theorem ZI2 {F wm h} {p0:Zb} {Zu Zt} {r} (ZT:wm <=h.size) (Yc:Sl Zi wm h Zu Zt p0.Zf) (hL:Zzl F p0=some r):
 WR XX 34 #[.agg [.int .i64 p0.qG,.slice Zu p0.Zf.length Zt].toArray] wm h (CP (fun(v:Value) (Gb:List (Ast wm))=>v= .int .i64 r∧Gb= []) [] h):=by
 refine WF.ZgE (args:= [_]) (fn:=Tryz.f34) Kq0 (by exact rfl) Tryz.ntmps34 (by simp) ?_;simp only [ZO,Z6,Nat.reduceAdd];obtain⟨T,hT,hS⟩:∃ T,T=Qw (wm:=wm) []∧Sp wm T h [] h:= ⟨_,rfl,Sp.start ZT Yd.nil⟩
 unfold Zzl at hL;refine r3 ?_;rintro _ h2 ⟨b1,eb1,rfl,hS⟩;refine r1 ?_;rintro _ h4 ⟨b3,eb3,rfl,hS⟩;refine r16 ?_;refine r11 ?_;refine cn hL ?_ ?_
 ·intro hc hL;refine r3 ?_;rintro h5 hS;refine r4 ?_;have hr:=Oi0 hL;subst hr;exact Q7.gen rfl (QR (ZA rfl (ZA rfl (Ye rfl fh))) (KH ZpA (hS.W9 k0) (j:=0) rfl (v:= .int .i64 2) rfl) Zx) rfl ⟨_,⟨rfl,rfl⟩,hT ▸ hS.only .n⟩
 ·intro hc hL;refine r12 ?_;refine WC.loop (WL.lift hL (fun v12 s=>∃ fr7 h6,s= ⟨fr7,[],h6,none⟩∧Sp wm T h [bx wm b1 [.int .i64 p0.qG,.slice Zu p0.Zf.length Zt],bx wm b3 [.int .i64 0]] h6∧fr7.at 1= .pointer (some ⟨b1,0,none⟩)∧fr7.at 2= .pointer (some ⟨b3,0,none⟩)∧fr7.at 28= .slice Zu p0.Zf.length Zt∧fr7.at 29= .int .i64 (p0.Zf.length:Int)∧fr7.at 30= .int .i64 v12) ⟨_,_,rfl,hS.only sl,Uj⟩ ?_);clear hL hS;rintro Zxu v12 s ZB2 hL ⟨fr7,h6,rfl,hS,e8,e9,e10,e11,e13⟩;dsimp only [Zje] at hL;refine r6 ?_;refine cn hL ?_ ?_
  ·intro hc hL;refine r6 ?_;obtain⟨x15,Zun,hL⟩:=bS hL;obtain⟨b16,o17,_,ZEK,ZyN,ZyK,ZOC⟩:=Sl.at_ Yc Zun;refine r1 ?_;refine WO.w gN rfl (JN Zpy ZhV (ZN fh rfl) (At.fz hS.fz ZyK ZyN) (j:=0) rfl rfl (ws:= (cP x15)) rfl) ?_;refine r1 ?_;rintro _ h19 ⟨b18,Z2W,rfl,hS⟩;refine r1 ?_;rintro h20 hS;refine r16 ?_;refine r6 ?_;obtain⟨x21,ZxX,hL⟩:=JS hL;refine WO.gcp (Zj.ZAL rfl rfl rfl (ZG rfl (Ze rfl fh))) rfl (fun hg=>(Xj.fn Zyy (Zc (Ko (ZG rfl fh) rfl hg) (Zc (Ko fh rfl hg) Zp)))) (fun hg=>Zq9 (hS.slu Yc) (ZxX hg)) ?_;refine r1 ?_;refine WO.gv (Zj.no rfl rfl rfl (ZA rfl (Ze rfl fh))) rfl (fun hg=>(ZrE (Ko (Ye rfl (Ze rfl fh)) rfl hg) (Zzv fh hg) lk)) ?_;refine r3 ?_;refine cn hL ?_ ?_
   ·intro hc hL;refine r3 ?_;rintro h22 hS;refine r8 ?_;have hr:=Oi0 hL;subst hr;exact Q7.gen rfl (QR (ZA rfl (ZA rfl (ZA rfl (ZG rfl e9)))) (KH ZpA (hS.W9 k0) (j:=0) rfl (v:= .int .i64 2) rfl) Zx) rfl ⟨_,⟨rfl,rfl⟩,hT ▸ hS.only .n⟩
   ·intro hc hL;refine r7 ?_;exact Y9.XY (ZB2 _ _ hL ⟨_,_,rfl,hS.only sl,Uj⟩)
  ·intro hc hL;refine r15 ?_;have hS:=hS.ZVi;refine WC.loop (WL.lift hL (fun p s=>match p with | (v28,v30)=>∃ Zuu h23,∃ (Zuj:List Nat),s= ⟨Zuu,(ZPD Zuj ++ []),h23,none⟩∧Sp wm T h [bx wm b1 [.int .i64 p0.qG,.slice Zu p0.Zf.length Zt],bx wm b3 [.int .i64 v30],cds wm Zuj] h23∧Zuu.at 1= .pointer (some ⟨b1,0,none⟩)∧Zuu.at 2= .pointer (some ⟨b3,0,none⟩)∧Zuu.at 59= .int .i64 (p0.Zf.length:Int)∧Zuu.at 60= .int .i64 v28) ⟨_,_,[],rfl,hS.only sl,Uj⟩ ?_);clear hL hS;rintro WS ⟨v28,v30⟩ s Zl5 hL ⟨Zuu,h23,Zuj,rfl,hS,e25,e26,e27,e29⟩;dsimp only [Zgk] at hL;refine r6 ?_;refine cn hL ?_ ?_
   ·intro hc hL;refine r13 ?_;rintro _ h34 ⟨b33,ZUO,rfl,hS⟩;refine r1 ?_;rintro h35 hS;refine r6 ?_;refine WO.inl gN rfl (Xj.fn Zs2 (Zc lk (Zc lk Zp))) (WF.begin (args:= [_,_]) (fn:=Tryz.f55) Kq0 (by exact rfl) Tryz.ntmps55 (by simp) ?_);simp only [ZO,Z6,Nat.reduceAdd];refine r3 ?_;rintro _ h37 ⟨b36,Z2R,rfl,hS⟩;refine r1 ?_;rintro _ h39 ⟨b38,Z2Q,rfl,hS⟩;refine r5 ?_;refine WO.w gN rfl (ZcV (Zc lk (Zc lk Zp))) ?_;refine r4 ?_;refine Yg.WH rfl (Z5 lk Zx) ?_;refine r3 ?_;refine WC.ZwE (first:= []) (cap:= [.pointer (some ⟨b36,0,none⟩),.pointer (some ⟨b38,0,none⟩)]) hS lk Zs1 ?_;intro h40 l41 ZJs ZQl ZkY hS;refine WR.Zf4 (r:=r) (fun(p:Int×Int×Bool) (v:Value) (h45:H)=>match p with | (v47,v48,Zwh)=>v= .tuple [].toArray∧Sp wm T h [bx wm b1 [.int .i64 p0.qG,.slice Zu p0.Zf.length Zt],bx wm b3 [.int .i64 v47],bx wm b33 [.int .i64 v48],bx wm b36 [.int .i64 p0.qG,.slice Zu p0.Zf.length Zt],bx wm b38 [.int .i64 v28],cds wm Zuj,ob wm l41 (lst Zwh Code.ret ZQl),ob wm ZJs .deferred] h45) (Zgj v28 WS) ?_ (WF.begin (args:= [_,_,_]) (fn:=Tryz.f84) Kq0 (by exact rfl) Tryz.ntmps84 (by simp) ?_)
    ·clear hL hS;rintro⟨v47,v48,Zwh⟩ v h45 hL ⟨rfl,hS⟩;dsimp only [Zgj] at hL;rcases Uu Zwh with hc | hc
     ·replace hL:=Jz hc hL;rw [hc] at hS;refine RgS.stop (c:=Code.ret) ZkY hS k6 ?_;rintro h51 hS;refine r7 ?_;refine Q7.Zpe hS k6 ?_;rintro h52 hS;refine Q7.ZzF hS k5 ?_;rintro h53 hS;have hr:=Oi0 hL;subst hr;exact Q7.gen rfl (QR (Ye rfl (ZG rfl (Ze rfl e26))) (KH ZpA (hS.W9 k1) (j:=0) rfl (v:= .int .i64 v47) rfl) Zx) rfl ⟨_,⟨rfl,rfl⟩,hT ▸ hS.only .n⟩
     ·replace hL:=JA hc hL;rw [hc] at hS;refine RgS.sp ZkY hS k6 ?_;rintro h54 hS;refine r7 ?_;have hS:=hS.ZVh k6 k5;exact Y9.XY (Zl5 _ _ hL ⟨_,_,(ZJs::Zuj),rfl,hS.only sl,Uj⟩)
    ·skip;simp only [ZO,Z6,Nat.reduceAdd];refine r5 ?_;obtain⟨x55,ZR7,hL⟩:=bS hL;obtain⟨b56,o57,_,ZX0,ZYL,ZYz,ZYm⟩:=Sl.at_ Yc ZR7;refine r7 ?_;refine WC.loop (WL.lift hL (fun p s=>match p with | (v62,v64,v65,Zwg)=>∃ ZyU h58,s= ⟨ZyU,[],h58,none⟩∧Sp wm T h [bx wm b36 [.int .i64 p0.qG,.slice Zu p0.Zf.length Zt],bx wm b1 [.int .i64 p0.qG,.slice Zu p0.Zf.length Zt],bx wm b3 [.int .i64 v64],bx wm b33 [.int .i64 v65],bx wm b38 [.int .i64 v28],cds wm Zuj,ob wm l41 (lst Zwg Code.ret ZQl),ob wm ZJs .deferred] h58∧ZyU.at 0= .func (.yield l41) #[] #[]∧ZyU.at 1= .pointer (some ⟨b36,0,none⟩)∧ZyU.at 4= .int .i64 v62) ⟨_,_,rfl,hS.only sl,Uj⟩ ?_);clear hL hS;rintro Zqs ⟨v62,v64,v65,Zwg⟩ s ZsW hL ⟨ZyU,h58,rfl,hS,e60,e61,e63⟩;dsimp only [Zjd] at hL;refine r7 ?_;refine cn hL ?_ ?_
     ·intro hc hL;refine r8 ?_;obtain⟨Zup,hL⟩:=Ztv hL;rw [Zup] at hS;refine WO.ZKR gN rfl lk lks hS k6 ZkY rfl rfl ?_;refine r1 ?_;refine AsS.sp ZkY hS k6 ?_;rintro h69 hS;refine r6 ?_;rintro h70 hS;refine r11 ?_;refine cn hL ?_ ?_
      ·intro hc hL;refine r3 ?_;rintro h71 hS;refine r4 ?_;refine BdS.stop .ret ZkY hS k2 ?_;rintro h72 hS;refine r3 ?_;refine cn hL ?_ ?_
       ·intro hc hL;refine r5 ?_;exact Yg.gen (vs:= []) rfl Zx rfl ⟨_,hL,⟨rfl,hS.only sl⟩⟩
       ·intro hc hL;refine r7 ?_;obtain⟨x73,ZR3,hL⟩:=bS hL;obtain⟨b74,o75,_,ZXZ,ZYJ,ZYy,ZYl⟩:=Sl.at_ Yc ZR3;refine r5 ?_;exact Y9.XY (ZsW _ _ hL ⟨_,_,rfl,hS.only sl,Uj⟩)
      ·intro hc hL;refine r2 ?_;refine BdS.sp ZkY hS k1 ?_;rintro h76 hS;refine r3 ?_;refine cn hL ?_ ?_
       ·intro hc hL;refine r5 ?_;exact Yg.gen (vs:= []) rfl Zx rfl ⟨_,hL,⟨rfl,hS.only sl⟩⟩
       ·intro hc hL;refine r7 ?_;obtain⟨x77,ZR1,hL⟩:=bS hL;obtain⟨b78,o79,_,ZXX,ZYH,ZYx,ZYj⟩:=Sl.at_ Yc ZR1;refine r5 ?_;exact Y9.XY (ZsW _ _ hL ⟨_,_,rfl,hS.only sl,Uj⟩)
     ·intro hc hL;refine r4 ?_;refine Yg.XY ?_;exact Yg.gen (vs:= []) rfl Zx rfl ⟨_,hL,⟨rfl,hS.only sl⟩⟩
   ·intro hc hL;refine r8 ?_;rintro h80 hS;refine r3 ?_;refine Q7.ZzF hS k2 ?_;rintro h81 hS;have hr:=Oi0 hL;subst hr;exact Q7.gen rfl (QR (Ze rfl e26) (KH ZpA (hS.W9 k0) (j:=0) rfl (v:= .int .i64 0) rfl) Zx) rfl ⟨_,⟨rfl,rfl⟩,hT ▸ hS.only .n⟩
end
section
end
section
end
end Go.Proofs.YtcnahmgekicbdaaGreat
end
end
