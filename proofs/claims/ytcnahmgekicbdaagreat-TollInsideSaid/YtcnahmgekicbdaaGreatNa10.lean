/- Part 10. -/
import Derived.Shelf.Sort.Plain
import Derived.Test.YtcnahmgekicbdaaGreatNa9
set_option linter.all false
set_option maxHeartbeats 2000000
section
noncomputable section
namespace Go.YD
open Go.Lf
variable {X:Ctx} {f:FuncId} {wm wm0:Nat} {h:H} {i o c:Nat} {cs:List Value} {xs:List Int}
theorem Zv9 (he:QE (Zm .i64) wm0 h cs o xs) {j:Nat} (hj:j < xs.length):cs[o + j]? =some (.int .i64 xs[j]):=by
 obtain⟨q,h1,_⟩:=he.get j xs[j] (List.getElem?_eq_getElem hj);have h1:(cs.drop (o + j * 1)).take 1= [.int .i64 xs[j]]:=h1;rw [Nat.mul_one] at h1;have:=congrArg (fun l=>l[0]?) h1
 simpa [List.getElem?_take,List.getElem?_drop] using this
end Go.YD
end
end
section
set_option maxRecDepth 100000
noncomputable section
namespace Go.Proofs.YtcnahmgekicbdaaGreat
open Go.YD Go.Lf
section
end
section
def Zmj (p2:Int) (x3:(List Int)):Int ->(Int ->Option Bool) ->Option Bool:=fun v14 Ziq=>
 (bif decide (v14 < (x3.length:Int)) then(ZM x3 v14).bind fun x17=>(bif(x17==p2) then some true else Ziq (YA (v14 + 1))) else some false)
def ZqM (F:Nat) (p0:Zb) (p1:Int) (p2:Int):Option Bool:=
 (bif(p1==p2) then some true else(ZyS F p0 p1).bind fun x3=>loop F (Zmj p2 x3) 0)
def ZfZ (v28:Int) (Wz:(Int×Int ->Option Int)):Int×Int×Bool ->Option Int:=fun(v47,v48,ZvM)=>
 (bif ZvM then some v47 else Wz (YA (v28 + 1),v47))
def ZiZ (p0:Zb) (v28:Int) (Wz:(Int×Int ->Option Int)):Int×Int×Int×Bool ->(Int×Int×Int×Bool ->Option Int) ->Option Int:=fun(v62,v64,v65,ZvL) Zp2=>
 (bif decide (v62 >=0) then(bif ZvL then none else(bif decide ((YA (v65 + 1)) > (p0.Ze.length:Int)) then(bif(!false) then(ZfZ v28 Wz) (2,YA (v65 + 1),true) else(ZM p0.Ze v62).bind fun x73=>Zp2 (x73.Uv,2,YA (v65 + 1),true)) else(bif(!true) then(ZfZ v28 Wz) (v64,YA (v65 + 1),false) else(ZM p0.Ze v62).bind fun x77=>Zp2 (x77.Uv,v64,YA (v65 + 1),false)))) else(ZfZ v28 Wz) (v64,v65,ZvL))
def Zf0 (F:Nat) (p0:Zb):Int×Int ->(Int×Int ->Option Int) ->Option Int:=fun(v28,v30) Wz=>
 (bif decide (v28 < (p0.Ze.length:Int)) then(ZM p0.Ze v28).bind fun x55=>loop F (ZiZ p0 v28 Wz) (x55.Uv,v30,0,false) else some 0)
def Zi0 (F:Nat) (p0:Zb):Int ->(Int ->Option Int) ->Option Int:=fun v12 Zw1=>
 (bif decide (v12 < (p0.Ze.length:Int)) then(ZM p0.Ze v12).bind fun x15=>(gd ((!((decide (x15.at_ < 0)) || (decide (x15.at_ >=p0.qG)))) && (x15.Uv != (-1))) (ZiY p0 x15.Uv) default).bind fun x21=>(bif(((decide (x15.at_ < 0)) || (decide (x15.at_ >=p0.qG))) || ((x15.Uv != (-1)) && (!x21))) then some 2 else Zw1 (YA (v12 + 1))) else loop F (Zf0 F p0) (0,0))
def Zt7 (F:Nat) (p0:Zb):Option Int:=
 (bif((((decide (p0.qG < 1)) || (decide (p0.qG > 4))) || (decide ((p0.Ze.length:Int) < 1))) || (decide ((p0.Ze.length:Int) > 8))) then some 2 else loop F (Zi0 F p0) 0)
def ZyT:(List Int) ->Option ((List Int)×Int):=fun v18=>
 some (v18,0)
def ZqL (p0:Zb):Int×(List Int) ->(Int×(List Int) ->Option ((List Int)×Int)) ->Option ((List Int)×Int):=fun(v31,v33) ZGG=>
 (bif decide (v31 >=0) then(app 8 v33 [v31]).bind fun z41=>(bif(!true) then(ZyT) z41 else(ZM p0.Ze v31).bind fun x47=>ZGG (x47.Uv,z41)) else(ZyT) v33)
def ZOx (F:Nat) (p0:Zb) (p1:Int):Option ((List Int)×Int):=
 (Zt7 F p0).bind fun x3=>(gd (!(x3 !=0)) (ZiY p0 p1) default).bind fun x4=>(bif((x3 !=0) || (!x4)) then some ([],2) else(ZM p0.Ze p1).bind fun x24=>loop F (ZqL p0) (x24.Uv,[]))
end
section
theorem ZIg {F wm h} {p0:Zb} {p1 p2:Int} {Zt Zr} {r} (ZP:wm <=h.size) (ZW:Sl Zj wm h Zt Zr p0.Ze) (hL:ZqM F p0 p1 p2=some r):
 WR XX 31 #[.agg [.int .i64 p0.qG,.slice Zt p0.Ze.length Zr].toArray,.int .i64 p1,.int .i64 p2] wm h (CP (fun(v:Value) (Gb:List (Ast wm))=>v= .bool r∧Gb= []) [] h):=by
 refine bg Tryz.ntmps31 ZP Ya.nil ?_;intro T hT hS;unfold ZqM at hL;refine r3 ?_;rintro _ h2 ⟨b1,eb1,rfl,hS⟩;refine r11 ?_;refine cn hL ?_ ?_
 ·intro hc hL;refine r7 ?_;exact rt hL hT hS
 ·intro hc hL;refine r7 ?_;obtain⟨x3,hx3,hL⟩:=bS hL;refine WO.cl gN rfl (Xc.fn ZNi (Zc lk (Zc lk Zo))) hS .n (fun g' hz hf hO=>ZIb (by rw [hz];exact hS.hw) ((hS.sl ZW).mono hf) hx3) ?_;rintro _ h7 _ ⟨a4,n5,c6,rfl,rfl⟩ hS;obtain rfl:=hS.on k0;refine r5 ?_;refine WC.loop (WL.lift hL (fun v14 s=>∃ ZtZ h9,s= ⟨ZtZ,[],h9,none⟩∧Sp wm T h [ow wm (Zm .i64) a4 x3.length c6 x3] h9∧ZtZ.at 2= .int .i64 p2∧ZtZ.at 14= .slice a4 x3.length c6∧ZtZ.at 15= .int .i64 (x3.length:Int)∧ZtZ.at 16= .int .i64 v14) ⟨_,_,rfl,hS.only sl,QY⟩ ?_);clear hL hS;rintro Ziq v14 s ZlE hL ⟨ZtZ,h9,rfl,hS,e11,e12,e13,e15⟩;dsimp only [Zmj] at hL;refine r6 ?_;refine cn hL ?_ ?_
  ·intro hc hL;refine r6 ?_;obtain⟨x17,Zn7,hL⟩:=bS hL;obtain⟨b18,o19,_,ZD1,ZD8,ZD3⟩:=Src.at_ (hS.J7 k0) Zn7;refine r12 ?_;refine cn hL ?_ ?_
   ·intro hc hL;refine r11 ?_;exact rt hL hT hS
   ·intro hc hL;refine r7 ?_;exact YT.XM (ZlE _ _ hL ⟨_,_,rfl,hS.only sl,QY⟩)
  ·intro hc hL;refine r11 ?_;exact rt hL hT hS
theorem ZyU {F h} {p0:Zb} {p1 p2:Int} {Zt Zr} {r} (ZW:Sl Zj h.size h Zt Zr p0.Ze) (hL:ZqM F p0 p1 p2=some r):Pure XX 31 #[.agg [.int .i64 p0.qG,.slice Zt p0.Ze.length Zr].toArray,.int .i64 p1,.int .i64 p2] h (.bool r):=
 WR.XK rfl (ZIg (Nat.le_refl _) ZW hL)
theorem ZIc {F wm h} {p0:Zb} {Zt Zr} {r} (ZP:wm <=h.size) (ZW:Sl Zj wm h Zt Zr p0.Ze) (hL:Zt7 F p0=some r):
 WR XX 34 #[.agg [.int .i64 p0.qG,.slice Zt p0.Ze.length Zr].toArray] wm h (CP (fun(v:Value) (Gb:List (Ast wm))=>v= .int .i64 r∧Gb= []) [] h):=by
 refine WF.Zgj (args:= [_]) (fn:=Tryz.f34) Kq0 (by exact rfl) Tryz.ntmps34 (by simp) ?_;simp only [ZN,Z4,Nat.reduceAdd];obtain⟨T,hT,hS⟩:∃ T,T=Qn (wm:=wm) []∧Sp wm T h [] h:= ⟨_,rfl,Sp.start ZP Ya.nil⟩
 unfold Zt7 at hL;refine r3 ?_;rintro _ h2 ⟨b1,eb1,rfl,hS⟩;refine r1 ?_;rintro _ h4 ⟨b3,eb3,rfl,hS⟩;refine r16 ?_;refine r11 ?_;refine cn hL ?_ ?_
 ·intro hc hL;refine r3 ?_;rintro h5 hS;refine r4 ?_;have hr:=Oi0 hL;subst hr;exact QZ.gen rfl (QH (ZJ rfl (ZJ rfl (YR rfl fh))) (Kv Zpa (hS.WQ k0) (j:=0) rfl (v:= .int .i64 2) rfl) Zw) rfl ⟨_,⟨rfl,rfl⟩,hT ▸ hS.only .n⟩
 ·intro hc hL;refine r12 ?_;refine WC.loop (WL.lift hL (fun v12 s=>∃ fr7 h6,s= ⟨fr7,[],h6,none⟩∧Sp wm T h [bx wm b1 [.int .i64 p0.qG,.slice Zt p0.Ze.length Zr],bx wm b3 [.int .i64 0]] h6∧fr7.at 1= .pointer (some ⟨b1,0,none⟩)∧fr7.at 2= .pointer (some ⟨b3,0,none⟩)∧fr7.at 28= .slice Zt p0.Ze.length Zr∧fr7.at 29= .int .i64 (p0.Ze.length:Int)∧fr7.at 30= .int .i64 v12) ⟨_,_,rfl,hS.only sl,QY⟩ ?_);clear hL hS;rintro Zw1 v12 s ZBr hL ⟨fr7,h6,rfl,hS,e8,e9,e10,e11,e13⟩;dsimp only [Zi0] at hL;refine r6 ?_;refine cn hL ?_ ?_
  ·intro hc hL;refine r6 ?_;obtain⟨x15,ZtO,hL⟩:=bS hL;obtain⟨b16,o17,_,ZD2,Zym,Zyj,ZNP⟩:=Sl.at_ ZW ZtO;refine r1 ?_;refine WO.w gN rfl (JA Zo9 ZdB (Z5 fh rfl) (At.fz hS.fz Zyj Zym) (j:=0) rfl rfl (ws:= (cP x15)) rfl) ?_;refine r1 ?_;rintro _ h19 ⟨b18,Z1S,rfl,hS⟩;refine r1 ?_;rintro h20 hS;refine r16 ?_;refine r6 ?_;obtain⟨x21,Zxy,hL⟩:=Qs hL;refine WO.gcp (Zh.ZAf rfl rfl rfl (Yk rfl (Zg rfl fh))) rfl (fun hg=>(Xc.fn Zx7 (Zc (Uc (Yk rfl fh) rfl hg) (Zc (Uc fh rfl hg) Zo)))) (fun hg=>ZqK (hS.slu ZW) (Zxy hg)) ?_;refine r1 ?_;refine WO.gv (Zh.no rfl rfl rfl (ZJ rfl (Zg rfl fh))) rfl (fun hg=>(Zra (Uc (YR rfl (Zg rfl fh)) rfl hg) (Zy1 fh hg) lk)) ?_;refine r3 ?_;refine cn hL ?_ ?_
   ·intro hc hL;refine r3 ?_;rintro h22 hS;refine r8 ?_;have hr:=Oi0 hL;subst hr;exact QZ.gen rfl (QH (ZJ rfl (ZJ rfl (ZJ rfl (Yk rfl e9)))) (Kv Zpa (hS.WQ k0) (j:=0) rfl (v:= .int .i64 2) rfl) Zw) rfl ⟨_,⟨rfl,rfl⟩,hT ▸ hS.only .n⟩
   ·intro hc hL;refine r7 ?_;exact YT.XM (ZBr _ _ hL ⟨_,_,rfl,hS.only sl,QY⟩)
  ·intro hc hL;refine r15 ?_;have hS:=hS.ZUd;refine WC.loop (WL.lift hL (fun p s=>match p with | (v28,v30)=>∃ ZtW h23,∃ (ZtJ:List Nat),s= ⟨ZtW,(ZOT ZtJ ++ []),h23,none⟩∧Sp wm T h [bx wm b1 [.int .i64 p0.qG,.slice Zt p0.Ze.length Zr],bx wm b3 [.int .i64 v30],cds wm ZtJ] h23∧ZtW.at 1= .pointer (some ⟨b1,0,none⟩)∧ZtW.at 2= .pointer (some ⟨b3,0,none⟩)∧ZtW.at 59= .int .i64 (p0.Ze.length:Int)∧ZtW.at 60= .int .i64 v28) ⟨_,_,[],rfl,hS.only sl,QY⟩ ?_);clear hL hS;rintro Wz ⟨v28,v30⟩ s ZlD hL ⟨ZtW,h23,ZtJ,rfl,hS,e25,e26,e27,e29⟩;dsimp only [Zf0] at hL;refine r6 ?_;refine cn hL ?_ ?_
   ·intro hc hL;refine r13 ?_;rintro _ h34 ⟨b33,ZTX,rfl,hS⟩;refine r1 ?_;rintro h35 hS;refine r6 ?_;refine WO.inl gN rfl (Xc.fn Zsx (Zc lk (Zc lk Zo))) (WF.begin (args:= [_,_]) (fn:=Tryz.f55) Kq0 (by exact rfl) Tryz.ntmps55 (by simp) ?_);simp only [ZN,Z4,Nat.reduceAdd];refine r3 ?_;rintro _ h37 ⟨b36,Z1O,rfl,hS⟩;refine r1 ?_;rintro _ h39 ⟨b38,ZTW,rfl,hS⟩;refine r5 ?_;refine WO.w gN rfl (Zcx (Zc lk (Zc lk Zo))) ?_;refine r4 ?_;refine Yd.Ww rfl (Z0 lk Zw) ?_;refine r3 ?_;refine WC.Zv8 (first:= []) (cap:= [.pointer (some ⟨b36,0,none⟩),.pointer (some ⟨b38,0,none⟩)]) hS lk Zsw ?_;intro h40 l41 ZIB ZPE ZkG hS;refine WR.ZfJ (r:=r) (fun(p:Int×Int×Bool) (v:Value) (h45:H)=>match p with | (v47,v48,ZvM)=>v= .tuple [].toArray∧Sp wm T h [bx wm b1 [.int .i64 p0.qG,.slice Zt p0.Ze.length Zr],bx wm b3 [.int .i64 v47],bx wm b33 [.int .i64 v48],bx wm b36 [.int .i64 p0.qG,.slice Zt p0.Ze.length Zr],bx wm b38 [.int .i64 v28],cds wm ZtJ,ob wm l41 (lst ZvM Code.ret ZPE),ob wm ZIB .deferred] h45) (ZfZ v28 Wz) ?_ (WF.begin (args:= [_,_,_]) (fn:=Tryz.f84) Kq0 (by exact rfl) Tryz.ntmps84 (by simp) ?_)
    ·clear hL hS;rintro⟨v47,v48,ZvM⟩ v h45 hL ⟨rfl,hS⟩;dsimp only [ZfZ] at hL;rcases Uk ZvM with hc | hc
     ·replace hL:=JD hc hL;rw [hc] at hS;refine RgS.stop (c:=Code.ret) ZkG hS k6 ?_;rintro h51 hS;refine r7 ?_;refine QZ.ZoO hS k6 ?_;rintro h52 hS;refine QZ.Zy7 hS k5 ?_;rintro h53 hS;have hr:=Oi0 hL;subst hr;exact QZ.gen rfl (QH (YR rfl (Yk rfl (Zg rfl e26))) (Kv Zpa (hS.WQ k1) (j:=0) rfl (v:= .int .i64 v47) rfl) Zw) rfl ⟨_,⟨rfl,rfl⟩,hT ▸ hS.only .n⟩
     ·replace hL:=JE hc hL;rw [hc] at hS;refine RgS.sp ZkG hS k6 ?_;rintro h54 hS;refine r7 ?_;have hS:=hS.ZUc k6 k5;exact YT.XM (ZlD _ _ hL ⟨_,_,(ZIB::ZtJ),rfl,hS.only sl,QY⟩)
    ·skip;simp only [ZN,Z4,Nat.reduceAdd];refine r5 ?_;obtain⟨x55,ZRv,hL⟩:=bS hL;obtain⟨b56,o57,_,ZWW,ZXF,ZXt,ZXf⟩:=Sl.at_ ZW ZRv;refine r7 ?_;refine WC.loop (WL.lift hL (fun p s=>match p with | (v62,v64,v65,ZvL)=>∃ Zys h58,s= ⟨Zys,[],h58,none⟩∧Sp wm T h [bx wm b36 [.int .i64 p0.qG,.slice Zt p0.Ze.length Zr],bx wm b1 [.int .i64 p0.qG,.slice Zt p0.Ze.length Zr],bx wm b3 [.int .i64 v64],bx wm b33 [.int .i64 v65],bx wm b38 [.int .i64 v28],cds wm ZtJ,ob wm l41 (lst ZvL Code.ret ZPE),ob wm ZIB .deferred] h58∧Zys.at 0= .func (.yield l41) #[] #[]∧Zys.at 1= .pointer (some ⟨b36,0,none⟩)∧Zys.at 4= .int .i64 v62) ⟨_,_,rfl,hS.only sl,QY⟩ ?_);clear hL hS;rintro Zp2 ⟨v62,v64,v65,ZvL⟩ s Zsq hL ⟨Zys,h58,rfl,hS,e60,e61,e63⟩;dsimp only [ZiZ] at hL;refine r7 ?_;refine cn hL ?_ ?_
     ·intro hc hL;refine r8 ?_;obtain⟨ZtQ,hL⟩:=ZsY hL;rw [ZtQ] at hS;refine WO.ZJ1 gN rfl lk lks hS k6 ZkG rfl rfl ?_;refine r1 ?_;refine AsS.sp ZkG hS k6 ?_;rintro h69 hS;refine r6 ?_;rintro h70 hS;refine r11 ?_;refine cn hL ?_ ?_
      ·intro hc hL;refine r3 ?_;rintro h71 hS;refine r4 ?_;refine BdS.stop .ret ZkG hS k2 ?_;rintro h72 hS;refine r3 ?_;refine cn hL ?_ ?_
       ·intro hc hL;refine r5 ?_;exact Yd.gen (vs:= []) rfl Zw rfl ⟨_,hL,⟨rfl,hS.only sl⟩⟩
       ·intro hc hL;refine r7 ?_;obtain⟨x73,ZRr,hL⟩:=bS hL;obtain⟨b74,o75,_,ZWV,ZXD,ZXs,ZXe⟩:=Sl.at_ ZW ZRr;refine r5 ?_;exact YT.XM (Zsq _ _ hL ⟨_,_,rfl,hS.only sl,QY⟩)
      ·intro hc hL;refine r2 ?_;refine BdS.sp ZkG hS k1 ?_;rintro h76 hS;refine r3 ?_;refine cn hL ?_ ?_
       ·intro hc hL;refine r5 ?_;exact Yd.gen (vs:= []) rfl Zw rfl ⟨_,hL,⟨rfl,hS.only sl⟩⟩
       ·intro hc hL;refine r7 ?_;obtain⟨x77,ZRp,hL⟩:=bS hL;obtain⟨b78,o79,_,ZWT,ZXB,ZXr,ZXc⟩:=Sl.at_ ZW ZRp;refine r5 ?_;exact YT.XM (Zsq _ _ hL ⟨_,_,rfl,hS.only sl,QY⟩)
     ·intro hc hL;refine r4 ?_;refine Yd.XM ?_;exact Yd.gen (vs:= []) rfl Zw rfl ⟨_,hL,⟨rfl,hS.only sl⟩⟩
   ·intro hc hL;refine r8 ?_;rintro h80 hS;refine r3 ?_;refine QZ.Zy7 hS k2 ?_;rintro h81 hS;have hr:=Oi0 hL;subst hr;exact QZ.gen rfl (QH (Zg rfl e26) (Kv Zpa (hS.WQ k0) (j:=0) rfl (v:= .int .i64 0) rfl) Zw) rfl ⟨_,⟨rfl,rfl⟩,hT ▸ hS.only .n⟩
end
section
end
section
end
end Go.Proofs.YtcnahmgekicbdaaGreat
end
end
