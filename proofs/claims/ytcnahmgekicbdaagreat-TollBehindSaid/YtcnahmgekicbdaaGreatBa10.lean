/- Part 10. -/
import Derived.Shelf.Sort.Plain
import Derived.Test.YtcnahmgekicbdaaGreatBa9
set_option linter.all false
set_option maxHeartbeats 2000000
section
noncomputable section
namespace Go.YH
open Go.Lf
variable {X:Ctx} {f:FuncId} {wm wm0:Nat} {h:H} {i o c:Nat} {cs:List Value} {xs:List Int}
theorem ZuC (he:Qv (Zn .i64) wm0 h cs o xs) {j:Nat} (hj:j < xs.length):cs[o + j]? =some (.int .i64 xs[j]):=by
 obtain⟨q,h1,_⟩:=he.get j xs[j] (List.getElem?_eq_getElem hj);have h1:(cs.drop (o + j * 1)).take 1= [.int .i64 xs[j]]:=h1;rw [Nat.mul_one] at h1;have:=congrArg (fun l=>l[0]?) h1
 simpa [List.getElem?_take,List.getElem?_drop] using this
end Go.YH
end
end
section
set_option maxRecDepth 100000
noncomputable section
namespace Go.Proofs.YtcnahmgekicbdaaGreat
open Go.YH Go.Lf
section
end
section
def Zli (p2:Int) (x3:(List Int)):Int ->(Int ->Option Bool) ->Option Bool:=fun v14 Zho=>
 (bif decide (v14 < (x3.length:Int)) then(ZK x3 v14).bind fun x17=>(bif(x17==p2) then some true else Zho (Yz (v14 + 1))) else some false)
def ZsC (F:Nat) (p0:Zc) (p1:Int) (p2:Int):Option Bool:=
 (bif(p1==p2) then some true else(Zxe F p0 p1).bind fun x3=>loop F (Zli p2 x3) 0)
def Zfb (v28:Int) (Ws:(Int×Int ->Option Int)):Int×Int×Bool ->Option Int:=fun(v47,v48,Zug)=>
 (bif Zug then some v47 else Ws (Yz (v28 + 1),v47))
def Zh1 (p0:Zc) (v28:Int) (Ws:(Int×Int ->Option Int)):Int×Int×Int×Bool ->(Int×Int×Int×Bool ->Option Int) ->Option Int:=fun(v62,v64,v65,Zuf) ZoE=>
 (bif decide (v62 >=0) then(bif Zuf then none else(bif decide ((Yz (v65 + 1)) > (p0.Ze.length:Int)) then(bif(!false) then(Zfb v28 Ws) (2,Yz (v65 + 1),true) else(ZK p0.Ze v62).bind fun x73=>ZoE (x73.Ul,2,Yz (v65 + 1),true)) else(bif(!true) then(Zfb v28 Ws) (v64,Yz (v65 + 1),false) else(ZK p0.Ze v62).bind fun x77=>ZoE (x77.Ul,v64,Yz (v65 + 1),false)))) else(Zfb v28 Ws) (v64,v65,Zuf))
def Zfc (F:Nat) (p0:Zc):Int×Int ->(Int×Int ->Option Int) ->Option Int:=fun(v28,v30) Ws=>
 (bif decide (v28 < (p0.Ze.length:Int)) then(ZK p0.Ze v28).bind fun x55=>loop F (Zh1 p0 v28 Ws) (x55.Ul,v30,0,false) else some 0)
def Zh2 (F:Nat) (p0:Zc):Int ->(Int ->Option Int) ->Option Int:=fun v12 Zvq=>
 (bif decide (v12 < (p0.Ze.length:Int)) then(ZK p0.Ze v12).bind fun x15=>(gd ((!((decide (x15.at_ < 0)) || (decide (x15.at_ >=p0.qG)))) && (x15.Ul != (-1))) (Zh0 p0 x15.Ul) default).bind fun x21=>(bif(((decide (x15.at_ < 0)) || (decide (x15.at_ >=p0.qG))) || ((x15.Ul != (-1)) && (!x21))) then some 2 else Zvq (Yz (v12 + 1))) else loop F (Zfc F p0) (0,0))
def ZsB (F:Nat) (p0:Zc):Option Int:=
 (bif((((decide (p0.qG < 1)) || (decide (p0.qG > 4))) || (decide ((p0.Ze.length:Int) < 1))) || (decide ((p0.Ze.length:Int) > 8))) then some 2 else loop F (Zh2 F p0) 0)
def Zxf:(List Int) ->Option ((List Int)×Int):=fun v18=>
 some (v18,0)
def Zpk (p0:Zc):Int×(List Int) ->(Int×(List Int) ->Option ((List Int)×Int)) ->Option ((List Int)×Int):=fun(v31,v33) ZEM=>
 (bif decide (v31 >=0) then(app 8 v33 [v31]).bind fun z41=>(bif(!true) then(Zxf) z41 else(ZK p0.Ze v31).bind fun x47=>ZEM (x47.Ul,z41)) else(Zxf) v33)
def ZL3 (F:Nat) (p0:Zc) (p1:Int):Option ((List Int)×Int):=
 (ZsB F p0).bind fun x3=>(gd (!(x3 !=0)) (Zh0 p0 p1) default).bind fun x4=>(bif((x3 !=0) || (!x4)) then some ([],2) else(ZK p0.Ze p1).bind fun x24=>loop F (Zpk p0) (x24.Ul,[]))
end
section
theorem ZGj {F wm h} {p0:Zc} {p1 p2:Int} {Zr Zq} {r} (ZL:wm <=h.size) (ZX:Sl Zg wm h Zr Zq p0.Ze) (hL:ZsC F p0 p1 p2=some r):
 WR XX 31 #[.agg [.int .i64 p0.qG,.slice Zr p0.Ze.length Zq].toArray,.int .i64 p1,.int .i64 p2] wm h (CP (fun(v:Value) (Gb:List (Ast wm))=>v= .bool r∧Gb= []) [] h):=by
 refine bg Tryz.ntmps31 ZL Z9.nil ?_;intro T hT hS;unfold ZsC at hL;refine r3 ?_;rintro _ h2 ⟨b1,eb1,rfl,hS⟩;refine r11 ?_;refine cn hL ?_ ?_
 ·intro hc hL;refine r7 ?_;exact rt hL hT hS
 ·intro hc hL;refine r7 ?_;obtain⟨x3,hx3,hL⟩:=bS hL;refine WO.cl gN rfl (Xa.fn ZKV (Zb lk (Zb lk Zp))) hS .n (fun g' hz hf hO=>ZGg (by rw [hz];exact hS.hw) ((hS.sl ZX).mono hf) hx3) ?_;rintro _ h7 _ ⟨a4,n5,c6,rfl,rfl⟩ hS;obtain rfl:=hS.on k0;refine r5 ?_;refine WC.loop (WL.lift hL (fun v14 s=>∃ Zst h9,s= ⟨Zst,[],h9,none⟩∧Sp wm T h [ow wm (Zn .i64) a4 x3.length c6 x3] h9∧Zst.at 2= .int .i64 p2∧Zst.at 14= .slice a4 x3.length c6∧Zst.at 15= .int .i64 (x3.length:Int)∧Zst.at 16= .int .i64 v14) ⟨_,_,rfl,hS.only sl,JY⟩ ?_);clear hL hS;rintro Zho v14 s ZkI hL ⟨Zst,h9,rfl,hS,e11,e12,e13,e15⟩;dsimp only [Zli] at hL;refine r6 ?_;refine cn hL ?_ ?_
  ·intro hc hL;refine r6 ?_;obtain⟨x17,ZiL,hL⟩:=bS hL;obtain⟨b18,o19,_,ZB6,ZCc,ZB8⟩:=Src.at_ (hS.Uu k0) ZiL;refine r12 ?_;refine cn hL ?_ ?_
   ·intro hc hL;refine r11 ?_;exact rt hL hT hS
   ·intro hc hL;refine r7 ?_;exact Y2.XO (ZkI _ _ hL ⟨_,_,rfl,hS.only sl,JY⟩)
  ·intro hc hL;refine r11 ?_;exact rt hL hT hS
theorem ZGk {F h} {p0:Zc} {p1 p2:Int} {Zr Zq} {r} (ZX:Sl Zg h.size h Zr Zq p0.Ze) (hL:ZsC F p0 p1 p2=some r):Pure XX 31 #[.agg [.int .i64 p0.qG,.slice Zr p0.Ze.length Zq].toArray,.int .i64 p1,.int .i64 p2] h (.bool r):=
 WR.XC rfl (ZGj (Nat.le_refl _) ZX hL)
theorem ZGh {F wm h} {p0:Zc} {Zr Zq} {r} (ZL:wm <=h.size) (ZX:Sl Zg wm h Zr Zq p0.Ze) (hL:ZsB F p0=some r):
 WR XX 34 #[.agg [.int .i64 p0.qG,.slice Zr p0.Ze.length Zq].toArray] wm h (CP (fun(v:Value) (Gb:List (Ast wm))=>v= .int .i64 r∧Gb= []) [] h):=by
 refine WF.Zfr (args:= [_]) (fn:=Tryz.f34) Kq0 (by exact rfl) Tryz.ntmps34 (by simp) ?_;simp only [ZI,ZW,Nat.reduceAdd];obtain⟨T,hT,hS⟩:∃ T,T=Qf (wm:=wm) []∧Sp wm T h [] h:= ⟨_,rfl,Sp.start ZL Z9.nil⟩
 unfold ZsB at hL;refine r3 ?_;rintro _ h2 ⟨b1,eb1,rfl,hS⟩;refine r1 ?_;rintro _ h4 ⟨b3,eb3,rfl,hS⟩;refine r16 ?_;refine r11 ?_;refine cn hL ?_ ?_
 ·intro hc hL;refine r3 ?_;rintro h5 hS;refine r4 ?_;have hr:=Oi0 hL;subst hr;exact QM.gen rfl (Qz (Zx rfl (Zx rfl (YB rfl fh))) (Kh ZnS (hS.WA k0) (j:=0) rfl (v:= .int .i64 2) rfl) Zv) rfl ⟨_,⟨rfl,rfl⟩,hT ▸ hS.only .n⟩
 ·intro hc hL;refine r12 ?_;refine WC.loop (WL.lift hL (fun v12 s=>∃ fr7 h6,s= ⟨fr7,[],h6,none⟩∧Sp wm T h [bx wm b1 [.int .i64 p0.qG,.slice Zr p0.Ze.length Zq],bx wm b3 [.int .i64 0]] h6∧fr7.at 1= .pointer (some ⟨b1,0,none⟩)∧fr7.at 2= .pointer (some ⟨b3,0,none⟩)∧fr7.at 28= .slice Zr p0.Ze.length Zq∧fr7.at 29= .int .i64 (p0.Ze.length:Int)∧fr7.at 30= .int .i64 v12) ⟨_,_,rfl,hS.only sl,JY⟩ ?_);clear hL hS;rintro Zvq v12 s ZzC hL ⟨fr7,h6,rfl,hS,e8,e9,e10,e11,e13⟩;dsimp only [Zh2] at hL;refine r6 ?_;refine cn hL ?_ ?_
  ·intro hc hL;refine r6 ?_;obtain⟨x15,Zsi,hL⟩:=bS hL;obtain⟨b16,o17,_,ZB7,ZwG,ZwD,ZLq⟩:=Sl.at_ ZX Zsi;refine r1 ?_;refine WO.w gN rfl (Ua ZnR ZgP (ZR fh rfl) (At.fz hS.fz ZwD ZwG) (j:=0) rfl rfl (ws:= (cP x15)) rfl) ?_;refine r1 ?_;rintro _ h19 ⟨b18,ZZq,rfl,hS⟩;refine r1 ?_;rintro h20 hS;refine r16 ?_;refine r6 ?_;obtain⟨x21,ZvV,hL⟩:=JI hL;refine WO.gcp (Zi.Zyx rfl rfl rfl (ZY rfl (Zf rfl fh))) rfl (fun hg=>(Xa.fn Zwr (Zb (WQ (ZY rfl fh) rfl hg) (Zb (WQ fh rfl hg) Zp)))) (fun hg=>Zpj (hS.slu ZX) (ZvV hg)) ?_;refine r1 ?_;refine WO.gv (Zi.no rfl rfl rfl (Zx rfl (Zf rfl fh))) rfl (fun hg=>(ZpK (WQ (YB rfl (Zf rfl fh)) rfl hg) (Zxo fh hg) lk)) ?_;refine r3 ?_;refine cn hL ?_ ?_
   ·intro hc hL;refine r3 ?_;rintro h22 hS;refine r8 ?_;have hr:=Oi0 hL;subst hr;exact QM.gen rfl (Qz (Zx rfl (Zx rfl (Zx rfl (ZY rfl e9)))) (Kh ZnS (hS.WA k0) (j:=0) rfl (v:= .int .i64 2) rfl) Zv) rfl ⟨_,⟨rfl,rfl⟩,hT ▸ hS.only .n⟩
   ·intro hc hL;refine r7 ?_;exact Y2.XO (ZzC _ _ hL ⟨_,_,rfl,hS.only sl,JY⟩)
  ·intro hc hL;refine r15 ?_;have hS:=hS.ZRL;refine WC.loop (WL.lift hL (fun p s=>match p with | (v28,v30)=>∃ Zsq h23,∃ (Zse:List Nat),s= ⟨Zsq,(ZMs Zse ++ []),h23,none⟩∧Sp wm T h [bx wm b1 [.int .i64 p0.qG,.slice Zr p0.Ze.length Zq],bx wm b3 [.int .i64 v30],cds wm Zse] h23∧Zsq.at 1= .pointer (some ⟨b1,0,none⟩)∧Zsq.at 2= .pointer (some ⟨b3,0,none⟩)∧Zsq.at 59= .int .i64 (p0.Ze.length:Int)∧Zsq.at 60= .int .i64 v28) ⟨_,_,[],rfl,hS.only sl,JY⟩ ?_);clear hL hS;rintro Ws ⟨v28,v30⟩ s ZkH hL ⟨Zsq,h23,Zse,rfl,hS,e25,e26,e27,e29⟩;dsimp only [Zfc] at hL;refine r6 ?_;refine cn hL ?_ ?_
   ·intro hc hL;refine r13 ?_;rintro _ h34 ⟨b33,ZRp,rfl,hS⟩;refine r1 ?_;rintro h35 hS;refine r6 ?_;refine WO.inl gN rfl (Xa.fn Zq5 (Zb lk (Zb lk Zp))) (WF.begin (args:= [_,_]) (fn:=Tryz.f55) Kq0 (by exact rfl) Tryz.ntmps55 (by simp) ?_);simp only [ZI,ZW,Nat.reduceAdd];refine r3 ?_;rintro _ h37 ⟨b36,ZZl,rfl,hS⟩;refine r1 ?_;rintro _ h39 ⟨b38,ZZk,rfl,hS⟩;refine r5 ?_;refine WO.w gN rfl (ZbZ (Zb lk (Zb lk Zp))) ?_;refine r4 ?_;refine Yd.Wn rfl (ZV lk Zv) ?_;refine r3 ?_;refine WC.ZuB (first:= []) (cap:= [.pointer (some ⟨b36,0,none⟩),.pointer (some ⟨b38,0,none⟩)]) hS lk Zq4 ?_;intro h40 l41 ZGB ZNb ZjF hS;refine WR.ZeW (r:=r) (fun(p:Int×Int×Bool) (v:Value) (h45:H)=>match p with | (v47,v48,Zug)=>v= .tuple [].toArray∧Sp wm T h [bx wm b1 [.int .i64 p0.qG,.slice Zr p0.Ze.length Zq],bx wm b3 [.int .i64 v47],bx wm b33 [.int .i64 v48],bx wm b36 [.int .i64 p0.qG,.slice Zr p0.Ze.length Zq],bx wm b38 [.int .i64 v28],cds wm Zse,ob wm l41 (lst Zug Code.ret ZNb),ob wm ZGB .deferred] h45) (Zfb v28 Ws) ?_ (WF.begin (args:= [_,_,_]) (fn:=Tryz.f84) Kq0 (by exact rfl) Tryz.ntmps84 (by simp) ?_)
    ·clear hL hS;rintro⟨v47,v48,Zug⟩ v h45 hL ⟨rfl,hS⟩;dsimp only [Zfb] at hL;rcases J9 Zug with hc | hc
     ·replace hL:=Jl hc hL;rw [hc] at hS;refine RgS.stop (c:=Code.ret) ZjF hS k6 ?_;rintro h51 hS;refine r7 ?_;refine QM.Znx hS k6 ?_;rintro h52 hS;refine QM.Zxv hS k5 ?_;rintro h53 hS;have hr:=Oi0 hL;subst hr;exact QM.gen rfl (Qz (YB rfl (ZY rfl (Zf rfl e26))) (Kh ZnS (hS.WA k1) (j:=0) rfl (v:= .int .i64 v47) rfl) Zv) rfl ⟨_,⟨rfl,rfl⟩,hT ▸ hS.only .n⟩
     ·replace hL:=Jm hc hL;rw [hc] at hS;refine RgS.sp ZjF hS k6 ?_;rintro h54 hS;refine r7 ?_;have hS:=hS.ZRK k6 k5;exact Y2.XO (ZkH _ _ hL ⟨_,_,(ZGB::Zse),rfl,hS.only sl,JY⟩)
    ·skip;simp only [ZI,ZW,Nat.reduceAdd];refine r5 ?_;obtain⟨x55,ZO1,hL⟩:=bS hL;obtain⟨b56,o57,_,ZUt,ZVh,ZU2,ZUQ⟩:=Sl.at_ ZX ZO1;refine r7 ?_;refine WC.loop (WL.lift hL (fun p s=>match p with | (v62,v64,v65,Zuf)=>∃ ZwM h58,s= ⟨ZwM,[],h58,none⟩∧Sp wm T h [bx wm b36 [.int .i64 p0.qG,.slice Zr p0.Ze.length Zq],bx wm b1 [.int .i64 p0.qG,.slice Zr p0.Ze.length Zq],bx wm b3 [.int .i64 v64],bx wm b33 [.int .i64 v65],bx wm b38 [.int .i64 v28],cds wm Zse,ob wm l41 (lst Zuf Code.ret ZNb),ob wm ZGB .deferred] h58∧ZwM.at 0= .func (.yield l41) #[] #[]∧ZwM.at 1= .pointer (some ⟨b36,0,none⟩)∧ZwM.at 4= .int .i64 v62) ⟨_,_,rfl,hS.only sl,JY⟩ ?_);clear hL hS;rintro ZoE ⟨v62,v64,v65,Zuf⟩ s ZqY hL ⟨ZwM,h58,rfl,hS,e60,e61,e63⟩;dsimp only [Zh1] at hL;refine r7 ?_;refine cn hL ?_ ?_
     ·intro hc hL;refine r8 ?_;obtain⟨Zsk,hL⟩:=Zrv hL;rw [Zsk] at hS;refine WO.ZHU gN rfl lk lks hS k6 ZjF rfl rfl ?_;refine r1 ?_;refine AsS.sp ZjF hS k6 ?_;rintro h69 hS;refine r6 ?_;rintro h70 hS;refine r11 ?_;refine cn hL ?_ ?_
      ·intro hc hL;refine r3 ?_;rintro h71 hS;refine r4 ?_;refine BdS.stop .ret ZjF hS k2 ?_;rintro h72 hS;refine r3 ?_;refine cn hL ?_ ?_
       ·intro hc hL;refine r5 ?_;exact Yd.gen (vs:= []) rfl Zv rfl ⟨_,hL,⟨rfl,hS.only sl⟩⟩
       ·intro hc hL;refine r7 ?_;obtain⟨x73,ZOV,hL⟩:=bS hL;obtain⟨b74,o75,_,ZUq,ZVd,ZU0,ZUM⟩:=Sl.at_ ZX ZOV;refine r5 ?_;exact Y2.XO (ZqY _ _ hL ⟨_,_,rfl,hS.only sl,JY⟩)
      ·intro hc hL;refine r2 ?_;refine BdS.sp ZjF hS k1 ?_;rintro h76 hS;refine r3 ?_;refine cn hL ?_ ?_
       ·intro hc hL;refine r5 ?_;exact Yd.gen (vs:= []) rfl Zv rfl ⟨_,hL,⟨rfl,hS.only sl⟩⟩
       ·intro hc hL;refine r7 ?_;obtain⟨x77,ZOT,hL⟩:=bS hL;obtain⟨b78,o79,_,ZUo,ZVb,ZUZ,ZUJ⟩:=Sl.at_ ZX ZOT;refine r5 ?_;exact Y2.XO (ZqY _ _ hL ⟨_,_,rfl,hS.only sl,JY⟩)
     ·intro hc hL;refine r4 ?_;refine Yd.XO ?_;exact Yd.gen (vs:= []) rfl Zv rfl ⟨_,hL,⟨rfl,hS.only sl⟩⟩
   ·intro hc hL;refine r8 ?_;rintro h80 hS;refine r3 ?_;refine QM.Zxv hS k2 ?_;rintro h81 hS;have hr:=Oi0 hL;subst hr;exact QM.gen rfl (Qz (Zf rfl e26) (Kh ZnS (hS.WA k0) (j:=0) rfl (v:= .int .i64 0) rfl) Zv) rfl ⟨_,⟨rfl,rfl⟩,hT ▸ hS.only .n⟩
end
section
end
section
end
end Go.Proofs.YtcnahmgekicbdaaGreat
end
end
