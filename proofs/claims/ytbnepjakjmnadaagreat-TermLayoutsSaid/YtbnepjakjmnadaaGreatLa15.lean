/- Part 15. -/
import Derived.Test.YtbnepjakjmnadaaGreatLa14
set_option linter.all false
set_option maxHeartbeats 2000000
section
set_option maxRecDepth 20000
noncomputable section
namespace Go.Proofs.YtbnepjakjmnadaaGreat
open Go.ZP Go.Lf
section
def ZzL{h:H}{r:Z}(hL:ZIm=some r):Pure XX 14 #[] h (.bool r):=by
 cases hL;intro wm;have e:ev (cfg XW fun _=>false) 1 (.call 14 #[] wm h)=some (.fin (.ret (.bool true)) h):=rfl;exact ZcP (X:=XW) mixed 1 _ _ e
end
section
end
section
end
section
def ZlZ(F:Nat)(p0:Y)(p1:Z):O Z:=
 (gd p1 (ZvK F p0) default).bind fun x1=>some ((p1&&x1)||((!p1)&&(decide (p0=(⟨#[]⟩:Y)))))
end
section
end
section
def Zjw(p0:Zi)(Zl:(Zi->O (Int×Int×Z))):Z×Int×Int×Int->(Z×Int×Int×Int->O (Int×Int×Z))->O (Int×Int×Z):=fun(v13,v15,v17,v19) Za5=>
 (bif decide (v19<(p0.kids.length:Int)) then(ZN p0.kids v19).bind fun KT=>(Zl KT).bind fun x27=>Za5 ((v13&&x27.2.2),YX (v15+x27.1),(if x27.2.1>v17 then x27.2.1 else v17),YX (v19+1)) else some (v15,YX (v17+1),v13))
def Znj(F:Nat)(p0:Zi)(Zl:(Zi->O (Int×Int×Z))):Int->O (Int×Int×Z):=fun v7=>
 (gd ((decide (p0.op >=1))&&(decide (p0.op<=7))) (ZlZ F p0.text (p0.op==2)) default).bind fun x9=>(bif(!(((((((decide (p0.op >=1))&&(decide (p0.op<=7)))&&x9)&&((p0.kids.length:Int)==v7))&&((p0.op==1)||(p0.n==0)))&&(decide (p0.n >=(-1000000000))))&&(decide (p0.n<=1000000000)))) then some (1,1,false) else loop F (Zjw p0 Zl) ((((((((decide (p0.op >=1))&&(decide (p0.op<=7)))&&x9)&&((p0.kids.length:Int)==v7))&&((p0.op==1)||(p0.n==0)))&&(decide (p0.n >=(-1000000000))))&&(decide (p0.n<=1000000000))),1,0,0))
def Zjv(F:Nat):Zi->(Zi->O (Int×Int×Z))->O (Int×Int×Z):=fun p0 Zl=>
 (bif((decide (p0.op >=3))&&(decide (p0.op<=7))) then(Znj F p0 Zl) 2 else(Znj F p0 Zl) 0)
def ZMY(F:Nat)(p0:Zi):O (Int×Int×Z):=
 loop F (Zjv F) p0
def Zjo(p0:Zi)(p1:Zi)(Zl:((Zi×Zi)->O Z)):Int->(Int->O Z)->O Z:=fun v10 XJ=>
 (bif decide (v10<(p0.kids.length:Int)) then(ZN p0.kids v10).bind fun Jh=>(ZN p1.kids v10).bind fun x18=>(Zl (Jh,x18)).bind fun x23=>(bif(!x23) then some false else XJ (YX (v10+1))) else some true)
def ZpT(F:Nat):(Zi×Zi)->((Zi×Zi)->O Z)->O Z:=fun(p0,p1) Zl=>
 (bif((((p0.op !=p1.op)||(p0.n !=p1.n))||(!decide (p0.text=p1.text)))||((p0.kids.length:Int) !=(p1.kids.length:Int))) then some false else loop F (Zjo p0 p1 Zl) 0)
def ZDh(F:Nat)(p0:Zi)(p1:Zi):O Z:=
 loop F (ZpT F) (p0,p1)
end
section
def ZDg{F wm:Nat}:∀(Fr:Nat)(x:(Zi×Zi))(r:Z),loop Fr (ZpT F) x=some r->(match x with | (p0,p1)=>∀{h:H}{Zf:O Addr}{Ze:Nat}{Yr:O Addr}{Yq:Nat}(Zy:wm<=h.size)(Zt:Sl Zh wm h Zf Ze p0.kids)(YV:Sl Zh wm h Yr Yq p1.kids),WR XX 85 #[.agg #[V8 p0.op,V8 p0.n,.string p0.text,.slice Zf p0.kids.length Ze],.agg #[V8 p1.op,V8 p1.n,.string p1.text,.slice Yr p1.kids.length Yq]] wm h (CP (fun v (Gb:U (Ast wm))=>v=.bool r/\Gb=[]) [] h)):=by
 refine XU _ ?_;rintro Zl Xm ⟨p0,p1⟩ r hL h Zf Ze Yr Yq Zy Zt YV;refine bg Tryz.ntmps85 Zy Yp.nil ?_;intro T hT hS;refine r3 ?_;rintro _ h3 ⟨b2,eb2,rfl,hS⟩;refine r1 ?_;rintro _ h5 ⟨b4,eb4,rfl,hS⟩;refine r16 ?_;refine r7 ?_;refine WO.gv (Zn.no rfl rfl rfl (YC rfl fh)) rfl (fun hg=>(Y5 (WG (Z8 rfl fh) rfl hg) (WG fh rfl hg) Wl))<|r12 ?_;refine cn hL ?_ ?_
 ·intro hc hL;refine r7 ?_;exact rt hL hT hS
 ·intro hc hL;refine r9 ?_;refine WC.loop (WL.lift hL (fun v10 s=>∃fr7 h6,s=⟨fr7,[],h6,none⟩/\Sp wm T h [bx wm b2 [V8 p0.op,V8 p0.n,.string p0.text,.slice Zf p0.kids.length Ze],bx wm b4 [V8 p1.op,V8 p1.n,.string p1.text,.slice Yr p1.kids.length Yq]] h6/\fr7.at 2=(V9 b2)/\fr7.at 3=(V9 b4)/\fr7.at 5= V8 v10) ⟨_,_,rfl,hS.only (.c k1 (.c k0 .n)),QG⟩ ?_);rintro XJ v10 s Ko hL ⟨fr7,h6,rfl,hS,e8,e9,e11⟩;refine r10 ?_;refine cn hL ?_ ?_
  ·intro hc hL;refine r5 ?_;refine WC.Ub mixed Kq0<|r3 ?_;obtain⟨Jh,Zdu,hL⟩:=bS hL;obtain⟨b14,o15,⟨a16,c17⟩,ZeV,ZeZ,ZeY,J6⟩:=Sl.at_ Zt Zdu;replace J6:=Y1.1 J6;refine Vf (Yf Zaw Xk lk lk rfl ZeV Zdu) ?_;have ZgZ:Sl Zh wm h a16 c17 Jh.kids:=J6;refine Vf (Yx Wy Xk (Zj fh rfl) (At.fz hS.fz ZeY ZeZ) (j:=0) rfl rfl (ws:=[V8 Jh.op,V8 Jh.n,.string Jh.text,.slice a16 Jh.kids.length c17]) rfl)<|r3 ?_;obtain⟨x18,Zb6,hL⟩:=bS hL;obtain⟨b19,o20,⟨a21,c22⟩,Zpp,ZpC,ZpB,ZeX⟩:=Sl.at_ YV Zb6;replace ZeX:=Y1.1 ZeX;refine Vf (Yf Zaw Xk lk lk rfl Zpp Zb6) ?_;have ZlH:Sl Zh wm h a21 c22 x18.kids:=ZeX;refine Vf (Yx Wy Xk (Zj fh rfl) (At.fz hS.fz ZpB ZpC) (j:=0) rfl rfl (ws:=[V8 x18.op,V8 x18.n,.string x18.text,.slice a21 x18.kids.length c22]) rfl) ?_;obtain⟨x23,Zvs,hL⟩:=bS hL;refine WX.cl0 gN rfl (Yo.fn ZFf (Zb lk (Zb lk Zd))) hS .n (fun g' hz hf hO=>(Xm _ _ Zvs) (hS.Vg hz) ((hS.sl ZgZ).mono hf) ((hS.sl ZlH).mono hf)) ?_ rfl rfl;rintro _ h24 _ ⟨rfl,rfl⟩ hS;refine r3 ?_;refine cn hL ?_ ?_
   ·intro hc hL;refine r11 ?_;exact rt hL hT hS
   ·intro hc hL;refine r8 ?_;exact Ya.Yc (Ko _ _ hL ⟨_,_,rfl,hS.only (.c k0 (.c k0 .n)),QG⟩)
  ·intro hc hL;refine r11 ?_;exact rt hL hT hS
def ZH8{F wm h}{p0 p1:Zi}{Zf Ze Yr Yq}{r}(Zy:wm<=h.size)(Zt:Sl Zh wm h Zf Ze p0.kids)(YV:Sl Zh wm h Yr Yq p1.kids)(hL:ZDh F p0 p1=some r):
 WR XX 85 #[.agg #[V8 p0.op,V8 p0.n,.string p0.text,.slice Zf p0.kids.length Ze],.agg #[V8 p1.op,V8 p1.n,.string p1.text,.slice Yr p1.kids.length Yq]] wm h (CP (fun v (Gb:U (Ast wm))=>v=.bool r/\Gb=[]) [] h):=
 ZDg F (p0,p1) r hL Zy Zt YV
def ZH9{F h}{p0 p1:Zi}{Zf Ze Yr Yq}{r}(Zt:Sl Zh h.size h Zf Ze p0.kids)(YV:Sl Zh h.size h Yr Yq p1.kids)(hL:ZDh F p0 p1=some r):Pure XX 85 #[.agg #[V8 p0.op,V8 p0.n,.string p0.text,.slice Zf p0.kids.length Ze],.agg #[V8 p1.op,V8 p1.n,.string p1.text,.slice Yr p1.kids.length Yq]] h (.bool r):=
 WR.ZeE rfl (ZH8 Vb Zt YV hL)
end
section
def ZhE(F:Nat)(p0:(U Yk))(v14:Int)(ZrB:((U Y)×(U Y)×Int->O Z))(z41:(U Y)):(U Y)×Int->((U Y)×Int->O Z)->O Z:=fun(v49,v55) ZGJ=>
 (ZN p0 v14).bind fun x58=>(bif decide (v55<(x58.names.length:Int)) then(ZN p0 v14).bind fun x63=>(ZN x63.names v55).bind fun x68=>(ZvK F x68).bind fun x71=>(gd (!(!x71)) (ZN p0 v14) default).bind fun x72=>(gd (!(!x71)) (ZN x72.names v55) default).bind fun x77=>(gd (!(!x71)) (ZkV F v49 x77) default).bind fun x80=>(bif((!x71)||x80) then some false else(ZN p0 v14).bind fun x81=>(ZN x81.names v55).bind fun x86=>(app 16 v49 [x86]).bind fun z91=>ZGJ (z91,YX (v55+1))) else ZrB (z41,v49,YX (v14+1)))
def ZhF(F:Nat)(p0:(U Yk)):(U Y)×(U Y)×Int->((U Y)×(U Y)×Int->O Z)->O Z:=fun(v4,v9,v14) ZrB=>
 (bif decide (v14<(p0.length:Int)) then(ZN p0 v14).bind fun x17=>(ZvK F x17.text).bind fun KT=>(gd (!(!KT)) (ZN p0 v14) default).bind fun x23=>(gd (!(!KT)) (ZkV F v4 x23.text) default).bind fun x28=>(gd (!((!KT)||x28)) (ZN p0 v14) default).bind fun x29=>(bif(((!KT)||x28)||(decide ((x29.names.length:Int)>3))) then some false else(ZN p0 v14).bind fun x34=>(app 16 v4 [x34.text]).bind fun z41=>loop F (ZhE F p0 v14 ZrB z41) (v9,0)) else some true)
def ZzO(F:Nat)(p0:(U Yk)):O Z:=
 (bif((decide ((p0.length:Int)<1))||(decide ((p0.length:Int)>3))) then some false else loop F (ZhF F p0) ([],[],0))
end
section
end
section
def Zfl(p0:Za)(Zxq:(Term->O (Int×Int×Z)))(Zl:(Za->O (Int×Int×Z))):Z×Int×Int×Int->(Z×Int×Int×Int->O (Int×Int×Z))->O (Int×Int×Z):=fun(v9,v11,v13,v15) ZGP=>
 (bif decide (v15<(p0.defs.length:Int)) then(ZN p0.defs v15).bind fun x18=>(Zl x18).bind fun x27=>ZGP ((v9&&x27.2.2),YX (v11+x27.1),(if x27.2.1>v13 then x27.2.1 else v13),YX (v15+1)) else(ZN p0.kids 0).bind fun x30=>(Zxq x30).bind fun x39=>some (YX (v11+x39.1),YX ((if x39.2.1>v13 then x39.2.1 else v13)+1),(v9&&x39.2.2)))
def Zj1(F:Nat)(Zxq:(Term->O (Int×Int×Z))):Za->(Za->O (Int×Int×Z))->O (Int×Int×Z):=fun p0 Zl=>
 (gd ((p0.form==1)||(p0.form==2)) (ZlZ F p0.text (!(p0.form==1))) default).bind fun x4=>(gd (((((((p0.form==1)||(p0.form==2))&&x4)&&((p0.kids.length:Int)==1))&&(decide ((p0.defs.length:Int)<=5)))&&(!(!(p0.form==1))))&&((p0.defs.length:Int)==0)) (ZzO F p0.joins) default).bind fun x5=>(bif(!(((((((p0.form==1)||(p0.form==2))&&x4)&&((p0.kids.length:Int)==1))&&(decide ((p0.defs.length:Int)<=5)))&&((!(p0.form==1))||(((p0.defs.length:Int)==0)&&x5)))&&((p0.form==1)||((p0.joins.length:Int)==0)))) then some (1,1,false) else loop F (Zfl p0 Zxq Zl) ((((((((p0.form==1)||(p0.form==2))&&x4)&&((p0.kids.length:Int)==1))&&(decide ((p0.defs.length:Int)<=5)))&&((!(p0.form==1))||(((p0.defs.length:Int)==0)&&x5)))&&((p0.form==1)||((p0.joins.length:Int)==0))),1,0,0))
def ZFz(F:Nat)(Zxq:(Term->O (Int×Int×Z)))(p0:Za):O (Int×Int×Z):=
 loop F (Zj1 F Zxq) p0
end
section
end
section
def ZjC(p0:Term)(Zl:(Term->O (Int×Int×Z))):Z×Int×Int×Int->(Z×Int×Int×Int->O (Int×Int×Z))->O (Int×Int×Z):=fun(v59,v61,v63,v65) ZGI=>
 (bif decide (v65<(p0.kids.length:Int)) then(ZN p0.kids v65).bind fun x68=>(Zl x68).bind fun x77=>ZGI ((v59&&x77.2.2),YX (v61+x77.1),(if x77.2.1>v63 then x77.2.1 else v63),YX (v65+1)) else some (v61,YX (v63+1),v59))
def ZjD(F:Nat)(p0:Term)(Zl:(Term->O (Int×Int×Z))):Z×Int×Int×Int->(Z×Int×Int×Int->O (Int×Int×Z))->O (Int×Int×Z):=fun(v35,v37,v39,v41) ZGM=>
 (bif decide (v41<(p0.defs.length:Int)) then(ZN p0.defs v41).bind fun x44=>(ZFz F Zl x44).bind fun x53=>ZGM ((v35&&x53.2.2),YX (v37+x53.1),(if x53.2.1>v39 then x53.2.1 else v39),YX (v41+1)) else loop F (ZjC p0 Zl) (v35,v37,v39,0))
def ZjE(F:Nat)(p0:Term)(Zl:(Term->O (Int×Int×Z))):Z×Int×Int×Int->(Z×Int×Int×Int->O (Int×Int×Z))->O (Int×Int×Z):=fun(v17,v19,v21,v23) KN=>
 (bif decide (v23<(p0.args.length:Int)) then(ZN p0.args v23).bind fun x26=>(ZMY F x26).bind fun x31=>KN ((v17&&x31.2.2),YX (v19+x31.1),(if x31.2.1>v21 then x31.2.1 else v21),YX (v23+1)) else loop F (ZjD F p0 Zl) (v17,v19,v21,0))
def Zcl(F:Nat)(p0:Term)(Zl:(Term->O (Int×Int×Z))):Int×Int×Int->O (Int×Int×Z):=fun(v7,v9,v11)=>
 (gd ((decide (p0.op >=1))&&(decide (p0.op<=8))) (ZlZ F p0.text (((p0.op==2)||(p0.op==6))||(p0.op==8))) default).bind fun Jh=>(bif(!((((((decide (p0.op >=1))&&(decide (p0.op<=8)))&&Jh)&&((p0.kids.length:Int)==v9))&&(((decide (v7<0))&&(decide ((p0.args.length:Int)<=3)))||((p0.args.length:Int)==v7)))&&((((decide (v11<0))&&(decide ((p0.defs.length:Int)>0)))&&(decide ((p0.defs.length:Int)<=5)))||((p0.defs.length:Int)==v11)))) then some (1,1,false) else loop F (ZjE F p0 Zl) (((((((decide (p0.op >=1))&&(decide (p0.op<=8)))&&Jh)&&((p0.kids.length:Int)==v9))&&(((decide (v7<0))&&(decide ((p0.args.length:Int)<=3)))||((p0.args.length:Int)==v7)))&&((((decide (v11<0))&&(decide ((p0.defs.length:Int)>0)))&&(decide ((p0.defs.length:Int)<=5)))||((p0.defs.length:Int)==v11))),1,0,0))
def Zsf(F:Nat)(p0:Term)(Zl:(Term->O (Int×Int×Z))):Z->O (Int×Int×Z):=fun v86=>
 (bif v86 then(Zcl F p0 Zl) (0,1,0) else(Zcl F p0 Zl) (0,0,0))
def ZpZ(F:Nat):Term->(Term->O (Int×Int×Z))->O (Int×Int×Z):=fun p0 Zl=>
 (bif(p0.op==2) then(Zcl F p0 Zl) ((-1),0,0) else(bif(p0.op==3) then(Zcl F p0 Zl) (0,2,0) else(bif(p0.op==4) then(Zcl F p0 Zl) (0,1,(-1)) else(bif(p0.op==5) then(Zcl F p0 Zl) (1,2,0) else(bif(p0.op==6) then(Zsf F p0 Zl) (p0.op==6) else(Zsf F p0 Zl) (p0.op==8))))))
def ZM2(F:Nat)(p0:Term):O (Int×Int×Z):=
 loop F (ZpZ F) p0
end
section
end
section
def Ze8(p0:(U Yk)):(U Y)×Int->((U Y)×Int->O (U Y))->O (U Y):=fun(v4,v9) ZGQ=>
 (bif decide (v9<(p0.length:Int)) then(ZN p0 v9).bind fun x12=>(app 16 v4 x12.names).bind fun z17=>ZGQ (z17,YX (v9+1)) else some v4)
def ZzJ(F:Nat)(p0:(U Yk)):O (U Y):=
 loop F (Ze8 p0) ([],0)
def ZhH(p0:Xa)(p1:Yk)(p2:Int):Int->(Int->O Xa)->O Xa:=fun v8 ZGR=>
 (bif decide (v8<(p0.channels.length:Int)) then(ZN p0.channels v8).bind fun x11=>(bif decide (x11=p1.text) then(gd (!p0.bad) (ZN p0.many v8) default).bind fun KV=>(gd (!(p0.bad||(KV !=(p1.names.length:Int)))) (ZN p0.at_ v8) default).bind fun x17=>some (Xa.mk p0.channels p0.many p0.at_ p0.places ((p0.bad||(KV !=(p1.names.length:Int)))||(x17 !=p2))) else ZGR (YX (v8+1))) else(app 16 p0.channels [p1.text]).bind fun z23=>(app 8 p0.many [(p1.names.length:Int)]).bind fun z30=>(app 8 p0.at_ [p2]).bind fun z37=>some (Xa.mk z23 z30 z37 p0.places p0.bad))
def ZFw(F:Nat)(p0:Xa)(p1:Yk)(p2:Int):O Xa:=
 loop F (ZhH p0 p1 p2) 0
def Zeb(p0:(U Y))(p1:(U Y)):Int->(Int->O Z)->O Z:=fun v5 Zbu=>
 (bif decide (v5<(p0.length:Int)) then(ZN p0 v5).bind fun x8=>(ZN p1 v5).bind fun x11=>(bif(!decide (x8=x11)) then some false else Zbu (YX (v5+1))) else some true)
def ZkW(F:Nat)(p0:(U Y))(p1:(U Y)):O Z:=
 (bif((p0.length:Int) !=(p1.length:Int)) then some false else loop F (Zeb p0 p1) 0)
end
section
def ZIi{F wm h}{p0 p1:(U Y)}{Zf Ze Yr Yq}{r}(Zy:wm<=h.size)(Zt:Sl Xb wm h Zf Ze p0)(YV:Sl Xb wm h Yr Yq p1)(hL:ZkW F p0 p1=some r):
 WR XX 31 #[.slice Zf p0.length Ze,.slice Yr p1.length Yq] wm h (CP (fun v (Gb:U (Ast wm))=>v=.bool r/\Gb=[]) [] h):=by
 refine bg Tryz.ntmps31 Zy Yp.nil ?_;intro T hT hS;unfold ZkW at hL;refine r15 ?_;refine cn hL ?_ ?_
 ·intro hc hL;refine r7 ?_;exact rt hL hT hS
 ·intro hc hL;refine r9 ?_;refine WC.loop (WL.lift hL (fun v5 s=>∃Jd h1,s=⟨Jd,[],h1,none⟩/\Sp wm T h [] h1/\Jd.at 0=.slice Zf p0.length Ze/\Jd.at 1=.slice Yr p1.length Yq/\Jd.at 5= V8 v5) ⟨_,_,rfl,hS.only .n,QG⟩ ?_);rintro Zbu v5 s Zi6 hL ⟨Jd,h1,rfl,hS,e3,e4,e6⟩;refine r9 ?_;refine cn hL ?_ ?_
  ·intro hc hL;refine r5 ?_;refine WC.Ub mixed Kq0<|r2 ?_;obtain⟨x8,hx8,hL⟩:=bS hL;obtain⟨b9,o10,_,ZHr,ZHH,ZHG,Zvv⟩:=Sl.at_ Zt hx8;refine Vf (Yf ZbN ZdA lk lk rfl ZHr hx8)<|Vf (Yt Zlb (Zj fh rfl) (At.fz hS.fz ZHG ZHH) (j:=0) rfl (v:=.string x8) rfl)<|r2 ?_;obtain⟨x11,Zvt,hL⟩:=bS hL;obtain⟨b12,o13,_,ZL7,ZMN,ZMu,ZSe⟩:=Sl.at_ YV Zvt;refine Vf (Yf ZbN ZdA lk lk rfl ZL7 Zvt)<|Vf (Yt Zlb (Zj fh rfl) (At.fz hS.fz ZMu ZMN) (j:=0) rfl (v:=.string x11) rfl)<|Vf (Y5 (Zj (YC rfl fh) rfl) (Zj fh rfl) Wl)<|r2 ?_;refine cn hL ?_ ?_
   ·intro hc hL;refine r11 ?_;exact rt hL hT hS
   ·intro hc hL;refine r8 ?_;exact Ya.Yc (Zi6 _ _ hL ⟨_,_,rfl,hS.only .n,QG⟩)
  ·intro hc hL;refine r11 ?_;exact rt hL hT hS
def ZzF{F h}{p0 p1:(U Y)}{Zf Ze Yr Yq}{r}(Zt:Sl Xb h.size h Zf Ze p0)(YV:Sl Xb h.size h Yr Yq p1)(hL:ZkW F p0 p1=some r):Pure XX 31 #[.slice Zf p0.length Ze,.slice Yr p1.length Yq] h (.bool r):=
 WR.ZeE rfl (ZIi Vb Zt YV hL)
end
section
def Znk(p0:Zi)(Zl:((Zi×Int)->O Int)):Int×Int->(Int×Int->O Int)->O Int:=fun(v9,v11) XJ=>
 (bif((decide (v9<(p0.kids.length:Int)))&&(decide (v11 >=0))) then(ZN p0.kids v9).bind fun Jh=>(Zl (Jh,v11)).bind fun x18=>XJ (YX (v9+1),x18) else some v11)
def ZpX(F:Nat):(Zi×Int)->((Zi×Int)->O Int)->O Int:=fun(p0,p1) Zl=>
 loop F (Znk p0 Zl) (0,YX (p1-1))
def ZMZ(F:Nat)(p0:Zi)(p1:Int):O Int:=
 loop F (ZpX F) (p0,p1)
def Zdd(p0:Za)(Zrr:((Term×Int)->O (Int×Z))):Int×Int->(Int×Int->O Int)->O Int:=fun(v29,v31) ZGN=>
 (bif((decide (v29<(p0.kids.length:Int)))&&(decide (v31 >=0))) then(ZN p0.kids v29).bind fun x33=>(Zrr (x33,v31)).bind fun x42=>ZGN (YX (v29+1),x42.1) else some v31)
def ZhN(F:Nat)(p0:Za)(Zrr:((Term×Int)->O (Int×Z)))(Zl:((Za×Int)->O Int)):Int×Int->(Int×Int->O Int)->O Int:=fun(v9,v11) XJ=>
 (bif((decide (v9<(p0.defs.length:Int)))&&(decide (v11 >=0))) then(ZN p0.defs v9).bind fun Jh=>(Zl (Jh,v11)).bind fun KT=>XJ (YX (v9+1),KT) else loop F (Zdd p0 Zrr) (0,v11))
def Zj0(F:Nat)(Zrr:((Term×Int)->O (Int×Z))):(Za×Int)->((Za×Int)->O Int)->O Int:=fun(p0,p1) Zl=>
 loop F (ZhN F p0 Zrr Zl) (0,YX (p1-1))
def ZFy(F:Nat)(Zrr:((Term×Int)->O (Int×Z)))(p0:Za)(p1:Int):O Int:=
 loop F (Zj0 F Zrr) (p0,p1)
def Zgj(p0:Term)(Zl:((Term×Int)->O (Int×Z))):Int×Int->(Int×Int->O (Int×Z))->O (Int×Z):=fun(v45,v47) ZGL=>
 (bif((decide (v45<(p0.kids.length:Int)))&&(decide (v47 >=0))) then(ZN p0.kids v45).bind fun x49=>(Zl (x49,v47)).bind fun x58=>ZGL (YX (v45+1),x58.1) else some (v47,decide (v47 >=0)))
def Zgk(F:Nat)(p0:Term)(Zl:((Term×Int)->O (Int×Z))):Int×Int->(Int×Int->O (Int×Z))->O (Int×Z):=fun(v25,v27) ZGO=>
 (bif((decide (v25<(p0.defs.length:Int)))&&(decide (v27 >=0))) then(ZN p0.defs v25).bind fun x29=>(ZFy F Zl x29 v27).bind fun x38=>ZGO (YX (v25+1),x38) else loop F (Zgj p0 Zl) (0,v27))
def Znn(F:Nat)(p0:Term)(Zl:((Term×Int)->O (Int×Z))):Int×Int->(Int×Int->O (Int×Z))->O (Int×Z):=fun(v9,v11) XJ=>
 (bif((decide (v9<(p0.args.length:Int)))&&(decide (v11 >=0))) then(ZN p0.args v9).bind fun Jh=>(ZMZ F Jh v11).bind fun x18=>XJ (YX (v9+1),x18) else loop F (Zgk F p0 Zl) (0,v11))
def ZlR(F:Nat):(Term×Int)->((Term×Int)->O (Int×Z))->O (Int×Z):=fun(p0,p1) Zl=>
 loop F (Znn F p0 Zl) (0,YX (p1-1))
def ZM1(F:Nat)(p0:Term)(p1:Int):O (Int×Z):=
 loop F (ZlR F) (p0,p1)
end
section
end
section
def Znw(v6:Int)(KN:(Int×(U Y)×(U Int)×(U Int)×(U Y)×Z->O Xa)):(U Y)×(U Int)×(U Int)×(U Y)×Z->O Xa:=fun(v31,v35,v39,v43,v47)=>
 KN (YX (v6+1),v31,v35,v39,v43,v47)
def ZhI(F:Nat)(p1:(U Za))(Zl:((Xa×(U Za))->O Xa)):Int×(U Y)×(U Int)×(U Int)×(U Y)×Z->(Int×(U Y)×(U Int)×(U Int)×(U Y)×Z->O Xa)->O Xa:=fun(v6,v8,v12,v16,v20,v24) KN=>
 (bif decide (v6<(p1.length:Int)) then(ZN p1 v6).bind fun x48=>(bif(x48.form==2) then(gd (!v24) (ZN p1 v6) default).bind fun x57=>(gd (!v24) (ZkV F v20 x57.text) default).bind fun x66=>(ZN p1 v6).bind fun x68=>(app 16 v20 [x68.text]).bind fun z79=>(ZN p1 v6).bind fun x84=>(Zl ((Xa.mk v8 v12 v16 z79 (v24||x66)),x84.defs)).bind fun x93=>(Znw v6 KN) (x93.channels,x93.many,x93.at_,x93.places,x93.bad) else(Znw v6 KN) (v8,v12,v16,v20,v24)) else some (Xa.mk v8 v12 v16 v20 v24))
def ZjX(F:Nat):(Xa×(U Za))->((Xa×(U Za))->O Xa)->O Xa:=fun(p0,p1) Zl=>
 loop F (ZhI F p1 Zl) (0,p0.channels,p0.many,p0.at_,p0.places,p0.bad)
def ZzS(F:Nat)(p0:Xa)(p1:(U Za)):O Xa:=
 loop F (ZjX F) (p0,p1)
def ZhM(p0:(U Za))(Zxp:(Term->O Z))(Zl:((U Za)->O Z)):Int->(Int->O Z)->O Z:=fun v5 Zbu=>
 (bif decide (v5<(p0.length:Int)) then(ZN p0 v5).bind fun x8=>(Zl x8.defs).bind fun x17=>(gd (!(!x17)) (ZN p0 v5) default).bind fun x20=>(gd (!(!x17)) (ZN x20.kids 0) default).bind fun x29=>(bif(!(!x17)) then(Zxp x29).bind fun x39=>(bif(!x39) then some false else Zbu (YX (v5+1))) else some false) else some true)
def ZjZ(F:Nat)(Zxp:(Term->O Z)):(U Za)->((U Za)->O Z)->O Z:=fun p0 Zl=>
 loop F (ZhM p0 Zxp Zl) 0
def ZzT(F:Nat)(Zxp:(Term->O Z))(p0:(U Za)):O Z:=
 loop F (ZjZ F Zxp) p0
end
section
end
section
end
section
end
section
def Znv(v10:Int)(XJ:((U (U Za))×Int->O (U (U Za)))):(U (U Za))->O (U (U Za)):=fun v15=>
 XJ (v15,YX (v10+1))
def ZhC(p1:(U Za))(Zl:(((U (U Za))×(U Za))->O (U (U Za)))):(U (U Za))×Int->((U (U Za))×Int->O (U (U Za)))->O (U (U Za)):=fun(v4,v10) XJ=>
 (bif decide (v10<(p1.length:Int)) then(ZN p1 v10).bind fun KT=>(bif(KT.form==2) then(ZN p1 v10).bind fun x31=>(app 24 v4 [x31.defs]).bind fun z42=>(ZN p1 v10).bind fun x46=>(Zl (z42,x46.defs)).bind fun x55=>(Znv v10 XJ) x55 else(Znv v10 XJ) v4) else some v4)
def ZjU(F:Nat):((U (U Za))×(U Za))->(((U (U Za))×(U Za))->O (U (U Za)))->O (U (U Za)):=fun(p0,p1) Zl=>
 loop F (ZhC p1 Zl) (p0,0)
def ZzN(F:Nat)(p0:(U (U Za)))(p1:(U Za)):O (U (U Za)):=
 loop F (ZjU F) (p0,p1)
def ZzR(F:Nat)(p0:(U Za)):O (U (U Za)):=
 (ZzN F [p0] p0).bind fun x3=>some x3
end
section
end
section
def Zjp(F:Nat)(x18:(U (U Za)))(v28:Int)(v53:Int)(Zry:(Int×(U Y)×(U Int)×(U Int)×(U Y)×Z->O (Xa×Z))):Int×(U Y)×(U Int)×(U Int)×(U Y)×Z->(Int×(U Y)×(U Int)×(U Int)×(U Y)×Z->O (Xa×Z))->O (Xa×Z):=fun(v84,v86,v90,v94,KZ,ZJ1) ZCh=>
 (ZN x18 v28).bind fun x104=>(ZN x104 v53).bind fun ZOO=>(bif decide (v84<(ZOO.joins.length:Int)) then(ZN x18 v28).bind fun ZOM=>(ZN ZOM v53).bind fun Zww=>(ZN Zww.joins v84).bind fun ZOL=>(ZFw F (Xa.mk v86 v90 v94 KZ ZJ1) ZOL v28).bind fun Zwv=>ZCh (YX (v84+1),Zwv.channels,Zwv.many,Zwv.at_,Zwv.places,Zwv.bad) else Zry (YX (v53+1),v86,v90,v94,KZ,ZJ1))
def Zjq(F:Nat)(x18:(U (U Za)))(v28:Int)(Zrz:(Int×(U Y)×(U Int)×(U Int)×(U Y)×Z->O (Xa×Z))):Int×(U Y)×(U Int)×(U Int)×(U Y)×Z->(Int×(U Y)×(U Int)×(U Int)×(U Y)×Z->O (Xa×Z))->O (Xa×Z):=fun(v53,v55,v59,v63,v67,v71) Zry=>
 (ZN x18 v28).bind fun x73=>(bif decide (v53<(x73.length:Int)) then loop F (Zjp F x18 v28 v53 Zry) (0,v55,v59,v63,v67,v71) else Zrz (YX (v28+1),v55,v59,v63,v67,v71))
def Zd9(F:Nat)(v30:(U Y))(v34:(U Int))(v38:(U Int))(v42:(U Y)):Int×Z->(Int×Z->O (Xa×Z))->O (Xa×Z):=fun(ZwD,v157) ZCg=>
 (bif decide (ZwD<(v30.length:Int)) then(gd (!v157) (ZN v30 ZwD) default).bind fun x159=>(gd (!v157) (ZkV F v42 x159) default).bind fun ZOK=>ZCg (YX (ZwD+1),(v157||ZOK)) else some ((Xa.mk v30 v34 v38 v42 v157),(!v157)))
def Zjr(F:Nat)(x18:(U (U Za))):Int×(U Y)×(U Int)×(U Int)×(U Y)×Z->(Int×(U Y)×(U Int)×(U Int)×(U Y)×Z->O (Xa×Z))->O (Xa×Z):=fun(v28,v30,v34,v38,v42,v46) Zrz=>
 (bif decide (v28<(x18.length:Int)) then loop F (Zjq F x18 v28 Zrz) (0,v30,v34,v38,v42,v46) else loop F (Zd9 F v30 v34 v38 v42) (0,v46))
def ZpW(F:Nat)(p0:(U Za)):O (Xa×Z):=
 (ZzS F (Xa.mk [] [] [] [] false) p0).bind fun x3=>(ZzR F p0).bind fun x18=>loop F (Zjr F x18) (0,x3.channels,x3.many,x3.at_,x3.places,x3.bad)
end
section
end
section
def Znm(p0:Term)(Zl:(Term->O Z)):Int->(Int->O Z)->O Z:=fun v10 XJ=>
 (bif decide (v10<(p0.kids.length:Int)) then(ZN p0.kids v10).bind fun Jh=>(Zl Jh).bind fun KT=>(bif(!KT) then some false else XJ (YX (v10+1))) else some true)
def Znl(F:Nat)(p0:Term)(Zl:(Term->O Z)):Unit->O Z:=fun _=>
 loop F (Znm p0 Zl) 0
def ZpY(F:Nat):Term->(Term->O Z)->O Z:=fun p0 Zl=>
 (bif(p0.op==4) then(ZpW F p0.defs).bind fun x25=>(bif(!(!x25.2)) then(ZzT F Zl p0.defs).bind fun x42=>(bif(!x42) then some false else(Znl F p0 Zl) ()) else some false) else(Znl F p0 Zl) ())
def ZM0(F:Nat)(p0:Term):O Z:=
 loop F (ZpY F) p0
end
section
end
section
def ZDo(F:Nat)(p0:Term):O Int:=
 (ZM1 F p0 60).bind fun x6=>(bif(!x6.2) then some 2 else(ZM2 F p0).bind fun x9=>(gd (!((!x9.2.2)||(decide (x9.2.1>12)))) (ZM0 F p0) default).bind fun x10=>(bif(((!x9.2.2)||(decide (x9.2.1>12)))||(!x10)) then some 2 else some 0))
end
section
end
section
end
section
end
section
def ZpV(p0:Int):O (PR Unit):=
 some (.Z9 p0)
def JI(p0:Z):O (PR Unit):=
 (bif(!p0) then(ZpV 2).bind fun x1=>JS x1 (fun e3=>some (.Z9 e3)) (fun y2=>some (.ok ())) else some (.ok ()))
end
section
def Zbf{wm h}{p0:Int}{r}(Zy:wm<=h.size)(hL:ZpV p0=some r):
 WF XX 80 #[V8 p0] wm h (PQ 147 (fun(r:Unit) v (Gb:U (Ast wm))=>v=.tuple #[]/\Gb=[]) [] h r):=by
 refine WF.QC (args:=[_]) (fn:=Tryz.f80) Kq0 (by exact rfl) Tryz.ntmps80 (by simp) ?_;simp only[Zq,Zx,Nat.reduceAdd];obtain⟨T,hT,hS⟩:∃T,T=QF (wm:=wm) []/\Sp wm T h [] h:=⟨_,rfl,Sp.start Zy Yp.nil⟩
 unfold ZpV at hL;refine r2 ?_;refine Vc (XL ZIO (ZF lk Z5) rfl (cs':=[V8 p0]) rfl)<|Vc (Zej lk Kq0)<|WO.pnc gN lk<|Z0.KU<|Y7.Z9 ?_;have hr:=Oi0 hL;subst hr;exact⟨rfl,hT▸hS.only .n⟩
def YF{wm h}{p0:Z}{r}(Zy:wm<=h.size)(hL:JI p0=some r):
 WF XX 104 #[.bool p0] wm h (PQ 147 (fun(r:Unit) v (Gb:U (Ast wm))=>v=.tuple #[]/\Gb=[]) [] h r):=by
 refine WF.QC (args:=[_]) (fn:=Tryz.f104) Kq0 (by exact rfl) Tryz.ntmps104 (by simp) ?_;simp only[Zq,Zx,Nat.reduceAdd];obtain⟨T,hT,hS⟩:∃T,T=QF (wm:=wm) []/\Sp wm T h [] h:=⟨_,rfl,Sp.start Zy Yp.nil⟩
 unfold JI at hL;refine r6 ?_;refine cn hL ?_ ?_
 ·intro hc hL;refine r1 ?_;obtain⟨x1,hx1,hL⟩:=bS hL;rcases x1 with y2|e3
  ·skip;replace hL:=Yw hL;refine Vd (Yo.fn ZeU (Zb lk Zd)) hS .n (fun g' hz hf hO=>(PQ.ok (Zbf (hS.Vg hz) hx1))) ?_;rintro _ h4 _ ⟨rfl,rfl⟩ hS;refine r1 ?_;refine Z0.Yc ?_;have hr:=Oi0 hL;subst hr;exact Z0.WV rfl Zk rfl ⟨_,⟨rfl,rfl⟩,hT▸hS.only .n⟩
  ·skip;replace hL:=Z7 hL;refine WO.Kg gN (Yo.fn ZeU (Zb lk Zd)) hS .n (fun g' hz hf hO=>Zbf (hS.Vg hz) hx1) ?_;rintro h6 hS;refine Z0.KU<|Y7.Z9 ?_;have hr:=Oi0 hL;subst hr;exact⟨rfl,hT▸hS.only .n⟩
 ·intro hc hL;refine r1 ?_;refine Z0.Yc ?_;have hr:=Oi0 hL;subst hr;exact Z0.WV rfl Zk rfl ⟨_,⟨rfl,rfl⟩,hT▸hS.only .n⟩
def XG{b:Z}{e:Int}(h:JI b=some (.Z9 e)):e=2:=by
 cases b
 ·have z:some (PR.Z9 (β:=Unit) 2)=some (.Z9 e):=h;cases z;rfl
 ·have z:some (PR.ok (β:=Unit) ())=some (.Z9 e):=h;cases z
end
section
def Ke(p0:Term)(p1:Int)(p2:Int)(p3:Int):O (PR Unit):=
 (JI ((((p0.args.length:Int)==p1)&&((p0.defs.length:Int)==p2))&&((p0.kids.length:Int)==p3))).bind fun x3=>JS x3 (fun e5=>some (.Z9 2)) (fun y4=>some (.ok ()))
end
section
def Ui{wm h}{p0:Term}{p1 p2 p3:Int}{Zf Ze ZA Zz Zw Zv}{r}(Zy:wm<=h.size)(Zt:Sl Zh wm h Zf Ze p0.args)(ZV:Sl Zc wm h ZA Zz p0.defs)(ZU:Sl Zm wm h Zw Zv p0.kids)(hL:Ke p0 p1 p2 p3=some r):
 WF XX 160 #[.agg #[V8 p0.op,.string p0.text,.slice Zf p0.args.length Ze,.slice ZA p0.defs.length Zz,.slice Zw p0.kids.length Zv],V8 p1,V8 p2,V8 p3] wm h (PQ 147 (fun(r:Unit) v (Gb:U (Ast wm))=>v=.tuple #[]/\Gb=[]) [] h r):=by
 refine WF.QC (args:=[_,_,_,_]) (fn:=Tryz.f160) Kq0 (by exact rfl) Tryz.ntmps160 (by simp) ?_;simp only[Zq,Zx,Nat.reduceAdd];obtain⟨T,hT,hS⟩:∃T,T=QF (wm:=wm) []/\Sp wm T h [] h:=⟨_,rfl,Sp.start Zy Yp.nil⟩
 unfold Ke at hL;refine r3 ?_;rintro _ h2 ⟨b1,eb1,rfl,hS⟩;refine r16 ?_;refine r6 ?_;obtain⟨x3,hx3,hL⟩:=bS hL;rcases x3 with y4|e5
 ·skip;replace hL:=Yw hL;refine Vd (Yo.fn YZ (Zb lk Zd)) hS .n (fun g' hz hf hO=>(PQ.ok (YF (hS.Vg hz) hx3))) ?_;rintro _ h6 _ ⟨rfl,rfl⟩ hS;refine r1 ?_;refine Z0.Yc ?_;have hr:=Oi0 hL;subst hr;exact Z0.WV rfl Zk rfl ⟨_,⟨rfl,rfl⟩,hT▸hS.only .n⟩
 ·skip;replace hL:=Z7 hL;obtain rfl:=XG hx3;refine WO.Kg gN (Yo.fn YZ (Zb lk Zd)) hS .n (fun g' hz hf hO=>YF (hS.Vg hz) hx3) ?_;rintro h8 hS;refine Z0.KU<|Y7.Z9 ?_;have hr:=Oi0 hL;subst hr;exact⟨rfl,hT▸hS.only .n⟩
end
section
def Kq(p0:Zi):Z->O (PR Unit):=fun v19=>
 (bif v19 then(JI (((decide (p0.text=(⟨#[]⟩:Y)))&&(p0.n==0))&&((p0.kids.length:Int)==2))).bind fun x21=>JS x21 (fun e23=>some (.Z9 2)) (fun y22=>some (.ok ())) else(ZpV 2).bind fun x27=>JS x27 (fun e29=>some (.Z9 e29)) (fun y28=>some (.ok ())))
def ZlX(F:Nat)(p0:Zi):O (PR Unit):=
 (bif(p0.op==1) then(JI ((((decide (p0.n >=(-1000000000)))&&(decide (p0.n<=1000000000)))&&(decide (p0.text=(⟨#[]⟩:Y))))&&((p0.kids.length:Int)==0))).bind fun x3=>JS x3 (fun e5=>some (.Z9 2)) (fun y4=>some (.ok ())) else(bif(p0.op==2) then(ZjN F p0.text).bind fun x9=>(JI ((x9&&(p0.n==0))&&((p0.kids.length:Int)==0))).bind fun x10=>JS x10 (fun e12=>some (.Z9 2)) (fun y11=>some (.ok ())) else(bif(p0.op==3) then(Kq p0) (p0.op==3) else(bif(p0.op==4) then(Kq p0) (p0.op==4) else(bif(p0.op==5) then(Kq p0) (p0.op==5) else(bif(p0.op==6) then(Kq p0) (p0.op==6) else(Kq p0) (p0.op==7)))))))
def Zda(F:Nat)(p0:Term):Z->O (PR Unit):=fun v9=>
 (bif v9 then(ZjN F p0.text).bind fun x11=>(JI x11).bind fun x12=>JS x12 (fun e14=>some (.Z9 2)) (fun y13=>some (.ok ())) else(JI (decide (p0.text=(⟨#[]⟩:Y)))).bind fun x18=>JS x18 (fun e20=>some (.Z9 2)) (fun y19=>some (.ok ())))
def UO(F:Nat)(p0:Term):Unit->O (PR Unit):=fun _=>
 (bif(p0.op==2) then(Zda F p0) (p0.op==2) else(bif(p0.op==6) then(Zda F p0) (p0.op==6) else(Zda F p0) (p0.op==8)))
def Zfd(F:Nat)(p0:Term):Z->O (PR Unit):=fun v75=>
 (bif v75 then(Ke p0 0 0 1).bind fun x77=>JS x77 (fun e79=>some (.Z9 e79)) (fun y78=>(UO F p0) ()) else(ZpV 2).bind fun x83=>JS x83 (fun e85=>some (.Z9 e85)) (fun y84=>(UO F p0) ()))
def Zc9(F:Nat)(p0:Term):Z->O (PR Unit):=fun v28=>
 (bif v28 then(Ke p0 0 0 0).bind fun x30=>JS x30 (fun e32=>some (.Z9 e32)) (fun y31=>(UO F p0) ()) else(bif(p0.op==2) then(JI (decide ((p0.args.length:Int)<=3))).bind fun x36=>JS x36 (fun e38=>some (.Z9 2)) (fun y37=>(Ke p0 (p0.args.length:Int) 0 0).bind fun x41=>JS x41 (fun e43=>some (.Z9 e43)) (fun y42=>(UO F p0) ())) else(bif(p0.op==3) then(Ke p0 0 0 2).bind fun x48=>JS x48 (fun e50=>some (.Z9 e50)) (fun y49=>(UO F p0) ()) else(bif(p0.op==4) then(JI ((decide ((p0.defs.length:Int)>0))&&(decide ((p0.defs.length:Int)<=5)))).bind fun x54=>JS x54 (fun e56=>some (.Z9 2)) (fun y55=>(Ke p0 0 (p0.defs.length:Int) 1).bind fun x59=>JS x59 (fun e61=>some (.Z9 e61)) (fun y60=>(UO F p0) ())) else(bif(p0.op==5) then(Ke p0 1 0 2).bind fun x66=>JS x66 (fun e68=>some (.Z9 e68)) (fun y67=>(UO F p0) ()) else(bif(p0.op==6) then(Zfd F p0) (p0.op==6) else(Zfd F p0) (p0.op==8)))))))
def ZlY(F:Nat)(p0:Term):O (PR Unit):=
 (bif(p0.op==1) then(Zc9 F p0) (p0.op==1) else(Zc9 F p0) (p0.op==7))
end
section
def Zt4{F wm h}{p0:Zi}{Zf Ze}{r}(Zy:wm<=h.size)(Zt:Sl Zh wm h Zf Ze p0.kids)(hL:ZlX F p0=some r):
 WF XX 138 #[.agg #[V8 p0.op,V8 p0.n,.string p0.text,.slice Zf p0.kids.length Ze]] wm h (PQ 147 (fun(r:Unit) v (Gb:U (Ast wm))=>v=.tuple #[]/\Gb=[]) [] h r):=by
 refine WF.QC (args:=[_]) (fn:=Tryz.f138) Kq0 (by exact rfl) Tryz.ntmps138 (by simp) ?_;simp only[Zq,Zx,Nat.reduceAdd];obtain⟨T,hT,hS⟩:∃T,T=QF (wm:=wm) []/\Sp wm T h [] h:=⟨_,rfl,Sp.start Zy Yp.nil⟩
 unfold ZlX at hL;refine r3 ?_;rintro _ h2 ⟨b1,eb1,rfl,hS⟩;refine r15 ?_;refine cn hL ?_ ?_
 ·intro hc hL;refine r12 ?_;refine WO.gv (Zn.yes rfl rfl rfl (Z8 rfl fh)) rfl (fun hg=>(Y5 (WG fh rfl hg) (J2 rfl) Zbq))<|r7 ?_;obtain⟨x3,hx3,hL⟩:=bS hL;rcases x3 with y4|e5
  ·skip;replace hL:=Yw hL;refine Vd (Yo.fn YZ (Zb lk Zd)) hS .n (fun g' hz hf hO=>(PQ.ok (YF (hS.Vg hz) hx3))) ?_;rintro _ h6 _ ⟨rfl,rfl⟩ hS;refine r2 ?_;refine Z0.Yc ?_;have hr:=Oi0 hL;subst hr;exact Z0.WV rfl Zk rfl ⟨_,⟨rfl,rfl⟩,hT▸hS.only .n⟩
  ·skip;replace hL:=Z7 hL;obtain rfl:=XG hx3;refine WO.Kg gN (Yo.fn YZ (Zb lk Zd)) hS .n (fun g' hz hf hO=>YF (hS.Vg hz) hx3) ?_;rintro h8 hS;refine Yy.panic<|Z0.KU<|Y7.Z9 ?_;have hr:=Oi0 hL;subst hr;exact⟨rfl,hT▸hS.only .n⟩
 ·intro hc hL;refine r6 ?_;refine cn hL ?_ ?_
  ·intro hc hL;refine r3 ?_;obtain⟨x9,hx9,hL⟩:=bS hL;refine WO.cp gN rfl (Yo.fn Zpo (Zb lk Zd)) (ZjM hx9)<|r11 ?_;obtain⟨x10,ZG9,hL⟩:=bS hL;rcases x10 with y11|e12
   ·skip;replace hL:=Yw hL;refine Vd (Yo.fn YZ (Zb lk Zd)) hS .n (fun g' hz hf hO=>(PQ.ok (YF (hS.Vg hz) ZG9))) ?_;rintro _ h13 _ ⟨rfl,rfl⟩ hS;refine r2 ?_;refine Z0.Yc ?_;have hr:=Oi0 hL;subst hr;exact Z0.WV rfl Zk rfl ⟨_,⟨rfl,rfl⟩,hT▸hS.only .n⟩
   ·skip;replace hL:=Z7 hL;obtain rfl:=XG ZG9;refine WO.Kg gN (Yo.fn YZ (Zb lk Zd)) hS .n (fun g' hz hf hO=>YF (hS.Vg hz) ZG9) ?_;rintro h15 hS;refine Yy.panic<|Z0.KU<|Y7.Z9 ?_;have hr:=Oi0 hL;subst hr;exact⟨rfl,hT▸hS.only .n⟩
  ·intro hc hL;refine WC.ZfV (r:=r) (fun(v19:Z) s=>∃ZC2 h16,s=⟨ZC2,[],h16,none⟩/\Sp wm T h [bx wm b1 [V8 p0.op,V8 p0.n,.string p0.text,.slice Zf p0.kids.length Ze]] h16/\ZC2.at 1=(V9 b1)/\ZC2.at 44=.bool v19) (Kq p0) ?_ ?_
   ·rintro v19 s hL ⟨ZC2,h16,rfl,hS,e18,e20⟩;refine cn hL ?_ ?_
    ·intro hc hL;refine r3 ?_;refine Vc (Y5 (Zj fh rfl) (J2 rfl) Zbq)<|r11 ?_;obtain⟨x21,ZG7,hL⟩:=bS hL;rcases x21 with y22|e23
     ·skip;replace hL:=Yw hL;refine Vd (Yo.fn YZ (Zb lk Zd)) hS .n (fun g' hz hf hO=>(PQ.ok (YF (hS.Vg hz) ZG7))) ?_;rintro _ h24 _ ⟨rfl,rfl⟩ hS;refine r2 ?_;refine Z0.Yc ?_;have hr:=Oi0 hL;subst hr;exact Z0.WV rfl Zk rfl ⟨_,⟨rfl,rfl⟩,hT▸hS.only .n⟩
     ·skip;replace hL:=Z7 hL;obtain rfl:=XG ZG7;refine WO.Kg gN (Yo.fn YZ (Zb lk Zd)) hS .n (fun g' hz hf hO=>YF (hS.Vg hz) ZG7) ?_;rintro h26 hS;refine Yy.panic<|Z0.KU<|Y7.Z9 ?_;have hr:=Oi0 hL;subst hr;exact⟨rfl,hT▸hS.only .n⟩
    ·intro hc hL;refine r1 ?_;obtain⟨x27,hx27,hL⟩:=bS hL;rcases x27 with y28|e29
     ·skip;replace hL:=Yw hL;refine Vd (Yo.fn ZeU (Zb lk Zd)) hS .n (fun g' hz hf hO=>(PQ.ok (Zbf (hS.Vg hz) hx27))) ?_;rintro _ h30 _ ⟨rfl,rfl⟩ hS;refine r2 ?_;refine Z0.Yc ?_;have hr:=Oi0 hL;subst hr;exact Z0.WV rfl Zk rfl ⟨_,⟨rfl,rfl⟩,hT▸hS.only .n⟩
     ·skip;replace hL:=Z7 hL;refine WO.Kg gN (Yo.fn ZeU (Zb lk Zd)) hS .n (fun g' hz hf hO=>Zbf (hS.Vg hz) hx27) ?_;rintro h32 hS;refine Yy.panic<|Z0.KU<|Y7.Z9 ?_;have hr:=Oi0 hL;subst hr;exact⟨rfl,hT▸hS.only .n⟩
   ·skip;refine r6 ?_;refine cn hL ?_ ?_
    ·intro hc hL;refine r1 ?_;exact Xf.Yc _ hL ⟨_,_,rfl,hS.only (.c k0 .n),QG⟩
    ·intro hc hL;refine r6 ?_;refine cn hL ?_ ?_
     ·intro hc hL;refine r1 ?_;exact Xf.Yc _ hL ⟨_,_,rfl,hS.only (.c k0 .n),QG⟩
     ·intro hc hL;refine r6 ?_;refine cn hL ?_ ?_
      ·intro hc hL;refine r1 ?_;exact Xf.Yc _ hL ⟨_,_,rfl,hS.only (.c k0 .n),QG⟩
      ·intro hc hL;refine r6 ?_;refine cn hL ?_ ?_
       ·intro hc hL;refine r1 ?_;exact Xf.Yc _ hL ⟨_,_,rfl,hS.only (.c k0 .n),QG⟩
       ·intro hc hL;refine r4 ?_;exact Xf.Yc _ hL ⟨_,_,rfl,hS.only (.c k0 .n),QG⟩
def Zt5{F wm h}{p0:Term}{Zf Ze ZA Zz Zw Zv}{r}(Zy:wm<=h.size)(Zt:Sl Zh wm h Zf Ze p0.args)(ZV:Sl Zc wm h ZA Zz p0.defs)(ZU:Sl Zm wm h Zw Zv p0.kids)(hL:ZlY F p0=some r):
 WF XX 137 #[.agg #[V8 p0.op,.string p0.text,.slice Zf p0.args.length Ze,.slice ZA p0.defs.length Zz,.slice Zw p0.kids.length Zv]] wm h (PQ 147 (fun(r:Unit) v (Gb:U (Ast wm))=>v=.tuple #[]/\Gb=[]) [] h r):=by
 refine WF.QC (args:=[_]) (fn:=Tryz.f137) Kq0 (by exact rfl) Tryz.ntmps137 (by simp) ?_;simp only[Zq,Zx,Nat.reduceAdd];obtain⟨T,hT,hS⟩:∃T,T=QF (wm:=wm) []/\Sp wm T h [] h:=⟨_,rfl,Sp.start Zy Yp.nil⟩
 unfold ZlY at hL;refine r3 ?_;rintro _ h2 ⟨b1,eb1,rfl,hS⟩;refine r2 ?_;refine WC.ZfV (r:=r) (fun(_:Unit) s=>∃fr4 h3,s=⟨fr4,[],h3,none⟩/\Sp wm T h [bx wm b1 [V8 p0.op,.string p0.text,.slice Zf p0.args.length Ze,.slice ZA p0.defs.length Zz,.slice Zw p0.kids.length Zv]] h3/\fr4.at 1=(V9 b1)) (UO F p0) ?_ ?_
 ·rintro _ s hL ⟨fr4,h3,rfl,hS,e5⟩;refine r7 ?_;refine WC.ZfV (r:=r) (fun(v9:Z) s=>∃fr7 h6,s=⟨fr7,[],h6,none⟩/\Sp wm T h [bx wm b1 [V8 p0.op,.string p0.text,.slice Zf p0.args.length Ze,.slice ZA p0.defs.length Zz,.slice Zw p0.kids.length Zv]] h6/\fr7.at 1=(V9 b1)/\fr7.at 59=.bool v9) (Zda F p0) ?_ ?_
  ·rintro v9 s hL ⟨fr7,h6,rfl,hS,e8,e10⟩;refine cn hL ?_ ?_
   ·intro hc hL;refine r3 ?_;obtain⟨x11,Zvt,hL⟩:=bS hL;refine WO.cp gN rfl (Yo.fn Zpo (Zb lk Zd)) (ZjM Zvt) ?_;obtain⟨x12,Zx3,hL⟩:=bS hL;rcases x12 with y13|e14
    ·skip;replace hL:=Yw hL;refine Vd (Yo.fn YZ (Zb lk Zd)) hS .n (fun g' hz hf hO=>(PQ.ok (YF (hS.Vg hz) Zx3))) ?_;rintro _ h15 _ ⟨rfl,rfl⟩ hS;refine r2 ?_;refine Z0.Yc ?_;have hr:=Oi0 hL;subst hr;exact Z0.WV rfl Zk rfl ⟨_,⟨rfl,rfl⟩,hT▸hS.only .n⟩
    ·skip;replace hL:=Z7 hL;obtain rfl:=XG Zx3;refine WO.Kg gN (Yo.fn YZ (Zb lk Zd)) hS .n (fun g' hz hf hO=>YF (hS.Vg hz) Zx3) ?_;rintro h17 hS;refine Yy.panic<|Z0.KU<|Y7.Z9 ?_;have hr:=Oi0 hL;subst hr;exact⟨rfl,hT▸hS.only .n⟩
   ·intro hc hL;refine r3 ?_;refine Vc (Y5 (Zj fh rfl) (J2 rfl) Zbq) ?_;obtain⟨x18,Zb6,hL⟩:=bS hL;rcases x18 with y19|e20
    ·skip;replace hL:=Yw hL;refine Vd (Yo.fn YZ (Zb lk Zd)) hS .n (fun g' hz hf hO=>(PQ.ok (YF (hS.Vg hz) Zb6))) ?_;rintro _ h21 _ ⟨rfl,rfl⟩ hS;refine r2 ?_;refine Z0.Yc ?_;have hr:=Oi0 hL;subst hr;exact Z0.WV rfl Zk rfl ⟨_,⟨rfl,rfl⟩,hT▸hS.only .n⟩
    ·skip;replace hL:=Z7 hL;obtain rfl:=XG Zb6;refine WO.Kg gN (Yo.fn YZ (Zb lk Zd)) hS .n (fun g' hz hf hO=>YF (hS.Vg hz) Zb6) ?_;rintro h23 hS;refine Yy.panic<|Z0.KU<|Y7.Z9 ?_;have hr:=Oi0 hL;subst hr;exact⟨rfl,hT▸hS.only .n⟩
  ·skip;refine r6 ?_;refine cn hL ?_ ?_
   ·intro hc hL;refine r1 ?_;exact Xf.Yc _ hL ⟨_,_,rfl,hS.only (.c k0 .n),QG⟩
   ·intro hc hL;refine r6 ?_;refine cn hL ?_ ?_
    ·intro hc hL;refine r1 ?_;exact Xf.Yc _ hL ⟨_,_,rfl,hS.only (.c k0 .n),QG⟩
    ·intro hc hL;refine r4 ?_;exact Xf.Yc _ hL ⟨_,_,rfl,hS.only (.c k0 .n),QG⟩
 ·skip;refine r7 ?_;refine WC.ZfV (r:=r) (fun(v28:Z) s=>∃Zjg h24,s=⟨Zjg,[],h24,none⟩/\Sp wm T h [bx wm b1 [V8 p0.op,.string p0.text,.slice Zf p0.args.length Ze,.slice ZA p0.defs.length Zz,.slice Zw p0.kids.length Zv]] h24/\Zjg.at 1=(V9 b1)/\Zjg.at 3= V8 p0.op/\Zjg.at 5=.bool v28) (Zc9 F p0) ?_ ?_
  ·rintro v28 s hL ⟨Zjg,h24,rfl,hS,e26,e27,e29⟩;refine cn hL ?_ ?_
   ·intro hc hL;refine r2 ?_;obtain⟨x30,Zpc,hL⟩:=bS hL;rcases x30 with y31|e32
    ·skip;replace hL:=Yw hL;refine Vd (Yo.fn WU (Zb lk (Zb lk (Zb lk (Zb lk Zd))))) hS .n (fun g' hz hf hO=>(PQ.ok (Ui (hS.Vg hz) ((hS.sl Zt).mono hf) ((hS.sl ZV).mono hf) ((hS.sl ZU).mono hf) Zpc))) ?_;rintro _ h33 _ ⟨rfl,rfl⟩ hS;refine r2 ?_;exact Xf.Yc _ hL ⟨_,_,rfl,hS.only (.c k0 .n),QG⟩
    ·skip;replace hL:=Z7 hL;refine WO.Kg gN (Yo.fn WU (Zb lk (Zb lk (Zb lk (Zb lk Zd))))) hS .n (fun g' hz hf hO=>Ui (hS.Vg hz) ((hS.sl Zt).mono hf) ((hS.sl ZV).mono hf) ((hS.sl ZU).mono hf) Zpc) ?_;rintro h35 hS;refine Yy.panic<|Xf.panic<|Z0.KU<|Y7.Z9 ?_;have hr:=Oi0 hL;subst hr;exact⟨rfl,hT▸hS.only .n⟩
   ·intro hc hL;refine r6 ?_;refine cn hL ?_ ?_
    ·intro hc hL;refine r6 ?_;obtain⟨x36,ZkO,hL⟩:=bS hL;rcases x36 with y37|e38
     ·skip;replace hL:=Yw hL;refine Vd (Yo.fn YZ (Zb lk Zd)) hS .n (fun g' hz hf hO=>(PQ.ok (YF (hS.Vg hz) ZkO))) ?_;rintro _ h39 _ ⟨rfl,rfl⟩ hS;refine r7 ?_;obtain⟨x41,ZrU,hL⟩:=bS hL;rcases x41 with y42|e43
      ·skip;replace hL:=Yw hL;refine Vd (Yo.fn WU (Zb lk (Zb lk (Zb lk (Zb lk Zd))))) hS .n (fun g' hz hf hO=>(PQ.ok (Ui (hS.Vg hz) ((hS.sl Zt).mono hf) ((hS.sl ZV).mono hf) ((hS.sl ZU).mono hf) ZrU))) ?_;rintro _ h44 _ ⟨rfl,rfl⟩ hS;refine r2 ?_;exact Xf.Yc _ hL ⟨_,_,rfl,hS.only (.c k0 .n),QG⟩
      ·skip;replace hL:=Z7 hL;refine WO.Kg gN (Yo.fn WU (Zb lk (Zb lk (Zb lk (Zb lk Zd))))) hS .n (fun g' hz hf hO=>Ui (hS.Vg hz) ((hS.sl Zt).mono hf) ((hS.sl ZV).mono hf) ((hS.sl ZU).mono hf) ZrU) ?_;rintro h46 hS;refine Yy.panic<|Xf.panic<|Z0.KU<|Y7.Z9 ?_;have hr:=Oi0 hL;subst hr;exact⟨rfl,hT▸hS.only .n⟩
     ·skip;replace hL:=Z7 hL;obtain rfl:=XG ZkO;refine WO.Kg gN (Yo.fn YZ (Zb lk Zd)) hS .n (fun g' hz hf hO=>YF (hS.Vg hz) ZkO) ?_;rintro h47 hS;refine ZB.panic<|Yy.panic<|Xf.panic<|Z0.KU<|Y7.Z9 ?_;have hr:=Oi0 hL;subst hr;exact⟨rfl,hT▸hS.only .n⟩
    ·intro hc hL;refine r6 ?_;refine cn hL ?_ ?_
     ·intro hc hL;refine r2 ?_;obtain⟨x48,ZCu,hL⟩:=bS hL;rcases x48 with y49|e50
      ·skip;replace hL:=Yw hL;refine Vd (Yo.fn WU (Zb lk (Zb lk (Zb lk (Zb lk Zd))))) hS .n (fun g' hz hf hO=>(PQ.ok (Ui (hS.Vg hz) ((hS.sl Zt).mono hf) ((hS.sl ZV).mono hf) ((hS.sl ZU).mono hf) ZCu))) ?_;rintro _ h51 _ ⟨rfl,rfl⟩ hS;refine r2 ?_;exact Xf.Yc _ hL ⟨_,_,rfl,hS.only (.c k0 .n),QG⟩
      ·skip;replace hL:=Z7 hL;refine WO.Kg gN (Yo.fn WU (Zb lk (Zb lk (Zb lk (Zb lk Zd))))) hS .n (fun g' hz hf hO=>Ui (hS.Vg hz) ((hS.sl Zt).mono hf) ((hS.sl ZV).mono hf) ((hS.sl ZU).mono hf) ZCu) ?_;rintro h53 hS;refine Yy.panic<|Xf.panic<|Z0.KU<|Y7.Z9 ?_;have hr:=Oi0 hL;subst hr;exact⟨rfl,hT▸hS.only .n⟩
     ·intro hc hL;refine r6 ?_;refine cn hL ?_ ?_
      ·intro hc hL;refine r12 ?_;obtain⟨x54,ZrT,hL⟩:=bS hL;rcases x54 with y55|e56
       ·skip;replace hL:=Yw hL;refine Vd (Yo.fn YZ (Zb lk Zd)) hS .n (fun g' hz hf hO=>(PQ.ok (YF (hS.Vg hz) ZrT))) ?_;rintro _ h57 _ ⟨rfl,rfl⟩ hS;refine r7 ?_;obtain⟨x59,Zvo,hL⟩:=bS hL;rcases x59 with y60|e61
        ·skip;replace hL:=Yw hL;refine Vd (Yo.fn WU (Zb lk (Zb lk (Zb lk (Zb lk Zd))))) hS .n (fun g' hz hf hO=>(PQ.ok (Ui (hS.Vg hz) ((hS.sl Zt).mono hf) ((hS.sl ZV).mono hf) ((hS.sl ZU).mono hf) Zvo))) ?_;rintro _ h62 _ ⟨rfl,rfl⟩ hS;refine r2 ?_;exact Xf.Yc _ hL ⟨_,_,rfl,hS.only (.c k0 .n),QG⟩
        ·skip;replace hL:=Z7 hL;refine WO.Kg gN (Yo.fn WU (Zb lk (Zb lk (Zb lk (Zb lk Zd))))) hS .n (fun g' hz hf hO=>Ui (hS.Vg hz) ((hS.sl Zt).mono hf) ((hS.sl ZV).mono hf) ((hS.sl ZU).mono hf) Zvo) ?_;rintro h64 hS;refine Yy.panic<|Xf.panic<|Z0.KU<|Y7.Z9 ?_;have hr:=Oi0 hL;subst hr;exact⟨rfl,hT▸hS.only .n⟩
       ·skip;replace hL:=Z7 hL;obtain rfl:=XG ZrT;refine WO.Kg gN (Yo.fn YZ (Zb lk Zd)) hS .n (fun g' hz hf hO=>YF (hS.Vg hz) ZrT) ?_;rintro h65 hS;refine ZB.panic<|Yy.panic<|Xf.panic<|Z0.KU<|Y7.Z9 ?_;have hr:=Oi0 hL;subst hr;exact⟨rfl,hT▸hS.only .n⟩
      ·intro hc hL;refine r6 ?_;refine cn hL ?_ ?_
       ·intro hc hL;refine r2 ?_;obtain⟨x66,Zvn,hL⟩:=bS hL;rcases x66 with y67|e68
        ·skip;replace hL:=Yw hL;refine Vd (Yo.fn WU (Zb lk (Zb lk (Zb lk (Zb lk Zd))))) hS .n (fun g' hz hf hO=>(PQ.ok (Ui (hS.Vg hz) ((hS.sl Zt).mono hf) ((hS.sl ZV).mono hf) ((hS.sl ZU).mono hf) Zvn))) ?_;rintro _ h69 _ ⟨rfl,rfl⟩ hS;refine r2 ?_;exact Xf.Yc _ hL ⟨_,_,rfl,hS.only (.c k0 .n),QG⟩
        ·skip;replace hL:=Z7 hL;refine WO.Kg gN (Yo.fn WU (Zb lk (Zb lk (Zb lk (Zb lk Zd))))) hS .n (fun g' hz hf hO=>Ui (hS.Vg hz) ((hS.sl Zt).mono hf) ((hS.sl ZV).mono hf) ((hS.sl ZU).mono hf) Zvn) ?_;rintro h71 hS;refine Yy.panic<|Xf.panic<|Z0.KU<|Y7.Z9 ?_;have hr:=Oi0 hL;subst hr;exact⟨rfl,hT▸hS.only .n⟩
       ·intro hc hL;refine WC.ZfV (r:=r) (fun(v75:Z) s=>∃ZC1 h72,s=⟨ZC1,[],h72,none⟩/\Sp wm T h [bx wm b1 [V8 p0.op,.string p0.text,.slice Zf p0.args.length Ze,.slice ZA p0.defs.length Zz,.slice Zw p0.kids.length Zv]] h72/\ZC1.at 1=(V9 b1)/\ZC1.at 48=.bool v75) (Zfd F p0) ?_ ?_
        ·rintro v75 s hL ⟨ZC1,h72,rfl,hS,e74,e76⟩;refine cn hL ?_ ?_
         ·intro hc hL;refine r2 ?_;obtain⟨x77,ZKI,hL⟩:=bS hL;rcases x77 with y78|e79
          ·skip;replace hL:=Yw hL;refine Vd (Yo.fn WU (Zb lk (Zb lk (Zb lk (Zb lk Zd))))) hS .n (fun g' hz hf hO=>(PQ.ok (Ui (hS.Vg hz) ((hS.sl Zt).mono hf) ((hS.sl ZV).mono hf) ((hS.sl ZU).mono hf) ZKI))) ?_;rintro _ h80 _ ⟨rfl,rfl⟩ hS;refine r2 ?_;exact Xf.Yc _ hL ⟨_,_,rfl,hS.only (.c k0 .n),QG⟩
          ·skip;replace hL:=Z7 hL;refine WO.Kg gN (Yo.fn WU (Zb lk (Zb lk (Zb lk (Zb lk Zd))))) hS .n (fun g' hz hf hO=>Ui (hS.Vg hz) ((hS.sl Zt).mono hf) ((hS.sl ZV).mono hf) ((hS.sl ZU).mono hf) ZKI) ?_;rintro h82 hS;refine Yy.panic<|Xf.panic<|Z0.KU<|Y7.Z9 ?_;have hr:=Oi0 hL;subst hr;exact⟨rfl,hT▸hS.only .n⟩
         ·intro hc hL;refine r1 ?_;obtain⟨x83,ZKF,hL⟩:=bS hL;rcases x83 with y84|e85
          ·skip;replace hL:=Yw hL;refine Vd (Yo.fn ZeU (Zb lk Zd)) hS .n (fun g' hz hf hO=>(PQ.ok (Zbf (hS.Vg hz) ZKF))) ?_;rintro _ h86 _ ⟨rfl,rfl⟩ hS;refine r2 ?_;exact Xf.Yc _ hL ⟨_,_,rfl,hS.only (.c k0 .n),QG⟩
          ·skip;replace hL:=Z7 hL;refine WO.Kg gN (Yo.fn ZeU (Zb lk Zd)) hS .n (fun g' hz hf hO=>Zbf (hS.Vg hz) ZKF) ?_;rintro h88 hS;refine Yy.panic<|Xf.panic<|Z0.KU<|Y7.Z9 ?_;have hr:=Oi0 hL;subst hr;exact⟨rfl,hT▸hS.only .n⟩
        ·skip;refine r6 ?_;refine cn hL ?_ ?_
         ·intro hc hL;refine r1 ?_;exact Xf.Yc _ hL ⟨_,_,rfl,hS.only (.c k0 .n),QG⟩
         ·intro hc hL;refine r4 ?_;exact Xf.Yc _ hL ⟨_,_,rfl,hS.only (.c k0 .n),QG⟩
  ·skip;refine r6 ?_;refine cn hL ?_ ?_
   ·intro hc hL;refine r1 ?_;exact Xf.Yc _ hL ⟨_,_,rfl,hS.only (.c k0 .n),QG⟩
   ·intro hc hL;refine r4 ?_;exact Xf.Yc _ hL ⟨_,_,rfl,hS.only (.c k0 .n),QG⟩
end
section
def Zfb(F:Nat)(v21:Int)(v23:(U (Y×Z)))(KN:(Int×(U (Y×Z))×(U (Y×Z))->O (PR Unit)))(x26:Yk):Int×(U (Y×Z))->(Int×(U (Y×Z))->O (PR Unit))->O (PR Unit):=fun(v51,v53) Zxx=>
 (bif decide (v51<(x26.names.length:Int)) then(ZN x26.names v51).bind fun x55=>(ZjN F x55).bind fun x58=>(gd x58 (ZkM v53 x55 false) default).bind fun x59=>(JI (x58&&(!x59))).bind fun x60=>JS x60 (fun e62=>some (.Z9 2)) (fun y61=>Zxx (YX (v51+1),Xw v53 x55 true)) else KN (YX (v21+1),Xw v23 x26.text true,v53))
def Zfc(F:Nat)(p0:Za):Int×(U (Y×Z))×(U (Y×Z))->(Int×(U (Y×Z))×(U (Y×Z))->O (PR Unit))->O (PR Unit):=fun(v21,v23,v24) KN=>
 (bif decide (v21<(p0.joins.length:Int)) then(ZN p0.joins v21).bind fun x26=>(ZjN F x26.text).bind fun x34=>(gd x34 (ZkM v23 x26.text false) default).bind fun x35=>(JI ((x34&&(!x35))&&(decide ((x26.names.length:Int)<=3)))).bind fun x36=>JS x36 (fun e38=>some (.Z9 2)) (fun y37=>loop F (Zfb F v21 v23 KN x26) (0,v24)) else some (.ok ()))
def Zfa(F:Nat)(p0:Za):Unit->O (PR Unit):=fun _=>
 loop F (Zfc F p0) (0,[],[])
def ZlW(F:Nat)(p0:Za):O (PR Unit):=
 (JI ((p0.kids.length:Int)==1)).bind fun x3=>JS x3 (fun e5=>some (.Z9 2)) (fun y4=>(bif(p0.form==2) then(ZjN F p0.text).bind fun x68=>(JI ((x68&&((p0.joins.length:Int)==0))&&(decide ((p0.defs.length:Int)<=5)))).bind fun x69=>JS x69 (fun e71=>some (.Z9 2)) (fun y70=>some (.ok ())) else(bif(p0.form==1) then(JI ((((decide (p0.text=(⟨#[]⟩:Y)))&&((p0.defs.length:Int)==0))&&(decide ((p0.joins.length:Int)>0)))&&(decide ((p0.joins.length:Int)<=3)))).bind fun x75=>JS x75 (fun e77=>some (.Z9 2)) (fun y76=>(Zfa F p0) ()) else(ZpV 2).bind fun x81=>JS x81 (fun e83=>some (.Z9 e83)) (fun y82=>(Zfa F p0) ()))))
end
section
def Zt3{F wm h}{p0:Za}{Zf Ze ZA Zz Zw Zv}{r}(Zy:wm<=h.size)(Zt:Sl Yj wm h Zf Ze p0.joins)(ZV:Sl Zc wm h ZA Zz p0.defs)(ZU:Sl Zm wm h Zw Zv p0.kids)(hL:ZlW F p0=some r):
 WF XX 139 #[.agg #[V8 p0.form,.string p0.text,.slice Zf p0.joins.length Ze,.slice ZA p0.defs.length Zz,.slice Zw p0.kids.length Zv]] wm h (PQ 147 (fun(r:Unit) v (Gb:U (Ast wm))=>v=.tuple #[]/\Gb=[]) [] h r):=by
 refine WF.QC (args:=[_]) (fn:=Tryz.f139) Kq0 (by exact rfl) Tryz.ntmps139 (by simp) ?_;simp only[Zq,Zx,Nat.reduceAdd];obtain⟨T,hT,hS⟩:∃T,T=QF (wm:=wm) []/\Sp wm T h [] h:=⟨_,rfl,Sp.start Zy Yp.nil⟩
 unfold ZlW at hL;refine r3 ?_;rintro _ h2 ⟨b1,eb1,rfl,hS⟩;refine r8 ?_;obtain⟨x3,hx3,hL⟩:=bS hL;rcases x3 with y4|e5
 ·skip;replace hL:=Yw hL;refine Vd (Yo.fn YZ (Zb lk Zd)) hS .n (fun g' hz hf hO=>(PQ.ok (YF (hS.Vg hz) hx3))) ?_;rintro _ h6 _ ⟨rfl,rfl⟩ hS;refine r2 ?_;refine WC.ZfV (r:=r) (fun(_:Unit) s=>∃fr9 h8,s=⟨fr9,[],h8,none⟩/\Sp wm T h [bx wm b1 [V8 p0.form,.string p0.text,.slice Zf p0.joins.length Ze,.slice ZA p0.defs.length Zz,.slice Zw p0.kids.length Zv]] h8/\fr9.at 1=(V9 b1)) (Zfa F p0) ?_ ?_
  ·rintro _ s hL ⟨fr9,h8,rfl,hS,e10⟩;refine r2 ?_;refine Ve (ZgQ Value.string Value.bool hS) ?_;rintro _ h11 ⟨b12,ZIs,rfl,hS⟩;refine Ve (ZgQ Value.string Value.bool hS) ?_;rintro _ h13 ⟨b14,ZV6,rfl,hS⟩;refine r13 ?_;refine WC.loop (WL.lift hL (fun p s=>match p with | (v21,v23,v24)=>∃Zsb h15,s=⟨Zsb,[],h15,none⟩/\Sp wm T h [mp wm Value.string Value.bool (some b12) v23,mp wm Value.string Value.bool (some b14) v24] h15/\Zsb.at 2=.map (some b12)/\Zsb.at 3=.map (some b14)/\Zsb.at 61=.slice Zf p0.joins.length Ze/\Zsb.at 62= V8 (p0.joins.length:Int)/\Zsb.at 63= V8 v21) ⟨_,_,rfl,hS.only (.c k1 (.c k0 .n)),QG⟩ ?_);rintro KN ⟨v21,v23,v24⟩ s ZCM hL ⟨Zsb,h15,rfl,hS,e17,e18,e19,e20,e22⟩;refine r6 ?_;refine cn hL ?_ ?_
   ·intro hc hL;refine r6 ?_;obtain⟨x26,Zvr,hL⟩:=bS hL;obtain⟨b27,o28,⟨a29,c30⟩,ZL1,ZMH,ZMn,ZMd⟩:=Sl.at_ Zt Zvr;refine Vc (Yf WJ X4 lk lk rfl ZL1 Zvr) ?_;have Zye:Sl Xb wm h a29 c30 x26.names:=ZMd;refine Vc (Yx Zeo X4 (Zj fh rfl) (At.fz hS.fz ZMn ZMH) (j:=0) rfl rfl (ws:=[.string x26.text,.slice a29 x26.names.length c30]) rfl)<|r1 ?_;rintro _ h32 ⟨b31,ZV3,rfl,hS⟩;refine r1 ?_;rintro h33 hS;refine r6 ?_;obtain⟨x34,hx34,hL⟩:=bS hL;refine WO.cp gN rfl (Yo.fn Zpo (Zb lk Zd)) (ZjM hx34)<|r4 ?_;obtain⟨x35,ZG6,hL⟩:=UN hL;refine WO.gv (Zn.yes rfl rfl rfl (Z8 rfl (Zg rfl fh))) rfl (fun hg=>(Zdk (kv:=Value.string) (vv:=Value.bool) (k:=x26.text) (z:=false) Ws JR ZhZ (WG (Z8 rfl fh) rfl hg) (WG fh rfl hg) (hS.get k1).at_ (ZG6 hg) (w:=.bool x35) rfl))<|r8 ?_;obtain⟨x36,ZkO,hL⟩:=bS hL;rcases x36 with y37|e38
    ·skip;replace hL:=Yw hL;refine Vd (Yo.fn YZ (Zb lk Zd)) hS .n (fun g' hz hf hO=>(PQ.ok (YF (hS.Vg hz) ZkO))) ?_;rintro _ h39 _ ⟨rfl,rfl⟩ hS;refine r7 ?_;refine WO.hu gN (ZeA (kv:=Value.string) (vv:=Value.bool) (k:=x26.text) (v:=true) hS k1 Ws JR (Zj (Z8 rfl fh) rfl) (Zj fh rfl) (J2 rfl)) ?_;rintro h41 hS;refine r11 ?_;refine WC.loop (WL.lift hL (fun p s=>match p with | (v51,v53)=>∃Zce h42,s=⟨Zce,[],h42,none⟩/\Sp wm T h [mp wm Value.string Value.bool (some b12) (Xw v23 x26.text true),mp wm Value.string Value.bool (some b14) v53] h42/\Zce.at 2=.map (some b12)/\Zce.at 3=.map (some b14)/\Zce.at 61=.slice Zf p0.joins.length Ze/\Zce.at 62= V8 (p0.joins.length:Int)/\Zce.at 63= V8 v21/\Zce.at 88=.slice a29 x26.names.length c30/\Zce.at 89= V8 (x26.names.length:Int)/\Zce.at 90= V8 v51) ⟨_,_,rfl,hS.only (.c k0 (.c k1 .n)),QG⟩ ?_);rintro Zxx ⟨v51,v53⟩ s ZCE hL ⟨Zce,h42,rfl,hS,e44,e45,e46,e47,e48,e49,e50,e52⟩;refine r6 ?_;refine cn hL ?_ ?_
     ·intro hc hL;refine r6 ?_;obtain⟨x55,ZKM,hL⟩:=bS hL;obtain⟨b56,o57,_,ZLS,ZMy,ZMf,ZSc⟩:=Sl.at_ Zye ZKM;refine Vc (Yf ZbN ZdA lk lk rfl ZLS ZKM)<|Vc (Yt Zlb (Zj fh rfl) (At.fz hS.fz ZMf ZMy) (j:=0) rfl (v:=.string x55) rfl)<|r6 ?_;obtain⟨x58,ZG4,hL⟩:=bS hL;refine WO.cp gN rfl (Yo.fn Zpo (Zb lk Zd)) (ZjM ZG4)<|r3 ?_;obtain⟨x59,Zvo,hL⟩:=UN hL;refine WO.gv (Zn.yes rfl rfl rfl (Z8 rfl fh)) rfl (fun hg=>(Zdk (kv:=Value.string) (vv:=Value.bool) (k:=x55) (z:=false) Ws JR ZhZ (WG (Zg rfl fh) rfl hg) (WG fh rfl hg) (hS.get k1).at_ (Zvo hg) (w:=.bool x59) rfl))<|r2 ?_;obtain⟨x60,Zx0,hL⟩:=bS hL;rcases x60 with y61|e62
      ·skip;replace hL:=Yw hL;refine Vd (Yo.fn YZ (Zb lk Zd)) hS .n (fun g' hz hf hO=>(PQ.ok (YF (hS.Vg hz) Zx0))) ?_;rintro _ h63 _ ⟨rfl,rfl⟩ hS;refine r5 ?_;refine WO.hu gN (ZeA (kv:=Value.string) (vv:=Value.bool) (k:=x55) (v:=true) hS k1 Ws JR (Zj (Zg rfl fh) rfl) (Zj fh rfl) (J2 rfl)) ?_;rintro h65 hS;refine r7 ?_;exact Ya.Yc (ZCE _ _ hL ⟨_,_,rfl,hS.only (.c k1 (.c k0 .n)),QG⟩)
      ·skip;replace hL:=Z7 hL;obtain rfl:=XG Zx0;refine WO.Kg gN (Yo.fn YZ (Zb lk Zd)) hS .n (fun g' hz hf hO=>YF (hS.Vg hz) Zx0) ?_;rintro h66 hS;refine ZB.panic<|Yy.panic<|ZB.panic<|Ya.panic<|Yy.panic<|Yy.panic<|ZB.panic<|Ya.panic<|Yy.panic<|Z0.KU<|Y7.Z9 ?_;have hr:=Oi0 hL;subst hr;exact⟨rfl,hT▸hS.only .n⟩
     ·intro hc hL;refine r10 ?_;exact Ya.Yc (ZCM _ _ hL ⟨_,_,rfl,hS.only (.c k0 (.c k0 .n)),QG⟩)
    ·skip;replace hL:=Z7 hL;obtain rfl:=XG ZkO;refine WO.Kg gN (Yo.fn YZ (Zb lk Zd)) hS .n (fun g' hz hf hO=>YF (hS.Vg hz) ZkO) ?_;rintro h67 hS;refine ZB.panic<|Yy.panic<|ZB.panic<|Ya.panic<|Yy.panic<|Z0.KU<|Y7.Z9 ?_;have hr:=Oi0 hL;subst hr;exact⟨rfl,hT▸hS.only .n⟩
   ·intro hc hL;refine r4 ?_;refine Z0.Yc ?_;have hr:=Oi0 hL;subst hr;exact Z0.WV rfl Zk rfl ⟨_,⟨rfl,rfl⟩,hT▸hS.only .n⟩
  ·skip;refine r13 ?_;refine cn hL ?_ ?_
   ·intro hc hL;refine r4 ?_;obtain⟨x68,ZPE,hL⟩:=bS hL;refine WO.cp gN rfl (Yo.fn Zpo (Zb lk Zd)) (ZjM ZPE)<|r12 ?_;obtain⟨x69,Zvm,hL⟩:=bS hL;rcases x69 with y70|e71
    ·skip;replace hL:=Yw hL;refine Vd (Yo.fn YZ (Zb lk Zd)) hS .n (fun g' hz hf hO=>(PQ.ok (YF (hS.Vg hz) Zvm))) ?_;rintro _ h72 _ ⟨rfl,rfl⟩ hS;refine r4 ?_;refine Xf.ret ?_;have hr:=Oi0 hL;subst hr;exact Z0.WV rfl Zk rfl ⟨_,⟨rfl,rfl⟩,hT▸hS.only .n⟩
    ·skip;replace hL:=Z7 hL;obtain rfl:=XG Zvm;refine WO.Kg gN (Yo.fn YZ (Zb lk Zd)) hS .n (fun g' hz hf hO=>YF (hS.Vg hz) Zvm) ?_;rintro h74 hS;refine ZB.panic<|Yy.panic<|Xf.panic<|Z0.KU<|Y7.Z9 ?_;have hr:=Oi0 hL;subst hr;exact⟨rfl,hT▸hS.only .n⟩
   ·intro hc hL;refine r6 ?_;refine cn hL ?_ ?_
    ·intro hc hL;refine r3 ?_;refine Vc (Y5 (Zj fh rfl) (J2 rfl) Zbq)<|r16 ?_;refine r2 ?_;obtain⟨x75,ZG3,hL⟩:=bS hL;rcases x75 with y76|e77
     ·skip;replace hL:=Yw hL;refine Vd (Yo.fn YZ (Zb lk Zd)) hS .n (fun g' hz hf hO=>(PQ.ok (YF (hS.Vg hz) ZG3))) ?_;rintro _ h78 _ ⟨rfl,rfl⟩ hS;refine r2 ?_;exact Xf.Yc _ hL ⟨_,_,rfl,hS.only (.c k0 .n),QG⟩
     ·skip;replace hL:=Z7 hL;obtain rfl:=XG ZG3;refine WO.Kg gN (Yo.fn YZ (Zb lk Zd)) hS .n (fun g' hz hf hO=>YF (hS.Vg hz) ZG3) ?_;rintro h80 hS;refine Yy.panic<|Xf.panic<|Z0.KU<|Y7.Z9 ?_;have hr:=Oi0 hL;subst hr;exact⟨rfl,hT▸hS.only .n⟩
    ·intro hc hL;refine r1 ?_;obtain⟨x81,ZKG,hL⟩:=bS hL;rcases x81 with y82|e83
     ·skip;replace hL:=Yw hL;refine Vd (Yo.fn ZeU (Zb lk Zd)) hS .n (fun g' hz hf hO=>(PQ.ok (Zbf (hS.Vg hz) ZKG))) ?_;rintro _ h84 _ ⟨rfl,rfl⟩ hS;refine r2 ?_;exact Xf.Yc _ hL ⟨_,_,rfl,hS.only (.c k0 .n),QG⟩
     ·skip;replace hL:=Z7 hL;refine WO.Kg gN (Yo.fn ZeU (Zb lk Zd)) hS .n (fun g' hz hf hO=>Zbf (hS.Vg hz) ZKG) ?_;rintro h86 hS;refine Yy.panic<|Xf.panic<|Z0.KU<|Y7.Z9 ?_;have hr:=Oi0 hL;subst hr;exact⟨rfl,hT▸hS.only .n⟩
 ·skip;replace hL:=Z7 hL;obtain rfl:=XG hx3;refine WO.Kg gN (Yo.fn YZ (Zb lk Zd)) hS .n (fun g' hz hf hO=>YF (hS.Vg hz) hx3) ?_;rintro h87 hS;refine ZB.panic<|Z0.KU<|Y7.Z9 ?_;have hr:=Oi0 hL;subst hr;exact⟨rfl,hT▸hS.only .n⟩
end
section
def Zsc:(U Y)×(U Y)×(U (Y×Z))->O ((U Y)×(U Y)):=fun(v19,v23,v27)=>
 some (v19,v23)
def Zjt(v86:Int)(ZfZ:(Int×(U Za)->O (Z×(U Y)×(U Y)×Int×(U (Y×Z))))):(U Za)->O (Z×(U Y)×(U Y)×Int×(U (Y×Z))):=fun ZwE=>
 ZfZ (YX (v86+1),ZwE)
def Zjs(Zh4:Int)(ZcY:(Int×(U Y)×(U (Y×Z))->O (Z×(U Y)×(U Y)×Int×(U (Y×Z))))):(U Y)×(U (Y×Z))->O (Z×(U Y)×(U Y)×Int×(U (Y×Z))):=fun(Zoj,v196)=>
 ZcY (YX (Zh4+1),Zoj,v196)
def Zgh(v145:Int)(Zhw:(Int×(U Y)×(U (Y×Z))->O (Z×(U Y)×(U Y)×Int×(U (Y×Z)))))(x153:Za):Int×(U Y)×(U (Y×Z))->(Int×(U Y)×(U (Y×Z))->O (Z×(U Y)×(U Y)×Int×(U (Y×Z))))->O (Z×(U Y)×(U Y)×Int×(U (Y×Z))):=fun(Zh4,Zok,Zra) ZcY=>
 (bif decide (Zh4<(x153.joins.length:Int)) then(ZN x153.joins Zh4).bind fun Zh0=>(ZkM Zra Zh0.text false).bind fun ZF3=>(bif(!ZF3) then(app 16 Zok [Zh0.text]).bind fun ZFT=>(Zjs Zh4 ZcY) (ZFT,Xw Zra Zh0.text true) else(Zjs Zh4 ZcY) (Zok,Zra)) else Zhw (YX (v145+1),Zok,Zra))
def Zcj(v45:(U Za))(WN:(Y×(U Za)×(U Y)×(U Y)×Int×(U (Y×Z))->O (Z×(U Y)×(U Y)×Int×(U (Y×Z))))):Int×Int×(U Y)×(U Y)×(U (Y×Z))->(Int×Int×(U Y)×(U Y)×(U (Y×Z))->O (Z×(U Y)×(U Y)×Int×(U (Y×Z))))->O (Z×(U Y)×(U Y)×Int×(U (Y×Z))):=fun(Zq9,v222,Zmn,v227,ZuI) ZmR=>
 (bif decide (Zq9<(v45.length:Int)) then(ZN v45 Zq9).bind fun Zhb=>(bif(Zhb.form==2) then(WN (Zhb.text,Zhb.defs,Zmn,v227,v222,ZuI)).bind fun(ZJ0,ZwB,ZwA,ZGe,ZuF)=>(bif(!ZJ0) then some (false,ZwB,ZwA,ZGe,ZuF) else ZmR (YX (Zq9+1),ZGe,ZwB,ZwA,ZuF)) else ZmR (YX (Zq9+1),v222,Zmn,v227,ZuI)) else some (true,Zmn,v227,v222,ZuI))
def Zgi(F:Nat)(v45:(U Za))(v56:Int)(WN:(Y×(U Za)×(U Y)×(U Y)×Int×(U (Y×Z))->O (Z×(U Y)×(U Y)×Int×(U (Y×Z)))))(v88:(U Za))(ZbC:(U Y)):Int×(U Y)×(U (Y×Z))->(Int×(U Y)×(U (Y×Z))->O (Z×(U Y)×(U Y)×Int×(U (Y×Z))))->O (Z×(U Y)×(U Y)×Int×(U (Y×Z))):=fun(v145,Zmr,ZuK) Zhw=>
 (bif decide (v145<(v88.length:Int)) then(ZN v88 v145).bind fun x153=>loop F (Zgh v145 Zhw x153) (0,Zmr,ZuK) else(bif(!true) then some (false,Zmr,ZbC,YX (v56+1),ZuK) else loop F (Zcj v45 WN) (0,YX (v56+1),Zmr,ZbC,ZuK)))
def Zci(F:Nat)(v45:(U Za))(v48:(U Y))(v56:Int)(v57:(U (Y×Z)))(WN:(Y×(U Za)×(U Y)×(U Y)×Int×(U (Y×Z))->O (Z×(U Y)×(U Y)×Int×(U (Y×Z)))))(v88:(U Za)):(U Y)->O (Z×(U Y)×(U Y)×Int×(U (Y×Z))):=fun ZbC=>
 loop F (Zgi F v45 v56 WN v88 ZbC) (0,v48,v57)
def Zju(F:Nat)(v44:Y)(v45:(U Za))(v48:(U Y))(v52:(U Y))(v56:Int)(v57:(U (Y×Z)))(WN:(Y×(U Za)×(U Y)×(U Y)×Int×(U (Y×Z))->O (Z×(U Y)×(U Y)×Int×(U (Y×Z))))):Int×(U Za)->(Int×(U Za)->O (Z×(U Y)×(U Y)×Int×(U (Y×Z))))->O (Z×(U Y)×(U Y)×Int×(U (Y×Z))):=fun(v86,v88) ZfZ=>
 (bif decide (v86<(v45.length:Int)) then(ZN v45 v86).bind fun x107=>(bif(x107.form==1) then(app 96 v88 [x107]).bind fun ZFU=>(Zjt v86 ZfZ) ZFU else(Zjt v86 ZfZ) v88) else(bif decide (v56>0) then(app 16 v52 [v44]).bind fun Zwr=>(Zci F v45 v48 v56 v57 WN v88) Zwr else(Zci F v45 v48 v56 v57 WN v88) v52))
def Zch(F:Nat):Y×(U Za)×(U Y)×(U Y)×Int×(U (Y×Z))->(Y×(U Za)×(U Y)×(U Y)×Int×(U (Y×Z))->O (Z×(U Y)×(U Y)×Int×(U (Y×Z))))->O (Z×(U Y)×(U Y)×Int×(U (Y×Z))):=fun(v44,v45,v48,v52,v56,v57) WN=>
 loop F (Zju F v44 v45 v48 v52 v56 v57 WN) (0,[])
def Zsd(F:Nat)(p0:(U Za)):O ((U Y)×(U Y)):=
 (loop F (Zch F) ((⟨#[]⟩:Y),p0,[],[],0,[])).bind fun(ZOT,ZGa,ZF9,ZBI,Zwz)=>(Zsc) (ZGa,ZF9,Zwz)
end
section
def ZIa{F wm h}{p0:(U Za)}{Zf Ze}{r}(Zy:wm<=h.size)(Zt:Sl Zc wm h Zf Ze p0)(hL:Zsd F p0=some r):
 WR XX 70 #[.slice Zf p0.length Ze] wm h (CP (fun v (Gb:U (Ast wm))=>∃Ym QS Yl ZEG ZED ZEF,v=.tuple #[.slice Ym QS Yl,.slice ZEG ZED ZEF]/\Gb=[ow wm Xb Ym QS Yl r.1,ow wm Xb ZEG ZED ZEF r.2]) [] h):=by
 refine WF.QC (args:=[_]) (fn:=Tryz.f70) Kq0 (by exact rfl) Tryz.ntmps70 (by simp) ?_;simp only[Zq,Zx,Nat.reduceAdd];obtain⟨T,hT,hS⟩:∃T,T=QF (wm:=wm) []/\Sp wm T h [] h:=⟨_,rfl,Sp.start Zy Yp.nil⟩
 unfold Zsd at hL;refine r3 ?_;rintro _ h2 ⟨b1,eb1,rfl,hS⟩;refine r1 ?_;rintro _ h4 ⟨b3,eb3,rfl,hS⟩;refine r4 ?_;refine Ve (ZgQ Value.string Value.bool hS) ?_;rintro _ h5 ⟨b6,eb6,rfl,hS⟩;refine r1 ?_;rintro _ h8 ⟨b7,eb7,rfl,hS⟩;refine r1 ?_;rintro h9 hS;refine r6 ?_;refine WO.inl gN rfl (Yo.fn ZyL (Zb lk Zd)) (WF.begin (args:=[_]) (fn:=Tryz.f113) Kq0 (by exact rfl) Tryz.ntmps113 (by simp) ?_);simp only[Zq,Zx,Nat.reduceAdd];refine r3 ?_;rintro _ h11 ⟨b10,ZV7,rfl,hS⟩;refine r5 ?_;refine Vc (WZ (Zb lk Zd))<|r4 ?_;refine Y0.Jb rfl (ZG lk Zk)<|r3 ?_;refine WC.Zxa (first:=[]) (cap:=[(V9 b10)]) hS lk ZyH ?_;intro h12 l13 Zgr ZgH ZtO hS;refine WR.ZKx (r:=r) (fun(p:(U Y)×(U Y)×(U (Y×Z)))(v:N)(h17:H)=>match p with | (v19,v23,v27)=>∃a20 c21 n22 a24 c25 n26,v=.tuple #[]/\Sp wm T h [ow wm Xb a20 n22 c21 v19,bx wm b1 [.slice a20 n22 c21],ow wm Xb a24 n26 c25 v23,bx wm b3 [.slice a24 n26 c25],bx wm b7 [.map (some b6)],bx wm b10 [.slice Zf p0.length Ze],mp wm Value.string Value.bool (some b6) v27,ob wm l13 ZgH,ob wm Zgr .deferred] h17) (Zsc) ?_ (WF.begin (args:=[_,_]) (fn:=Tryz.f144) Kq0 (by exact rfl) Tryz.ntmps144 (by simp) ?_)
 ·rintro⟨v19,v23,v27⟩ v h17 hL ⟨a20,c21,n22,a24,c25,n26,rfl,hS⟩;obtain rfl:=hS.on k0;obtain rfl:=hS.on k2;refine RgE.sp ZtO hS k7 ?_;rintro h28 hS;refine r3 ?_;refine WC.Ub mixed Kq0<|r1 ?_;refine WX.wr (fun x=>x=b3) hS gN rfl (fun _ _ hR=>Yt ZcB (Zj (YC rfl (Zg rfl fh)) rfl) (At.eqv (hR b3 rfl) (hS.Jp k3)) (j:=0) rfl (v:=.slice a24 v23.length c25) rfl) ?_ rfl rfl;rintro h29 e30 hS;refine WX.hu gN (JO hS k1 Zif lk lk (vs:=[.slice a20 v19.length c21]) rfl rfl rfl rfl (cs':=[.slice a20 v19.length c21]) rfl) ?_ rfl rfl [1] Kq0 (.c .z (hS.dj (.c k1 (.c k2 .n))) XP.e);rintro h31 hS;refine WX.hu gN (JO hS k3 Zif lk lk (vs:=[.slice a24 v23.length c25]) rfl rfl rfl rfl (cs':=[.slice a24 v23.length c25]) rfl) ?_ rfl Kq0 [] Kq0 XP.e;rintro h32 hS;refine r3 ?_;refine Z0.Zhi hS k7 ?_;rintro h33 hS;have hr:=Oi0 hL;subst hr;exact Z0.gen rfl (YP (YC rfl (Z8 rfl (Zg rfl fh))) (Zdm ZcB (hS.Jp k1) (j:=0) rfl (v:=.slice a20 v19.length c21) rfl) (YP (YC rfl (Z8 rfl fh)) (Zdm ZcB (hS.Jp k0) (j:=0) rfl (v:=.slice a24 v23.length c25) rfl) Zk)) rfl ⟨_,⟨a20,v19.length,c21,a24,v23.length,c25,rfl,rfl⟩,hT▸hS.only (.c k2 (.c k2 .n))⟩
 ·skip;simp only[Zq,Zx,Nat.reduceAdd];refine r3 ?_;rintro _ h35 ⟨b34,ZV1,rfl,hS⟩;refine r5 ?_;rintro _ h37 ⟨b36,Zz3,rfl,hS⟩;refine r1 ?_;rintro h38 hS;refine r5 ?_;rintro _ h40 ⟨b39,ZQW,rfl,hS⟩;refine r4 ?_;refine Vc (WZ (Zb lk (Zb lk (Zb lk Zd))))<|r1 ?_;rintro h41 hS;refine r5 ?_;have hS:=hS.add (A:=Yi wm (YB Zc) (Zf,Ze) p0) (hS.sl Zt) (fun _ z=>z)
  have ZHc:∀(Fr:Nat)(x:Y×(U Za)×(U Y)×(U Y)×Int×(U (Y×Z)))(r:Z×(U Y)×(U Y)×Int×(U (Y×Z))),loop Fr (Zch F) x=some r->match x with | (v44,v45,v48,v52,v56,v57)=>∀{h:H}(a46:O Addr)(c47:Nat)(a49:O Addr)(c50:Nat)(n51:Nat)(a53:O Addr)(c54:Nat)(n55:Nat),wm<=h.size->Yp (wm:=wm) [Yi wm (YB Zc) (a46,c47) v45,ow wm Xb a49 n51 c50 v48,bx wm b1 [.slice a49 n51 c50],ow wm Xb a53 n55 c54 v52,bx wm b3 [.slice a53 n55 c54],bx wm b7 [.map (some b6)],bx wm b10 [.slice Zf p0.length Ze],bx wm b34 [.func (.yield l13) #[] #[]],bx wm b36 [V8 v56],bx wm b39 [.func (.func 145) #[] #[(V9 b36),(V9 b34),(V9 b39)]],mp wm Value.string Value.bool (some b6) v57,Yi wm (YB Zc) (Zf,Ze) p0,ob wm l13 ZgH,ob wm Zgr .deferred] h->WR XX 145 #[.string v44,.slice a46 v45.length c47,(V9 b36),(V9 b34),(V9 b39)] wm h (CP (fun v (Gb:U (Ast wm))=>match r with | (v62,v63,v67,v71,v72)=>∃a64 c65 n66 a68 c69 n70,v=.bool v62/\Gb=[ow wm Xb a64 n66 c65 v63,bx wm b1 [.slice a64 n66 c65],ow wm Xb a68 n70 c69 v67,bx wm b3 [.slice a68 n70 c69],bx wm b7 [.map (some b6)],bx wm b10 [.slice Zf p0.length Ze],bx wm b34 [.func (.yield l13) #[] #[]],bx wm b36 [V8 v71],bx wm b39 [.func (.func 145) #[] #[(V9 b36),(V9 b34),(V9 b39)]],mp wm Value.string Value.bool (some b6) v72,Yi wm (YB Zc) (Zf,Ze) p0,ob wm l13 ZgH,ob wm Zgr .deferred]) [Yi wm (YB Zc) (a46,c47) v45,ow wm Xb a49 n51 c50 v48,bx wm b1 [.slice a49 n51 c50],ow wm Xb a53 n55 c54 v52,bx wm b3 [.slice a53 n55 c54],bx wm b7 [.map (some b6)],bx wm b10 [.slice Zf p0.length Ze],bx wm b34 [.func (.yield l13) #[] #[]],bx wm b36 [V8 v56],bx wm b39 [.func (.func 145) #[] #[(V9 b36),(V9 b34),(V9 b39)]],mp wm Value.string Value.bool (some b6) v57,Yi wm (YB Zc) (Zf,Ze) p0,ob wm l13 ZgH,ob wm Zgr .deferred] h):=by
   refine XU _ ?_;rintro WN ZCD ⟨v44,v45,v48,v52,v56,v57⟩ r hL h a46 c47 a49 c50 n51 a53 c54 n55 Zy hO;obtain⟨T,hT,hS⟩:∃T,T=QF (wm:=wm) [Yi wm (YB Zc) (a46,c47) v45,ow wm Xb a49 n51 c50 v48,bx wm b1 [.slice a49 n51 c50],ow wm Xb a53 n55 c54 v52,bx wm b3 [.slice a53 n55 c54],bx wm b7 [.map (some b6)],bx wm b10 [.slice Zf p0.length Ze],bx wm b34 [.func (.yield l13) #[] #[]],bx wm b36 [V8 v56],bx wm b39 [.func (.func 145) #[] #[(V9 b36),(V9 b34),(V9 b39)]],mp wm Value.string Value.bool (some b6) v57,Yi wm (YB Zc) (Zf,Ze) p0,ob wm l13 ZgH,ob wm Zgr .deferred]/\Sp wm T h [Yi wm (YB Zc) (a46,c47) v45,ow wm Xb a49 n51 c50 v48,bx wm b1 [.slice a49 n51 c50],ow wm Xb a53 n55 c54 v52,bx wm b3 [.slice a53 n55 c54],bx wm b7 [.map (some b6)],bx wm b10 [.slice Zf p0.length Ze],bx wm b34 [.func (.yield l13) #[] #[]],bx wm b36 [V8 v56],bx wm b39 [.func (.func 145) #[] #[(V9 b36),(V9 b34),(V9 b39)]],mp wm Value.string Value.bool (some b6) v57,Yi wm (YB Zc) (Zf,Ze) p0,ob wm l13 ZgH,ob wm Zgr .deferred] h:=⟨_,rfl,Sp.start Zy hO⟩
   obtain rfl:=hS.on k1;obtain rfl:=hS.on k3;refine WF.begin (args:=[_,_,_,_,_]) (fn:=Tryz.f145) Kq0 (by exact rfl) Tryz.ntmps145 (by simp) ?_;simp only[Zq,Zx,Nat.reduceAdd];refine r8 ?_;refine Vc (XL ZAp (ZF lk Z5) rfl (cs':=[V7,V8 v56]) rfl)<|r1 ?_;rintro _ h74 ⟨b73,ZVT,rfl,hS⟩;refine r1 ?_;rintro h75 hS;refine r7 ?_;rintro h76 hS;refine r11 ?_;have hS:=hS.nil (e:=Zc);refine WC.loop (WL.lift hL (fun p s=>match p with | (v86,v88)=>∃ZkS h77 a89 c90 n91,s=⟨ZkS,[],h77,none⟩/\Sp wm T h [bx wm b34 [.func (.yield l13) #[] #[]],bx wm b39 [.func (.func 145) #[] #[(V9 b36),(V9 b34),(V9 b39)]],bx wm b36 [V8 (YX (v56+1))],ow wm Zc a89 n91 c90 v88,bx wm b73 [.slice a89 n91 c90,V8 v56],bx wm b1 [.slice a49 v48.length c50],bx wm b3 [.slice a53 v52.length c54],bx wm b7 [.map (some b6)],bx wm b10 [.slice Zf p0.length Ze],Yi wm (YB Zc) (a46,c47) v45,ow wm Xb a49 v48.length c50 v48,ow wm Xb a53 v52.length c54 v52,mp wm Value.string Value.bool (some b6) v57,Yi wm (YB Zc) (Zf,Ze) p0,ob wm l13 ZgH,ob wm Zgr .deferred] h77/\ZkS.at 0=.string v44/\ZkS.at 1=.slice a46 v45.length c47/\ZkS.at 3=(V9 b34)/\ZkS.at 4=(V9 b39)/\ZkS.at 8=(V9 b73)/\ZkS.at 17=.slice a46 v45.length c47/\ZkS.at 18= V8 (v45.length:Int)/\ZkS.at 19= V8 v86) ⟨_,_,none,0,0,rfl,hS.only (.c k10 (.c k10 (.c k1 (.c k0 (.c k0 (.c k2 (.c k3 (.c k3 (.c k3 (.c k0 (.c k0 (.c k0 (.c k0 (.c k0 (.c k0 (.c k0 .n)))))))))))))))),QG⟩ ?_);rintro ZfZ ⟨v86,v88⟩ s ZCz hL ⟨ZkS,h77,a89,c90,n91,rfl,hS,e79,e80,e81,e82,e83,e84,e85,e87⟩;obtain rfl:=hS.on k3;refine r6 ?_;refine cn hL ?_ ?_
   ·intro hc hL;refine r2 ?_;refine WC.ZfV (r:=r) (fun(ZwE:(U Za)) s=>∃ZkR h93 ZD4 c105 n106,s=⟨ZkR,[],h93,none⟩/\Sp wm T h [bx wm b34 [.func (.yield l13) #[] #[]],bx wm b39 [.func (.func 145) #[] #[(V9 b36),(V9 b34),(V9 b39)]],bx wm b36 [V8 (YX (v56+1))],ow wm Zc ZD4 n106 c105 ZwE,bx wm b73 [.slice ZD4 n106 c105,V8 v56],bx wm b1 [.slice a49 v48.length c50],bx wm b3 [.slice a53 v52.length c54],bx wm b7 [.map (some b6)],bx wm b10 [.slice Zf p0.length Ze],Yi wm (YB Zc) (a46,c47) v45,ow wm Xb a49 v48.length c50 v48,ow wm Xb a53 v52.length c54 v52,mp wm Value.string Value.bool (some b6) v57,Yi wm (YB Zc) (Zf,Ze) p0,ob wm l13 ZgH,ob wm Zgr .deferred] h93/\ZkR.at 0=.string v44/\ZkR.at 1=.slice a46 v45.length c47/\ZkR.at 3=(V9 b34)/\ZkR.at 4=(V9 b39)/\ZkR.at 8=(V9 b73)/\ZkR.at 17=.slice a46 v45.length c47/\ZkR.at 18= V8 (v45.length:Int)/\ZkR.at 19= V8 v86) (Zjt v86 ZfZ) ?_ ?_
    ·rintro ZwE s hL ⟨ZkR,h93,ZD4,c105,n106,rfl,hS,e95,e96,e97,e98,e99,e100,ZWB,ZWA⟩;obtain rfl:=hS.on k3;refine r4 ?_;exact Ya.Yc (ZCz _ _ hL ⟨_,_,ZD4,c105,ZwE.length,rfl,hS.only (.c k0 (.c k0 (.c k0 (.c k0 (.c k0 (.c k0 (.c k0 (.c k0 (.c k0 (.c k0 (.c k0 (.c k0 (.c k0 (.c k0 (.c k0 (.c k0 .n)))))))))))))))),QG⟩)
    ·skip;refine r3 ?_;obtain⟨x107,ZE4,hL⟩:=bS hL;obtain⟨ZW9,ZT0,⟨⟨ZJd,ZIJ⟩,⟨ZAY,ZAl⟩,⟨ZAX,ZAk⟩⟩,ZHA,ZHQ,ZQt,Zjf⟩:=Sl.at_ (hS.Uo k9) ZE4;replace Zjf:=Z6.1 Zjf;refine Vc (Yf Ur Yv lk lk rfl ZHA ZE4) ?_;have hS:=hS.add (A:=Yi wm (YB Yj) (ZJd,ZIJ) x107.joins) Zjf.1 (fun _ z=>z);have hS:=hS.add (A:=Yi wm (YB Zc) (ZAY,ZAl) x107.defs) Zjf.2.1 (fun _ z=>z);have hS:=hS.add (A:=Yi wm (YB Zm) (ZAX,ZAk) x107.kids) Zjf.2.2 (fun _ z=>z);refine Vc (Yx JN Yv (Zj fh rfl) ZHQ (j:=0) rfl rfl (ws:=[V8 x107.form,.string x107.text,.slice ZJd x107.joins.length ZIJ,.slice ZAY x107.defs.length ZAl,.slice ZAX x107.kids.length ZAk]) rfl)<|r1 ?_;rintro _ ZVB ⟨ZW8,ZSM,rfl,hS⟩;refine r1 ?_;rintro ZVA hS;refine r9 ?_;refine cn hL ?_ ?_
     ·intro hc hL;refine r4 ?_;refine Ve (KI (e:=Zc) hS Ur Yv UE rfl rfl rfl (ZF lk Z5) rfl [(((ZJd,ZIJ),(ZAY,ZAl),(ZAX,ZAk)),x107)] rfl (xs:=[x107]) rfl (by intro q hq;simp only[Kx,Gc,or_false]at hq;subst hq;exact(Z6.2 ⟨(hS.Uo k3),(hS.Uo k2),(hS.Uo k1)⟩)) rfl) ?_;rintro _ ZVz ⟨ZW7,ZSL,rfl,hS⟩;obtain⟨ZFU,ZKC,hL⟩:=bS hL;refine WO.hv gN rfl (Zak (e:=Zc) hS k8 Zcy lk lk (hS.U8 k0) (hS.on k0) ZKC) ?_;rintro _ ZVx ⟨ZRE,ZRp,rfl,hS⟩;refine r2 ?_;rintro ZVw hS;refine r2 ?_;exact Xf.Yc _ hL ⟨_,_,ZRE,ZRp,ZFU.length,rfl,hS.only (.c k7 (.c k7 (.c k7 (.c k1 (.c k0 (.c k5 (.c k5 (.c k5 (.c k5 (.c k5 (.c k5 (.c k5 (.c k5 (.c k5 (.c k5 (.c k5 .n)))))))))))))))),QG⟩
     ·intro hc hL;refine r2 ?_;exact Xf.Yc _ hL ⟨_,_,a89,c90,v88.length,rfl,hS.only (.c k4 (.c k4 (.c k4 (.c k4 (.c k4 (.c k4 (.c k4 (.c k4 (.c k4 (.c k4 (.c k4 (.c k4 (.c k4 (.c k4 (.c k4 (.c k4 .n)))))))))))))))),QG⟩
   ·intro hc hL;refine r11 ?_;refine WO.ZJS gN rfl lk lks hS k14 ZtO rfl rfl<|r7 ?_;rintro _ h127 ⟨ZND,ZSJ,rfl,hS⟩;refine r1 ?_;rintro h128 hS;refine r1 ?_;refine AsK.sp ZtO hS k15 ?_;rintro ZC0 hS;refine r1 ?_;refine WC.ZfV (r:=r) (fun(ZbC:(U Y)) s=>∃ZpG ZHX Zku Zke n138,s=⟨ZpG,[],ZHX,none⟩/\Sp wm T h [bx wm b1 [.slice a49 v48.length c50],bx wm b7 [.map (some b6)],bx wm ZND [.slice a89 v88.length c90,V8 v56],ow wm Xb Zku n138 Zke ZbC,bx wm b3 [.slice Zku n138 Zke],bx wm b10 [.slice Zf p0.length Ze],bx wm b34 [.func (.yield l13) #[] #[]],bx wm b36 [V8 (YX (v56+1))],bx wm b39 [.func (.func 145) #[] #[(V9 b36),(V9 b34),(V9 b39)]],bx wm b73 [.slice a89 v88.length c90,V8 v56],ow wm Xb a49 v48.length c50 v48,mp wm Value.string Value.bool (some b6) v57,ow wm Zc a89 v88.length c90 v88,Yi wm (YB Zc) (Zf,Ze) p0,Yi wm (YB Zc) (a46,c47) v45,ob wm l13 (bsy ZgH),ob wm Zgr .deferred] ZHX/\ZpG.at 2=(V9 b1)/\ZpG.at 4=(V9 b7)/\ZpG.at 6=(V9 ZND)) (Zci F v45 v48 v56 v57 WN v88) ?_ ?_
    ·rintro ZbC s hL ⟨ZpG,ZHX,Zku,Zke,n138,rfl,hS,ZRc,ZRb,ZRa⟩;obtain rfl:=hS.on k3;refine r9 ?_;refine WC.loop (WL.lift hL (fun p s=>match p with | (v145,Zmr,ZuK)=>∃Zji ZCZ a148 Zk6 n150,s=⟨Zji,[],ZCZ,none⟩/\Sp wm T h [ow wm Xb a148 n150 Zk6 Zmr,bx wm b1 [.slice a148 n150 Zk6],bx wm b7 [.map (some b6)],bx wm b3 [.slice Zku ZbC.length Zke],bx wm b10 [.slice Zf p0.length Ze],bx wm b34 [.func (.yield l13) #[] #[]],bx wm b36 [V8 (YX (v56+1))],bx wm b39 [.func (.func 145) #[] #[(V9 b36),(V9 b34),(V9 b39)]],bx wm b73 [.slice a89 v88.length c90,V8 v56],ow wm Zc a89 v88.length c90 v88,mp wm Value.string Value.bool (some b6) ZuK,ow wm Xb Zku ZbC.length Zke ZbC,Yi wm (YB Zc) (Zf,Ze) p0,Yi wm (YB Zc) (a46,c47) v45,ob wm l13 (bsy ZgH),ob wm Zgr .deferred] ZCZ/\Zji.at 2=(V9 b1)/\Zji.at 4=(V9 b7)/\Zji.at 24=.slice a89 v88.length c90/\Zji.at 25= V8 (v88.length:Int)/\Zji.at 26= V8 v145) ⟨_,_,a49,c50,v48.length,rfl,hS.only (.c k10 (.c k0 (.c k0 (.c k2 (.c k2 (.c k2 (.c k2 (.c k2 (.c k2 (.c k3 (.c k2 (.c k1 (.c k1 (.c k1 (.c k1 (.c k1 .n)))))))))))))))),QG⟩ ?_);rintro Zhw ⟨v145,Zmr,ZuK⟩ s Zyr hL ⟨Zji,ZCZ,a148,Zk6,n150,rfl,hS,ZWu,ZWt,e143,ZWs,ZWr⟩;obtain rfl:=hS.on k0;refine r6 ?_;refine cn hL ?_ ?_
     ·intro hc hL;refine r6 ?_;obtain⟨x153,hx153,hL⟩:=bS hL;obtain⟨ZW3,ZTY,⟨⟨a156,c157⟩,⟨ZD2,c159⟩,⟨a160,ZNu⟩⟩,ZHy,ZHO,Zjd⟩:=Src.at_ (hS.U8 k9) hx153;replace Zjd:=Z6.1 Zjd;refine Vc (Yf Ur Yv lk lk rfl ZHy hx153) ?_;have hS:=hS.add (A:=Yi wm (YB Yj) (a156,c157) x153.joins) Zjd.1 (fun _ z=>z);have hS:=hS.add (A:=Yi wm (YB Zc) (ZD2,c159) x153.defs) Zjd.2.1 (fun _ z=>z);have hS:=hS.add (A:=Yi wm (YB Zm) (a160,ZNu) x153.kids) Zjd.2.2 (fun _ z=>z);refine Vc (Yx JN Yv (Zj fh rfl) ZHO (j:=0) rfl rfl (ws:=[V8 x153.form,.string x153.text,.slice a156 x153.joins.length c157,.slice ZD2 x153.defs.length c159,.slice a160 x153.kids.length ZNu]) rfl)<|r1 ?_;rintro _ ZQJ ⟨ZsA,ZM9,rfl,hS⟩;refine r1 ?_;rintro ZQI hS;refine r11 ?_;refine WC.loop (WL.lift hL (fun p s=>match p with | (Zh4,Zok,Zra)=>∃ZdI ZCY ZAW ZAj n179,s=⟨ZdI,[],ZCY,none⟩/\Sp wm T h [ow wm Xb ZAW n179 ZAj Zok,bx wm b1 [.slice ZAW n179 ZAj],bx wm b7 [.map (some b6)],bx wm b3 [.slice Zku ZbC.length Zke],bx wm b10 [.slice Zf p0.length Ze],bx wm b34 [.func (.yield l13) #[] #[]],bx wm b36 [V8 (YX (v56+1))],bx wm b39 [.func (.func 145) #[] #[(V9 b36),(V9 b34),(V9 b39)]],bx wm b73 [.slice a89 v88.length c90,V8 v56],ow wm Zc a89 v88.length c90 v88,Yi wm (YB Yj) (a156,c157) x153.joins,mp wm Value.string Value.bool (some b6) Zra,ow wm Xb Zku ZbC.length Zke ZbC,Yi wm (YB Zc) (Zf,Ze) p0,Yi wm (YB Zc) (a46,c47) v45,ob wm l13 (bsy ZgH),ob wm Zgr .deferred] ZCY/\ZdI.at 2=(V9 b1)/\ZdI.at 4=(V9 b7)/\ZdI.at 24=.slice a89 v88.length c90/\ZdI.at 25= V8 (v88.length:Int)/\ZdI.at 26= V8 v145/\ZdI.at 31=.slice a156 x153.joins.length c157/\ZdI.at 32= V8 (x153.joins.length:Int)/\ZdI.at 33= V8 Zh4) ⟨_,_,a148,Zk6,Zmr.length,rfl,hS.only (.c k4 (.c k4 (.c k4 (.c k4 (.c k4 (.c k4 (.c k4 (.c k4 (.c k4 (.c k4 (.c k3 (.c k3 (.c k3 (.c k3 (.c k3 (.c k3 (.c k3 .n))))))))))))))))),QG⟩ ?_);rintro ZcY ⟨Zh4,Zok,Zra⟩ s Zyp hL ⟨ZdI,ZCY,ZAW,ZAj,n179,rfl,hS,e167,e168,e169,e170,ZWq,ZWp,ZQ8,ZQ7⟩;obtain rfl:=hS.on k0;refine r6 ?_;refine cn hL ?_ ?_
      ·intro hc hL;refine r2 ?_;refine WC.ZfV (r:=r) (fun(p:(U Y)×(U (Y×Z))) s=>match p with | (Zoj,v196)=>∃ZdH ZHT a193 c194 n195,s=⟨ZdH,[],ZHT,none⟩/\Sp wm T h [ow wm Xb a193 n195 c194 Zoj,bx wm b1 [.slice a193 n195 c194],bx wm b7 [.map (some b6)],bx wm b3 [.slice Zku ZbC.length Zke],bx wm b10 [.slice Zf p0.length Ze],bx wm b34 [.func (.yield l13) #[] #[]],bx wm b36 [V8 (YX (v56+1))],bx wm b39 [.func (.func 145) #[] #[(V9 b36),(V9 b34),(V9 b39)]],bx wm b73 [.slice a89 v88.length c90,V8 v56],ow wm Zc a89 v88.length c90 v88,Yi wm (YB Yj) (a156,c157) x153.joins,mp wm Value.string Value.bool (some b6) v196,ow wm Xb Zku ZbC.length Zke ZbC,Yi wm (YB Zc) (Zf,Ze) p0,Yi wm (YB Zc) (a46,c47) v45,ob wm l13 (bsy ZgH),ob wm Zgr .deferred] ZHT/\ZdH.at 2=(V9 b1)/\ZdH.at 4=(V9 b7)/\ZdH.at 24=.slice a89 v88.length c90/\ZdH.at 25= V8 (v88.length:Int)/\ZdH.at 26= V8 v145/\ZdH.at 31=.slice a156 x153.joins.length c157/\ZdH.at 32= V8 (x153.joins.length:Int)/\ZdH.at 33= V8 Zh4) (Zjs Zh4 ZcY) ?_ ?_
       ·rintro⟨Zoj,v196⟩ s hL ⟨ZdH,ZHT,a193,c194,n195,rfl,hS,ZWn,e185,ZWm,e187,ZIu,e189,e190,ZWl⟩;obtain rfl:=hS.on k0;refine r4 ?_;exact Ya.Yc (Zyp _ _ hL ⟨_,_,a193,c194,Zoj.length,rfl,hS.only (.c k0 (.c k0 (.c k0 (.c k0 (.c k0 (.c k0 (.c k0 (.c k0 (.c k0 (.c k0 (.c k0 (.c k0 (.c k0 (.c k0 (.c k0 (.c k0 (.c k0 .n))))))))))))))))),QG⟩)
       ·skip;refine r3 ?_;obtain⟨Zh0,ZEW,hL⟩:=bS hL;obtain⟨ZWY,ZTV,⟨ZNO,c201⟩,ZHv,ZHL,ZQr,ZHE⟩:=Sl.at_ (hS.Uo k10) ZEW;refine Vc (Yf WJ X4 lk lk rfl ZHv ZEW) ?_;have hS:=hS.add (A:=Yi wm (YB Xb) (ZNO,c201) Zh0.names) ZHE (fun _ z=>z);refine Vc (Yx Zeo X4 (Zj fh rfl) ZHL (j:=0) rfl rfl (ws:=[.string Zh0.text,.slice ZNO Zh0.names.length c201]) rfl)<|r1 ?_;rintro _ ZU5 ⟨ZWX,ZSD,rfl,hS⟩;refine r1 ?_;rintro ZU4 hS;refine r7 ?_;obtain⟨ZF3,ZKS,hL⟩:=bS hL;refine Vc (Zdk (kv:=Value.string) (vv:=Value.bool) (k:=Zh0.text) (z:=false) Ws JR ZhZ (Zj (Z8 rfl fh) rfl) (Zj fh rfl) (hS.get k13).at_ ZKS (w:=.bool ZF3) rfl)<|r3 ?_;refine cn hL ?_ ?_
        ·intro hc hL;refine r5 ?_;refine WO.hu gN (ZeA (kv:=Value.string) (vv:=Value.bool) (k:=Zh0.text) (v:=true) hS k13 Ws JR (Zj (Z8 rfl fh) rfl) (Zj fh rfl) (J2 rfl)) ?_;rintro ZQH hS;refine r6 ?_;refine Ve (KI (e:=Xb) hS ZbN ZdA Zs1 rfl rfl rfl (ZF lk Z5) rfl [((),Zh0.text)] rfl (xs:=[Zh0.text]) rfl (by intro q hq;simp only[Kx,Gc,or_false]at hq;subst hq;exact trivial) rfl) ?_;rintro _ ZU1 ⟨ZRw,ZSC,rfl,hS⟩;obtain⟨ZFT,ZKA,hL⟩:=bS hL;refine WO.hv gN rfl (Zak (e:=Xb) hS k4 Zcz lk lk (hS.U8 k0) (hS.on k0) ZKA) ?_;rintro _ ZQG ⟨a210,ZRo,rfl,hS⟩;refine r1 ?_;rintro ZQF hS;refine r2 ?_;exact Xf.Yc _ hL ⟨_,_,a210,ZRo,ZFT.length,rfl,hS.only (.c k1 (.c k0 (.c k4 (.c k4 (.c k4 (.c k4 (.c k4 (.c k4 (.c k4 (.c k4 (.c k4 (.c k1 (.c k3 (.c k3 (.c k3 (.c k3 (.c k3 .n))))))))))))))))),QG⟩
        ·intro hc hL;refine r2 ?_;exact Xf.Yc _ hL ⟨_,_,ZAW,ZAj,Zok.length,rfl,hS.only (.c k2 (.c k2 (.c k2 (.c k2 (.c k2 (.c k2 (.c k2 (.c k2 (.c k2 (.c k2 (.c k2 (.c k2 (.c k2 (.c k2 (.c k2 (.c k2 (.c k2 .n))))))))))))))))),QG⟩
      ·intro hc hL;refine r10 ?_;exact Ya.Yc (Zyr _ _ hL ⟨_,_,ZAW,ZAj,Zok.length,rfl,hS.only (.c k0 (.c k0 (.c k0 (.c k0 (.c k0 (.c k0 (.c k0 (.c k0 (.c k0 (.c k0 (.c k1 (.c k1 (.c k1 (.c k1 (.c k1 (.c k1 .n)))))))))))))))),QG⟩)
     ·intro hc hL;refine r5 ?_;refine BdK.sp ZtO hS k14 ?_;rintro ZU0 hS;refine r3 ?_;refine cn hL ?_ ?_
      ·intro hc hL;refine r7 ?_;have hr:=Oi0 hL;subst hr;exact Y0.Jb rfl (ZG lk Zk) ⟨_,⟨a148,Zk6,Zmr.length,Zku,Zke,ZbC.length,rfl,rfl⟩,hT▸hS.only (.c k1 (.c k1 (.c k10 (.c k2 (.c k1 (.c k1 (.c k1 (.c k1 (.c k1 (.c k3 (.c k3 (.c k0 (.c k3 .n)))))))))))))⟩
      ·intro hc hL;refine r11 ?_;refine WC.loop (WL.lift hL (fun p s=>match p with | (Zq9,v222,Zmn,v227,ZuI)=>∃ZlO ZCX Zwh ZvY n226 a228 c229 n230,s=⟨ZlO,[],ZCX,none⟩/\Sp wm T h [bx wm b39 [.func (.func 145) #[] #[(V9 b36),(V9 b34),(V9 b39)]],bx wm b36 [V8 v222],bx wm b34 [.func (.yield l13) #[] #[]],ow wm Xb Zwh n226 ZvY Zmn,bx wm b1 [.slice Zwh n226 ZvY],ow wm Xb a228 n230 c229 v227,bx wm b3 [.slice a228 n230 c229],bx wm b7 [.map (some b6)],bx wm b10 [.slice Zf p0.length Ze],Yi wm (YB Zc) (a46,c47) v45,mp wm Value.string Value.bool (some b6) ZuI,Yi wm (YB Zc) (Zf,Ze) p0,ob wm l13 ZgH,ob wm Zgr .deferred] ZCX/\ZlO.at 4=(V9 b39)/\ZlO.at 38=.slice a46 v45.length c47/\ZlO.at 39= V8 (v45.length:Int)/\ZlO.at 40= V8 Zq9) ⟨_,_,a148,Zk6,Zmr.length,Zku,Zke,ZbC.length,rfl,hS.only (.c k8 (.c k7 (.c k6 (.c k1 (.c k1 (.c k7 (.c k2 (.c k1 (.c k1 (.c k5 (.c k3 (.c k3 (.c k0 (.c k2 .n)))))))))))))),QG⟩ ?_);rintro ZmR ⟨Zq9,v222,Zmn,v227,ZuI⟩ s Zph hL ⟨ZlO,ZCX,Zwh,ZvY,n226,a228,c229,n230,rfl,hS,e217,ZWg,e219,e221⟩;obtain rfl:=hS.on k3;obtain rfl:=hS.on k5;refine r6 ?_;refine cn hL ?_ ?_
       ·intro hc hL;refine r6 ?_;obtain⟨Zhb,ZET,hL⟩:=bS hL;obtain⟨ZWS,ZTT,⟨⟨a236,ZNq⟩,⟨ZJb,ZIF⟩,⟨ZNM,ZNp⟩⟩,ZHt,ZHJ,ZQp,Zjb⟩:=Sl.at_ (hS.Uo k9) ZET;replace Zjb:=Z6.1 Zjb;refine Vc (Yf Ur Yv lk lk rfl ZHt ZET) ?_;have hS:=hS.add (A:=Yi wm (YB Yj) (a236,ZNq) Zhb.joins) Zjb.1 (fun _ z=>z);have hS:=hS.add (A:=Yi wm (YB Zc) (ZJb,ZIF) Zhb.defs) Zjb.2.1 (fun _ z=>z);have hS:=hS.add (A:=Yi wm (YB Zm) (ZNM,ZNp) Zhb.kids) Zjb.2.2 (fun _ z=>z);refine Vc (Yx JN Yv (Zj fh rfl) ZHJ (j:=0) rfl rfl (ws:=[V8 Zhb.form,.string Zhb.text,.slice a236 Zhb.joins.length ZNq,.slice ZJb Zhb.defs.length ZIF,.slice ZNM Zhb.kids.length ZNp]) rfl)<|r1 ?_;rintro _ ZUS ⟨ZWP,ZSy,rfl,hS⟩;refine r1 ?_;rintro ZUR hS;refine r13 ?_;refine WO.Zr6 (Zn.Zq7 rfl rfl rfl (YC rfl (Zg rfl fh)) (Zib rfl (Zic (YC rfl fh) (Zid rfl)))) (fun Zbx=>?_) (fun Zbx=>?_)
        ·replace hL:=Xp Zbx hL;obtain⟨⟨ZJ0,ZwB,ZwA,ZGe,ZuF⟩,ZKQ,hL⟩:=bS hL;dsimp only at hL;refine WO.cl (Zn.on (Zn.Zq7 rfl rfl rfl (YC rfl (Zg rfl fh)) (Zib rfl (Zic (YC rfl fh) (Zid rfl)))) Zbx) rfl (Yo.clo (first:=[]) (cap:=[(V9 b36),(V9 b34),(V9 b39)]) (WG (YC rfl fh) rfl Zbx) Zf7 (Zb (WG (Z8 rfl fh) rfl Zbx) (Zb (WG fh rfl Zbx) Zd)) rfl) hS (.c k2 (.c k6 (.c k6 (.c k6 (.c k6 (.c k6 (.c k6 (.c k5 (.c k4 (.c k3 (.c k4 (.c k4 (.c k4 (.c k4 .n)))))))))))))) (fun g' hz hf hO=>ZCD _ _ ZKQ ZJb ZIF Zwh ZvY Zmn.length a228 c229 v227.length (hS.Vg hz) hO) ?_;rintro _ ZUN _ ⟨ZNJ,ZNm,n252,ZNI,ZNl,n256,rfl,rfl⟩ hS;simp only[GY,G5]at hS;obtain rfl:=hS.on k0;obtain rfl:=hS.on k2;refine WO.w (Zn.on (Zn.yes rfl rfl rfl (YC rfl (Z8 rfl fh))) Zbx) rfl (Zcv lk)<|Vc (ZsC lk Zbx lk)<|r2 ?_;refine cn hL ?_ ?_
         ·intro hc hL;refine r11 ?_;have hr:=Oi0 hL;subst hr;exact Y0.Jb rfl (ZG lk Zk) ⟨_,⟨ZNJ,ZNm,ZwB.length,ZNI,ZNl,ZwA.length,rfl,rfl⟩,hT▸hS.only (.c k0 (.c k0 (.c k0 (.c k0 (.c k0 (.c k0 (.c k0 (.c k0 (.c k0 (.c k0 (.c k0 (.c k0 (.c k0 .n)))))))))))))⟩
         ·intro hc hL;refine r7 ?_;exact Ya.Yc (Zph _ _ hL ⟨_,_,ZNJ,ZNm,ZwB.length,ZNI,ZNl,ZwA.length,rfl,hS.only (.c k8 (.c k7 (.c k6 (.c k0 (.c k0 (.c k0 (.c k0 (.c k0 (.c k0 (.c k7 (.c k0 (.c k0 (.c k0 (.c k0 .n)))))))))))))),QG⟩)
        ·replace hL:=Xq Zbx hL;refine WO.ZmN (Zn.Zq7 rfl rfl rfl (YC rfl (Zg rfl fh)) (Zib rfl (Zic (YC rfl fh) (Zid rfl)))) Zbx rfl<|WO.ZmN (Zn.yes rfl rfl rfl (YC rfl (Z8 rfl fh))) Zbx rfl<|Vc (ZsD lk Zbx lk)<|r2 ?_;refine WC.Zgs lk rfl<|r7 ?_;exact Ya.Yc (Zph _ _ hL ⟨_,_,Zwh,ZvY,Zmn.length,a228,c229,v227.length,rfl,hS.only (.c k4 (.c k4 (.c k4 (.c k4 (.c k4 (.c k4 (.c k4 (.c k4 (.c k4 (.c k4 (.c k4 (.c k4 (.c k4 (.c k4 .n)))))))))))))),QG⟩)
       ·intro hc hL;refine r11 ?_;have hr:=Oi0 hL;subst hr;exact Y0.Jb rfl (ZG lk Zk) ⟨_,⟨Zwh,ZvY,Zmn.length,a228,c229,v227.length,rfl,rfl⟩,hT▸hS.only (.c k3 (.c k3 (.c k3 (.c k3 (.c k3 (.c k3 (.c k2 (.c k1 (.c k0 (.c k1 (.c k1 (.c k1 (.c k1 .n)))))))))))))⟩
    ·skip;refine r7 ?_;refine cn hL ?_ ?_
     ·intro hc hL;refine r3 ?_;refine Ve (KI (e:=Xb) hS ZbN ZdA Zs1 rfl rfl rfl (ZF lk Z5) rfl [((),v44)] rfl (xs:=[v44]) rfl (by intro q hq;simp only[Kx,Gc,or_false]at hq;subst hq;exact trivial) rfl) ?_;rintro _ ZQE ⟨ZWM,ZSw,rfl,hS⟩;obtain⟨Zwr,ZKz,hL⟩:=bS hL;refine WO.hv gN rfl (Zak (e:=Xb) hS k14 Zcz lk lk (hS.U8 k0) (hS.on k0) ZKz) ?_;rintro _ ZUL ⟨ZRD,ZRn,rfl,hS⟩;refine r1 ?_;rintro ZUK hS;refine r1 ?_;exact Xf.Yc _ hL ⟨_,_,ZRD,ZRn,Zwr.length,rfl,hS.only (.c k10 (.c k10 (.c k4 (.c k1 (.c k0 (.c k7 (.c k2 (.c k3 (.c k2 (.c k3 (.c k4 (.c k4 (.c k2 (.c k3 (.c k2 (.c k1 (.c k1 .n))))))))))))))))),QG⟩
     ·intro hc hL;refine r1 ?_;exact Xf.Yc _ hL ⟨_,_,a53,c54,v52.length,rfl,hS.only (.c k7 (.c k8 (.c k1 (.c k10 (.c k6 (.c k6 (.c k1 (.c k2 (.c k1 (.c k2 (.c k3 (.c k3 (.c k1 (.c k2 (.c k1 (.c k0 (.c k0 .n))))))))))))))))),QG⟩
  have hS:=hS.nil (e:=Xb);have hS:=hS.nil (e:=Xb);have hS:=hS.add (A:=Yi wm (YB Zc) (Zf,Ze) p0) (hS.get k2) (fun _ z=>z);obtain⟨⟨ZOT,ZGa,ZF9,ZBI,Zwz⟩,ZKO,hL⟩:=bS hL;dsimp only at hL;refine Vd (Yo.clo (first:=[]) (cap:=[(V9 b36),(V9 b34),(V9 b39)]) lk Zf7 lks rfl) hS (.c k3 (.c k1 (.c k11 (.c k1 (.c k9 (.c k7 (.c k6 (.c k3 (.c k2 (.c k1 (.c k3 (.c k0 (.c k0 (.c k0 .n)))))))))))))) (fun g' hz hf hO=>ZHc _ _ _ ZKO Zf Ze none 0 0 none 0 0 (hS.Vg hz) hO) ?_;rintro _ ZQD _ ⟨ZRC,ZRm,n274,ZRB,ZRl,n278,rfl,rfl⟩ hS;obtain rfl:=hS.on k0;obtain rfl:=hS.on k2;refine r1 ?_;exact Y0.Yc<|Y0.gen (vs:=[]) rfl Zk rfl ⟨_,hL,⟨ZRC,ZRm,ZGa.length,ZRB,ZRl,ZF9.length,rfl,hS.only (.c k0 (.c k0 (.c k0 (.c k0 (.c k0 (.c k0 (.c k3 (.c k4 (.c k4 .n)))))))))⟩⟩
end
section
def Zno(p0:(U Term))(p1:(U Term))(ZaD:((Term×Term)->O Z)):Int->(Int->O Z)->O Z:=fun v5 Zbu=>
 (bif decide (v5<(p0.length:Int)) then(ZN p0 v5).bind fun x8=>(ZN p1 v5).bind fun x17=>(ZaD (x8,x17)).bind fun x26=>(bif(!x26) then some false else Zbu (YX (v5+1))) else some true)
def Zp1(F:Nat)(ZaD:((Term×Term)->O Z))(p0:(U Term))(p1:(U Term)):O Z:=
 (bif((p0.length:Int) !=(p1.length:Int)) then some false else loop F (Zno p0 p1 ZaD) 0)
end
section
def ZzD{F wm}{ZaD:((Term×Term)->O Z)}(Zpf:∀(x:(Term×Term))(r:Z),ZaD x=some r->(match x with | (p0,p1)=>∀{h Zf Ze ZA Zz Zw Zv Yr Yq XE XD Xz Xy}(Zy:wm<=h.size)(Zt:Sl Zh wm h Zf Ze p0.args)(ZV:Sl Zc wm h ZA Zz p0.defs)(ZU:Sl Zm wm h Zw Zv p0.kids)(YV:Sl Zh wm h Yr Yq p1.args)(QY:Sl Zc wm h XE XD p1.defs)(Qz:Sl Zm wm h Xz Xy p1.kids),WR XX 34 #[.agg #[V8 p0.op,.string p0.text,.slice Zf p0.args.length Ze,.slice ZA p0.defs.length Zz,.slice Zw p0.kids.length Zv],.agg #[V8 p1.op,.string p1.text,.slice Yr p1.args.length Yq,.slice XE p1.defs.length XD,.slice Xz p1.kids.length Xy]] wm h (CP (fun v (Gb:U (Ast wm))=>v=.bool r/\Gb=[]) [] h))){h}{p0 p1:(U Term)}{Zf Ze Yr Yq}{r}(Zy:wm<=h.size)(Zt:Sl Zm wm h Zf Ze p0)(YV:Sl Zm wm h Yr Yq p1)(hL:Zp1 F ZaD p0 p1=some r):
 WR XX 48 #[.slice Zf p0.length Ze,.slice Yr p1.length Yq] wm h (CP (fun v (Gb:U (Ast wm))=>v=.bool r/\Gb=[]) [] h):=by
 refine bg Tryz.ntmps48 Zy Yp.nil ?_;intro T hT hS;unfold Zp1 at hL;refine r15 ?_;refine cn hL ?_ ?_
 ·intro hc hL;refine r7 ?_;exact rt hL hT hS
 ·intro hc hL;refine r9 ?_;refine WC.loop (WL.lift hL (fun v5 s=>∃Jd h1,s=⟨Jd,[],h1,none⟩/\Sp wm T h [] h1/\Jd.at 0=.slice Zf p0.length Ze/\Jd.at 1=.slice Yr p1.length Yq/\Jd.at 5= V8 v5) ⟨_,_,rfl,hS.only .n,QG⟩ ?_);rintro Zbu v5 s Zi6 hL ⟨Jd,h1,rfl,hS,e3,e4,e6⟩;refine r9 ?_;refine cn hL ?_ ?_
  ·intro hc hL;refine r5 ?_;refine WC.Ub mixed Kq0<|r2 ?_;obtain⟨x8,hx8,hL⟩:=bS hL;obtain⟨b9,o10,⟨⟨a11,c12⟩,⟨a13,c14⟩,⟨a15,c16⟩⟩,ZHr,ZHH,ZHG,Zvv⟩:=Sl.at_ Zt hx8;replace Zvv:=Xd.1 Zvv;refine Vf (Yf Q9 Yd lk lk rfl ZHr hx8) ?_;have Zyh:Sl Zh wm h a11 c12 x8.args:=Zvv.1;have ZLm:Sl Zc wm h a13 c14 x8.defs:=Zvv.2.1;have ZLl:Sl Zm wm h a15 c16 x8.kids:=Zvv.2.2;refine Vf (Yx Qx Yd (Zj fh rfl) (At.fz hS.fz ZHG ZHH) (j:=0) rfl rfl (ws:=[V8 x8.op,.string x8.text,.slice a11 x8.args.length c12,.slice a13 x8.defs.length c14,.slice a15 x8.kids.length c16]) rfl)<|r2 ?_;obtain⟨x17,ZKU,hL⟩:=bS hL;obtain⟨b18,o19,⟨⟨a20,c21⟩,⟨a22,c23⟩,⟨a24,c25⟩⟩,ZL4,ZMK,ZMq,Zpz⟩:=Sl.at_ YV ZKU;replace Zpz:=Xd.1 Zpz;refine Vf (Yf Q9 Yd lk lk rfl ZL4 ZKU) ?_;have Zi3:Sl Zh wm h a20 c21 x17.args:=Zpz.1;have Zyf:Sl Zc wm h a22 c23 x17.defs:=Zpz.2.1;have ZLj:Sl Zm wm h a24 c25 x17.kids:=Zpz.2.2;refine Vf (Yx Qx Yd (Zj fh rfl) (At.fz hS.fz ZMq ZMK) (j:=0) rfl rfl (ws:=[V8 x17.op,.string x17.text,.slice a20 x17.args.length c21,.slice a22 x17.defs.length c23,.slice a24 x17.kids.length c25]) rfl) ?_;obtain⟨x26,Zvr,hL⟩:=bS hL;refine WX.cl0 gN rfl (Yo.fn ZtM (Zb lk (Zb lk Zd))) hS .n (fun g' hz hf hO=>(Zpf _ _ Zvr) (hS.Vg hz) ((hS.sl Zyh).mono hf) ((hS.sl ZLm).mono hf) ((hS.sl ZLl).mono hf) ((hS.sl Zi3).mono hf) ((hS.sl Zyf).mono hf) ((hS.sl ZLj).mono hf)) ?_ rfl rfl;rintro _ h27 _ ⟨rfl,rfl⟩ hS;refine r3 ?_;refine cn hL ?_ ?_
   ·intro hc hL;refine r11 ?_;exact rt hL hT hS
   ·intro hc hL;refine r8 ?_;exact Ya.Yc (Zi6 _ _ hL ⟨_,_,rfl,hS.only .n,QG⟩)
  ·intro hc hL;refine r11 ?_;exact rt hL hT hS
end
section
def Zgg(F:Nat)(p0:Za)(p1:Za)(ZaD:((Term×Term)->O Z))(Zl:((Za×Za)->O Z)):Int->(Int->O Z)->O Z:=fun v38 Zxz=>
 (bif decide (v38<(p0.defs.length:Int)) then(ZN p0.defs v38).bind fun x41=>(ZN p1.defs v38).bind fun x50=>(Zl (x41,x50)).bind fun x59=>(bif(!x59) then some false else Zxz (YX (v38+1))) else(Zp1 F ZaD p0.kids p1.kids).bind fun x62=>some x62)
def Zjn(F:Nat)(p0:Za)(p1:Za)(ZaD:((Term×Term)->O Z))(Zl:((Za×Za)->O Z)):Int->(Int->O Z)->O Z:=fun v10 XJ=>
 (bif decide (v10<(p0.joins.length:Int)) then(ZN p0.joins v10).bind fun Jh=>(ZN p1.joins v10).bind fun x18=>(gd (!(!decide (Jh.text=x18.text))) (ZN p0.joins v10) default).bind fun x23=>(gd (!(!decide (Jh.text=x18.text))) (ZN p1.joins v10) default).bind fun x28=>(gd (!(!decide (Jh.text=x18.text))) (ZkW F x23.names x28.names) default).bind fun x33=>(bif((!decide (Jh.text=x18.text))||(!x33)) then some false else XJ (YX (v10+1))) else loop F (Zgg F p0 p1 ZaD Zl) 0)
def Zjm(F:Nat)(ZaD:((Term×Term)->O Z)):(Za×Za)->((Za×Za)->O Z)->O Z:=fun(p0,p1) Zl=>
 (bif((((p0.form !=p1.form)||(!decide (p0.text=p1.text)))||((p0.joins.length:Int) !=(p1.joins.length:Int)))||((p0.defs.length:Int) !=(p1.defs.length:Int))) then some false else loop F (Zjn F p0 p1 ZaD Zl) 0)
def ZH7(F:Nat)(ZaD:((Term×Term)->O Z))(p0:Za)(p1:Za):O Z:=
 loop F (Zjm F ZaD) (p0,p1)
def ZjG(F:Nat)(p0:Term)(p1:Term)(Zl:((Term×Term)->O Z)):Int->(Int->O Z)->O Z:=fun v28 ZxA=>
 (bif decide (v28<(p0.defs.length:Int)) then(ZN p0.defs v28).bind fun x31=>(ZN p1.defs v28).bind fun x40=>(ZH7 F Zl x31 x40).bind fun x49=>(bif(!x49) then some false else ZxA (YX (v28+1))) else(Zp1 F Zl p0.kids p1.kids).bind fun x52=>some x52)
def ZjH(F:Nat)(p0:Term)(p1:Term)(Zl:((Term×Term)->O Z)):Int->(Int->O Z)->O Z:=fun v10 XJ=>
 (bif decide (v10<(p0.args.length:Int)) then(ZN p0.args v10).bind fun Jh=>(ZN p1.args v10).bind fun x18=>(ZDh F Jh x18).bind fun x23=>(bif(!x23) then some false else XJ (YX (v10+1))) else loop F (ZjG F p0 p1 Zl) 0)
def Zg1(F:Nat):(Term×Term)->((Term×Term)->O Z)->O Z:=fun(p0,p1) Zl=>
 (bif(((((p0.op !=p1.op)||(!decide (p0.text=p1.text)))||((p0.args.length:Int) !=(p1.args.length:Int)))||((p0.defs.length:Int) !=(p1.defs.length:Int)))||((p0.kids.length:Int) !=(p1.kids.length:Int))) then some false else loop F (ZjH F p0 p1 Zl) 0)
def ZvJ(F:Nat)(p0:Term)(p1:Term):O Z:=
 loop F (Zg1 F) (p0,p1)
end
section
def ZDf{F wm:Nat}{ZaD:((Term×Term)->O Z)}(Zpf:∀(x:(Term×Term))(r:Z),ZaD x=some r->(match x with | (p0,p1)=>∀{h:H}{Zf:O Addr}{Ze:Nat}{ZA:O Addr}{Zz:Nat}{Zw:O Addr}{Zv:Nat}{Yr:O Addr}{Yq:Nat}{XE:O Addr}{XD:Nat}{Xz:O Addr}{Xy:Nat}(Zy:wm<=h.size)(Zt:Sl Zh wm h Zf Ze p0.args)(ZV:Sl Zc wm h ZA Zz p0.defs)(ZU:Sl Zm wm h Zw Zv p0.kids)(YV:Sl Zh wm h Yr Yq p1.args)(QY:Sl Zc wm h XE XD p1.defs)(Qz:Sl Zm wm h Xz Xy p1.kids),WR XX 34 #[.agg #[V8 p0.op,.string p0.text,.slice Zf p0.args.length Ze,.slice ZA p0.defs.length Zz,.slice Zw p0.kids.length Zv],.agg #[V8 p1.op,.string p1.text,.slice Yr p1.args.length Yq,.slice XE p1.defs.length XD,.slice Xz p1.kids.length Xy]] wm h (CP (fun v (Gb:U (Ast wm))=>v=.bool r/\Gb=[]) [] h))):∀(Fr:Nat)(x:(Za×Za))(r:Z),loop Fr (Zjm F ZaD) x=some r->(match x with | (p0,p1)=>∀{h:H}{Zf:O Addr}{Ze:Nat}{ZA:O Addr}{Zz:Nat}{Zw:O Addr}{Zv:Nat}{Yr:O Addr}{Yq:Nat}{XE:O Addr}{XD:Nat}{Xz:O Addr}{Xy:Nat}(Zy:wm<=h.size)(Zt:Sl Yj wm h Zf Ze p0.joins)(ZV:Sl Zc wm h ZA Zz p0.defs)(ZU:Sl Zm wm h Zw Zv p0.kids)(YV:Sl Yj wm h Yr Yq p1.joins)(QY:Sl Zc wm h XE XD p1.defs)(Qz:Sl Zm wm h Xz Xy p1.kids),WR XX 86 #[.agg #[V8 p0.form,.string p0.text,.slice Zf p0.joins.length Ze,.slice ZA p0.defs.length Zz,.slice Zw p0.kids.length Zv],.agg #[V8 p1.form,.string p1.text,.slice Yr p1.joins.length Yq,.slice XE p1.defs.length XD,.slice Xz p1.kids.length Xy]] wm h (CP (fun v (Gb:U (Ast wm))=>v=.bool r/\Gb=[]) [] h)):=by
 refine XU _ ?_;rintro Zl Xm ⟨p0,p1⟩ r hL h Zf Ze ZA Zz Zw Zv Yr Yq XE XD Xz Xy Zy Zt ZV ZU YV QY Qz;refine bg Tryz.ntmps86 Zy Yp.nil ?_;intro T hT hS;refine r3 ?_;rintro _ h3 ⟨b2,eb2,rfl,hS⟩;refine r1 ?_;rintro _ h5 ⟨b4,eb4,rfl,hS⟩;refine r16 ?_;refine WO.gv (Zn.no rfl rfl rfl (YC rfl fh)) rfl (fun hg=>(Y5 (WG (Z8 rfl fh) rfl hg) (WG fh rfl hg) Wl))<|r16 ?_;refine r5 ?_;refine cn hL ?_ ?_
 ·intro hc hL;refine r7 ?_;exact rt hL hT hS
 ·intro hc hL;refine r9 ?_;refine WC.loop (WL.lift hL (fun v10 s=>∃fr7 h6,s=⟨fr7,[],h6,none⟩/\Sp wm T h [bx wm b2 [V8 p0.form,.string p0.text,.slice Zf p0.joins.length Ze,.slice ZA p0.defs.length Zz,.slice Zw p0.kids.length Zv],bx wm b4 [V8 p1.form,.string p1.text,.slice Yr p1.joins.length Yq,.slice XE p1.defs.length XD,.slice Xz p1.kids.length Xy]] h6/\fr7.at 2=(V9 b2)/\fr7.at 3=(V9 b4)/\fr7.at 5= V8 v10) ⟨_,_,rfl,hS.only (.c k1 (.c k0 .n)),QG⟩ ?_);rintro XJ v10 s Ko hL ⟨fr7,h6,rfl,hS,e8,e9,e11⟩;refine r10 ?_;refine cn hL ?_ ?_
  ·intro hc hL;refine r5 ?_;refine WC.Ub mixed Kq0<|r3 ?_;obtain⟨Jh,Zdu,hL⟩:=bS hL;obtain⟨b14,o15,⟨a16,c17⟩,ZeV,ZeZ,ZeY,J6⟩:=Sl.at_ Zt Zdu;refine Vf (Yf WJ X4 lk lk rfl ZeV Zdu) ?_;have ZgZ:Sl Xb wm h a16 c17 Jh.names:=J6;refine r1 ?_;refine Vf (Yt Zlb (Zj fh rfl) (At.fz hS.fz ZeY ZeZ) (j:=0) rfl (v:=.string Jh.text) rfl)<|r3 ?_;obtain⟨x18,Zb6,hL⟩:=bS hL;obtain⟨b19,o20,⟨a21,c22⟩,Zpp,ZpC,ZpB,ZeX⟩:=Sl.at_ YV Zb6;refine Vf (Yf WJ X4 lk lk rfl Zpp Zb6) ?_;have ZlH:Sl Xb wm h a21 c22 x18.names:=ZeX;refine r1 ?_;refine Vf (Yt Zlb (Zj fh rfl) (At.fz hS.fz ZpB ZpC) (j:=0) rfl (v:=.string x18.text) rfl)<|Vf (Y5 (Zj (YC rfl (Z8 rfl fh)) rfl) (Zj fh rfl) Wl)<|r4 ?_;obtain⟨x23,Zvs,hL⟩:=UN hL;obtain⟨b24,o25,⟨a26,c27⟩,hQ⟩:=Sl.atG (fun hg=>Zt) Zvs;have ZL3:=fun hg=>(hQ hg).1
   have ZMJ:=fun hg=>(hQ hg).2.1
   have ZMp:=fun hg=>(hQ hg).2.2.1
   have ZMe:=fun hg=>(hQ hg).2.2.2
   refine WX.gv (Zn.no rfl rfl rfl (Z8 rfl (Zg rfl fh))) rfl (fun hg=>(Yf WJ X4 (WG (Zg rfl fh) rfl hg) (WG fh rfl hg) rfl (ZL3 hg) (Zvs hg))) ?_ rfl;have ZLi:(!(!decide (Jh.text=x18.text)))=true->Sl Xb wm h a26 c27 x23.names:=fun hg=>(ZMe hg)
   refine r1 ?_;refine WX.gv (Zn.no rfl rfl rfl (YC rfl (Zg rfl fh))) rfl (fun hg=>(Yt ZcB (WG fh rfl hg) (At.fz hS.fz (ZMp hg) (ZMJ hg)) (j:=1) rfl (v:=.slice a26 x23.names.length c27) rfl)) ?_ rfl;refine r3 ?_;obtain⟨x28,hx28,hL⟩:=UN hL;obtain⟨b29,o30,⟨a31,c32⟩,hQ⟩:=Sl.atG (fun hg=>YV) hx28;have ZLZ:=fun hg=>(hQ hg).1
   have ZMF:=fun hg=>(hQ hg).2.1
   have ZMl:=fun hg=>(hQ hg).2.2.1
   have ZMc:=fun hg=>(hQ hg).2.2.2
   refine WX.gv (Zn.no rfl rfl rfl (YJ rfl (Zg rfl fh))) rfl (fun hg=>(Yf WJ X4 (WG (Zg rfl fh) rfl hg) (WG fh rfl hg) rfl (ZLZ hg) (hx28 hg))) ?_ rfl;have ZLf:(!(!decide (Jh.text=x18.text)))=true->Sl Xb wm h a31 c32 x28.names:=fun hg=>(ZMc hg)
   refine r1 ?_;refine WX.gv (Zn.no rfl rfl rfl (YJ rfl (Z8 rfl (Zg rfl fh)))) rfl (fun hg=>(Yt ZcB (WG fh rfl hg) (At.fz hS.fz (ZMl hg) (ZMF hg)) (j:=1) rfl (v:=.slice a31 x28.names.length c32) rfl)) ?_ rfl;obtain⟨x33,Zvq,hL⟩:=UN hL;refine WX.gcp (Zn.no rfl rfl rfl (YJ rfl (YC rfl fh))) rfl (fun hg=>(Yo.fn ZFl (Zb (WG (YC rfl (Z8 rfl fh)) rfl hg) (Zb (WG fh rfl hg) Zd)))) (fun hg=>ZzF (hS.slu (ZLi hg)) (hS.slu (ZLf hg)) (Zvq hg)) ?_ rfl rfl;refine r4 ?_;refine cn hL ?_ ?_
   ·intro hc hL;refine r11 ?_;exact rt hL hT hS
   ·intro hc hL;refine r8 ?_;exact Ya.Yc (Ko _ _ hL ⟨_,_,rfl,hS.only (.c k0 (.c k0 .n)),QG⟩)
  ·intro hc hL;refine r12 ?_;refine WC.loop (WL.lift hL (fun v38 s=>∃Zy4 h34,s=⟨Zy4,[],h34,none⟩/\Sp wm T h [bx wm b2 [V8 p0.form,.string p0.text,.slice Zf p0.joins.length Ze,.slice ZA p0.defs.length Zz,.slice Zw p0.kids.length Zv],bx wm b4 [V8 p1.form,.string p1.text,.slice Yr p1.joins.length Yq,.slice XE p1.defs.length XD,.slice Xz p1.kids.length Xy]] h34/\Zy4.at 2=(V9 b2)/\Zy4.at 3=(V9 b4)/\Zy4.at 6= V8 v38) ⟨_,_,rfl,hS.only (.c k0 (.c k0 .n)),QG⟩ ?_);rintro Zxz v38 s ZCH hL ⟨Zy4,h34,rfl,hS,e36,e37,e39⟩;refine r10 ?_;refine cn hL ?_ ?_
   ·intro hc hL;refine r5 ?_;refine WC.Ub mixed Kq0<|r3 ?_;obtain⟨x41,ZrU,hL⟩:=bS hL;obtain⟨b42,o43,⟨⟨a44,c45⟩,⟨a46,c47⟩,⟨a48,c49⟩⟩,ZLV,ZMB,ZMh,Zpu⟩:=Sl.at_ ZV ZrU;replace Zpu:=Z6.1 Zpu;refine Vf (Yf Ur Yv lk lk rfl ZLV ZrU) ?_;have ZLb:Sl Yj wm h a44 c45 x41.joins:=Zpu.1;have ZK9:Sl Zc wm h a46 c47 x41.defs:=Zpu.2.1;have ZK7:Sl Zm wm h a48 c49 x41.kids:=Zpu.2.2;refine Vf (Yx JN Yv (Zj fh rfl) (At.fz hS.fz ZMh ZMB) (j:=0) rfl rfl (ws:=[V8 x41.form,.string x41.text,.slice a44 x41.joins.length c45,.slice a46 x41.defs.length c47,.slice a48 x41.kids.length c49]) rfl)<|r3 ?_;obtain⟨x50,ZCt,hL⟩:=bS hL;obtain⟨b51,o52,⟨⟨a53,c54⟩,⟨a55,c56⟩,⟨a57,c58⟩⟩,ZLU,ZMA,ZMg,Zpt⟩:=Sl.at_ QY ZCt;replace Zpt:=Z6.1 Zpt;refine Vf (Yf Ur Yv lk lk rfl ZLU ZCt) ?_;have ZK6:Sl Yj wm h a53 c54 x50.joins:=Zpt.1;have ZK5:Sl Zc wm h a55 c56 x50.defs:=Zpt.2.1;have ZK4:Sl Zm wm h a57 c58 x50.kids:=Zpt.2.2;refine Vf (Yx JN Yv (Zj fh rfl) (At.fz hS.fz ZMg ZMA) (j:=0) rfl rfl (ws:=[V8 x50.form,.string x50.text,.slice a53 x50.joins.length c54,.slice a55 x50.defs.length c56,.slice a57 x50.kids.length c58]) rfl) ?_;obtain⟨x59,Zvo,hL⟩:=bS hL;refine WX.cl0 gN rfl (Yo.fn ZFe (Zb lk (Zb lk Zd))) hS .n (fun g' hz hf hO=>(Xm _ _ Zvo) (hS.Vg hz) ((hS.sl ZLb).mono hf) ((hS.sl ZK9).mono hf) ((hS.sl ZK7).mono hf) ((hS.sl ZK6).mono hf) ((hS.sl ZK5).mono hf) ((hS.sl ZK4).mono hf)) ?_ rfl rfl;rintro _ h60 _ ⟨rfl,rfl⟩ hS;refine r3 ?_;refine cn hL ?_ ?_
    ·intro hc hL;refine r11 ?_;exact rt hL hT hS
    ·intro hc hL;refine r8 ?_;exact Ya.Yc (ZCH _ _ hL ⟨_,_,rfl,hS.only (.c k0 (.c k0 .n)),QG⟩)
   ·intro hc hL;refine r11 ?_;obtain⟨x62,ZPF,hL⟩:=bS hL;refine Vd (Yo.fn ZFj (Zb lk (Zb lk Zd))) hS .n (fun g' hz hf hO=>(ZzD Zpf) (hS.Vg hz) ((hS.sl ZU).mono hf) ((hS.sl Qz).mono hf) ZPF) ?_;rintro _ h63 _ ⟨rfl,rfl⟩ hS;refine r4 ?_;exact rt hL hT hS
def ZH6{F wm}{ZaD:((Term×Term)->O Z)}(Zpf:∀(x:(Term×Term))(r:Z),ZaD x=some r->(match x with | (p0,p1)=>∀{h Zf Ze ZA Zz Zw Zv Yr Yq XE XD Xz Xy}(Zy:wm<=h.size)(Zt:Sl Zh wm h Zf Ze p0.args)(ZV:Sl Zc wm h ZA Zz p0.defs)(ZU:Sl Zm wm h Zw Zv p0.kids)(YV:Sl Zh wm h Yr Yq p1.args)(QY:Sl Zc wm h XE XD p1.defs)(Qz:Sl Zm wm h Xz Xy p1.kids),WR XX 34 #[.agg #[V8 p0.op,.string p0.text,.slice Zf p0.args.length Ze,.slice ZA p0.defs.length Zz,.slice Zw p0.kids.length Zv],.agg #[V8 p1.op,.string p1.text,.slice Yr p1.args.length Yq,.slice XE p1.defs.length XD,.slice Xz p1.kids.length Xy]] wm h (CP (fun v (Gb:U (Ast wm))=>v=.bool r/\Gb=[]) [] h))){h}{p0 p1:Za}{Zf Ze ZA Zz Zw Zv Yr Yq XE XD Xz Xy}{r}(Zy:wm<=h.size)(Zt:Sl Yj wm h Zf Ze p0.joins)(ZV:Sl Zc wm h ZA Zz p0.defs)(ZU:Sl Zm wm h Zw Zv p0.kids)(YV:Sl Yj wm h Yr Yq p1.joins)(QY:Sl Zc wm h XE XD p1.defs)(Qz:Sl Zm wm h Xz Xy p1.kids)(hL:ZH7 F ZaD p0 p1=some r):
 WR XX 86 #[.agg #[V8 p0.form,.string p0.text,.slice Zf p0.joins.length Ze,.slice ZA p0.defs.length Zz,.slice Zw p0.kids.length Zv],.agg #[V8 p1.form,.string p1.text,.slice Yr p1.joins.length Yq,.slice XE p1.defs.length XD,.slice Xz p1.kids.length Xy]] wm h (CP (fun v (Gb:U (Ast wm))=>v=.bool r/\Gb=[]) [] h):=
 ZDf Zpf F (p0,p1) r hL Zy Zt ZV ZU YV QY Qz
def ZDn{F wm:Nat}:∀(Fr:Nat)(x:(Term×Term))(r:Z),loop Fr (Zg1 F) x=some r->(match x with | (p0,p1)=>∀{h:H}{Zf:O Addr}{Ze:Nat}{ZA:O Addr}{Zz:Nat}{Zw:O Addr}{Zv:Nat}{Yr:O Addr}{Yq:Nat}{XE:O Addr}{XD:Nat}{Xz:O Addr}{Xy:Nat}(Zy:wm<=h.size)(Zt:Sl Zh wm h Zf Ze p0.args)(ZV:Sl Zc wm h ZA Zz p0.defs)(ZU:Sl Zm wm h Zw Zv p0.kids)(YV:Sl Zh wm h Yr Yq p1.args)(QY:Sl Zc wm h XE XD p1.defs)(Qz:Sl Zm wm h Xz Xy p1.kids),WR XX 34 #[.agg #[V8 p0.op,.string p0.text,.slice Zf p0.args.length Ze,.slice ZA p0.defs.length Zz,.slice Zw p0.kids.length Zv],.agg #[V8 p1.op,.string p1.text,.slice Yr p1.args.length Yq,.slice XE p1.defs.length XD,.slice Xz p1.kids.length Xy]] wm h (CP (fun v (Gb:U (Ast wm))=>v=.bool r/\Gb=[]) [] h)):=by
 refine XU _ ?_;rintro Zl Xm ⟨p0,p1⟩ r hL h Zf Ze ZA Zz Zw Zv Yr Yq XE XD Xz Xy Zy Zt ZV ZU YV QY Qz;refine bg Tryz.ntmps34 Zy Yp.nil ?_;intro T hT hS;refine r3 ?_;rintro _ h3 ⟨b2,eb2,rfl,hS⟩;refine r1 ?_;rintro _ h5 ⟨b4,eb4,rfl,hS⟩;refine r16 ?_;refine WO.gv (Zn.no rfl rfl rfl (YC rfl fh)) rfl (fun hg=>(Y5 (WG (Z8 rfl fh) rfl hg) (WG fh rfl hg) Wl))<|r16 ?_;refine r14 ?_;refine cn hL ?_ ?_
 ·intro hc hL;refine r7 ?_;exact rt hL hT hS
 ·intro hc hL;refine r9 ?_;refine WC.loop (WL.lift hL (fun v10 s=>∃fr7 h6,s=⟨fr7,[],h6,none⟩/\Sp wm T h [bx wm b2 [V8 p0.op,.string p0.text,.slice Zf p0.args.length Ze,.slice ZA p0.defs.length Zz,.slice Zw p0.kids.length Zv],bx wm b4 [V8 p1.op,.string p1.text,.slice Yr p1.args.length Yq,.slice XE p1.defs.length XD,.slice Xz p1.kids.length Xy]] h6/\fr7.at 2=(V9 b2)/\fr7.at 3=(V9 b4)/\fr7.at 5= V8 v10) ⟨_,_,rfl,hS.only (.c k1 (.c k0 .n)),QG⟩ ?_);rintro XJ v10 s Ko hL ⟨fr7,h6,rfl,hS,e8,e9,e11⟩;refine r10 ?_;refine cn hL ?_ ?_
  ·intro hc hL;refine r5 ?_;refine WC.Ub mixed Kq0<|r3 ?_;obtain⟨Jh,Zdu,hL⟩:=bS hL;obtain⟨b14,o15,⟨a16,c17⟩,ZeV,ZeZ,ZeY,J6⟩:=Sl.at_ Zt Zdu;replace J6:=Y1.1 J6;refine Vf (Yf Zaw Xk lk lk rfl ZeV Zdu) ?_;have ZgZ:Sl Zh wm h a16 c17 Jh.kids:=J6;refine Vf (Yx Wy Xk (Zj fh rfl) (At.fz hS.fz ZeY ZeZ) (j:=0) rfl rfl (ws:=[V8 Jh.op,V8 Jh.n,.string Jh.text,.slice a16 Jh.kids.length c17]) rfl)<|r3 ?_;obtain⟨x18,Zb6,hL⟩:=bS hL;obtain⟨b19,o20,⟨a21,c22⟩,Zpp,ZpC,ZpB,ZeX⟩:=Sl.at_ YV Zb6;replace ZeX:=Y1.1 ZeX;refine Vf (Yf Zaw Xk lk lk rfl Zpp Zb6) ?_;have ZlH:Sl Zh wm h a21 c22 x18.kids:=ZeX;refine Vf (Yx Wy Xk (Zj fh rfl) (At.fz hS.fz ZpB ZpC) (j:=0) rfl rfl (ws:=[V8 x18.op,V8 x18.n,.string x18.text,.slice a21 x18.kids.length c22]) rfl) ?_;obtain⟨x23,Zvs,hL⟩:=bS hL;refine WX.cp gN rfl (Yo.fn ZFf (Zb lk (Zb lk Zd))) (ZH9 (hS.slu ZgZ) (hS.slu ZlH) Zvs) ?_ rfl rfl;refine r3 ?_;refine cn hL ?_ ?_
   ·intro hc hL;refine r11 ?_;exact rt hL hT hS
   ·intro hc hL;refine r8 ?_;exact Ya.Yc (Ko _ _ hL ⟨_,_,rfl,hS.only (.c k0 (.c k0 .n)),QG⟩)
  ·intro hc hL;refine r12 ?_;refine WC.loop (WL.lift hL (fun v28 s=>∃Zjg h24,s=⟨Zjg,[],h24,none⟩/\Sp wm T h [bx wm b2 [V8 p0.op,.string p0.text,.slice Zf p0.args.length Ze,.slice ZA p0.defs.length Zz,.slice Zw p0.kids.length Zv],bx wm b4 [V8 p1.op,.string p1.text,.slice Yr p1.args.length Yq,.slice XE p1.defs.length XD,.slice Xz p1.kids.length Xy]] h24/\Zjg.at 2=(V9 b2)/\Zjg.at 3=(V9 b4)/\Zjg.at 6= V8 v28) ⟨_,_,rfl,hS.only (.c k0 (.c k0 .n)),QG⟩ ?_);rintro ZxA v28 s ZCJ hL ⟨Zjg,h24,rfl,hS,e26,e27,e29⟩;refine r10 ?_;refine cn hL ?_ ?_
   ·intro hc hL;refine r5 ?_;refine WC.Ub mixed Kq0<|r3 ?_;obtain⟨x31,hx31,hL⟩:=bS hL;obtain⟨b32,o33,⟨⟨a34,c35⟩,⟨a36,c37⟩,⟨a38,c39⟩⟩,ZLY,ZME,ZMk,Zpx⟩:=Sl.at_ ZV hx31;replace Zpx:=Z6.1 Zpx;refine Vf (Yf Ur Yv lk lk rfl ZLY hx31) ?_;have Zyd:Sl Yj wm h a34 c35 x31.joins:=Zpx.1;have Zyc:Sl Zc wm h a36 c37 x31.defs:=Zpx.2.1;have Zyb:Sl Zm wm h a38 c39 x31.kids:=Zpx.2.2;refine Vf (Yx JN Yv (Zj fh rfl) (At.fz hS.fz ZMk ZME) (j:=0) rfl rfl (ws:=[V8 x31.form,.string x31.text,.slice a34 x31.joins.length c35,.slice a36 x31.defs.length c37,.slice a38 x31.kids.length c39]) rfl)<|r3 ?_;obtain⟨x40,ZKN,hL⟩:=bS hL;obtain⟨b41,o42,⟨⟨a43,c44⟩,⟨a45,c46⟩,⟨a47,c48⟩⟩,ZLW,ZMC,ZMi,Zpv⟩:=Sl.at_ QY ZKN;replace Zpv:=Z6.1 Zpv;refine Vf (Yf Ur Yv lk lk rfl ZLW ZKN) ?_;have ZLc:Sl Yj wm h a43 c44 x40.joins:=Zpv.1;have ZLa:Sl Zc wm h a45 c46 x40.defs:=Zpv.2.1;have ZK8:Sl Zm wm h a47 c48 x40.kids:=Zpv.2.2;refine Vf (Yx JN Yv (Zj fh rfl) (At.fz hS.fz ZMi ZMC) (j:=0) rfl rfl (ws:=[V8 x40.form,.string x40.text,.slice a43 x40.joins.length c44,.slice a45 x40.defs.length c46,.slice a47 x40.kids.length c48]) rfl) ?_;obtain⟨x49,ZG5,hL⟩:=bS hL;refine WX.cl0 gN rfl (Yo.fn ZFe (Zb lk (Zb lk Zd))) hS .n (fun g' hz hf hO=>(ZH6 Xm) (hS.Vg hz) ((hS.sl Zyd).mono hf) ((hS.sl Zyc).mono hf) ((hS.sl Zyb).mono hf) ((hS.sl ZLc).mono hf) ((hS.sl ZLa).mono hf) ((hS.sl ZK8).mono hf) ZG5) ?_ rfl rfl;rintro _ h50 _ ⟨rfl,rfl⟩ hS;refine r3 ?_;refine cn hL ?_ ?_
    ·intro hc hL;refine r11 ?_;exact rt hL hT hS
    ·intro hc hL;refine r8 ?_;exact Ya.Yc (ZCJ _ _ hL ⟨_,_,rfl,hS.only (.c k0 (.c k0 .n)),QG⟩)
   ·intro hc hL;refine r11 ?_;obtain⟨x52,ZPI,hL⟩:=bS hL;refine Vd (Yo.fn ZFj (Zb lk (Zb lk Zd))) hS .n (fun g' hz hf hO=>(ZzD Xm) (hS.Vg hz) ((hS.sl ZU).mono hf) ((hS.sl Qz).mono hf) ZPI) ?_;rintro _ h53 _ ⟨rfl,rfl⟩ hS;refine r4 ?_;exact rt hL hT hS
def ZIh{F wm h}{p0 p1:Term}{Zf Ze ZA Zz Zw Zv Yr Yq XE XD Xz Xy}{r}(Zy:wm<=h.size)(Zt:Sl Zh wm h Zf Ze p0.args)(ZV:Sl Zc wm h ZA Zz p0.defs)(ZU:Sl Zm wm h Zw Zv p0.kids)(YV:Sl Zh wm h Yr Yq p1.args)(QY:Sl Zc wm h XE XD p1.defs)(Qz:Sl Zm wm h Xz Xy p1.kids)(hL:ZvJ F p0 p1=some r):
 WR XX 34 #[.agg #[V8 p0.op,.string p0.text,.slice Zf p0.args.length Ze,.slice ZA p0.defs.length Zz,.slice Zw p0.kids.length Zv],.agg #[V8 p1.op,.string p1.text,.slice Yr p1.args.length Yq,.slice XE p1.defs.length XD,.slice Xz p1.kids.length Xy]] wm h (CP (fun v (Gb:U (Ast wm))=>v=.bool r/\Gb=[]) [] h):=
 ZDn F (p0,p1) r hL Zy Zt ZV ZU YV QY Qz
def Zsh{F h}{p0 p1:Term}{Zf Ze ZA Zz Zw Zv Yr Yq XE XD Xz Xy}{r}(Zt:Sl Zh h.size h Zf Ze p0.args)(ZV:Sl Zc h.size h ZA Zz p0.defs)(ZU:Sl Zm h.size h Zw Zv p0.kids)(YV:Sl Zh h.size h Yr Yq p1.args)(QY:Sl Zc h.size h XE XD p1.defs)(Qz:Sl Zm h.size h Xz Xy p1.kids)(hL:ZvJ F p0 p1=some r):Pure XX 34 #[.agg #[V8 p0.op,.string p0.text,.slice Zf p0.args.length Ze,.slice ZA p0.defs.length Zz,.slice Zw p0.kids.length Zv],.agg #[V8 p1.op,.string p1.text,.slice Yr p1.args.length Yq,.slice XE p1.defs.length XD,.slice Xz p1.kids.length Xy]] h (.bool r):=
 WR.ZeE rfl (ZIh Vb Zt ZV ZU YV QY Qz hL)
end
section
def ZhG(p0:(U Y))(p2:Y):Int->(Int->O (U Y))->O (U Y):=fun v7 ZKq=>
 (gd (decide (v7<(p0.length:Int))) (ZN p0 v7) default).bind fun x10=>(bif((decide (v7<(p0.length:Int)))&&(ZgJ x10 p2)) then ZKq (YX (v7+1)) else(slL p0 v7 (p0.length:Int)).bind fun z15=>(app 16 [p2] z15).bind fun z19=>(slL p0 0 v7).bind fun z25=>(app 16 ([]:U Y) z25).bind fun z29=>(app 16 z29 z19).bind fun z33=>some z33)
def Zt7(F:Nat)(p0:(U Y))(p1:(U Y))(p2:Y):O (U Y):=
 (ZkV F p1 p2).bind fun x1=>(gd (!x1) (ZkV F p0 p2) default).bind fun x2=>(bif(x1||x2) then some p0 else loop F (ZhG p0 p2) 0)
def Zni(p1:(U Y))(p2:Zi)(Zl:(((U Y)×(U Y)×Zi)->O (U Y))):(U Y)×Int->((U Y)×Int->O (U Y))->O (U Y):=fun(v15,v22) ZrA=>
 (bif decide (v22<(p2.kids.length:Int)) then(ZN p2.kids v22).bind fun x25=>(Zl (v15,p1,x25)).bind fun x30=>ZrA (x30,YX (v22+1)) else some v15)
def Znh(F:Nat)(p1:(U Y))(p2:Zi)(Zl:(((U Y)×(U Y)×Zi)->O (U Y))):(U Y)->O (U Y):=fun v6=>
 loop F (Zni p1 p2 Zl) (v6,0)
def ZpS(F:Nat):((U Y)×(U Y)×Zi)->(((U Y)×(U Y)×Zi)->O (U Y))->O (U Y):=fun(p0,p1,p2) Zl=>
 (bif(p2.op==2) then(Zt7 F p0 p1 p2.text).bind fun x36=>(Znh F p1 p2 Zl) x36 else(Znh F p1 p2 Zl) p0)
def ZMX(F:Nat)(p0:(U Y))(p1:(U Y))(p2:Zi):O (U Y):=
 loop F (ZpS F) (p0,p1,p2)
def ZpU(p0:(U Y))(p1:(U Y)):O (U Y):=
 (app 16 ([]:U Y) p0).bind fun z3=>(app 16 z3 p1).bind fun z7=>some z7
end
section
end
section
def ZDm(F:Nat)(p0:(U Za)):O (U Y):=
 (ZpW F p0).bind fun x1=>(app 16 ([]:U Y) x1.1.channels).bind fun z19=>(app 16 z19 x1.1.places).bind fun z26=>some z26
end
section
end
section
def Znr(p1:(U Za)):(U Part)×Int->((U Part)×Int->O (U Part))->O (U Part):=fun(v3,v10) XJ=>
 (bif decide (v10<(p1.length:Int)) then(ZN p1 v10).bind fun Jh=>(app 16 v3 [(Part.cl Jh)]).bind fun z27=>XJ (z27,YX (v10+1)) else some v3)
def ZlS(F:Nat)(p0:(U Part))(p1:(U Za)):O (U Part):=
 loop F (Znr p1) (p0,0)
def Zns(p1:(U Term)):(U Part)×Int->((U Part)×Int->O (U Part))->O (U Part):=fun(v3,v10) XJ=>
 (bif decide (v10<(p1.length:Int)) then(ZN p1 v10).bind fun Jh=>(app 16 v3 [(Part.pr Jh)]).bind fun z27=>XJ (z27,YX (v10+1)) else some v3)
def ZlT(F:Nat)(p0:(U Part))(p1:(U Term)):O (U Part):=
 loop F (Zns p1) (p0,0)
end
section
def ZtW{F wm h}{p0:(U Part)}{p1:(U Za)}{Zf Ze Kb Yr Yq}{r}(Zy:wm<=h.size)(YV:Sl Zc wm h Yr Yq p1)(hO:Yp (wm:=wm) [ow wm Z4 Zf Kb Ze p0] h)(hL:ZlS F p0 p1=some r):
 WR XX 199 #[.slice Zf Kb Ze,.slice Yr p1.length Yq] wm h (CP (fun v (Gb:U (Ast wm))=>∃Ym QS Yl,v=.slice Ym QS Yl/\Gb=[ow wm Z4 Ym QS Yl r]) [ow wm Z4 Zf Kb Ze p0] h):=by
 refine bg Tryz.ntmps199 Zy hO ?_;intro T hT hS;unfold ZlS at hL;obtain rfl:=hS.on k0;refine r14 ?_;refine WC.loop (WL.lift hL (fun p s=>match p with | (v3,v10)=>∃Jd h1 a4 c5 n6,s=⟨Jd,[],h1,none⟩/\Sp wm T h [ow wm Z4 a4 n6 c5 v3] h1/\Jd.at 0=.slice a4 n6 c5/\Jd.at 7=.slice Yr p1.length Yq/\Jd.at 8= V8 (p1.length:Int)/\Jd.at 9= V8 v10) ⟨_,_,Zf,Ze,p0.length,rfl,hS.only (.c k0 .n),QG⟩ ?_);rintro XJ ⟨v3,v10⟩ s Ko hL ⟨Jd,h1,a4,c5,n6,rfl,hS,e7,e8,e9,e11⟩;obtain rfl:=hS.on k0;refine r6 ?_;refine cn hL ?_ ?_
 ·intro hc hL;refine r6 ?_;obtain⟨Jh,Zdu,hL⟩:=bS hL;obtain⟨b14,o15,⟨⟨a16,c17⟩,⟨a18,c19⟩,⟨a20,c21⟩⟩,ZeV,ZeZ,ZeY,J6⟩:=Sl.at_ YV Zdu;replace J6:=Z6.1 J6;refine Vc (Yf Ur Yv lk lk rfl ZeV Zdu) ?_;have ZgZ:Sl Yj wm h a16 c17 Jh.joins:=J6.1;have Zi4:Sl Zc wm h a18 c19 Jh.defs:=J6.2.1;have Zi3:Sl Zm wm h a20 c21 Jh.kids:=J6.2.2;refine Vc (Yx JN Yv (Zj fh rfl) (At.fz hS.fz ZeY ZeZ) (j:=0) rfl rfl (ws:=[V8 Jh.form,.string Jh.text,.slice a16 Jh.joins.length c17,.slice a18 Jh.defs.length c19,.slice a20 Jh.kids.length c21]) rfl)<|r1 ?_;rintro _ h23 ⟨b22,ZQ1,rfl,hS⟩;refine r1 ?_;rintro h24 hS;refine r5 ?_;refine Vc (XL ZIN (ZF lk Z5) rfl (cs':=[V8 Jh.form,.string Jh.text,.slice a16 Jh.joins.length c17,.slice a18 Jh.defs.length c19,.slice a20 Jh.kids.length c21]) rfl)<|Vc (Zej lk Kq0)<|Ve (KI (e:=Z4) hS KE Kk Zex rfl rfl rfl (ZF lk Z5) rfl [((((a16,c17),(a18,c19),(a20,c21)),(none,0)),(Part.cl Jh))] rfl (xs:=[(Part.cl Jh)]) rfl (by intro q hq;simp only[Kx,Gc,or_false]at hq;subst hq;exact(ZKs (hS.sl ZgZ) (hS.sl Zi4) (hS.sl Zi3))) rfl) ?_;rintro _ h26 ⟨b25,ZQZ,rfl,hS⟩;obtain⟨z27,ZG1,hL⟩:=bS hL;refine WO.hv gN rfl (Zak (e:=Z4) hS k2 Zbm lk lk (hS.U8 k0) (hS.on k0) ZG1) ?_;rintro _ h30 ⟨a28,c29,rfl,hS⟩;refine r8 ?_;exact Ya.Yc (Ko _ _ hL ⟨_,_,a28,c29,z27.length,rfl,hS.only (.c k0 .n),QG⟩)
 ·intro hc hL;refine r12 ?_;have hr:=Oi0 hL;subst hr;exact Y0.Jb rfl (ZG lk Zk) ⟨_,⟨a4,v3.length,c5,rfl,rfl⟩,hT▸hS.only (.c k0 .n)⟩
def ZtX{F wm h}{p0:(U Part)}{p1:(U Term)}{Zf Ze Kb Yr Yq}{r}(Zy:wm<=h.size)(YV:Sl Zm wm h Yr Yq p1)(hO:Yp (wm:=wm) [ow wm Z4 Zf Kb Ze p0] h)(hL:ZlT F p0 p1=some r):
 WR XX 198 #[.slice Zf Kb Ze,.slice Yr p1.length Yq] wm h (CP (fun v (Gb:U (Ast wm))=>∃Ym QS Yl,v=.slice Ym QS Yl/\Gb=[ow wm Z4 Ym QS Yl r]) [ow wm Z4 Zf Kb Ze p0] h):=by
 refine bg Tryz.ntmps198 Zy hO ?_;intro T hT hS;unfold ZlT at hL;obtain rfl:=hS.on k0;refine r14 ?_;refine WC.loop (WL.lift hL (fun p s=>match p with | (v3,v10)=>∃Jd h1 a4 c5 n6,s=⟨Jd,[],h1,none⟩/\Sp wm T h [ow wm Z4 a4 n6 c5 v3] h1/\Jd.at 0=.slice a4 n6 c5/\Jd.at 7=.slice Yr p1.length Yq/\Jd.at 8= V8 (p1.length:Int)/\Jd.at 9= V8 v10) ⟨_,_,Zf,Ze,p0.length,rfl,hS.only (.c k0 .n),QG⟩ ?_);rintro XJ ⟨v3,v10⟩ s Ko hL ⟨Jd,h1,a4,c5,n6,rfl,hS,e7,e8,e9,e11⟩;obtain rfl:=hS.on k0;refine r6 ?_;refine cn hL ?_ ?_
 ·intro hc hL;refine r6 ?_;obtain⟨Jh,Zdu,hL⟩:=bS hL;obtain⟨b14,o15,⟨⟨a16,c17⟩,⟨a18,c19⟩,⟨a20,c21⟩⟩,ZeV,ZeZ,ZeY,J6⟩:=Sl.at_ YV Zdu;replace J6:=Xd.1 J6;refine Vc (Yf Q9 Yd lk lk rfl ZeV Zdu) ?_;have ZgZ:Sl Zh wm h a16 c17 Jh.args:=J6.1;have Zi4:Sl Zc wm h a18 c19 Jh.defs:=J6.2.1;have Zi3:Sl Zm wm h a20 c21 Jh.kids:=J6.2.2;refine Vc (Yx Qx Yd (Zj fh rfl) (At.fz hS.fz ZeY ZeZ) (j:=0) rfl rfl (ws:=[V8 Jh.op,.string Jh.text,.slice a16 Jh.args.length c17,.slice a18 Jh.defs.length c19,.slice a20 Jh.kids.length c21]) rfl)<|r1 ?_;rintro _ h23 ⟨b22,ZQ1,rfl,hS⟩;refine r1 ?_;rintro h24 hS;refine r5 ?_;refine Vc (XL ZAn (ZF lk Z5) rfl (cs':=[V8 Jh.op,.string Jh.text,.slice a16 Jh.args.length c17,.slice a18 Jh.defs.length c19,.slice a20 Jh.kids.length c21]) rfl)<|Vc (Zej lk Kq0)<|Ve (KI (e:=Z4) hS KE Kk Zex rfl rfl rfl (ZF lk Z5) rfl [((((a16,c17),(a18,c19),(a20,c21)),(none,0)),(Part.pr Jh))] rfl (xs:=[(Part.pr Jh)]) rfl (by intro q hq;simp only[Kx,Gc,or_false]at hq;subst hq;exact(ZtB (hS.sl ZgZ) (hS.sl Zi4) (hS.sl Zi3))) rfl) ?_;rintro _ h26 ⟨b25,ZQZ,rfl,hS⟩;obtain⟨z27,ZG1,hL⟩:=bS hL;refine WO.hv gN rfl (Zak (e:=Z4) hS k2 Zbm lk lk (hS.U8 k0) (hS.on k0) ZG1) ?_;rintro _ h30 ⟨a28,c29,rfl,hS⟩;refine r8 ?_;exact Ya.Yc (Ko _ _ hL ⟨_,_,a28,c29,z27.length,rfl,hS.only (.c k0 .n),QG⟩)
 ·intro hc hL;refine r12 ?_;have hr:=Oi0 hL;subst hr;exact Y0.Jb rfl (ZG lk Zk) ⟨_,⟨a4,v3.length,c5,rfl,rfl⟩,hT▸hS.only (.c k0 .n)⟩
end
section
def Znt(F:Nat)(p0:Process):(U Part)×Int->((U Part)×Int->O (U Part))->O (U Part):=fun(v6,v13) ZmS=>
 (bif decide (v13<(p0.term.args.length:Int)) then(ZN p0.term.args v13).bind fun x16=>(app 16 v6 [(Part.ex x16)]).bind fun z26=>ZmS (z26,YX (v13+1)) else(ZlS F v6 p0.term.defs).bind fun x30=>(ZlT F x30 p0.term.kids).bind fun x39=>some x39)
def Zp3(F:Nat)(p0:Process):O (U Part):=
 loop F (Znt F p0) ([],0)
def Znq(p0:Zoa):(U Part)×Int->((U Part)×Int->O (U Part))->O (U Part):=fun(v5,v12) ZiG=>
 (bif decide (v12<(p0.Kj.kids.length:Int)) then(ZN p0.Kj.kids v12).bind fun x15=>(app 16 v5 [(Part.ex x15)]).bind fun z25=>ZiG (z25,YX (v12+1)) else some v5)
def ZzH(F:Nat)(p0:Zoa):O (U Part):=
 loop F (Znq p0) ([],0)
def Zp2(F:Nat)(p0:Zuz):O (U Part):=
 (ZlS F [] p0.Qk.defs).bind fun x3=>(ZlT F x3 p0.Qk.kids).bind fun x12=>some x12
def ZbX(F:Nat)(p:Part):O (U Part):=
 Zlp p (fun x=>Zp3 F ⟨x⟩) (fun x=>ZzH F ⟨x⟩) (fun x=>Zp2 F ⟨x⟩)
end
section
def ZDr{F wm h}{p0:Process}{Zf Ze ZA Zz Zw Zv}{r}(Zy:wm<=h.size)(Zt:Sl Zh wm h Zf Ze p0.term.args)(ZV:Sl Zc wm h ZA Zz p0.term.defs)(ZU:Sl Zm wm h Zw Zv p0.term.kids)(hL:Zp3 F p0=some r):
 WR XX 197 #[.agg #[V8 p0.term.op,.string p0.term.text,.slice Zf p0.term.args.length Ze,.slice ZA p0.term.defs.length Zz,.slice Zw p0.term.kids.length Zv]] wm h (CP (fun v (Gb:U (Ast wm))=>∃Ym QS Yl,v=.slice Ym QS Yl/\Gb=[ow wm Z4 Ym QS Yl r]) [] h):=by
 refine bg Tryz.ntmps197 Zy Yp.nil ?_;intro T hT hS;unfold Zp3 at hL;refine r3 ?_;rintro _ h2 ⟨b1,eb1,rfl,hS⟩;refine r16 ?_;refine r3 ?_;have hS:=hS.nil (e:=Z4);refine WC.loop (WL.lift hL (fun p s=>match p with | (v6,v13)=>∃fr4 h3 a7 c8 n9,s=⟨fr4,[],h3,none⟩/\Sp wm T h [ow wm Z4 a7 n9 c8 v6,bx wm b1 [V8 p0.term.op,.string p0.term.text,.slice Zf p0.term.args.length Ze,.slice ZA p0.term.defs.length Zz,.slice Zw p0.term.kids.length Zv]] h3/\fr4.at 1=(V9 b1)/\fr4.at 3=.slice a7 n9 c8/\fr4.at 8=.slice Zf p0.term.args.length Ze/\fr4.at 9= V8 (p0.term.args.length:Int)/\fr4.at 10= V8 v13) ⟨_,_,none,0,0,rfl,hS.only (.c k0 (.c k0 .n)),QG⟩ ?_);rintro ZmS ⟨v6,v13⟩ s ZCN hL ⟨fr4,h3,a7,c8,n9,rfl,hS,e5,e10,e11,e12,e14⟩;obtain rfl:=hS.on k0;refine r6 ?_;refine cn hL ?_ ?_
 ·intro hc hL;refine r6 ?_;obtain⟨x16,hx16,hL⟩:=bS hL;obtain⟨b17,o18,⟨a19,c20⟩,ZL5,ZML,ZMr,ZyR⟩:=Sl.at_ Zt hx16;replace ZyR:=Y1.1 ZyR;refine Vc (Yf Zaw Xk lk lk rfl ZL5 hx16) ?_;have Zyg:Sl Zh wm h a19 c20 x16.kids:=ZyR;refine Vc (Yx Wy Xk (Zj fh rfl) (At.fz hS.fz ZMr ZML) (j:=0) rfl rfl (ws:=[V8 x16.op,V8 x16.n,.string x16.text,.slice a19 x16.kids.length c20]) rfl)<|r1 ?_;rintro _ h22 ⟨b21,ZM8,rfl,hS⟩;refine r1 ?_;rintro h23 hS;refine r5 ?_;refine Vc (XL ZFJ (ZF lk Z5) rfl (cs':=[V8 x16.op,V8 x16.n,.string x16.text,.slice a19 x16.kids.length c20]) rfl)<|Vc (Zej lk Kq0)<|Ve (KI (e:=Z4) hS KE Kk Zex rfl rfl rfl (ZF lk Z5) rfl [((((none,0),(none,0),(none,0)),(a19,c20)),(Part.ex x16))] rfl (xs:=[(Part.ex x16)]) rfl (by intro q hq;simp only[Kx,Gc,or_false]at hq;subst hq;exact(ZEM (hS.sl Zyg))) rfl) ?_;rintro _ h25 ⟨b24,ZV4,rfl,hS⟩;obtain⟨z26,ZPx,hL⟩:=bS hL;refine WO.hv gN rfl (Zak (e:=Z4) hS k2 Zbm lk lk (hS.U8 k0) (hS.on k0) ZPx) ?_;rintro _ h29 ⟨a27,c28,rfl,hS⟩;refine r8 ?_;exact Ya.Yc (ZCN _ _ hL ⟨_,_,a27,c28,z26.length,rfl,hS.only (.c k0 (.c k2 .n)),QG⟩)
 ·intro hc hL;refine r6 ?_;refine WC.Ub mixed Kq0<|r4 ?_;obtain⟨x30,Zpc,hL⟩:=bS hL;have ZQl:=hS;refine WX.cl gN rfl (Yo.fn ZyE (Zb lk (Zb lk Zd))) hS (.c k0 .n) (fun g' hz hf hO=>ZtW (hS.Vg hz) ((hS.sl ZV).mono hf) hO Zpc) ?_ rfl rfl [] Kq0 XP.e;rintro _ h34 _ ⟨a31,n32,c33,rfl,rfl⟩ hS;obtain rfl:=hS.on k0;refine WX.w gN rfl (YI K9 lk) ?_ Kq0;refine WX.w gN rfl (YI Zbe lk) ?_ Kq0;refine WX.wrM (fun x=>x=b1) hS gN rfl (fun _ _ hR=>Yt ZfE (Zj fh rfl) (At.eqv (hR b1 rfl) (hS.Jp k1)) (j:=4) rfl (v:=.slice Zw p0.term.kids.length Zv) rfl) ?_ rfl (.d (fun x hx e=>ZQl.djs (.c k1 (.c k0 .n)) x hx.1 e) .n);rintro h37 e38 hS;obtain⟨x39,hx39,hL⟩:=bS hL;refine WX.cl gN rfl (Yo.fn ZyF (Zb lk (Zb lk Zd))) hS (.c k0 .n) (fun g' hz hf hO=>ZtX (hS.Vg hz) ((hS.sl ZU).mono hf) hO hx39) ?_ rfl Kq0 [] Kq0 XP.e;rintro _ h43 _ ⟨a40,n41,c42,rfl,rfl⟩ hS;obtain rfl:=hS.on k0;refine WX.w gN rfl (ZW lk) ?_ Kq0;refine r3 ?_;have hr:=Oi0 hL;subst hr;exact Y0.Jb rfl (ZG lk Zk) ⟨_,⟨a40,x39.length,c42,rfl,rfl⟩,hT▸hS.only (.c k0 .n)⟩
def ZDq{F wm h}{p0:Zoa}{Zf Ze}{r}(Zy:wm<=h.size)(Zt:Sl Zh wm h Zf Ze p0.Kj.kids)(hL:ZzH F p0=some r):
 WR XX 200 #[.agg #[V8 p0.Kj.op,V8 p0.Kj.n,.string p0.Kj.text,.slice Zf p0.Kj.kids.length Ze]] wm h (CP (fun v (Gb:U (Ast wm))=>∃Ym QS Yl,v=.slice Ym QS Yl/\Gb=[ow wm Z4 Ym QS Yl r]) [] h):=by
 refine bg Tryz.ntmps200 Zy Yp.nil ?_;intro T hT hS;unfold ZzH at hL;refine r3 ?_;rintro _ h2 ⟨b1,eb1,rfl,hS⟩;refine r16 ?_;refine r3 ?_;have hS:=hS.nil (e:=Z4);refine WC.loop (WL.lift hL (fun p s=>match p with | (v5,v12)=>∃fr4 h3 a6 c7 n8,s=⟨fr4,[],h3,none⟩/\Sp wm T h [ow wm Z4 a6 n8 c7 v5] h3/\fr4.at 3=.slice a6 n8 c7/\fr4.at 8=.slice Zf p0.Kj.kids.length Ze/\fr4.at 9= V8 (p0.Kj.kids.length:Int)/\fr4.at 10= V8 v12) ⟨_,_,none,0,0,rfl,hS.only (.c k0 .n),QG⟩ ?_);rintro ZiG ⟨v5,v12⟩ s Zm8 hL ⟨fr4,h3,a6,c7,n8,rfl,hS,e9,e10,e11,e13⟩;obtain rfl:=hS.on k0;refine r6 ?_;refine cn hL ?_ ?_
 ·intro hc hL;refine r6 ?_;obtain⟨x15,Zhh,hL⟩:=bS hL;obtain⟨b16,o17,⟨a18,c19⟩,Zpq,ZpD,ZMs,Zcc⟩:=Sl.at_ Zt Zhh;replace Zcc:=Y1.1 Zcc;refine Vc (Yf Zaw Xk lk lk rfl Zpq Zhh) ?_;have Zi4:Sl Zh wm h a18 c19 x15.kids:=Zcc;refine Vc (Yx Wy Xk (Zj fh rfl) (At.fz hS.fz ZMs ZpD) (j:=0) rfl rfl (ws:=[V8 x15.op,V8 x15.n,.string x15.text,.slice a18 x15.kids.length c19]) rfl)<|r1 ?_;rintro _ h21 ⟨b20,ZV5,rfl,hS⟩;refine r1 ?_;rintro h22 hS;refine r5 ?_;refine Vc (XL ZFJ (ZF lk Z5) rfl (cs':=[V8 x15.op,V8 x15.n,.string x15.text,.slice a18 x15.kids.length c19]) rfl)<|Vc (Zej lk Kq0)<|Ve (KI (e:=Z4) hS KE Kk Zex rfl rfl rfl (ZF lk Z5) rfl [((((none,0),(none,0),(none,0)),(a18,c19)),(Part.ex x15))] rfl (xs:=[(Part.ex x15)]) rfl (by intro q hq;simp only[Kx,Gc,or_false]at hq;subst hq;exact(ZEM (hS.sl Zi4))) rfl) ?_;rintro _ h24 ⟨b23,ZQ0,rfl,hS⟩;obtain⟨z25,ZPy,hL⟩:=bS hL;refine WO.hv gN rfl (Zak (e:=Z4) hS k2 Zbm lk lk (hS.U8 k0) (hS.on k0) ZPy) ?_;rintro _ h28 ⟨a26,c27,rfl,hS⟩;refine r8 ?_;exact Ya.Yc (Zm8 _ _ hL ⟨_,_,a26,c27,z25.length,rfl,hS.only (.c k0 .n),QG⟩)
 ·intro hc hL;refine r12 ?_;have hr:=Oi0 hL;subst hr;exact Y0.Jb rfl (ZG lk Zk) ⟨_,⟨a6,v5.length,c7,rfl,rfl⟩,hT▸hS.only (.c k0 .n)⟩
def ZDp{F wm h}{p0:Zuz}{Zf Ze ZA Zz Zw Zv}{r}(Zy:wm<=h.size)(Zt:Sl Yj wm h Zf Ze p0.Qk.joins)(ZV:Sl Zc wm h ZA Zz p0.Qk.defs)(ZU:Sl Zm wm h Zw Zv p0.Qk.kids)(hL:Zp2 F p0=some r):
 WR XX 201 #[.agg #[V8 p0.Qk.form,.string p0.Qk.text,.slice Zf p0.Qk.joins.length Ze,.slice ZA p0.Qk.defs.length Zz,.slice Zw p0.Qk.kids.length Zv]] wm h (CP (fun v (Gb:U (Ast wm))=>∃Ym QS Yl,v=.slice Ym QS Yl/\Gb=[ow wm Z4 Ym QS Yl r]) [] h):=by
 refine bg Tryz.ntmps201 Zy Yp.nil ?_;intro T hT hS;unfold Zp2 at hL;refine r3 ?_;rintro _ h2 ⟨b1,eb1,rfl,hS⟩;refine r4 ?_;refine WC.Ub mixed Kq0<|r3 ?_;obtain⟨x3,hx3,hL⟩:=bS hL;have hS:=hS.nil (e:=Z4);have hS9:=hS;refine WX.cl gN rfl (Yo.fn ZyE (Zb lk (Zb lk Zd))) hS (.c k0 .n) (fun g' hz hf hO=>ZtW (hS.Vg hz) ((hS.sl ZV).mono hf) hO hx3) ?_ rfl rfl [] Kq0 XP.e;rintro _ h7 _ ⟨a4,n5,c6,rfl,rfl⟩ hS;obtain rfl:=hS.on k0;refine WX.w gN rfl (YI ZpJ lk) ?_ Kq0;refine WX.w gN rfl (YI ZaM lk) ?_ Kq0;refine WX.wrM (fun x=>x=b1) hS gN rfl (fun _ _ hR=>Yt ZfE (Zj fh rfl) (At.eqv (hR b1 rfl) (hS.Jp k1)) (j:=4) rfl (v:=.slice Zw p0.Qk.kids.length Zv) rfl) ?_ rfl (.d (fun x hx e=>hS9.djs (.c k1 (.c k0 .n)) x hx.1 e) .n);rintro h10 e11 hS;obtain⟨x12,Zx3,hL⟩:=bS hL;refine WX.cl gN rfl (Yo.fn ZyF (Zb lk (Zb lk Zd))) hS (.c k0 .n) (fun g' hz hf hO=>ZtX (hS.Vg hz) ((hS.sl ZU).mono hf) hO Zx3) ?_ rfl Kq0 [] Kq0 XP.e;rintro _ h16 _ ⟨a13,n14,c15,rfl,rfl⟩ hS;obtain rfl:=hS.on k0;refine WX.w gN rfl (ZW lk) ?_ Kq0;refine r3 ?_;have hr:=Oi0 hL;subst hr;exact Y0.Jb rfl (ZG lk Zk) ⟨_,⟨a13,x12.length,c15,rfl,rfl⟩,hT▸hS.only (.c k0 .n)⟩
def WO.Zc5 {F n wm:Nat} {rd:O Nat} {ops:V4 Oper} {l:U Oper} {fr:Fr} {ds:U V6} {h h0:H} {ty:J} {ps:String} {af:V4 Edge} {g:O (Nat×Z)} {T:Nat ->Prop} {G:U (Ast wm)} {d:Nat} {Q:Go.ZP.XX ->Fs ->Prop} {x:GZ} {p:Part} {q:PtP} {r:(U Part)}
 (hg:ZY ops ⟨some d,.call {callee:= .invoke x "cabotage/term.parts",args:=#[],argTypes:=#[]},ty,ps,af,g⟩ fr) (hd:Nat.blt d n=true) (hx:YG fr x=some (K8 q p)) (hS:Sp wm T h0 G h) (hF:Z4.F wm h q p) (hL:ZbX F p=some r)
 (k:∀ h' a c,Sp wm T h0 (ow wm Z4 a r.length c r::G) h' ->WO XX n wm rd ops l ⟨Tr.set fr d (.slice a r.length c),ds,h',none⟩ Q):WO XX n wm rd ops (⟨some d,.call {callee:= .invoke x "cabotage/term.parts",args:=#[],argTypes:=#[]},ty,ps,af,g⟩::l) ⟨fr,ds,h,none⟩ Q:=by
 unfold ZbX at hL;obtain⟨⟨⟨a1,c1⟩,⟨a2,c2⟩,⟨a3,c3⟩⟩,⟨a4,c4⟩⟩:=q;cases p with
 | pr x=>
  replace hF:=ZeH hF;replace hL:=Ziw hL;refine WO.cl hg hd (Yo.inv (f:=197) (vs:= []) hx Kq0 ZHp Zd) hS .n (fun g' hz hf hO=>ZDr (p0:= ⟨x⟩) (hS.Vg hz) (hF.1.mono hf) (hF.2.1.mono hf) (hF.2.2.mono hf) hL) ?_;rintro _ h' _ ⟨a,n',c,rfl,rfl⟩ hS;obtain rfl:=hS.on .z;exact k h' a c hS
 | ex x=>
  replace hF:=ZmI hF;replace hL:=Zix hL;refine WO.cl hg hd (Yo.inv (f:=200) (vs:= []) hx Kq0 ZHo Zd) hS .n (fun g' hz hf hO=>ZDq (p0:= ⟨x⟩) (hS.Vg hz) (hF.mono hf) hL) ?_;rintro _ h' _ ⟨a,n',c,rfl,rfl⟩ hS;obtain rfl:=hS.on .z;exact k h' a c hS
 | cl x=>
  replace hF:=ZeI hF;replace hL:=Ziy hL;refine WO.cl hg hd (Yo.inv (f:=201) (vs:= []) hx Kq0 ZHn Zd) hS .n (fun g' hz hf hO=>ZDp (p0:= ⟨x⟩) (hS.Vg hz) (hF.1.mono hf) (hF.2.1.mono hf) (hF.2.2.mono hf) hL) ?_;rintro _ h' _ ⟨a,n',c,rfl,rfl⟩ hS;obtain rfl:=hS.on .z;exact k h' a c hS
end
section
def ZjB(Zl:(Part->O Int))(x2:(U Part)):Int×Int->(Int×Int->O Int)->O Int:=fun(v8,v12) ZiG=>
 (bif decide (v12<(x2.length:Int)) then(ZN x2 v12).bind fun x15=>(Zl x15).bind fun x19=>ZiG ((if x19>v8 then x19 else v8),YX (v12+1)) else some (YX (v8+1)))
def ZjA(F:Nat):Part->(Part->O Int)->O Int:=fun p0 Zl=>
 (ZbX F p0).bind fun x2=>loop F (ZjB Zl x2) (0,0)
def ZDl(F:Nat)(p0:Part):O Int:=
 loop F (ZjA F) p0
end
section
def ZDk{F wm:Nat}:∀(Fr:Nat)(p0:Part)(r:Int),loop Fr (ZjA F) p0=some r->(∀{h:H}{Jq:PtP}(Zy:wm<=h.size)(ZeS:Z4.F wm h Jq p0),WR XX 59 #[K8 Jq p0] wm h (CP (fun v (Gb:U (Ast wm))=>v= V8 r/\Gb=[]) [] h)):=by
 refine XU _ ?_;rintro Zl Xm p0 r hL h Jq Zy ZeS;refine bg Tryz.ntmps59 Zy Yp.nil ?_;intro T hT hS;refine r13 ?_;refine Vc (ZO (Zj (Z8 rfl fh) Yb)) ?_;obtain⟨x2,hx2,hL⟩:=bS hL;refine WO.Zc5 gN rfl (Zj fh Yb) hS (Z4.mono hS.fz ZeS) hx2 ?_;rintro h5 a3 c4 hS;refine r5 ?_;refine WC.loop (WL.lift hL (fun p s=>match p with | (v8,v12)=>∃fr7 h6,s=⟨fr7,[],h6,none⟩/\Sp wm T h [ow wm Z4 a3 x2.length c4 x2] h6/\fr7.at 3= V8 v8/\fr7.at 7=.slice a3 x2.length c4/\fr7.at 8= V8 (x2.length:Int)/\fr7.at 9= V8 v12) ⟨_,_,rfl,hS.only (.c k0 .n),QG⟩ ?_);rintro ZiG ⟨v8,v12⟩ s Zm8 hL ⟨fr7,h6,rfl,hS,e9,e10,e11,e13⟩;refine r6 ?_;refine cn hL ?_ ?_
 ·intro hc hL;refine r6 ?_;obtain⟨x15,Zhh,hL⟩:=bS hL;obtain⟨b16,o17,q18,Zpq,ZpD,Zcc⟩:=Src.at_ (hS.U8 k0) Zhh;refine Vc (Yf KE Kk lk lk rfl Zpq Zhh) ?_;have hS:=hS.add (A:=Yi wm Z4 q18 x15) Zcc (fun _ z=>z);refine Vc (Yt Zen (Zj fh rfl) ZpD (j:=0) rfl (v:=K8 q18 x15) rfl)<|Vc (ZW (Zj fh Yb))<|r4 ?_;refine Vc (ZO (Zj (Zg rfl fh) Yb)) ?_;obtain⟨x19,ZG8,hL⟩:=bS hL;refine Vd (Yo.fn ZFi (Zb (Zj fh Yb) Zd)) hS .n (fun g' hz hf hO=>(Xm _ _ ZG8) (hS.Vg hz) (Z4.mono hf (hS.get k0))) ?_;rintro _ h20 _ ⟨rfl,rfl⟩ hS;refine Vc (ZIV lk lk)<|r8 ?_;exact Ya.Yc (Zm8 _ _ hL ⟨_,_,rfl,hS.only (.c k1 .n),QG⟩)
 ·intro hc hL;refine r13 ?_;exact rt hL hT hS
def ZIc{F wm h}{p0:Part}{Jq:PtP}{r}(Zy:wm<=h.size)(ZeS:Z4.F wm h Jq p0)(hL:ZDl F p0=some r):
 WR XX 59 #[K8 Jq p0] wm h (CP (fun v (Gb:U (Ast wm))=>v= V8 r/\Gb=[]) [] h):=
 ZDk F p0 r hL Zy ZeS
def ZId{F h}{p0:Part}{Jq:PtP}{r}(ZeS:Z4.F h.size h Jq p0)(hL:ZDl F p0=some r):Pure XX 59 #[K8 Jq p0] h (V8 r):=
 WR.ZeE rfl (ZIc Vb ZeS hL)
end
section
def Zp6(F:Nat)(p0:Part):O (PR Unit):=
 Zlp p0 (fun v1=>(ZlY F v1).bind fun x18=>JS x18 (fun e20=>some (.Z9 e20)) (fun y19=>some (.ok ()))) (fun v2=>(ZlX F v2).bind fun x36=>JS x36 (fun e38=>some (.Z9 e38)) (fun y37=>some (.ok ()))) (fun v3=>(ZlW F v3).bind fun x56=>JS x56 (fun e58=>some (.Z9 e58)) (fun y57=>some (.ok ())))
end
section
def Zt9{F wm h}{p0:Part}{Jq:PtP}{r}(Zy:wm<=h.size)(ZeS:Z4.F wm h Jq p0)(hL:Zp6 F p0=some r):
 WF XX 105 #[K8 Jq p0] wm h (PQ 147 (fun(r:Unit) v (Gb:U (Ast wm))=>v=.tuple #[]/\Gb=[]) [] h r):=by
 refine WF.QC (args:=[_]) (fn:=Tryz.f105) Kq0 (by exact rfl) Tryz.ntmps105 (by simp) ?_;simp only[Zq,Zx,Nat.reduceAdd];obtain⟨T,hT,hS⟩:∃T,T=QF (wm:=wm) []/\Sp wm T h [] h:=⟨_,rfl,Sp.start Zy Yp.nil⟩
 unfold Zp6 at hL;refine r2 ?_;refine Vc (ZO (Zj fh Yb))<|r5 ?_;rcases p0 with v1|v2|v3
 ·replace hL:=Ziw hL;obtain⟨⟨⟨a4,c5⟩,⟨a6,c7⟩,⟨a8,c9⟩⟩,⟨a10,c11⟩⟩:=Jq;obtain⟨ZLv,ZLu,ZLt⟩:=ZeH ZeS;refine Vc (Zkk Tryz.underlying78 rfl (Zj fh rfl))<|r4 ?_;refine WC.ZnK (Zj (Zg rfl fh) rfl) rfl<|r3 ?_;rintro _ h16 ⟨b15,ZQ3,rfl,hS⟩;refine r1 ?_;rintro h17 hS;refine r5 ?_;obtain⟨x18,Zb6,hL⟩:=bS hL;rcases x18 with y19|e20
  ·skip;replace hL:=Yw hL;refine Vd (Yo.fn ZyK (Zb (Zj fh rfl) Zd)) hS .n (fun g' hz hf hO=>(PQ.ok (Zt5 (hS.Vg hz) ((hS.sl ZLv).mono hf) ((hS.sl ZLu).mono hf) ((hS.sl ZLt).mono hf) Zb6))) ?_;rintro _ h21 _ ⟨rfl,rfl⟩ hS;refine r2 ?_;refine Z0.Yc ?_;have hr:=Oi0 hL;subst hr;exact Z0.WV rfl Zk rfl ⟨_,⟨rfl,rfl⟩,hT▸hS.only .n⟩
  ·skip;replace hL:=Z7 hL;refine WO.Kg gN (Yo.fn ZyK (Zb (Zj fh rfl) Zd)) hS .n (fun g' hz hf hO=>Zt5 (hS.Vg hz) ((hS.sl ZLv).mono hf) ((hS.sl ZLu).mono hf) ((hS.sl ZLt).mono hf) Zb6) ?_;rintro h23 hS;refine Yy.panic<|Z0.KU<|Y7.Z9 ?_;have hr:=Oi0 hL;subst hr;exact⟨rfl,hT▸hS.only .n⟩
 ·replace hL:=Zix hL;obtain⟨⟨⟨a24,c25⟩,⟨a26,c27⟩,⟨a28,c29⟩⟩,⟨a30,c31⟩⟩:=Jq;have ZLs:=ZmI ZeS;refine Vc (Zkl Tryz.underlying78 rfl ZaX Kq0 (Zj fh rfl))<|r4 ?_;refine WC.Zgs (Zj (Zg rfl fh) rfl) rfl<|r2 ?_;refine Vc (Zkk Tryz.underlying88 rfl (Zj (Z8 rfl (Zg rfl fh)) rfl))<|r4 ?_;refine WC.ZnK (Zj (Zg rfl fh) rfl) rfl<|r3 ?_;rintro _ h34 ⟨b33,ZQX,rfl,hS⟩;refine r1 ?_;rintro h35 hS;refine r5 ?_;obtain⟨x36,ZkO,hL⟩:=bS hL;rcases x36 with y37|e38
  ·skip;replace hL:=Yw hL;refine Vd (Yo.fn ZyJ (Zb (Zj fh rfl) Zd)) hS .n (fun g' hz hf hO=>(PQ.ok (Zt4 (hS.Vg hz) ((hS.sl ZLs).mono hf) ZkO))) ?_;rintro _ h39 _ ⟨rfl,rfl⟩ hS;refine r2 ?_;refine Z0.Yc ?_;have hr:=Oi0 hL;subst hr;exact Z0.WV rfl Zk rfl ⟨_,⟨rfl,rfl⟩,hT▸hS.only .n⟩
  ·skip;replace hL:=Z7 hL;refine WO.Kg gN (Yo.fn ZyJ (Zb (Zj fh rfl) Zd)) hS .n (fun g' hz hf hO=>Zt4 (hS.Vg hz) ((hS.sl ZLs).mono hf) ZkO) ?_;rintro h41 hS;refine Yy.panic<|Z0.KU<|Y7.Z9 ?_;have hr:=Oi0 hL;subst hr;exact⟨rfl,hT▸hS.only .n⟩
 ·replace hL:=Ziy hL;obtain⟨⟨⟨a42,c43⟩,⟨a44,c45⟩,⟨a46,c47⟩⟩,⟨a48,c49⟩⟩:=Jq;obtain⟨ZLr,ZLq,ZLp⟩:=ZeI ZeS;refine Vc (Zkl Tryz.underlying78 rfl ZaX Kq0 (Zj fh rfl))<|r4 ?_;refine WC.Zgs (Zj (Zg rfl fh) rfl) rfl<|r2 ?_;refine Vc (Zkl Tryz.underlying88 rfl Zq6 Kq0 (Zj (Z8 rfl (Zg rfl fh)) rfl))<|r4 ?_;refine WC.Zgs (Zj (Zg rfl fh) rfl) rfl<|r2 ?_;refine Vc (Zkk Tryz.underlying166 rfl (Zj (YC rfl (Z8 rfl fh)) rfl))<|r4 ?_;refine WC.ZnK (Zj (Zg rfl fh) rfl) rfl<|r3 ?_;rintro _ h54 ⟨b53,ZVY,rfl,hS⟩;refine r1 ?_;rintro h55 hS;refine r5 ?_;obtain⟨x56,ZKL,hL⟩:=bS hL;rcases x56 with y57|e58
  ·skip;replace hL:=Yw hL;refine Vd (Yo.fn ZyI (Zb (Zj fh rfl) Zd)) hS .n (fun g' hz hf hO=>(PQ.ok (Zt3 (hS.Vg hz) ((hS.sl ZLr).mono hf) ((hS.sl ZLq).mono hf) ((hS.sl ZLp).mono hf) ZKL))) ?_;rintro _ h59 _ ⟨rfl,rfl⟩ hS;refine r2 ?_;refine Z0.Yc ?_;have hr:=Oi0 hL;subst hr;exact Z0.WV rfl Zk rfl ⟨_,⟨rfl,rfl⟩,hT▸hS.only .n⟩
  ·skip;replace hL:=Z7 hL;refine WO.Kg gN (Yo.fn ZyI (Zb (Zj fh rfl) Zd)) hS .n (fun g' hz hf hO=>Zt3 (hS.Vg hz) ((hS.sl ZLr).mono hf) ((hS.sl ZLq).mono hf) ((hS.sl ZLp).mono hf) ZKL) ?_;rintro h61 hS;refine Yy.panic<|Z0.KU<|Y7.Z9 ?_;have hr:=Oi0 hL;subst hr;exact⟨rfl,hT▸hS.only .n⟩
end
section
def Znx(v21:(U (Y×Z))):Y->ZI->O Z:=fun ZF1 ZOG=>
 (ZkM v21 ZF1 false).bind fun x53=>(JI (!x53)).bind fun x54=>JS x54 (fun e56=>some true) (fun y55=>some false)
def ZhO:(U (Y×ZI))×(U (Y×Z))->O (PR Unit):=fun(v20,v21)=>
 (Zlx (Znx v21) v20).bind fun q29=>(bif q29 then some (.Z9 2) else some (.ok ()))
def Zfh(Zh5:Int)(ZcZ:(Int×(U Za)->O (PR (Z×Int×(U (Y×ZI))×(U (Y×Z)))))):(U Za)->O (PR (Z×Int×(U (Y×ZI))×(U (Y×Z)))):=fun v139=>
 ZcZ (YX (Zh5+1),v139)
def Zfi(KZ:Int)(Zmp:Int)(Zhv:(Int×(U (Y×ZI))->O (PR (Z×Int×(U (Y×ZI))×(U (Y×Z))))))(Zdp:Za):Int×(U (Y×ZI))->(Int×(U (Y×ZI))->O (PR (Z×Int×(U (Y×ZI))×(U (Y×Z)))))->O (PR (Z×Int×(U (Y×ZI))×(U (Y×Z)))):=fun(ZuJ,Zmo) Ztz=>
 (bif decide (ZuJ<(Zdp.joins.length:Int)) then(ZN Zdp.joins ZuJ).bind fun Zdo=>(Zxk Zmo Zdo.text (ZI.mk 0 0)).bind fun Zhc=>(JI ((!Zhc.2)||(Ua Zhc.1 (ZI.mk KZ (Zdo.names.length:Int))))).bind fun ZF2=>JS ZF2 (fun e223=>some (.Z9 2)) (fun ZOB=>Ztz (YX (ZuJ+1),Xw Zmo Zdo.text (ZI.mk KZ (Zdo.names.length:Int)))) else Zhv (YX (Zmp+1),Zmo))
def Zbi(v95:(U Za))(Ug:(Y×(U Za)×Int×(U (Y×ZI))×(U (Y×Z))->O (PR (Z×Int×(U (Y×ZI))×(U (Y×Z)))))):Int×Int×(U (Y×ZI))×(U (Y×Z))->(Int×Int×(U (Y×ZI))×(U (Y×Z))->O (PR (Z×Int×(U (Y×ZI))×(U (Y×Z)))))->O (PR (Z×Int×(U (Y×ZI))×(U (Y×Z)))):=fun(v234,v236,ZuH,ZuG) ZmQ=>
 (bif decide (v234<(v95.length:Int)) then(ZN v95 v234).bind fun Zha=>(bif(Zha.form==2) then(Ug (Zha.text,Zha.defs,v236,ZuH,ZuG)).bind fun ZFX=>JS ZFX (fun e254=>some (.Z9 e254)) (fun(ZuF,ZGd,ZGc,ZGb)=>(bif(!ZuF) then some (.ok (false,ZGd,ZGc,ZGb)) else ZmQ (YX (v234+1),ZGd,ZGc,ZGb))) else ZmQ (YX (v234+1),v236,ZuH,ZuG)) else some (.ok (true,v236,ZuH,ZuG)))
def Zfj(F:Nat)(v95:(U Za))(KZ:Int)(Ug:(Y×(U Za)×Int×(U (Y×ZI))×(U (Y×Z))->O (PR (Z×Int×(U (Y×ZI))×(U (Y×Z))))))(v124:(U Za))(Zmq:(U (Y×Z))):Int×(U (Y×ZI))->(Int×(U (Y×ZI))->O (PR (Z×Int×(U (Y×ZI))×(U (Y×Z)))))->O (PR (Z×Int×(U (Y×ZI))×(U (Y×Z)))):=fun(Zmp,ZfR) Zhv=>
 (bif decide (Zmp<(v124.length:Int)) then(ZN v124 Zmp).bind fun Zdp=>loop F (Zfi KZ Zmp Zhv Zdp) (0,ZfR) else(bif(!true) then some (.ok (false,YX (KZ+1),ZfR,Zmq)) else loop F (Zbi v95 Ug) (0,YX (KZ+1),ZfR,Zmq)))
def Zac(F:Nat)(v95:(U Za))(KZ:Int)(v99:(U (Y×ZI)))(Ug:(Y×(U Za)×Int×(U (Y×ZI))×(U (Y×Z))->O (PR (Z×Int×(U (Y×ZI))×(U (Y×Z))))))(v124:(U Za)):(U (Y×Z))->O (PR (Z×Int×(U (Y×ZI))×(U (Y×Z)))):=fun Zmq=>
 loop F (Zfj F v95 KZ Ug v124 Zmq) (0,v99)
def Zfk(F:Nat)(v94:Y)(v95:(U Za))(KZ:Int)(v99:(U (Y×ZI)))(ZfT:(U (Y×Z)))(Ug:(Y×(U Za)×Int×(U (Y×ZI))×(U (Y×Z))->O (PR (Z×Int×(U (Y×ZI))×(U (Y×Z)))))):Int×(U Za)->(Int×(U Za)->O (PR (Z×Int×(U (Y×ZI))×(U (Y×Z)))))->O (PR (Z×Int×(U (Y×ZI))×(U (Y×Z)))):=fun(Zh5,v124) ZcZ=>
 (bif decide (Zh5<(v95.length:Int)) then(ZN v95 Zh5).bind fun ZfQ=>(bif(ZfQ.form==1) then(app 96 v124 [ZfQ]).bind fun z157=>(Zfh Zh5 ZcZ) z157 else(Zfh Zh5 ZcZ) v124) else(bif decide (KZ>0) then(ZkM ZfT v94 false).bind fun Zwu=>(JI (!Zwu)).bind fun Zwt=>JS Zwt (fun e267=>some (.Z9 2)) (fun ZJV=>(Zac F v95 KZ v99 Ug v124) (Xw ZfT v94 true)) else(Zac F v95 KZ v99 Ug v124) ZfT))
def Zab(F:Nat):Y×(U Za)×Int×(U (Y×ZI))×(U (Y×Z))->(Y×(U Za)×Int×(U (Y×ZI))×(U (Y×Z))->O (PR (Z×Int×(U (Y×ZI))×(U (Y×Z)))))->O (PR (Z×Int×(U (Y×ZI))×(U (Y×Z)))):=fun(v94,v95,KZ,v99,ZfT) Ug=>
 loop F (Zfk F v94 v95 KZ v99 ZfT Ug) (0,[])
def ZdL(F:Nat)(p0:(U Za)):O (PR Unit):=
 (loop F (Zab F) ((⟨#[]⟩:Y),p0,0,[],[])).bind fun ZFW=>JS ZFW (fun e273=>some (.Z9 e273)) (fun(ZOS,ZOR,ZBI,Zwz)=>(ZhO) (ZBI,Zwz))
end
section
def Zde{F wm h}{p0:(U Za)}{Zf Ze}{r}(Zy:wm<=h.size)(Zt:Sl Zc wm h Zf Ze p0)(hL:ZdL F p0=some r):
 WF XX 106 #[.slice Zf p0.length Ze] wm h (PQ 147 (fun(r:Unit) v (Gb:U (Ast wm))=>v=.tuple #[]/\Gb=[]) [] h r):=by
 refine WF.QC (args:=[_]) (fn:=Tryz.f106) Kq0 (by exact rfl) Tryz.ntmps106 (by simp) ?_;simp only[Zq,Zx,Nat.reduceAdd];obtain⟨T,hT,hS⟩:∃T,T=QF (wm:=wm) []/\Sp wm T h [] h:=⟨_,rfl,Sp.start Zy Yp.nil⟩
 unfold ZdL at hL;refine r2 ?_;refine Ve (ZgQ Value.string Qj hS) ?_;rintro _ h1 ⟨b2,eb2,rfl,hS⟩;refine Ve (ZgQ Value.string Value.bool hS) ?_;rintro _ h3 ⟨b4,eb4,rfl,hS⟩;refine r1 ?_;rintro _ h6 ⟨b5,eb5,rfl,hS⟩;refine r1 ?_;rintro _ h8 ⟨b7,eb7,rfl,hS⟩;refine r1 ?_;rintro h9 hS;refine r1 ?_;rintro h10 hS;refine r6 ?_;refine WO.ZGZ gN rfl (Yo.fn ZyL (Zb lk Zd)) (WF.QC (args:=[_]) (fn:=Tryz.f113) Kq0 (by exact rfl) Tryz.ntmps113 (by simp) ?_);simp only[Zq,Zx,Nat.reduceAdd];refine r3 ?_;rintro _ h12 ⟨b11,ZQ4,rfl,hS⟩;refine r5 ?_;refine Vc (WZ (Zb lk Zd))<|r4 ?_;refine Z0.Zvz rfl (ZG lk Zk) rfl<|r3 ?_;refine WC.Zro (first:=[]) (cap:=[(V9 b11)]) hS lk ZyH ?_;intro h13 l14 ZRf Zhn ZlL hS;refine WF.ZxZ (r:=r) (fun(p:(U (Y×ZI))×(U (Y×Z)))(v:N)(h18:H)=>match p with | (v20,v21)=>v=.tuple #[]/\Sp wm T h [bx wm b5 [.map (some b2)],bx wm b7 [.map (some b4)],bx wm b11 [.slice Zf p0.length Ze],mp wm Value.string Qj (some b2) v20,mp wm Value.string Value.bool (some b4) v21,ob wm l14 Zhn,ob wm ZRf .deferred] h18) (ZhO) ?_ (WF.QC (args:=[_,_]) (fn:=Tryz.f144) Kq0 (by exact rfl) Tryz.ntmps144 (by simp) ?_)
 ·rintro⟨v20,v21⟩ v h18 hL ⟨rfl,hS⟩;refine RgS.sp ZlL hS k5 ?_;rintro h22 hS;refine r5 ?_;refine WO.rng gN rfl hS Zrb lk (hS.get k3).at_ ?_;rintro h28 b23 ZWJ ZST hS ZP5 ZQe;refine r3 ?_;obtain⟨q29,ZPZ,hL⟩:=bS hL;have ZPj:=(hS.mrd k4)
  have ZPi:=(hS.mrd k5)
  have ZRt:=hS.Jp k1;have ZRs:=hS.Jp k2;refine WC.loop (WL.ZKu [13,73,74,75,76,77,78,79,80,81] (pv 147 2) ZPZ hS k0 fh ZP5 ZQe rfl rfl rfl rfl rfl rfl rfl rfl ?_ ?_ ?_)
  ·rintro⟨ZF1,ZOG⟩ p36 hL h37 ZVL Zr5 ZCW hS ZQm;have e42:=Zr5.at (t:=14) rfl (YC rfl (Z8 rfl (Zg rfl fh)));have e43:=Zr5.at (t:=15) rfl (YC rfl (Z8 rfl fh));have e44:=Zr5.at (t:=2) rfl (YC rfl (Zg rfl fh));have e45:=Zr5.at (t:=3) rfl (YC rfl fh);have e46:=Zr5.at (t:=17) rfl (Z8 rfl fh);have e47:=Zr5.at (t:=71) rfl (Zg rfl fh);have e48:=Zr5.at (t:=72) rfl fh;have ZT6:=ZPj.rk ZCW;have ZPh:=ZPi.rk ZCW;have ZWK:=ZRt.rk ZCW;have ZRr:=ZRs.rk ZCW;refine r4 ?_;refine WC.ZnK lk rfl<|r5 ?_;refine Vc (ZAx lk ZQm)<|r5 ?_;refine Vc (Yt ZqJ (Zj (YC rfl (Zg rfl e45)) rfl) ZRr (j:=0) rfl (v:=.map (some b4)) rfl)<|r1 ?_;obtain⟨x53,ZPH,hL⟩:=bS hL;refine Vc (Zdk (kv:=Value.string) (vv:=Value.bool) (k:=ZF1) (z:=false) Ws JR ZhZ (Zj (Zg rfl fh) rfl) (Zj fh rfl) (hS.ms ZPh).at_ ZPH (w:=.bool x53) rfl)<|r1 ?_;obtain⟨x54,ZrT,hL⟩:=bS hL;rcases x54 with y55|e56
   ·skip;replace hL:=Yw hL;refine Vd (Yo.fn YZ (Zb lk Zd)) hS .n (fun g' hz hf hO=>(PQ.ok (YF (hS.Vg hz) ZrT))) ?_;rintro _ h57 _ ⟨rfl,rfl⟩ hS;refine r2 ?_;have hp:=Oi0 hL;subst hp;exact ZsX.Yc (.s rfl (.s rfl (.s rfl (.s rfl (.s rfl (.s rfl (.s rfl (.s rfl (.s rfl (.s rfl .z))))))))))
   ·skip;replace hL:=Z7 hL;obtain rfl:=XG ZrT;refine WO.Kg gN (Yo.fn YZ (Zb lk Zd)) hS .n (fun g' hz hf hO=>YF (hS.Vg hz) ZrT) ?_;rintro h59 hS;refine Yy.panic ?_;have hp:=Oi0 hL;subst hp;exact ZsX.panic (.s rfl (.s rfl (.s rfl (.s rfl (.s rfl (.s rfl (.s rfl (.s rfl (.s rfl .z)))))))))
  ·intro ZPY h61 ZVK Zr4 hS;replace hL:=Xq ZPY hL;have e64:=Zr4.at (t:=14) rfl (YC rfl (Z8 rfl (Zg rfl fh)));have e65:=Zr4.at (t:=15) rfl (YC rfl (Z8 rfl fh));have e66:=Zr4.at (t:=2) rfl (YC rfl (Zg rfl fh));have e67:=Zr4.at (t:=3) rfl (YC rfl fh);have e68:=Zr4.at (t:=17) rfl (Z8 rfl fh);have e69:=Zr4.at (t:=71) rfl (Zg rfl fh);have e70:=Zr4.at (t:=72) rfl fh;refine r4 ?_;refine WC.Zgs lk rfl<|r2 ?_;refine ZEf.exit<|r1 ?_;refine Z0.Yc<|Z0.Zhi hS k5 ?_;rintro h71 hS;have hr:=Oi0 hL;subst hr;exact Z0.WV rfl Zk rfl ⟨_,⟨rfl,rfl⟩,hT▸hS.only .n⟩
  ·intro ZPX h73 ZVJ Zr3 hS;replace hL:=Xp ZPX hL;have e76:=Zr3.at (t:=14) rfl (YC rfl (Z8 rfl (Zg rfl fh)));have e77:=Zr3.at (t:=15) rfl (YC rfl (Z8 rfl fh));have e78:=Zr3.at (t:=2) rfl (YC rfl (Zg rfl fh));have e79:=Zr3.at (t:=3) rfl (YC rfl fh);have e80:=Zr3.at (t:=17) rfl (Z8 rfl fh);have e81:=Zr3.at (t:=71) rfl (Zg rfl fh);have e82:=Zr3.at (t:=72) rfl fh;refine Yy.panic<|Z0.KU<|Y7.Zhi hS k5 ?_;rintro h83 hS;refine Y7.Z9 ?_;have hr:=Oi0 hL;subst hr;exact⟨rfl,hT▸hS.only .n⟩
 ·skip;simp only[Zq,Zx,Nat.reduceAdd];refine r3 ?_;rintro _ h85 ⟨b84,ZVR,rfl,hS⟩;refine r5 ?_;rintro _ h87 ⟨b86,ZQT,rfl,hS⟩;refine r1 ?_;rintro h88 hS;refine r5 ?_;rintro _ h90 ⟨b89,ZVQ,rfl,hS⟩;refine r4 ?_;refine Vc (WZ (Zb lk (Zb lk (Zb lk Zd))))<|r1 ?_;rintro h91 hS;refine r5 ?_;have hS:=hS.add (A:=Yi wm (YB Zc) (Zf,Ze) p0) (hS.sl Zt) (fun _ z=>z)
  have ZtJ:∀(Fr:Nat)(x:Y×(U Za)×Int×(U (Y×ZI))×(U (Y×Z)))(r:(PR (Z×Int×(U (Y×ZI))×(U (Y×Z))))),loop Fr (Zab F) x=some r->match x with | (v94,v95,KZ,v99,ZfT)=>∀{h:H}(a96:O Addr)(c97:Nat),wm<=h.size->Yp (wm:=wm) [Yi wm (YB Zc) (a96,c97) v95,bx wm b5 [.map (some b2)],bx wm b7 [.map (some b4)],bx wm b11 [.slice Zf p0.length Ze],bx wm b84 [.func (.yield l14) #[] #[]],bx wm b86 [V8 KZ],bx wm b89 [.func (.func 145) #[] #[(V9 b86),(V9 b84),(V9 b89)]],mp wm Value.string Qj (some b2) v99,mp wm Value.string Value.bool (some b4) ZfT,Yi wm (YB Zc) (Zf,Ze) p0,ob wm l14 Zhn] h->WF XX 145 #[.string v94,.slice a96 v95.length c97,(V9 b86),(V9 b84),(V9 b89)] wm h (PQ 147 (fun(r:Z×Int×(U (Y×ZI))×(U (Y×Z)))(v:N)(Gb:U (Ast wm))=>match r with | (v105,ZOX,v107,ZOW)=>v=.bool v105/\Gb=[bx wm b5 [.map (some b2)],bx wm b7 [.map (some b4)],bx wm b11 [.slice Zf p0.length Ze],bx wm b84 [.func (.yield l14) #[] #[]],bx wm b86 [V8 ZOX],bx wm b89 [.func (.func 145) #[] #[(V9 b86),(V9 b84),(V9 b89)]],mp wm Value.string Qj (some b2) v107,mp wm Value.string Value.bool (some b4) ZOW,Yi wm (YB Zc) (Zf,Ze) p0,ob wm l14 Zhn]) [Yi wm (YB Zc) (a96,c97) v95,bx wm b5 [.map (some b2)],bx wm b7 [.map (some b4)],bx wm b11 [.slice Zf p0.length Ze],bx wm b84 [.func (.yield l14) #[] #[]],bx wm b86 [V8 KZ],bx wm b89 [.func (.func 145) #[] #[(V9 b86),(V9 b84),(V9 b89)]],mp wm Value.string Qj (some b2) v99,mp wm Value.string Value.bool (some b4) ZfT,Yi wm (YB Zc) (Zf,Ze) p0,ob wm l14 Zhn] h r):=by
   refine XU _ ?_;rintro Ug Zpj ⟨v94,v95,KZ,v99,ZfT⟩ r hL h a96 c97 Zy hO;obtain⟨T,hT,hS⟩:∃T,T=QF (wm:=wm) [Yi wm (YB Zc) (a96,c97) v95,bx wm b5 [.map (some b2)],bx wm b7 [.map (some b4)],bx wm b11 [.slice Zf p0.length Ze],bx wm b84 [.func (.yield l14) #[] #[]],bx wm b86 [V8 KZ],bx wm b89 [.func (.func 145) #[] #[(V9 b86),(V9 b84),(V9 b89)]],mp wm Value.string Qj (some b2) v99,mp wm Value.string Value.bool (some b4) ZfT,Yi wm (YB Zc) (Zf,Ze) p0,ob wm l14 Zhn]/\Sp wm T h [Yi wm (YB Zc) (a96,c97) v95,bx wm b5 [.map (some b2)],bx wm b7 [.map (some b4)],bx wm b11 [.slice Zf p0.length Ze],bx wm b84 [.func (.yield l14) #[] #[]],bx wm b86 [V8 KZ],bx wm b89 [.func (.func 145) #[] #[(V9 b86),(V9 b84),(V9 b89)]],mp wm Value.string Qj (some b2) v99,mp wm Value.string Value.bool (some b4) ZfT,Yi wm (YB Zc) (Zf,Ze) p0,ob wm l14 Zhn] h:=⟨_,rfl,Sp.start Zy hO⟩
   refine WF.QC (args:=[_,_,_,_,_]) (fn:=Tryz.f145) Kq0 (by exact rfl) Tryz.ntmps145 (by simp) ?_;simp only[Zq,Zx,Nat.reduceAdd];refine r8 ?_;refine Vc (XL ZAp (ZF lk Z5) rfl (cs':=[V7,V8 KZ]) rfl)<|r1 ?_;rintro _ ZVC ⟨ZsB,ZSN,rfl,hS⟩;refine r1 ?_;rintro ZQK hS;refine r7 ?_;rintro h112 hS;refine r11 ?_;have hS:=hS.nil (e:=Zc);refine WC.loop (WL.lift hL (fun p s=>match p with | (Zh5,v124)=>∃ZdK ZHY Zes Zeg n127,s=⟨ZdK,[],ZHY,none⟩/\Sp wm T h [bx wm b84 [.func (.yield l14) #[] #[]],bx wm b89 [.func (.func 145) #[] #[(V9 b86),(V9 b84),(V9 b89)]],bx wm b86 [V8 (YX (KZ+1))],ow wm Zc Zes n127 Zeg v124,bx wm ZsB [.slice Zes n127 Zeg,V8 KZ],bx wm b5 [.map (some b2)],bx wm b7 [.map (some b4)],bx wm b11 [.slice Zf p0.length Ze],Yi wm (YB Zc) (a96,c97) v95,mp wm Value.string Qj (some b2) v99,mp wm Value.string Value.bool (some b4) ZfT,Yi wm (YB Zc) (Zf,Ze) p0,ob wm l14 Zhn] ZHY/\ZdK.at 0=.string v94/\ZdK.at 1=.slice a96 v95.length c97/\ZdK.at 3=(V9 b84)/\ZdK.at 4=(V9 b89)/\ZdK.at 8=(V9 ZsB)/\ZdK.at 17=.slice a96 v95.length c97/\ZdK.at 18= V8 (v95.length:Int)/\ZdK.at 19= V8 Zh5) ⟨_,_,none,0,0,rfl,hS.only (.c k7 (.c k7 (.c k1 (.c k0 (.c k0 (.c k1 (.c k1 (.c k1 (.c k0 (.c k0 (.c k0 (.c k0 (.c k0 .n))))))))))))),QG⟩ ?_);rintro ZcZ ⟨Zh5,v124⟩ s Zys hL ⟨ZdK,ZHY,Zes,Zeg,n127,rfl,hS,e115,e116,e117,e118,e119,e120,ZWz,ZWy⟩;obtain rfl:=hS.on k3;refine r6 ?_;refine cn hL ?_ ?_
   ·intro hc hL;refine r2 ?_;refine WC.ZfV (r:=r) (fun(v139:(U Za)) s=>∃ZdJ ZC0 ZD3 c141 n142,s=⟨ZdJ,[],ZC0,none⟩/\Sp wm T h [bx wm b84 [.func (.yield l14) #[] #[]],bx wm b89 [.func (.func 145) #[] #[(V9 b86),(V9 b84),(V9 b89)]],bx wm b86 [V8 (YX (KZ+1))],ow wm Zc ZD3 n142 c141 v139,bx wm ZsB [.slice ZD3 n142 c141,V8 KZ],bx wm b5 [.map (some b2)],bx wm b7 [.map (some b4)],bx wm b11 [.slice Zf p0.length Ze],Yi wm (YB Zc) (a96,c97) v95,mp wm Value.string Qj (some b2) v99,mp wm Value.string Value.bool (some b4) ZfT,Yi wm (YB Zc) (Zf,Ze) p0,ob wm l14 Zhn] ZC0/\ZdJ.at 0=.string v94/\ZdJ.at 1=.slice a96 v95.length c97/\ZdJ.at 3=(V9 b84)/\ZdJ.at 4=(V9 b89)/\ZdJ.at 8=(V9 ZsB)/\ZdJ.at 17=.slice a96 v95.length c97/\ZdJ.at 18= V8 (v95.length:Int)/\ZdJ.at 19= V8 Zh5) (Zfh Zh5 ZcZ) ?_ ?_
    ·rintro v139 s hL ⟨ZdJ,ZC0,ZD3,c141,n142,rfl,hS,ZWx,ZRc,ZRb,ZRa,ZWw,ZWv,e137,e138⟩;obtain rfl:=hS.on k3;refine r4 ?_;exact Ya.Yc (Zys _ _ hL ⟨_,_,ZD3,c141,v139.length,rfl,hS.only (.c k0 (.c k0 (.c k0 (.c k0 (.c k0 (.c k0 (.c k0 (.c k0 (.c k0 (.c k0 (.c k0 (.c k0 (.c k0 .n))))))))))))),QG⟩)
    ·skip;refine r3 ?_;obtain⟨ZfQ,ZE1,hL⟩:=bS hL;obtain⟨ZW5,ZTZ,⟨⟨a146,ZII⟩,⟨a148,Zk6⟩,⟨ZJc,ZIH⟩⟩,ZHz,ZHP,ZQs,Zje⟩:=Sl.at_ (hS.Uo k8) ZE1;replace Zje:=Z6.1 Zje;refine Vc (Yf Ur Yv lk lk rfl ZHz ZE1) ?_;have hS:=hS.add (A:=Yi wm (YB Yj) (a146,ZII) ZfQ.joins) Zje.1 (fun _ z=>z);have hS:=hS.add (A:=Yi wm (YB Zc) (a148,Zk6) ZfQ.defs) Zje.2.1 (fun _ z=>z);have hS:=hS.add (A:=Yi wm (YB Zm) (ZJc,ZIH) ZfQ.kids) Zje.2.2 (fun _ z=>z);refine Vc (Yx JN Yv (Zj fh rfl) ZHP (j:=0) rfl rfl (ws:=[V8 ZfQ.form,.string ZfQ.text,.slice a146 ZfQ.joins.length ZII,.slice a148 ZfQ.defs.length Zk6,.slice ZJc ZfQ.kids.length ZIH]) rfl)<|r1 ?_;rintro _ ZVm ⟨ZW4,ZSG,rfl,hS⟩;refine r1 ?_;rintro ZVl hS;refine r9 ?_;refine cn hL ?_ ?_
     ·intro hc hL;refine r4 ?_;refine Ve (KI (e:=Zc) hS Ur Yv UE rfl rfl rfl (ZF lk Z5) rfl [(((a146,ZII),(a148,Zk6),(ZJc,ZIH)),ZfQ)] rfl (xs:=[ZfQ]) rfl (by intro q hq;simp only[Kx,Gc,or_false]at hq;subst hq;exact(Z6.2 ⟨(hS.Uo k3),(hS.Uo k2),(hS.Uo k1)⟩)) rfl) ?_;rintro _ ZVk ⟨ZW2,ZSF,rfl,hS⟩;obtain⟨z157,ZKB,hL⟩:=bS hL;refine WO.hv gN rfl (Zak (e:=Zc) hS k8 Zcy lk lk (hS.U8 k0) (hS.on k0) ZKB) ?_;rintro _ ZVh ⟨ZD2,c159,rfl,hS⟩;refine r2 ?_;rintro ZVg hS;refine r2 ?_;exact Xf.Yc _ hL ⟨_,_,ZD2,c159,z157.length,rfl,hS.only (.c k7 (.c k7 (.c k7 (.c k1 (.c k0 (.c k5 (.c k5 (.c k5 (.c k5 (.c k5 (.c k5 (.c k5 (.c k5 .n))))))))))))),QG⟩
     ·intro hc hL;refine r2 ?_;exact Xf.Yc _ hL ⟨_,_,Zes,Zeg,v124.length,rfl,hS.only (.c k4 (.c k4 (.c k4 (.c k4 (.c k4 (.c k4 (.c k4 (.c k4 (.c k4 (.c k4 (.c k4 (.c k4 (.c k4 .n))))))))))))),QG⟩
   ·intro hc hL;refine r11 ?_;refine WO.ZFV gN rfl lk lks hS k12 ZlL rfl rfl<|r7 ?_;rintro _ ZQJ ⟨ZsA,ZM9,rfl,hS⟩;refine r1 ?_;rintro ZQI hS;refine r1 ?_;refine AsZ.sp ZlL hS k13 ?_;rintro ZCY hS;refine r1 ?_;refine WC.ZfV (r:=r) (fun(Zmq:(U (Y×Z))) s=>∃ZtS ZHW,s=⟨ZtS,[],ZHW,none⟩/\Sp wm T h [bx wm b5 [.map (some b2)],bx wm ZsA [.slice Zes v124.length Zeg,V8 KZ],bx wm b7 [.map (some b4)],bx wm b11 [.slice Zf p0.length Ze],bx wm b84 [.func (.yield l14) #[] #[]],bx wm b86 [V8 (YX (KZ+1))],bx wm b89 [.func (.func 145) #[] #[(V9 b86),(V9 b84),(V9 b89)]],bx wm ZsB [.slice Zes v124.length Zeg,V8 KZ],mp wm Value.string Qj (some b2) v99,ow wm Zc Zes v124.length Zeg v124,mp wm Value.string Value.bool (some b4) Zmq,Yi wm (YB Zc) (Zf,Ze) p0,Yi wm (YB Zc) (a96,c97) v95,ob wm l14 (bsy Zhn)] ZHW/\ZtS.at 2=(V9 b5)/\ZtS.at 5=(V9 ZsA)) (Zac F v95 KZ v99 Ug v124) ?_ ?_
    ·rintro Zmq s hL ⟨ZtS,ZHW,rfl,hS,e168,e169⟩;refine r9 ?_;refine WC.loop (WL.lift hL (fun p s=>match p with | (Zmp,ZfR)=>∃Zjh ZHV,s=⟨Zjh,[],ZHV,none⟩/\Sp wm T h [bx wm b5 [.map (some b2)],bx wm ZsA [.slice Zes v124.length Zeg,V8 KZ],bx wm b7 [.map (some b4)],bx wm b11 [.slice Zf p0.length Ze],bx wm b84 [.func (.yield l14) #[] #[]],bx wm b86 [V8 (YX (KZ+1))],bx wm b89 [.func (.func 145) #[] #[(V9 b86),(V9 b84),(V9 b89)]],bx wm ZsB [.slice Zes v124.length Zeg,V8 KZ],ow wm Zc Zes v124.length Zeg v124,mp wm Value.string Qj (some b2) ZfR,mp wm Value.string Value.bool (some b4) Zmq,Yi wm (YB Zc) (Zf,Ze) p0,Yi wm (YB Zc) (a96,c97) v95,ob wm l14 (bsy Zhn)] ZHV/\Zjh.at 2=(V9 b5)/\Zjh.at 5=(V9 ZsA)/\Zjh.at 31=.slice Zes v124.length Zeg/\Zjh.at 32= V8 (v124.length:Int)/\Zjh.at 33= V8 Zmp) ⟨_,_,rfl,hS.only (.c k0 (.c k0 (.c k0 (.c k0 (.c k0 (.c k0 (.c k0 (.c k0 (.c k1 (.c k0 (.c k0 (.c k0 (.c k0 (.c k0 .n)))))))))))))),QG⟩ ?_);rintro Zhv ⟨Zmp,ZfR⟩ s Zyq hL ⟨Zjh,ZHV,rfl,hS,ZQ8,ZWo,ZQ7,ZIx,ZIw⟩;refine r6 ?_;refine cn hL ?_ ?_
     ·intro hc hL;refine r6 ?_;obtain⟨Zdp,ZEZ,hL⟩:=bS hL;obtain⟨ZW1,ZTX,⟨⟨ZD1,ZDN⟩,⟨ZNQ,ZNs⟩,⟨ZNP,ZNr⟩⟩,ZHx,ZHN,Zjc⟩:=Src.at_ (hS.U8 k8) ZEZ;replace Zjc:=Z6.1 Zjc;refine Vc (Yf Ur Yv lk lk rfl ZHx ZEZ) ?_;have hS:=hS.add (A:=Yi wm (YB Yj) (ZD1,ZDN) Zdp.joins) Zjc.1 (fun _ z=>z);have hS:=hS.add (A:=Yi wm (YB Zc) (ZNQ,ZNs) Zdp.defs) Zjc.2.1 (fun _ z=>z);have hS:=hS.add (A:=Yi wm (YB Zm) (ZNP,ZNr) Zdp.kids) Zjc.2.2 (fun _ z=>z);refine Vc (Yx JN Yv (Zj fh rfl) ZHN (j:=0) rfl rfl (ws:=[V8 Zdp.form,.string Zdp.text,.slice ZD1 Zdp.joins.length ZDN,.slice ZNQ Zdp.defs.length ZNs,.slice ZNP Zdp.kids.length ZNr]) rfl)<|r1 ?_;rintro _ ZVb ⟨ZWZ,ZSE,rfl,hS⟩;refine r1 ?_;rintro ZVa hS;refine r11 ?_;refine WC.loop (WL.lift hL (fun p s=>match p with | (ZuJ,Zmo)=>∃ZdG ZHS,s=⟨ZdG,[],ZHS,none⟩/\Sp wm T h [bx wm b5 [.map (some b2)],bx wm ZsA [.slice Zes v124.length Zeg,V8 KZ],bx wm b7 [.map (some b4)],bx wm b11 [.slice Zf p0.length Ze],bx wm b84 [.func (.yield l14) #[] #[]],bx wm b86 [V8 (YX (KZ+1))],bx wm b89 [.func (.func 145) #[] #[(V9 b86),(V9 b84),(V9 b89)]],bx wm ZsB [.slice Zes v124.length Zeg,V8 KZ],ow wm Zc Zes v124.length Zeg v124,Yi wm (YB Yj) (ZD1,ZDN) Zdp.joins,mp wm Value.string Qj (some b2) Zmo,mp wm Value.string Value.bool (some b4) Zmq,Yi wm (YB Zc) (Zf,Ze) p0,Yi wm (YB Zc) (a96,c97) v95,ob wm l14 (bsy Zhn)] ZHS/\ZdG.at 2=(V9 b5)/\ZdG.at 5=(V9 ZsA)/\ZdG.at 31=.slice Zes v124.length Zeg/\ZdG.at 32= V8 (v124.length:Int)/\ZdG.at 33= V8 Zmp/\ZdG.at 38=.slice ZD1 Zdp.joins.length ZDN/\ZdG.at 39= V8 (Zdp.joins.length:Int)/\ZdG.at 40= V8 ZuJ) ⟨_,_,rfl,hS.only (.c k4 (.c k4 (.c k4 (.c k4 (.c k4 (.c k4 (.c k4 (.c k4 (.c k4 (.c k3 (.c k3 (.c k3 (.c k3 (.c k3 (.c k3 .n))))))))))))))),QG⟩ ?_);rintro Ztz ⟨ZuJ,Zmo⟩ s Zyn hL ⟨ZdG,ZHS,rfl,hS,e195,ZWk,e197,ZWj,e199,ZWi,ZWh,e203⟩;refine r6 ?_;refine cn hL ?_ ?_
      ·intro hc hL;refine r6 ?_;obtain⟨Zdo,ZEU,hL⟩:=bS hL;obtain⟨ZRw,ZTU,⟨ZNN,c210⟩,ZHu,ZHK,ZQq,ZHD⟩:=Sl.at_ (hS.Uo k9) ZEU;refine Vc (Yf WJ X4 lk lk rfl ZHu ZEU) ?_;have hS:=hS.add (A:=Yi wm (YB Xb) (ZNN,c210) Zdo.names) ZHD (fun _ z=>z);refine Vc (Yx Zeo X4 (Zj fh rfl) ZHK (j:=0) rfl rfl (ws:=[.string Zdo.text,.slice ZNN Zdo.names.length c210]) rfl)<|r1 ?_;rintro _ ZQG ⟨ZWW,ZSB,rfl,hS⟩;refine r1 ?_;rintro ZQF hS;refine r9 ?_;refine Vc (XL ZIM (ZF lk (ZF lk Z5)) rfl (cs':=[V8 KZ,V8 (Zdo.names.length:Int)]) rfl)<|r1 ?_;rintro _ ZCX ⟨ZWV,ZSA,rfl,hS⟩;refine r1 ?_;rintro ZUZ hS;refine r7 ?_;obtain⟨Zhc,ZKR,hL⟩:=bS hL;refine Vc (ZAw (kv:=Value.string) (vv:=Qj) (k:=Zdo.text) (z:=(ZI.mk 0 0)) Ws Zrb Zmj (Zj (Z8 rfl fh) rfl) (Zj fh rfl) (hS.get k13).at_ ZKR (w:=.agg #[V8 Zhc.1.at_,V8 Zhc.1.many]) rfl)<|r4 ?_;rintro _ ZUY ⟨ZWU,ZSz,rfl,hS⟩;refine r1 ?_;rintro ZUX hS;refine r10 ?_;refine WO.gv (Zn.no rfl rfl rfl (Z8 rfl fh)) rfl (fun hg=>(Y5 (WG (Zg rfl fh) rfl hg) (WG fh rfl hg) (ZAV (xs:=[V8 Zhc.1.at_,V8 Zhc.1.many]) (ys:=[V8 KZ,V8 (Zdo.names.length:Int)]) (ZIp Zhc.1 (ZI.mk KZ (Zdo.names.length:Int))) rfl rfl)))<|r1 ?_;obtain⟨ZF2,Zx2,hL⟩:=bS hL;rcases ZF2 with ZOB|e223
       ·skip;replace hL:=Yw hL;refine Vd (Yo.fn YZ (Zb lk Zd)) hS .n (fun g' hz hf hO=>(PQ.ok (YF (p0:=((!Zhc.2)||(Ua Zhc.1 (ZI.mk KZ (Zdo.names.length:Int))))) (hS.Vg hz) Zx2))) ?_;rintro _ ZUW _ ⟨rfl,rfl⟩ hS;simp only[GY,G5]at hS;refine r7 ?_;refine WO.hu gN (ZeA (kv:=Value.string) (vv:=Qj) (k:=Zdo.text) (v:=(ZI.mk KZ (Zdo.names.length:Int))) hS k14 Ws Zrb (Zj (Z8 rfl (Zg rfl fh)) rfl) (Zj (Zg rfl fh) rfl) (Zj fh rfl)) ?_;rintro ZUV hS;refine r7 ?_;exact Ya.Yc (Zyn _ _ hL ⟨_,_,rfl,hS.only (.c k5 (.c k5 (.c k5 (.c k5 (.c k5 (.c k5 (.c k5 (.c k5 (.c k5 (.c k5 (.c k0 (.c k4 (.c k4 (.c k4 (.c k4 .n))))))))))))))),QG⟩)
       ·skip;replace hL:=Z7 hL;obtain rfl:=XG Zx2;refine WO.Kg gN (Yo.fn YZ (Zb lk Zd)) hS .n (fun g' hz hf hO=>YF (p0:=((!Zhc.2)||(Ua Zhc.1 (ZI.mk KZ (Zdo.names.length:Int))))) (hS.Vg hz) Zx2) ?_;rintro ZUU hS;refine ZB.panic<|Yy.panic<|ZB.panic<|Ya.panic<|Yy.panic<|Yy.panic<|ZB.panic<|Ya.panic<|Yy.panic<|Yy.panic<|BdZ.Z9 ZlL hS (.s (.s (.s k15)))<|ZB.panic<|ZB.panic<|Z0.KU ?_;have hr:=Oi0 hL;subst hr;exact Y7.Z9 ⟨rfl,hT▸hS.only .n⟩
      ·intro hc hL;refine r10 ?_;exact Ya.Yc (Zyq _ _ hL ⟨_,_,rfl,hS.only (.c k0 (.c k0 (.c k0 (.c k0 (.c k0 (.c k0 (.c k0 (.c k0 (.c k0 (.c k1 (.c k1 (.c k1 (.c k1 (.c k1 .n)))))))))))))),QG⟩)
     ·intro hc hL;refine r5 ?_;refine BdZ.sp ZlL hS k13 ?_;rintro ZUT hS;refine r3 ?_;refine cn hL ?_ ?_
      ·intro hc hL;refine r7 ?_;have hr:=Oi0 hL;subst hr;exact Z0.WV rfl (ZG lk Zk) rfl ⟨_,⟨rfl,rfl⟩,hT▸hS.only (.c k1 (.c k2 (.c k2 (.c k2 (.c k2 (.c k2 (.c k4 (.c k4 (.c k4 (.c k0 .n))))))))))⟩
      ·intro hc hL;refine r11 ?_;refine WC.loop (WL.lift hL (fun p s=>match p with | (v234,v236,ZuH,ZuG)=>∃ZlN ZHR,s=⟨ZlN,[],ZHR,none⟩/\Sp wm T h [bx wm b89 [.func (.func 145) #[] #[(V9 b86),(V9 b84),(V9 b89)]],bx wm b86 [V8 v236],bx wm b84 [.func (.yield l14) #[] #[]],bx wm b5 [.map (some b2)],bx wm b7 [.map (some b4)],bx wm b11 [.slice Zf p0.length Ze],Yi wm (YB Zc) (a96,c97) v95,mp wm Value.string Qj (some b2) ZuH,mp wm Value.string Value.bool (some b4) ZuG,Yi wm (YB Zc) (Zf,Ze) p0,ob wm l14 Zhn] ZHR/\ZlN.at 4=(V9 b89)/\ZlN.at 38=.slice a96 v95.length c97/\ZlN.at 39= V8 (v95.length:Int)/\ZlN.at 40= V8 v234) ⟨_,_,rfl,hS.only (.c k7 (.c k6 (.c k5 (.c k1 (.c k2 (.c k2 (.c k7 (.c k4 (.c k4 (.c k4 (.c k0 .n))))))))))),QG⟩ ?_);rintro ZmQ ⟨v234,v236,ZuH,ZuG⟩ s Zpg hL ⟨ZlN,ZHR,rfl,hS,e231,e232,e233,ZWf⟩;refine r6 ?_;refine cn hL ?_ ?_
       ·intro hc hL;refine r6 ?_;obtain⟨Zha,ZES,hL⟩:=bS hL;obtain⟨ZWQ,ZTS,⟨⟨ZNL,ZNo⟩,⟨ZD0,ZDM⟩,⟨ZNK,ZNn⟩⟩,ZHs,ZHI,ZQo,Zja⟩:=Sl.at_ (hS.Uo k6) ZES;replace Zja:=Z6.1 Zja;refine Vc (Yf Ur Yv lk lk rfl ZHs ZES) ?_;have hS:=hS.add (A:=Yi wm (YB Yj) (ZNL,ZNo) Zha.joins) Zja.1 (fun _ z=>z);have hS:=hS.add (A:=Yi wm (YB Zc) (ZD0,ZDM) Zha.defs) Zja.2.1 (fun _ z=>z);have hS:=hS.add (A:=Yi wm (YB Zm) (ZNK,ZNn) Zha.kids) Zja.2.2 (fun _ z=>z);refine Vc (Yx JN Yv (Zj fh rfl) ZHI (j:=0) rfl rfl (ws:=[V8 Zha.form,.string Zha.text,.slice ZNL Zha.joins.length ZNo,.slice ZD0 Zha.defs.length ZDM,.slice ZNK Zha.kids.length ZNn]) rfl)<|r1 ?_;rintro _ ZUP ⟨ZWO,ZSx,rfl,hS⟩;refine r1 ?_;rintro ZUO hS;refine r13 ?_;refine WO.Zr6 (Zn.Zq7 rfl rfl rfl (YC rfl (Zg rfl fh)) (Zib rfl (Zic (YC rfl fh) (Zid rfl)))) (fun Kc=>?_) (fun Kc=>?_)
        ·replace hL:=Xp Kc hL;obtain⟨ZFX,hx255,hL⟩:=bS hL;rcases ZFX with⟨ZuF,ZGd,ZGc,ZGb⟩|e254
         ·skip;replace hL:=Yw hL;dsimp only at hL;refine WO.cl (Zn.on (Zn.Zq7 rfl rfl rfl (YC rfl (Zg rfl fh)) (Zib rfl (Zic (YC rfl fh) (Zid rfl)))) Kc) rfl (Yo.clo (first:=[]) (cap:=[(V9 b86),(V9 b84),(V9 b89)]) (WG (YC rfl fh) rfl Kc) Zf7 (Zb (WG (Z8 rfl fh) rfl Kc) (Zb (WG fh rfl Kc) Zd)) rfl) hS (.c k2 (.c k6 (.c k6 (.c k6 (.c k5 (.c k4 (.c k3 (.c k4 (.c k4 (.c k4 (.c k4 .n))))))))))) (fun g' hz hf hO=>PQ.ok (Zpj _ _ hx255 ZD0 ZDM (hS.Vg hz) hO)) ?_;rintro _ ZQE _ ⟨rfl,rfl⟩ hS;refine WO.w (Zn.on (Zn.yes rfl rfl rfl (YC rfl (Z8 rfl fh))) Kc) rfl (Zcv lk)<|Vc (ZsC lk Kc lk)<|r2 ?_;refine cn hL ?_ ?_
          ·intro hc hL;refine r11 ?_;have hr:=Oi0 hL;subst hr;exact Z0.WV rfl (ZG lk Zk) rfl ⟨_,⟨rfl,rfl⟩,hT▸hS.only (.c k0 (.c k0 (.c k0 (.c k0 (.c k0 (.c k0 (.c k0 (.c k0 (.c k0 (.c k0 .n))))))))))⟩
          ·intro hc hL;refine r7 ?_;exact Ya.Yc (Zpg _ _ hL ⟨_,_,rfl,hS.only (.c k5 (.c k4 (.c k3 (.c k0 (.c k0 (.c k0 (.c k7 (.c k0 (.c k0 (.c k0 (.c k0 .n))))))))))),QG⟩)
         ·skip;replace hL:=Z7 hL;refine WO.Kg (Zn.on (Zn.Zq7 rfl rfl rfl (YC rfl (Zg rfl fh)) (Zib rfl (Zic (YC rfl fh) (Zid rfl)))) Kc) (Yo.clo (first:=[]) (cap:=[(V9 b86),(V9 b84),(V9 b89)]) (WG (YC rfl fh) rfl Kc) Zf7 (Zb (WG (Z8 rfl fh) rfl Kc) (Zb (WG fh rfl Kc) Zd)) rfl) hS (.c k2 (.c k6 (.c k6 (.c k6 (.c k5 (.c k4 (.c k3 (.c k4 (.c k4 (.c k4 (.c k4 .n))))))))))) (fun g' hz hf hO=>Zpj _ _ hx255 ZD0 ZDM (hS.Vg hz) hO) ?_;rintro ZUM hS;refine ZB.panic<|Yy.panic<|ZB.panic<|Ya.panic<|Yy.panic<|ZB.panic<|Z0.KU ?_;have hr:=Oi0 hL;subst hr;exact Y7.Z9 ⟨rfl,hT▸hS.only .n⟩
        ·replace hL:=Xq Kc hL;refine WO.ZmN (Zn.Zq7 rfl rfl rfl (YC rfl (Zg rfl fh)) (Zib rfl (Zic (YC rfl fh) (Zid rfl)))) Kc rfl<|WO.ZmN (Zn.yes rfl rfl rfl (YC rfl (Z8 rfl fh))) Kc rfl<|Vc (ZsD lk Kc lk)<|r2 ?_;refine WC.Zgs lk rfl<|r7 ?_;exact Ya.Yc (Zpg _ _ hL ⟨_,_,rfl,hS.only (.c k4 (.c k4 (.c k4 (.c k4 (.c k4 (.c k4 (.c k4 (.c k4 (.c k4 (.c k4 (.c k4 .n))))))))))),QG⟩)
       ·intro hc hL;refine r11 ?_;have hr:=Oi0 hL;subst hr;exact Z0.WV rfl (ZG lk Zk) rfl ⟨_,⟨rfl,rfl⟩,hT▸hS.only (.c k3 (.c k3 (.c k3 (.c k2 (.c k1 (.c k0 (.c k1 (.c k1 (.c k1 (.c k1 .n))))))))))⟩
    ·skip;refine r7 ?_;refine cn hL ?_ ?_
     ·intro hc hL;refine r4 ?_;obtain⟨Zwu,ZKP,hL⟩:=bS hL;refine Vc (Zdk (kv:=Value.string) (vv:=Value.bool) (k:=v94) (z:=false) Ws JR ZhZ (Zj (Zg rfl fh) rfl) (Zj fh rfl) (hS.get k12).at_ ZKP (w:=.bool Zwu) rfl)<|r1 ?_;obtain⟨Zwt,Zx1,hL⟩:=bS hL;rcases Zwt with ZJV|e267
      ·skip;replace hL:=Yw hL;refine Vd (Yo.fn YZ (Zb lk Zd)) hS .n (fun g' hz hf hO=>(PQ.ok (YF (hS.Vg hz) Zx1))) ?_;rintro _ ZUJ _ ⟨rfl,rfl⟩ hS;refine r5 ?_;refine WO.hu gN (ZeA (kv:=Value.string) (vv:=Value.bool) (k:=v94) (v:=true) hS k12 Ws JR (Zj (Zg rfl fh) rfl) (Zj fh rfl) (J2 rfl)) ?_;rintro ZUI hS;refine r1 ?_;exact Xf.Yc _ hL ⟨_,_,rfl,hS.only (.c k8 (.c k2 (.c k7 (.c k7 (.c k2 (.c k3 (.c k2 (.c k3 (.c k4 (.c k2 (.c k0 (.c k2 (.c k1 (.c k0 .n)))))))))))))),QG⟩
      ·skip;replace hL:=Z7 hL;obtain rfl:=XG Zx1;refine WO.Kg gN (Yo.fn YZ (Zb lk Zd)) hS .n (fun g' hz hf hO=>YF (hS.Vg hz) Zx1) ?_;rintro ZUH hS;refine ZB.panic<|Xf.panic<|Yy.panic<|BdZ.Z9 ZlL hS k0<|ZB.panic<|ZB.panic<|Z0.KU ?_;have hr:=Oi0 hL;subst hr;exact Y7.Z9 ⟨rfl,hT▸hS.only .n⟩
     ·intro hc hL;refine r1 ?_;exact Xf.Yc _ hL ⟨_,_,rfl,hS.only (.c k7 (.c k1 (.c k6 (.c k6 (.c k1 (.c k2 (.c k1 (.c k2 (.c k3 (.c k1 (.c k2 (.c k2 (.c k1 (.c k0 .n)))))))))))))),QG⟩
  have hS:=hS.add (A:=Yi wm (YB Zc) (Zf,Ze) p0) (hS.get k0) (fun _ z=>z);obtain⟨ZFW,ZER,hL⟩:=bS hL;rcases ZFW with⟨ZOS,ZOR,ZBI,Zwz⟩|e273
  ·skip;replace hL:=Yw hL;dsimp only at hL;refine Vd (Yo.clo (first:=[]) (cap:=[(V9 b86),(V9 b84),(V9 b89)]) lk Zf7 lks rfl) hS (.c k1 (.c k8 (.c k7 (.c k6 (.c k3 (.c k2 (.c k1 (.c k4 (.c k3 (.c k0 (.c k0 .n))))))))))) (fun g' hz hf hO=>PQ.ok (ZtJ _ _ _ ZER Zf Ze (hS.Vg hz) hO)) ?_;rintro _ ZQD _ ⟨rfl,rfl⟩ hS;refine r1 ?_;exact Z0.Yc<|Z0.Zvz rfl Zk rfl ⟨_,hL,⟨rfl,hS.only (.c k0 (.c k0 (.c k0 (.c k3 (.c k3 (.c k4 (.c k4 .n)))))))⟩⟩
  ·skip;replace hL:=Z7 hL;refine WO.Kg gN (Yo.clo (first:=[]) (cap:=[(V9 b86),(V9 b84),(V9 b89)]) lk Zf7 lks rfl) hS (.c k1 (.c k8 (.c k7 (.c k6 (.c k3 (.c k2 (.c k1 (.c k4 (.c k3 (.c k0 (.c k0 .n))))))))))) (fun g' hz hf hO=>ZtJ _ _ _ ZER Zf Ze (hS.Vg hz) hO) ?_;rintro ZUG hS;refine Z0.KU<|Y7.ZGA<|Yy.panic<|ZB.panic<|Z0.KU<|Y7.Zhi hS k0 ?_;rintro ZUF hS;refine Y7.Z9 ?_;have hr:=Oi0 hL;subst hr;exact⟨rfl,hT▸hS.only .n⟩
end
section
def Zse:Unit->O (PR Unit):=fun _=>
 some (.ok ())
def Zjz(WQ:(Part->O (PR Z)))(x51:(U Part)):Int->(Int->O (PR Z))->O (PR Z):=fun v60 Zxw=>
 (bif decide (v60<(x51.length:Int)) then(ZN x51 v60).bind fun x63=>(WQ x63).bind fun y67=>JS y67 (fun e68=>some (.Z9 e68)) (fun v72=>(bif(!v72) then some (.ok false) else Zxw (YX (v60+1)))) else some (.ok true))
def KQ(F:Nat)(v40:Part)(WQ:(Part->O (PR Z))):Unit->O (PR Z):=fun _=>
 (bif(!true) then some (.ok false) else(ZbX F v40).bind fun x51=>loop F (Zjz WQ x51) 0)
def Zea(F:Nat):Part->(Part->O (PR Z))->O (PR Z):=fun v40 WQ=>
 Zlp v40 (fun v75=>(bif(true&&(v75.op==4)) then(ZdL F v75.defs).bind fun x89=>JS x89 (fun e91=>some (.Z9 e91)) (fun y90=>(KQ F v40 WQ) ()) else(KQ F v40 WQ) ())) (fun v76=>(bif(false&&(0==4)) then(ZdL F []).bind fun ZF5=>JS ZF5 (fun e108=>some (.Z9 e108)) (fun ZOF=>(KQ F v40 WQ) ()) else(KQ F v40 WQ) ())) (fun v77=>(bif(false&&(0==4)) then(ZdL F []).bind fun Zww=>JS Zww (fun e125=>some (.Z9 e125)) (fun ZOE=>(KQ F v40 WQ) ()) else(KQ F v40 WQ) ()))
def Zjx(F:Nat)(p0:Part):Int->O (PR Unit):=fun v13=>
 (ZDl F p0).bind fun x15=>(JI (decide (x15<=12))).bind fun x16=>JS x16 (fun e18=>some (.Z9 2)) (fun y17=>(loop F (Zea F) p0).bind fun ZF0=>JS ZF0 (fun ZNb=>some (.Z9 ZNb)) (fun ZOV=>(Zse) ()))
def Zjy(Zhx:(Part×Int->O (PR (Z×Int))))(Zmm:(U Part)):Int×Int->(Int×Int->O (PR (Z×Int)))->O (PR (Z×Int)):=fun(ZfR,ZwC) ZtA=>
 (bif decide (ZfR<(Zmm.length:Int)) then(ZN Zmm ZfR).bind fun ZBF=>(Zhx (ZBF,ZwC)).bind fun ZFZ=>JS ZFZ (fun ZIu=>some (.Z9 ZIu)) (fun(Zoj,v193)=>(bif(!Zoj) then some (.ok (false,v193)) else ZtA (YX (ZfR+1),v193))) else some (.ok (true,ZwC)))
def Zck(F:Nat):Part×Int->(Part×Int->O (PR (Z×Int)))->O (PR (Z×Int)):=fun(v148,ZfS) Zhx=>
 (JI (decide ((YX (ZfS+1))<=60))).bind fun x159=>JS x159 (fun ZQ9=>some (.Z9 2)) (fun y160=>(Zp6 F v148).bind fun ZF4=>JS ZF4 (fun e166=>some (.Z9 e166)) (fun ZOD=>(bif(!true) then some (.ok (false,YX (ZfS+1))) else(ZbX F v148).bind fun Zmm=>loop F (Zjy Zhx Zmm) (0,YX (ZfS+1)))))
def ZzB(F:Nat)(p0:Part):O (PR Unit):=
 (loop F (Zck F) (p0,0)).bind fun ZFY=>JS ZFY (fun e199=>some (.Z9 e199)) (fun(v203,Zmo)=>(Zjx F p0) Zmo)
end
end Go.Proofs.YtbnepjakjmnadaaGreat
end
end
