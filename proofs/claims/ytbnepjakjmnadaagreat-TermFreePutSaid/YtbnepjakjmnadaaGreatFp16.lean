/- Part 16. -/
import Derived.Test.YtbnepjakjmnadaaGreatFp15
set_option linter.all false
set_option maxHeartbeats 2000000
section
set_option maxRecDepth 20000
noncomputable section
namespace Go.Proofs.YtbnepjakjmnadaaGreat
open Go.ZF Go.Lf
section
def ZfI(p0:Ze)(Ym:(Ze->O Ze)):Int×(U Ze)->(Int×(U Ze)->O Ze)->O Ze:=fun(v15,v17) Zcg=>
 (bif decide (v15<(p0.qQ.length:Int)) then(YA p0.qQ v15).bind fun x22=>(Ym x22).bind fun x30=>(app 56 v17 [x30]).bind fun z38=>Zcg (XO (v15+1),z38) else some (Ze.mk p0.op p0.n p0.qJ v17))
def ZeD(F:Nat):Ze->(Ze->O Ze)->O Ze:=fun p0 Ym=>
 loop F (ZfI p0 Ym) (0,[])
def Zu5(F:Nat)(p0:Ze):O Ze:=
 loop F (ZeD F) p0
end
section
def ZAU{F wm:Nat}:∀(Fr:Nat)(p0:Ze)(r:Ze),loop Fr (ZeD F) p0=some r->(∀{h:H}{Zg:O Addr}{Zf:Nat}(Zt:wm<=h.size)(Zw:Sl Zh wm h Zg Zf p0.qQ),WR XX 148 #[.agg (q2W p0 Zg Zf).toArray] wm h (CP (fun v (Gb:U (Ast wm))=>∃Y3 Y2,v=.agg (q2W r Y3 Y2).toArray/\Gb=[Ye wm (Yy Zh) (Y3,Y2) r.qQ]) [] h)):=by
 refine Qt _ ?_;rintro Ym XB p0 r hL h Zg Zf Zt Zw;refine bg Tryz.ntmps148 Zt Z7.nil ?_;intro T hT hS;refine r3 ?_;rintro _ h3 ⟨b2,eb2,rfl,hS⟩;refine r1 ?_;rintro _ h5 ⟨b4,eb4,rfl,hS⟩;refine r10 ?_;refine Vi (XC Zvk (ZE lk (ZE lk (ZE lk ZV))) rfl (cs':=[Ve p0.op,Ve p0.n,.string p0.qJ,Vd]) rfl)<|r1 ?_;rintro _ h7 ⟨b6,eb6,rfl,hS⟩;refine r1 ?_;rintro h8 hS;refine r12 ?_;have hS:=hS.nil (e:=Zh);refine WC.loop (WL.lift hL (fun p s=>match p with | (v15,v17)=>∃X8 h9 a18 c19 n20,s=⟨X8,[],h9,none⟩/\Sp wm T h [bx wm b4 [Ve 0,Ve 0,.string (⟨#[]⟩:Y),Vd],ow wm Zh a18 n20 c19 v17,bx wm b6 [Ve p0.op,Ve p0.n,.string p0.qJ,.slice a18 n20 c19]] h9/\X8.at 2=(Vf b4)/\X8.at 3=(Vf b6)/\X8.at 14=.slice Zg p0.qQ.length Zf/\X8.at 15= Ve (p0.qQ.length:Int)/\X8.at 16= Ve v15) ⟨_,_,none,0,0,rfl,hS.only (.c k2 (.c k0 (.c k0 .n))),Y1⟩ ?_);rintro Zcg ⟨v15,v17⟩ s Jr hL ⟨X8,h9,a18,c19,n20,rfl,hS,e11,e12,e13,e14,e16⟩;obtain rfl:=hS.on k1;refine r6 ?_;refine cn hL ?_ ?_
 ·intro hc hL;refine r6 ?_;obtain⟨x22,Zbr,hL⟩:=bS hL;obtain⟨b23,o24,⟨a25,c26⟩,JE,JG,JF,QM⟩:=Sl.at_ Zw Zbr;replace QM:=YB.1 QM;refine Vi (ZQ Zan Xl lk lk rfl JE Zbr) ?_;have Zfn:Sl Zh wm h a25 c26 x22.qQ:=QM;refine Vi (YN U8 Xl (Zm fh rfl) (At.fz hS.fz JF JG) (j:=0) rfl rfl (ws:=(q2W x22 a25 c26)) rfl)<|r1 ?_;rintro _ h28 ⟨b27,ZSg,rfl,hS⟩;refine r1 ?_;rintro h29 hS;refine r2 ?_;refine WC.JR mixed Kq0<|r3 ?_;obtain⟨x30,Zlg,hL⟩:=bS hL;refine WX.cl0 gN rfl (Yh.fn ZzK (Zb lk Zd)) hS .n (fun g' hz hf hO=>(XB _ _ Zlg) (hS.Vm hz) ((hS.sl Zfn).mono hf)) ?_ rfl rfl;rintro _ h34 _ ⟨a31,c33,rfl,rfl⟩ hS;refine WX.hn gN rfl (Zal (e:=Zh) hS Zan Xl Zgp rfl rfl rfl (ZE lk ZV) rfl [((a31,c33),x30)] rfl (xs:=[x30]) rfl (by intro q hq;simp only[Kd,G9,or_false]at hq;subst hq;exact(YB.2 (hS.fsl k0))) rfl) ?_ rfl;rintro _ h37 ⟨b36,ZED,rfl,hS⟩;obtain⟨z38,ZHF,hL⟩:=bS hL;refine WX.hv gN rfl (KX (e:=Zh) hS k4 ZkN lk lk (hS.Jk k0) (hS.on k0) ZHF) ?_ rfl rfl [] Kq0 XI.e;rintro _ h41 ⟨a39,c40,rfl,hS⟩;refine WX.w gN rfl (Xf ZnV lk) ?_ Kq0;refine WX.hu gN (Zb5 hS k5 Znf lk lk (vs:=[.slice a39 z38.length c40]) rfl rfl rfl rfl (cs':=[Ve p0.op,Ve p0.n,.string p0.qJ,.slice a39 z38.length c40]) rfl) ?_ rfl Kq0 [] Kq0 XI.e;rintro h42 hS;refine r7 ?_;exact ZM.YG (Jr _ _ hL ⟨_,_,a39,c40,z38.length,rfl,hS.only (.c k5 (.c k1 (.c k0 .n))),Y1⟩)
 ·intro hc hL;refine r9 ?_;rintro h43 hS;refine r2 ?_;refine WC.fzn hS k1 ?_;rintro h44 ⟨hn45,hS⟩;refine r1 ?_;have hr:=Oi0 hL;subst hr;exact YK.XY rfl (Yn (Yb rfl e11) (Xz U8 Xl (hS.UC k1) (j:=0) rfl rfl (ws:=[Ve p0.op,Ve p0.n,.string p0.qJ,.slice a18 v17.length c19]) rfl) Zj) ⟨_,⟨a18,c19,rfl,rfl⟩,hT▸hS.only (.c k0 .n)⟩
def ZEt{F wm h}{p0:Ze}{Zg Zf}{r}(Zt:wm<=h.size)(Zw:Sl Zh wm h Zg Zf p0.qQ)(hL:Zu5 F p0=some r):
 WR XX 148 #[.agg (q2W p0 Zg Zf).toArray] wm h (CP (fun v (Gb:U (Ast wm))=>∃Y3 Y2,v=.agg (q2W r Y3 Y2).toArray/\Gb=[Ye wm (Yy Zh) (Y3,Y2) r.qQ]) [] h):=
 ZAU F p0 r hL Zt Zw
end
section
def ZqJ(p0:Y):O Ze:=
 some (Ze.mk 2 0 p0 [])
end
section
def Zu3{wm h}{p0:Y}{r}(Zt:wm<=h.size)(hL:ZqJ p0=some r):
 WR XX 172 #[.string p0] wm h (CP (fun v (Gb:U (Ast wm))=>∃Y3 Y2,v=.agg (q2W r Y3 Y2).toArray/\Gb=[Ye wm (Yy Zh) (Y3,Y2) r.qQ]) [] h):=by
 refine bg Tryz.ntmps172 Zt Z7.nil ?_;intro T hT hS;unfold ZqJ at hL;refine r3 ?_;rintro _ h2 ⟨b1,eb1,rfl,hS⟩;refine r5 ?_;refine Vi (XC Zvk (ZE lk (ZE lk ZV)) rfl (cs':=[Ve 2,Ve 0,.string p0,Vd]) rfl)<|r1 ?_;rintro h3 hS;refine r3 ?_;have hS:=hS.add (A:=Ye wm (Yy Zh) (none,0) []) Sl.nil (fun _ z=>z);have hr:=Oi0 hL;subst hr;exact YK.XY rfl (Yn (Yb rfl fh) (Xz U8 Xl (hS.UC k1) (j:=0) rfl rfl (ws:=[Ve 2,Ve 0,.string p0,Vd]) rfl) Zj) ⟨_,⟨none,0,rfl,rfl⟩,hT▸hS.only (.c k0 .n)⟩
end
end Go.Proofs.YtbnepjakjmnadaaGreat
end
end
section
set_option maxRecDepth 20000
noncomputable section
namespace Go.ZF
open Go.Lf
variable{P:V7}
def Uf(o:O Nat):N:=.pointer (o.map fun b=>⟨b,0,none⟩)
abbrev pV(b:Nat):N:=(Vf b)
def ZrA{t e:J}{x:V6}{o:O Nat}(hu:P.underlying t=some (.pointer e)):XT P .neq t x (.const (.pointer none)) (Uf o) (.pointer none)=some (.val (.bool o.isSome),.none):=by
 cases o with
 | some b=>
   have hp:(plain (Uf (some b))&&plain (.pointer none))=false:=rfl;unfold XT;rw[hp,Cq0];have:K5 P t (Uf (some b)) (.pointer none)=some false:=by unfold K5;rw[hu];rfl
   rw[this];rfl
 | none=>
   unfold XT;rw[show(plain (Uf none)&&plain (.pointer none))=true from rfl,Cq1];unfold U0
   have h1:Zr P (eqGuard .neq t x (.const (.pointer none)) (Uf none) (.pointer none))=some (.ok ()):=by
    cases x<;>rfl
   rw[prb h1]
   have h2:Zr P (Op.equal t (Uf none) (.pointer none))=some (.ok true):=by
    show Zr P (Op.equalIn (9999+1) t (.pointer none) (.pointer none))=_;unfold Op.equalIn;rw[prb (Yx hu)];rfl
   have:Zr P (binOp .neq t (Uf none) (.pointer none))=some (.ok (.bool false)):=by
    show Zr P (do pure (Value.bool (!(<-Op.equal t (Uf none) (.pointer none)))):Sem N)=_;rw[prb h2];rfl
   rw[this];rfl
def Zjq{κ ν μ:Type}[DecidableEq κ](f:ν->μ)(l:U (κ×ν))(k:κ):Z8 (l.map fun q=>(q.1,f q.2)) k=(Z8 l k).map fun q=>(q.1,f q.2):=by
 induction l with
 | nil=>rfl
 | cons p l ih=>
   simp only[Gd,Z8];by_cases h:p.1=k
   ·rw[if_pos h,if_pos h];rfl
   ·rw[if_neg h,if_neg h,ih];cases Z8 l k<;>rfl
def Zl4{κ ν μ:Type}[DecidableEq κ](f:ν->μ)(l:U (κ×ν))(k:κ):Zq (l.map fun q=>(q.1,f q.2)) k=(Zq l k).map f:=by
 unfold Zq;rw[Zjq];cases Z8 l k<;>rfl
end Go.ZF
end
end
section
set_option maxRecDepth 20000
noncomputable section
namespace Go.Proofs.YtbnepjakjmnadaaGreat
open Go.ZF Go.Lf
section
abbrev EV:=SlP×Ze
def vvE(q:EV):N:=.agg (Zt4 q.1 q.2).toArray
def ev0:EV:=((none,0),⟨0,0,⟨#[]⟩,[]⟩)
structure SE where
 b:Nat
 ar:Option Nat
 m:Option Nat
 es:List (ByteArray×EV)
def Zt5(w:Nat)(e:SE):U N:=[pV w,Uf e.ar,.map e.m]
def stA(wm w:Nat)(S:U SE):Ast wm where
 P:=fun h=>∀e∈S,(h.at e.b=.row (Zt5 w e) true 0/\wm<=e.b)/\ZcX Value.string vvE wm h e.m e.es/\∀x∈e.es,ZcZ wm h x.2.1 x.2.2
 fp:=fun i=>∃e∈S,i=e.b\/e.m=some i
 loc:=fun f k s e he=>⟨⟨by rw[k e.b ⟨e,he,.inl rfl⟩];exact(s e he).1.1,(s e he).1.2⟩,⟨(s e he).2.1.at_.keep fun i hi=>k i ⟨e,he,.inr hi⟩,(s e he).2.1.low⟩,fun x hx=>((s e he).2.2 x hx).mono f⟩
 own:=fun{h i} s ⟨e,he,hi⟩=>by
  rcases hi with rfl|hi
  ·exact⟨(s e he).1.2,by rw[(s e he).1.1];rfl⟩
  ·refine⟨(s e he).2.1.low i hi,?_⟩;rcases(s e he).2.1.at_.mem with⟨q,_⟩|⟨j,bs,Y6,q,h1,_⟩
   ·rw[q]at hi;cases hi
   ·rw[q]at hi;cases hi;rw[h1];rfl
abbrev NM:=U (Y×Ze)
def Znw(es:U (Y×EV)):NM:=es.map fun q=>(q.1,q.2.2)
inductive Rd(S:List SE):Option Nat->List NM->Prop
 | nil:Rd S none []
 | cons {e:SE} {c:List NM} (he:e∈S) (hr:Rd S e.ar c):Rd S (some e.b) (Znw e.es::c)
def Rd.mono{S S':U SE}(hs:∀e∈S,e∈S'){o:O Nat}{c:U NM}(r:Rd S o c):Rd S' o c:=by
 induction r with
 | nil=>exact .nil
 | cons he _ ih=>exact .cons (hs _ he) ih
def Zr4:XX.P.underlying 111=some (.pointer 164):=Kq0
def ZiQ:XX.P.underlying 115=some (.map 9 36):=Kq0
def ZAe:Zo XX.P 164 0 0:=Zo.of Kq0
instance:Qr XX.P 164 0 0:=⟨ZAe⟩
def ZfB:Zo XX.P 164 1 1:=Zo.of Kq0
instance:Qr XX.P 164 1 1:=⟨ZfB⟩
def Zj0:Zo XX.P 164 2 2:=Zo.of Kq0
instance:Qr XX.P 164 2 2:=⟨Zj0⟩
def ZAs:Zo XX.P 110 0 0:=Zo.of Kq0
instance:Qr XX.P 110 0 0:=⟨ZAs⟩
def Zj1:Zo XX.P 110 1 1:=Zo.of Kq0
instance:Qr XX.P 110 1 1:=⟨Zj1⟩
def ZAr:Zo XX.P 110 2 2:=Zo.of Kq0
instance:Qr XX.P 110 2 2:=⟨ZAr⟩
def ZoL:Yw XX.P 111=some false:=Kq0
instance:Ki XX.P 111:=⟨ZoL⟩
def ZaN:Yw XX.P 107=some false:=Kq0
instance:Ki XX.P 107:=⟨ZaN⟩
def ZoM:Yw XX.P 108=some false:=Kq0
instance:Ki XX.P 108:=⟨ZoM⟩
def ZtA:Yw XX.P 115=some false:=Kq0
instance:Ki XX.P 115:=⟨ZtA⟩
def ZtR:YF XX.P 36=some (vvE ev0):=Zgp
section
variable{wm w:Nat}{S:U SE}{h h0:H}{T:Nat->Prop}{G Gr:U (Ast wm)}{e:SE}
def ZaQ(s:Sp wm T h0 G h)(p:Pk G (stA wm w S) Gr)(he:e∈S):At h e.b 0 (Zt5 w e):=At.box (s.get p e he).1.1
def Zyc(s:Sp wm T h0 G h)(p:Pk G (stA wm w S) Gr)(he:e∈S):MapAt Value.string vvE h e.m e.es:=(s.get p e he).2.1.at_
end
def Zko(x:Y):U NM->(U NM->O (Ze×Z))->O (Ze×Z):=fun c next=>match c with
 | []=>some (⟨0,0,⟨#[]⟩,[]⟩,false)
 | m::r=>bif(Zq m x).isSome then some ((Zq m x).getD ⟨0,0,⟨#[]⟩,[]⟩,true) else next r
def ZhN(F:Nat)(c:U NM)(x:Y):O (Ze×Z):=loop F (Zko x) c
def Zzl:(XX.fns.get 147).isSome=true:=Kq0
end
section
def Zu6{F wm w:Nat}{S:U SE}{h:H}{o:O Nat}{c:U NM}{x:Y}{r:Ze×Z}(Zt:wm<=h.size)(hr:Rd S o c)(hO:Z7 (wm:=wm) [stA wm w S] h)(hL:ZhN F c x=some r):
 WR XX 147 #[Uf o,.string x] wm h (CP (fun(v:N)(Gb:U (Ast wm))=>∃(ra:O Addr) (rc:Nat),v=.tuple #[.agg (q2W r.1 ra rc).toArray,.bool r.2]/\Gb=[Ye wm (Yy Zh) (ra,rc) r.1.qQ,stA wm w S]) [stA wm w S] h):=by
 refine WF.begin (args:=[_,_]) (fn:=Tryz.f147) Kq0 (by exact rfl) Tryz.ntmps147 (by simp) ?_;simp only[Zl,Zn,Nat.reduceAdd];obtain⟨T,hT,hS⟩:∃T,T=Qm (wm:=wm) [stA wm w S]/\Sp wm T h [stA wm w S] h:=⟨_,rfl,Sp.start Zt hO⟩
 unfold ZhN at hL;refine r3 ?_;rintro _ h4 ⟨b3,eb3,rfl,hS⟩;refine r8 ?_;refine r3 ?_;refine WC.loop (WL.lift hL (fun(c:U NM)(s:Fs)=>∃(fr6:Fr) (h5:H) (o:O Nat),s=⟨fr6,[],h5,none⟩/\Sp wm T h [bx wm b3 [.int .i64 0,.int .i64 0,.string (⟨#[]⟩:Y),.slice none 0 0],stA wm w S] h5/\Rd S o c/\fr6.at 1=.string x/\fr6.at 4=.pointer (some ⟨b3,0,none⟩)/\fr6.at 6=Uf o) ⟨_,_,o,rfl,hS.only (.c k0 (.c k0 .n)),hr,YC rfl fh,Yb rfl (Zi rfl fh),fh⟩ ?_);clear hL hS;rintro Ym c s XB hL ⟨fr6,h5,o,rfl,hS,hr,e1,e4,e6⟩;refine r2 ?_;refine WC.region ?_;refine Vi (Z0 (Zm e6 rfl)) ?_;refine Vi (YZ (Zm fh rfl) (U6 rfl) (ZrA Zr4)) ?_;refine WO.nil ?_;refine Yl.YG ?_;refine WC.Uu (Zm fh rfl) (fun hc=>?_) (fun hc=>?_)
 ·cases hr with
  | nil=>cases hc
  | @cons e c he hr=>
  dsimp only[Zko]at hL;rw[show Zq (Znw e.es) x=(Zq e.es x).map (·.2) from Zl4 (fun q:EV=>q.2) e.es x]at hL;refine WC.skip ?_;refine Yl.YG ?_;refine WC.seq ?_;refine WC.block ?_;refine WC.seq ?_;refine WC.region ?_;refine Vi (Z0 (Zm (Yb rfl e6) rfl)) ?_;refine Vi (ZcI (Zm fh rfl)) ?_;refine Vi (Xf Zj0 (Zm fh rfl)) ?_;refine Vi (ZY ZtA (Zm fh rfl) (ZaQ hS k1 he) (j:=2) rfl (v:=.map e.m) rfl) ?_;refine Vi (Z0 (Zm (YC rfl (Yb rfl e1)) rfl)) ?_;refine Vi (ZoC QZ ZiQ ZtR (Zm (Zi rfl fh) rfl) (Zm fh rfl) (Zyc hS k1 he)) ?_;generalize hq:(Zq e.es x).getD ev0=q;refine r1 ?_;refine Vi (Q6 lk rfl) ?_;refine Vi (Q6 lk rfl) ?_;refine r1 ?_;rintro _ h8 ⟨b7,eb7,rfl,hS⟩;refine r1 ?_;rintro h9 hS;refine r8 ?_;refine WC.Uu lk (fun hc=>?_) (fun hc=>?_)
  ·rw[show((Zq e.es x).map (·.2)).isSome=(Zq e.es x).isSome by cases Zq e.es x<;>rfl]at hL;replace hL:=XQ hc hL;obtain⟨q',hq'⟩:=GJ.1 hc;have hqq:q=q':=by rw[<-hq,hq'];rfl
   subst hqq
   have hmem:(x,q)∈e.es:=by
    unfold Zq at hq';cases hf:Z8 e.es x with
    | none=>rw[hf]at hq';cases hq'
    | some z=>rw[hf]at hq';cases hq';exact GZ (K6 hf)
   refine r4 ?_;rintro h10 hS;refine r8 ?_;refine r1 ?_;have hS:=hS.add (A:=Ye wm (Yy Zh) (q.1.1,q.1.2) q.2.qQ) (YB.1 ((hS.get k2 e he).2.2 _ hmem)) (fun _ z=>z);have hr:(q.2,true)=r:=by have:=Oi0 hL;rw[hq']at this;exact this
   subst hr;exact YK.gen (vs:=[.agg #[.int .i64 q.2.op,.int .i64 q.2.n,.string q.2.qJ,.slice q.1.1 q.2.qQ.length q.1.2],.bool true]) rfl (Yn (Xb rfl (Xb rfl e4)) (Xz U8 Xl (hS.UC k1) (j:=0) rfl rfl (ws:=[.int .i64 q.2.op,.int .i64 q.2.n,.string q.2.qJ,.slice q.1.1 q.2.qQ.length q.1.2]) rfl) (Zx (Zm fh rfl) Zj)) rfl ⟨_,⟨q.1.1,q.1.2,rfl,rfl⟩,hT▸hS.only (.c k0 (.c k2 .n))⟩
  ·rw[show((Zq e.es x).map (·.2)).isSome=(Zq e.es x).isSome by cases Zq e.es x<;>rfl]at hL;replace hL:=XR hc hL;refine WC.skip ?_;refine YW.YG ?_;refine Yl.YG ?_;refine WC.region ?_;refine Vi (Z0 (Zm (Xb rfl (YC rfl (Yb rfl e6))) rfl)) ?_;refine Vi (ZcI (Zm fh rfl)) ?_;refine Vi (Xf ZfB (Zm fh rfl)) ?_;refine Vi (ZY ZoL (Zm fh rfl) (ZaQ hS k2 he) (j:=1) rfl (v:=Uf e.ar) rfl) ?_;refine Vi (YO (Zm fh rfl)) ?_;refine WO.nil ?_;exact ZM.YG (XB _ _ hL ⟨_,_,e.ar,rfl,hS.only (.c k1 (.c k1 .n)),hr,Xb rfl (Xb rfl (Yb rfl (Zi rfl e1))),Xb rfl (Xb rfl (Yb rfl (Zi rfl e4))),fh⟩)
 ·cases hr with
  | cons he hr=>cases hc
  | nil=>
  dsimp only[Zko]at hL;refine WC.exit ?_;refine Yl.exit ?_;refine ZM.exit ?_;refine r4 ?_;refine Vi (XC Zvk ZV rfl (cs':=[.int .i64 0,.int .i64 0,.string (⟨#[]⟩:Y),.slice none 0 0]) rfl) ?_;refine r1 ?_;rintro h22 hS;refine r4 ?_;have hS:=hS.add (A:=Ye wm (Yy Zh) (none,0) []) Sl.nil (fun _ z=>z);have hr:=Oi0 hL;subst hr;exact YK.gen (vs:=[.agg #[.int .i64 0,.int .i64 0,.string (⟨#[]⟩:Y),.slice none 0 0],.bool false]) rfl (Yn (YC rfl e4) (Xz U8 Xl (hS.UC k1) (j:=0) rfl rfl (ws:=[.int .i64 0,.int .i64 0,.string (⟨#[]⟩:Y),.slice none 0 0]) rfl) (Zx lk Zj)) rfl ⟨_,⟨none,0,rfl,rfl⟩,hT▸hS.only (.c k0 (.c k1 .n))⟩
abbrev MB:=U (Y×Z)
structure FV(wm:Nat) where
 v:Value
 A:Ast wm
def noA(wm:Nat):Ast wm:=⟨fun _=>True,fun _=>False,fun _ _ _=>trivial,fun _ z=>z.elim⟩
abbrev FV0{wm:Nat}:FV wm:=⟨.nilFunc,noA wm⟩
def wbA(wm w cf:Nat)(ct:O Nat)(fv:FV wm):Ast wm where
 P:=fun h=>(bx wm w [.map (some cf),.map ct,fv.v]).P h/\fv.A.P h
 fp:=fun i=>i=w\/fv.A.fp i
 loc:=fun f k s=>⟨(bx wm w _).loc f (fun i hi=>k i (.inl hi)) s.1,fv.A.loc f (fun i hi=>k i (.inr hi)) s.2⟩
 own:=fun s hi=>hi.elim (fun e=>(bx wm w _).own s.1 e) (fun e=>fv.A.own s.2 e)
section
variable{wm w cf:Nat}{ct:O Nat}{fv:FV wm}{h h0:H}{T:Nat->Prop}{G Gr:U (Ast wm)}
def ZeX(s:Sp wm T h0 G h)(p:Pk G (wbA wm w cf ct fv) Gr):At h w 0 [.map (some cf),.map ct,fv.v]:=At.box (s.get p).1.1
def ZxH(hS:Sp wm T h0 ([bx wm w [.map (some cf),.map ct,fv.v],fv.A]++Gr) h):Sp wm T h0 ([wbA wm w cf ct fv]++Gr) h:=
 hS.say (Z7.one ⟨hS.get (Gr:=_) k0,hS.get (Gr:=_) k1⟩) fun i hi=>by
   obtain⟨A,hA,hi⟩:=hi;rw[Q2.1 hA]at hi;rcases hi with rfl|hi
   ·exact⟨_,Gm,rfl⟩
   ·exact⟨fv.A,by simp,hi⟩
end
def tkA(wm:Nat):O Nat->MB->Ast wm
 | none,m=>mp wm Value.string Value.bool none m
 | some i,m=>ks wm i m
abbrev JP(wm w cf:Nat)(ct:O Nat)(fv:FV wm)(free taken:MB)(S:U SE):U (Ast wm):=
 [wbA wm w cf ct fv,mp wm Value.string Value.bool (some cf) free,tkA wm ct taken,stA wm w S]
def ZjI:(XX.fns.get 149).isSome=true:=Kq0
def okP{α:Type}:PR α->O α
 | .ok a=>some a
 | .ZX _=>none
def Zjh{α β:Type}{x:O (PR α)}{f:α->β}{r:β}(h:((x.bind okP).map f)=some r):∃a,x=some (.ok a)/\f a=r:=by
 cases x with
 | none=>cases h
 | some p=>
   cases p with
   | ok a=>exact⟨a,rfl,Oi0 h⟩
   | ZX e=>cases h
def YK.Znr{X:Ctx}{fn:Func}{β:Type}{wm:Nat}{t:J}{K:β->N->U (Ast wm)->Prop}{Ga G:U (Ast wm)}{h0 h:H}{T:Nat->Prop}{k:Int}{fr:Fr}{wr:O Nat}(hT:T=Qm Ga)(hS:Sp wm T h0 G h):YK X fn (PQ t K Ga h0 (.ZX k)) (.panic (pv t k)) ⟨fr,[],h,wr⟩:=⟨⟨rfl,rfl,hT▸hS.only .n⟩⟩
def Zmt(F:Nat)(free:MB)(c:U NM)(x:Y):O (PR (MB×Y)):=
 (ZhN F c x).bind fun y=>bif !y.2 then some (.ok (Yk free x true,x)) else bif y.1.op !=2 then some (.ZX 7) else some (.ok (free,y.1.qJ))
def Zkn(F:Nat)(free:MB)(c:U NM)(x:Y):O (MB×Y):=((Zmt F free c x).bind okP).map id
def Zkm{F wm w cf:Nat}{ct:O Nat}{fv:FV wm}{free taken:MB}{S:U SE}{h:H}{b:Nat}{c:U NM}{x:Y}{r:PR (MB×Y)}(Zt:wm<=h.size)(hr:Rd S (some b) c)(hO:Z7 (JP wm w cf ct fv free taken S) h)(hL:Zmt F free c x=some r):
 WF XX 149 #[pV b,.string x] wm h (PQ 147 (fun(r:MB×Y) v (Gb:U (Ast wm))=>v=.string r.2/\Gb=JP wm w cf ct fv r.1 taken S) (JP wm w cf ct fv free taken S) h r):=by
 refine WF.begin (args:=[_,_]) (fn:=Tryz.f149) Kq0 (by exact rfl) Tryz.ntmps149 (by simp) ?_;simp only[Zl,Zn,Nat.reduceAdd];obtain⟨T,hT,hS⟩:∃T,T=Qm (JP wm w cf ct fv free taken S)/\Sp wm T h (JP wm w cf ct fv free taken S) h:=⟨_,rfl,Sp.start Zt hO⟩
 unfold Zmt at hL
 obtain⟨e,he,hbe,ar,c',hc',hr'⟩:∃e,e∈S/\e.b=b/\∃ar c',c=Znw e.es::c'/\e.ar=ar:=by
  cases hr with
  | @cons e c' he hr=>exact⟨e,he,rfl,_,c',rfl,rfl⟩
 subst hbe;refine r8 ?_;refine r1 ?_;obtain⟨y,hy,hL⟩:=bS hL;refine Vj (Yh.fn Zzl (Zb (Zm (Zi rfl fh) rfl) (Zb (Zm fh rfl) Zd))) hS (.c k3 .n) (fun g' hz hf hO=>Zu6 (hS.Vm hz) hr hO hy) ?_;rintro _ h5 _ ⟨ra,rc,rfl,rfl⟩ hS;refine r1 ?_;refine Vi (Q6 (Zm fh rfl) rfl)<|Vi (Q6 (Zm (Zi rfl fh) rfl) rfl)<|r1 ?_;rintro _ h8 ⟨b7,eb7,rfl,hS⟩;refine r1 ?_;rintro h9 hS;refine r8 ?_;refine r2 ?_;refine cn hL ?_ ?_
 ·intro hc hL;refine r4 ?_;refine r1 ?_;refine Vi (ZY ZaN (Zm fh rfl) (ZaQ hS k2 he) (j:=0) rfl (v:=pV w) rfl)<|r2 ?_;refine Vi (ZY Zgd (Zm fh rfl) (ZeX hS k3) (j:=0) rfl (v:=.map (some cf)) rfl)<|r1 ?_;refine WO.hu gN (Kj (kv:=Value.string) (vv:=Value.bool) (v:=true) hS k4 QZ XP (Zm (Zi rfl fh) rfl) (Zm fh rfl) (U6 rfl)) ?_;rintro h10 hS;refine r8 ?_;refine r2 ?_;have hr:=Oi0 hL;subst hr;exact YK.XY rfl (Zx (Zm fh rfl) Zj) ⟨_,⟨rfl,rfl⟩,hT▸hS.only (.c k4 (.c k0 (.c k3 (.c k2 .n))))⟩
 ·intro hc hL;refine r8 ?_;refine r2 ?_;refine cn hL ?_ ?_
  ·intro hc hL;refine WC.region<|WO.WN gN (Yh.fn Zd0 (Zb (U6 rfl) Zd)) hS .n (fun g' hz hf hO=>ZaJ (p0:=7) (hS.Vm hz) rfl) ?_;rintro h12 hS;refine Yl.panic ?_;have hr:=Oi0 hL;subst hr;exact YK.Znr hT hS
  ·intro hc hL;refine r8 ?_;refine r2 ?_;have hr:=Oi0 hL;subst hr;exact YK.XY rfl (Zx (Zm fh rfl) Zj) ⟨_,⟨rfl,rfl⟩,hT▸hS.only (.c k3 (.c k3 (.c k3 (.c k2 .n))))⟩
def Zn9{F wm w cf:Nat}{ct:O Nat}{fv:FV wm}{free taken:MB}{S:U SE}{h:H}{b:Nat}{c:U NM}{x:Y}{r:MB×Y}(Zt:wm<=h.size)(hr:Rd S (some b) c)(hO:Z7 (JP wm w cf ct fv free taken S) h)(hL:Zkn F free c x=some r):
 WR XX 149 #[pV b,.string x] wm h (CP (fun v (Gb:U (Ast wm))=>v=.string r.2/\Gb=JP wm w cf ct fv r.1 taken S) (JP wm w cf ct fv free taken S) h):=by
 obtain⟨a,ha,rfl⟩:=Zjh hL;exact PQ.ok (Zkm Zt hr hO ha)
end
section
def ZsI:(XX.fns.get 117).isSome=true:=Kq0
def Zkq(e:Ze)(Ym:MB×Ze->O (MB×Ze)):Int×MB×U Ze->(Int×MB×U Ze->O (MB×Ze))->O (MB×Ze):=fun(i,fr,acc) ZyJ=>
 bif decide (i<(e.qQ.length:Int)) then(YA e.qQ i).bind fun x=>(Ym (fr,x)).bind fun y=>(app 56 acc [y.2]).bind fun z=>ZyJ (XO (i+1),y.1,z) else some (fr,Ze.mk e.op e.n ⟨#[]⟩ acc)
def ZeE(F:Nat)(c:U NM):MB×Ze->(MB×Ze->O (MB×Ze))->O (MB×Ze):=fun(fr,e) Ym=>
 bif e.op==2 then(ZhN F c e.qJ).bind fun y=>bif y.2 then(Zu5 F y.1).bind fun z=>some (fr,z) else some (Yk fr e.qJ true,e) else loop F (Zkq e Ym) (0,fr,[])
def Zva(F:Nat)(c:U NM)(fr:MB)(e:Ze):O (MB×Ze):=loop F (ZeE F c) (fr,e)
def ZqN{F wm w cf:Nat}{ct:O Nat}{fv:FV wm}{taken:MB}{S:U SE}{b:Nat}{c:U NM}(hr:Rd S (some b) c):∀(Fr:Nat)(x:MB×Ze)(r:MB×Ze),loop Fr (ZeE F c) x=some r->(match x with | (free,p0)=>∀{h:H}{pa:O Addr}{pc:Nat}(Zt:wm<=h.size)(hsp:Sl Zh wm h pa pc p0.qQ)(hO:Z7 (JP wm w cf ct fv free taken S) h),WR XX 117 #[pV b,.agg (q2W p0 pa pc).toArray] wm h (CP (fun v (Gb:U (Ast wm))=>∃(ra:O Addr) (rc:Nat),v=.agg (q2W r.2 ra rc).toArray/\Gb=Ye wm (Yy Zh) (ra,rc) r.2.qQ::JP wm w cf ct fv r.1 taken S) (JP wm w cf ct fv free taken S) h)):=by
 obtain⟨e,he,hbe⟩:∃e,e∈S/\e.b=b:=by
  cases hr with
  | @cons e c' he hr=>exact⟨e,he,rfl⟩
 subst hbe;refine Qt _ ?_;rintro Ym XB ⟨free,p0⟩ r hL h pa pc Zt hsp hO;refine WF.begin (args:=[_,_]) (fn:=Tryz.f117) Kq0 (by exact rfl) Tryz.ntmps117 (by simp) ?_;simp only[Zl,Zn,Nat.reduceAdd];obtain⟨T,hT,hS⟩:∃T,T=Qm (JP wm w cf ct fv free taken S)/\Sp wm T h (JP wm w cf ct fv free taken S) h:=⟨_,rfl,Sp.start Zt hO⟩
 refine r3 ?_;rintro _ h3 ⟨b2,eb2,rfl,hS⟩;refine r1 ?_;rintro _ h5 ⟨b4,eb4,rfl,hS⟩;refine r8 ?_;refine r2 ?_;refine cn hL ?_ ?_
 ·intro hc hL;obtain⟨y,hy,hL⟩:=bS hL;refine r4 ?_;refine r1 ?_;refine Vj (Yh.fn Zzl (Zb (Zm (Yb rfl fh) rfl) (Zb (Zm fh rfl) Zd))) hS (.c k5 .n) (fun g' hz hf hO=>Zu6 (hS.Vm hz) hr hO hy) ?_;rintro _ h6 _ ⟨ra,rc,rfl,rfl⟩ hS;refine r1 ?_;refine Vi (Q6 (Zm fh rfl) rfl)<|Vi (Q6 (Zm (Zi rfl fh) rfl) rfl)<|r1 ?_;rintro _ h8 ⟨b7,eb7,rfl,hS⟩;refine r1 ?_;rintro h9 hS;refine r8 ?_;refine r1 ?_;refine cn hL ?_ ?_
  ·intro hc hL;obtain⟨z,hz,hL⟩:=bS hL;refine r3 ?_;refine Vj (Yh.fn ZzK (Zb (Zm fh rfl) Zd)) hS .n (fun g' hz' hf hO=>ZEt (by rw[hz'];exact hS.hw) ((hS.fsl k1).mono hf) hz) ?_;rintro _ h10 _ ⟨ra2,rc2,rfl,rfl⟩ hS;refine r1 ?_;rintro h11 hS;refine r4 ?_;refine r1 ?_;have hr:=Oi0 hL;subst hr;exact YK.XY rfl (Yn (Xb rfl (YC rfl (Yb rfl (Zi rfl fh)))) (Xz U8 Xl (hS.UC k0) (j:=0) rfl rfl (ws:=(q2W z ra2 rc2)) rfl) Zj) ⟨_,⟨ra2,rc2,rfl,rfl⟩,hT▸hS.only (.c k1 (.c k5 (.c k5 (.c k5 (.c k3 .n)))))⟩
  ·intro hc hL;refine r3 ?_;refine WC.JR mixed Kq0<|r3 ?_;refine Vl (ZY ZaN (Zm fh rfl) (ZaQ hS k2 he) (j:=0) rfl (v:=pV w) rfl)<|r2 ?_;refine Vl (ZY Zgd (Zm fh rfl) (ZeX hS k5) (j:=0) rfl (v:=.map (some cf)) rfl)<|r2 ?_;refine WX.hu gN (Kj (kv:=Value.string) (vv:=Value.bool) (k:=p0.qJ) (v:=true) hS k6 QZ XP (Zm (Yb rfl fh) rfl) (Zm fh rfl) (U6 rfl)) ?_ rfl rfl [] Kq0 XI.e;rintro h10 hS;refine r6 ?_;rintro h11 hS;refine r4 ?_;have hS:=hS.add (A:=Ye wm (Yy Zh) (pa,pc) p0.qQ) (hS.sl hsp) (fun _ z=>z);have hr:=Oi0 hL;subst hr;exact YK.XY rfl (Yn (Xb rfl (Xb rfl (YC rfl (Yb rfl (Zi rfl fh))))) (Xz U8 Xl (hS.UC k1) (j:=0) rfl rfl (ws:=(q2W p0 pa pc)) rfl) Zj) ⟨_,⟨pa,pc,rfl,rfl⟩,hT▸hS.only (.c k0 (.c k6 (.c k1 (.c k5 (.c k3 .n)))))⟩
 ·intro hc hL;refine r8 ?_;refine Vi (XC Zvk (ZE (Zm (Yb rfl fh) rfl) (ZE (Zm fh rfl) ZV)) rfl (cs':=[Ve p0.op,Ve p0.n,.string (⟨#[]⟩:Y),Vd]) rfl)<|r1 ?_;rintro _ h7 ⟨b7,eb7,rfl,hS⟩;refine r1 ?_;rintro h8 hS;refine r12 ?_;have hS:=hS.nil (e:=Zh);refine WC.loop (WL.lift hL (fun(p:Int×MB×U Ze)(s:Fs)=>match p with | (i,fr,acc)=>∃(X8:Fr) (h9:H) (a18:O Addr) (c19:Nat) (n20:Nat),s=⟨X8,[],h9,none⟩/\Sp wm T h (bx wm b4 [Ve 0,Ve 0,.string (⟨#[]⟩:Y),Vd]::ow wm Zh a18 n20 c19 acc::bx wm b7 [Ve p0.op,Ve p0.n,.string (⟨#[]⟩:Y),.slice a18 n20 c19]::JP wm w cf ct fv fr taken S) h9/\X8.at 0=pV e.b/\X8.at 4=(Vf b4)/\X8.at 7=(Vf b7)/\X8.at 39=.slice pa p0.qQ.length pc/\X8.at 40= Ve (p0.qQ.length:Int)/\X8.at 41= Ve i) ⟨_,_,none,0,0,rfl,hS.only (.c k2 (.c k0 (.c k0 (.c k1 (.c k1 (.c k1 (.c k1 .n))))))),(Xb rfl (Xb rfl fh)),(Xb rfl (YC rfl (Zi rfl fh))),(YC rfl fh),(Yb rfl fh),(Zi rfl fh),fh⟩ ?_);rintro Zcg ⟨i,fr,acc⟩ s Jr hL ⟨X8,h9,a18,c19,n20,rfl,hS,e0,e4,e7,e39,e40,e41⟩;obtain rfl:=hS.on k1;refine r6 ?_;refine cn hL ?_ ?_
  ·intro hc hL;refine r6 ?_;obtain⟨x22,Zbr,hL⟩:=bS hL;obtain⟨b23,o24,⟨a25,c26⟩,JE,JG,JF,QM⟩:=Sl.at_ hsp Zbr;replace QM:=YB.1 QM;refine Vi (ZQ Zan Xl (Zm (Zi rfl e39) rfl) (Zm (Zi rfl e41) rfl) rfl JE Zbr) ?_;have Zfn:Sl Zh wm h a25 c26 x22.qQ:=QM;refine Vi (YN U8 Xl (Zm fh rfl) (At.fz hS.fz JF JG) (j:=0) rfl rfl (ws:=(q2W x22 a25 c26)) rfl)<|r1 ?_;rintro _ h28 ⟨b27,ZSg,rfl,hS⟩;refine r1 ?_;rintro h29 hS;refine r2 ?_;refine WC.JR mixed Kq0<|r1 ?_;refine WX.wr (fun x=>x=b7) hS gN rfl (fun _ _ hR=>ZY ZBE (Zm fh rfl) (At.eqv (hR b7 rfl) (hS.UC k3)) (j:=3) rfl (v:=.slice a18 acc.length c19) rfl) ?_ rfl rfl;rintro h30 e30 hS;refine r2 ?_;obtain⟨x30,Zlg,hL⟩:=bS hL;refine WX.cl gN rfl (Yh.fn ZsI (Zb (Zm (Zi rfl fh) rfl) (Zb (Zm fh rfl) Zd))) hS (.c k4 (.c k4 (.c k4 (.c k4 .n)))) (fun g' hz hf hO=>(XB _ _ Zlg) (hS.Vm hz) ((hS.sl Zfn).mono hf) hO) ?_ rfl rfl [1] Kq0 (.c .z (hS.djs (.c k3 (.c k3 (.c k3 (.c k3 (.c k3 .n)))))) XI.e);rintro _ h34 _ ⟨a31,c33,rfl,rfl⟩ hS;refine WX.hn gN rfl (Zal (e:=Zh) hS Zan Xl Zgp rfl rfl rfl (ZE (Zm fh rfl) ZV) rfl [((a31,c33),x30.2)] rfl (xs:=[x30.2]) rfl (by intro q hq;simp only[Kd,G9,or_false]at hq;subst hq;exact(YB.2 (hS.fsl k0))) rfl) ?_ Kq0;rintro _ h37 ⟨b36,ZED,rfl,hS⟩;obtain⟨z38,ZHF,hL⟩:=bS hL;refine WX.hv gN rfl (KX (e:=Zh) hS k8 ZkN (Zm (YC rfl fh) rfl) (Zm fh rfl) (hS.Jk k0) (hS.on k0) ZHF) ?_ rfl Kq0 [] Kq0 XI.e;rintro _ h41 ⟨a39,c40,rfl,hS⟩;refine WX.w gN rfl (Xf ZnV (Zm (Xb rfl (Yb rfl (Zi rfl e7))) rfl)) ?_ Kq0;refine WX.hu gN (Zb5 hS k9 Znf (Zm fh rfl) (Zm (Zi rfl fh) rfl) (vs:=[.slice a39 z38.length c40]) rfl rfl rfl rfl (cs':=[Ve p0.op,Ve p0.n,.string (⟨#[]⟩:Y),.slice a39 z38.length c40]) rfl) ?_ rfl Kq0 [] Kq0 XI.e;rintro h42 hS;refine r6 ?_;refine r1 ?_;exact ZM.YG (Jr _ _ hL ⟨_,_,a39,c40,z38.length,rfl,hS.only (.c k9 (.c k1 (.c k0 (.c k2 (.c k2 (.c k2 (.c k2 .n))))))),(Xb rfl (YC rfl (Yb rfl e0))),(Xb rfl (YC rfl (Yb rfl e4))),(Xb rfl (YC rfl (Yb rfl e7))),(Xb rfl (YC rfl (Yb rfl e39))),(Xb rfl (YC rfl (Yb rfl e40))),fh⟩)
  ·intro hc hL;refine r8 ?_;refine r1 ?_;rintro h43 hS;refine r2 ?_;refine WC.fzn hS k1 ?_;rintro h44 ⟨hn45,hS⟩;refine r1 ?_;have hr:=Oi0 hL;subst hr;exact YK.XY rfl (Yn (Yb rfl e4) (Xz U8 Xl (hS.UC k1) (j:=0) rfl rfl (ws:=[Ve p0.op,Ve p0.n,.string (⟨#[]⟩:Y),.slice a18 acc.length c19]) rfl) Zj) ⟨_,⟨a18,c19,rfl,rfl⟩,hT▸hS.only (.c k0 (.c k2 (.c k2 (.c k2 (.c k2 .n)))))⟩
end
end Go.Proofs.YtbnepjakjmnadaaGreat
end
end
section
set_option maxRecDepth 20000
noncomputable section
namespace Go.ZF
open Go.Lf
variable{P:V7}
def Zxh{t:J}{x:V6}{a b c}(hu:P.underlying t=some (.func a b c)):XT P .neq t x (.const .nilFunc) .nilFunc .nilFunc=some (.val (.bool false),.none):=by
 unfold XT;rw[show(plain .nilFunc&&plain .nilFunc)=true from rfl,Cq1];unfold U0
 have h1:Zr P (eqGuard .neq t x (.const .nilFunc) .nilFunc .nilFunc)=some (.ok ()):=by
  cases x<;>rfl
 rw[prb h1]
 have h2:Zr P (Op.equal t .nilFunc .nilFunc)=some (.ok true):=by
  show Zr P (Op.equalIn (9999+1) t .nilFunc .nilFunc)=_;unfold Op.equalIn;rw[prb (Yx hu)];rfl
 have:Zr P (binOp .neq t .nilFunc .nilFunc)=some (.ok (.bool false)):=by
  show Zr P (do pure (Value.bool (!(<-Op.equal t .nilFunc .nilFunc))):Sem N)=_;rw[prb h2];rfl
 rw[this];rfl
def Zl2{κ ν μ:Type}[DecidableEq κ](f:ν->μ)(l:U (κ×ν))(k:κ)(x:ν):(Yk l k x).map (fun q=>(q.1,f q.2))=Yk (l.map fun q=>(q.1,f q.2)) k (f x):=by
 unfold Yk;rw[Zjq];cases h:Z8 l k with
 | none=>simp
 | some q=>
   simp only[V2];refine GO fun i=>?_
   simp only[GN,List.getElem?_modify];by_cases hi:q.1=i
   ·subst hi;simp only[if_pos];cases l[q.1]?<;>rfl
   ·simp only[if_neg hi];cases l[i]?<;>rfl
def Zjn{κ ν:Type}[DecidableEq κ]{l:U (κ×ν)}{k:κ}{x:ν}{q:κ×ν}(h:q∈Yk l k x):q∈l\/q.2=x:=by
 unfold Yk at h;cases hf:Z8 l k with
 | none=>
   rw[hf]at h;rcases Q1.1 h with h|h
   ·exact .inl h
   ·rw[Q2.1 h];exact .inr rfl
 | some p=>
   rw[hf]at h;obtain⟨i,hi⟩:=GI h;rw[List.getElem?_modify]at hi;cases hl:l[i]? with
   | none=>rw[hl]at hi;cases hi
   | some y=>
     rw[hl]at hi;have hi:some (if p.1=i then(y.1,x) else y)=some q:=hi;by_cases hp:p.1=i
     ·rw[if_pos hp]at hi;cases hi;exact .inr rfl
     ·rw[if_neg hp]at hi;cases hi;exact .inl (GZ hl)
end Go.ZF
end
end
section
set_option maxRecDepth 20000
noncomputable section
namespace Go.Proofs.YtbnepjakjmnadaaGreat
open Go.ZF Go.Lf
section
def Zzk:(XX.fns.get 150).isSome=true:=Kq0
def ZuP:(XX.fns.get 172).isSome=true:=Kq0
def ZxR:∃a b c,XX.P.underlying 108=some (.func a b c):=⟨_,_,_,Tryz.underlying108⟩
def ZtT:YF XX.P 164=some (.agg #[.pointer none,.pointer none,.map none]):=Kq0
instance:UW XX.P 164 (.agg #[.pointer none,.pointer none,.map none]):=⟨ZtT⟩
def Zov:JO XX.P 164 [.pointer none,.pointer none,.map none] [(0,1),(1,1),(2,1)]:=⟨_,_,ZtT,rfl,Tryz.underlying164,by kernel_rfl⟩
def esA(wm:Nat)(es:U (Y×EV)):Ast wm where
 P:=fun h=>∀x∈es,ZcZ wm h x.2.1 x.2.2
 fp:=fun _=>False
 loc:=fun f _ s x hx=>(s x hx).mono f
 own:=fun _ z=>z.elim
def Zna{wm w:Nat}{S:U SE}{h h0:H}{T:Nat->Prop}{Gr:U (Ast wm)}{b:Nat}{ar m:O Nat}{es:U (Y×EV)}
 (hS:Sp wm T h0 ([bx wm b [pV w,Uf ar,.map m],mp wm Value.string vvE m es,esA wm es,stA wm w S]++Gr) h):Sp wm T h0 ([stA wm w (⟨b,ar,m,es⟩::S)]++Gr) h:=by
 have h1:=hS.get (Gr:=_) k0;have h2:=hS.get (Gr:=_) k1;have h3:=hS.get (Gr:=_) k2;have h4:=hS.get (Gr:=_) k3;refine hS.say (Z7.one fun x hx=>?_) fun i hi=>?_
 ·rcases Kd.1 hx with rfl|hx
  ·exact⟨⟨h1.1,h1.2⟩,h2,h3⟩
  ·exact h4 x hx
 ·obtain⟨A,hA,hi⟩:=hi;rw[Q2.1 hA]at hi;obtain⟨x,hx,hi⟩:=hi;rcases Kd.1 hx with rfl|hx
  ·rcases hi with rfl|hi
   ·exact⟨_,Gm,rfl⟩
   ·exact⟨_,Kf _ Gm,hi⟩
  ·exact⟨stA wm w S,by simp,x,hx,hi⟩
def Zad(names to:U Y):Int×NM->(Int×NM->O NM)->O NM:=fun(i,m) next=>bif decide (i<(names.length:Int)) then(YA names i).bind fun x=>(YA to i).bind fun y=>(ZqJ y).bind fun z=>next (XO (i+1),Yk m x z) else some m
def Zkl(F:Nat)(names:U Y):O NM:=loop F (Zad names names) (0,[])
def ZAT{F wm w cf:Nat}{ct:O Nat}{free taken:MB}{S:U SE}{h:H}{b:Nat}{c:U NM}{names:U Y}{pa:O Addr}{pc:Nat}{wv:N}{r:NM}(Zt:wm<=h.size)(hr:Rd S (some b) c)(hsp:Sl ZW wm h pa pc names)(hO:Z7 (JP wm w cf ct FV0 free taken S) h)(hL:Zkl F names=some r):
 WR XX 150 #[pV b,.slice pa names.length pc,wv] wm h (CP (fun v (Gb:U (Ast wm))=>∃(S':U SE) (b':Nat),(∀e∈S,e∈S')/\v=Uf (some b')/\Rd S' (some b') (r::c)/\Gb=JP wm w cf ct FV0 free taken S') (JP wm w cf ct FV0 free taken S) h):=by
 refine WF.begin (args:=[_,_,_]) (fn:=Tryz.f150) Kq0 (by exact rfl) Tryz.ntmps150 (by simp) ?_;simp only[Zl,Zn,Nat.reduceAdd];obtain⟨T,hT,hS⟩:∃T,T=Qm (JP wm w cf ct FV0 free taken S)/\Sp wm T h (JP wm w cf ct FV0 free taken S) h:=⟨_,rfl,Sp.start Zt hO⟩
 unfold Zkl at hL
 obtain⟨e,he,hbe⟩:∃e,e∈S/\e.b=b:=by
  cases hr with
  | @cons e c' he hr=>exact⟨e,he,rfl⟩
 subst hbe;refine r16 ?_;refine r1 ?_;refine Vi (ZY ZaN (Zm fh rfl) (ZaQ hS k3 he) (j:=0) rfl (v:=pV w) rfl)<|r2 ?_;refine Vi (ZY ZoM (Zm fh rfl) (ZeX hS k0) (j:=2) rfl (v:=.nilFunc) rfl) ?_;obtain⟨ua,ub,uc,hu⟩:=ZxR;refine Vi (YZ (Zm fh rfl) (U6 rfl) (Zxh hu))<|r2 ?_;refine WC.Uu (Zm fh rfl) (fun hc=>?_) (fun hc=>?_)
 ·cases hc
 ·refine WC.skip<|r6 ?_;refine Vi (ZY ZaN (Zm fh rfl) (ZaQ hS k3 he) (j:=0) rfl (v:=pV w) rfl)<|r1 ?_;refine Vk (ZbG Value.string vvE hS) ?_;rintro _ h2 ⟨bm,ebm,rfl,hS⟩;refine Vi (XC Zov (ZE (Zm (Yb rfl fh) rfl) (ZE (Zm (Zi rfl fh) rfl) (ZE (Zm fh rfl) ZV))) rfl (cs':=[pV w,pV e.b,.map (some bm)]) rfl)<|r1 ?_;rintro _ h3 ⟨bs,ebs,rfl,hS⟩;refine r12 ?_;have hS:=hS.add (A:=esA wm []) (fun x hx=>by cases hx) (fun _ z=>z);refine WC.loop (WL.lift hL (fun(p:Int×NM)(s:Fs)=>match p with | (i,m)=>∃(X8:Fr) (h9:H) (es:U (Y×EV)),s=⟨X8,[],h9,none⟩/\Sp wm T h (bx wm bs [pV w,pV e.b,.map (some bm)]::mp wm Value.string vvE (some bm) es::esA wm es::JP wm w cf ct FV0 free taken S) h9/\Znw es=m/\X8.at 7=.slice pa names.length pc/\X8.at 8=(Vf bs)/\X8.at 39=.slice pa names.length pc/\X8.at 40= Ve (names.length:Int)/\X8.at 41= Ve i) ⟨_,_,[],rfl,hS.only (.c k1 (.c k1 (.c k0 (.c k0 (.c k0 (.c k0 (.c k0 .n))))))),rfl,(Xb rfl (Xb rfl (YC rfl fh))),(Yb rfl (Zi rfl fh)),(Yb rfl fh),(Zi rfl fh),fh⟩ ?_);rintro Zcg ⟨i,m⟩ s Jr hL ⟨X8,h9,es,rfl,hS,rfl,e7,e8,e39,e40,e41⟩;refine r6 ?_;refine cn hL ?_ ?_
  ·intro hc hL;refine r6 ?_;refine r1 ?_;obtain⟨x22,Zbr,hL⟩:=bS hL;obtain⟨b23,o24,_,JE,JG,JF,QM⟩:=Sl.at_ hsp Zbr;refine Vi (ZQ Qe Qo (Zm (Yb rfl e39) rfl) (Zm (Yb rfl e41) rfl) rfl JE Zbr)<|Vi (ZY U3 (Zm fh rfl) (At.fz hS.fz JF JG) (j:=0) rfl (v:=.string x22) rfl)<|r4 ?_;refine WC.JR mixed Kq0<|r6 ?_;refine r1 ?_;obtain⟨x25,hx25,hL⟩:=bS hL;obtain⟨b26,o27,_,Zqc,Zqp,ZuS,Zqk⟩:=Sl.at_ hsp hx25;refine Vl (ZQ Qe Qo (Zm (Zi rfl fh) rfl) (Zm fh rfl) rfl Zqc hx25)<|Vl (ZY U3 (Zm fh rfl) (At.fz hS.fz ZuS Zqp) (j:=0) rfl (v:=.string x25) rfl) ?_;obtain⟨z,hz,hL⟩:=bS hL;refine WX.cl0 gN rfl (Yh.fn ZuP (Zb (Zm fh rfl) Zd)) hS .n (fun g' hz' hf hO=>Zu3 (by rw[hz'];exact hS.hw) hz) ?_ rfl rfl;rintro _ h34 _ ⟨a31,c33,rfl,rfl⟩ hS;refine WX.hu gN (Kj (kv:=Value.string) (vv:=vvE) (k:=x22) (v:=((a31,c33),z)) hS k2 QZ ZiQ (Zm (YC rfl (Yb rfl fh)) rfl) (Zm (YC rfl (Zi rfl fh)) rfl) (Zm fh rfl)) ?_ rfl Kq0 [] Kq0 XI.e;rintro h35 hS
   have hS:=hS.add (A:=esA wm (Yk es x22 ((a31,c33),z))) (fun x hx=>by
    rcases Zjn hx with q|q
    ·exact hS.get k3 x q
    ·rw[q];exact YB.2 (hS.fsl k1)) (fun _ z=>z)
   refine r6 ?_;refine r1 ?_;exact ZM.YG (Jr _ _ hL ⟨_,_,Yk es x22 ((a31,c33),z),rfl,hS.only (.c k3 (.c k1 (.c k0 (.c k2 (.c k2 (.c k2 (.c k2 .n))))))),Zl2 (fun q:EV=>q.2) es x22 ((a31,c33),z),(Xb rfl (Xb rfl (Yb rfl e7))),(Xb rfl (Xb rfl (Yb rfl e8))),(Xb rfl (Xb rfl (Yb rfl e39))),(Xb rfl (Xb rfl (Yb rfl e40))),fh⟩)
  ·intro hc hL;refine r12 ?_;have hr':=Oi0 hL;subst hr';have hS:=Zna (S:=S) (b:=bs) (ar:=some e.b) (m:=some bm) (es:=es) (hS.only (.c k0 (.c k0 (.c k0 (.c k3 (.c k0 (.c k0 (.c k0 .n))))))));exact YK.XY rfl (Zx (Zm fh rfl) Zj) ⟨_,⟨⟨bs,some e.b,some bm,es⟩::S,bs,fun x hx=>Kf _ hx,rfl,Rd.cons (e:=⟨bs,some e.b,some bm,es⟩) Gm (hr.mono fun x hx=>Kf _ hx),rfl⟩,hT▸hS.only (.c k1 (.c k1 (.c k1 (.c k0 .n))))⟩
end
section
def Zcj:(XX.fns.get 118).isSome=true:=Kq0
def Zzj:(XX.fns.get 173).isSome=true:=Kq0
abbrev WS:=MB×MB
abbrev UZ:=MB->U NM->U Y->O MB->O (MB×NM)
def Zdo(F:Nat)(ci:U NM)(i:Int)(next:Int×MB×U YJ->O (PR (WS×Za)))(js:U YJ)(m:YJ)(tx:Y):Int×MB×U Y->(Int×MB×U Y->O (PR (WS×Za)))->O (PR (WS×Za)):=fun(j,fr,ns) ZyJ=>
 bif decide (j<(m.names.length:Int)) then(YA m.names j).bind fun x=>(Zkn F fr ci x).bind fun y=>(app 16 ns [y.2]).bind fun z=>ZyJ (XO (j+1),y.1,z) else(app 40 js [YJ.mk tx ns]).bind fun z=>next (XO (i+1),fr,z)
def Zdp(F:Nat)(Us:WS×U NM×Term->O (PR (WS×Term)))(c ci:U NM)(tk:MB)(p0:Za):Int×MB×U YJ->(Int×MB×U YJ->O (PR (WS×Za)))->O (PR (WS×Za)):=fun(i,fr,js) next=>
 bif decide (i<(p0.qG.length:Int)) then(YA p0.qG i).bind fun m=>(Zkn F fr c m.qJ).bind fun y=>loop F (Zdo F ci i next js m y.2) (0,y.1,[]) else(YA p0.qQ 0).bind fun k=>(Us ((fr,tk),ci,k)).bind fun z=>Jp z (fun e=>some (.ZX e)) fun z=>some (.ok (z.1,Za.mk p0.qV ⟨#[]⟩ js [] [z.2]))
def ZfG(F:Nat)(Z9:UZ)(WW:Za->U Y->O MB)(Us:WS×U NM×Term->O (PR (WS×Term)))(ws:WS)(c:U NM)(p0:Za):Int×U Y->(Int×U Y->O (PR (WS×Za)))->O (PR (WS×Za)):=fun(i,names) next=>
 bif decide (i<(p0.qG.length:Int)) then(YA p0.qG i).bind fun m=>(app 16 names m.names).bind fun z=>next (XO (i+1),z) else(Z9 ws.2 c names (WW p0 names)).bind fun bd=>loop F (Zdp F Us c (bd.2::c) bd.1 p0) (0,ws.1,[])
def Zms(F:Nat)(Z9:UZ)(WW:Za->U Y->O MB)(Us:WS×U NM×Term->O (PR (WS×Term)))(ws:WS)(c:U NM)(p0:Za):O (PR (WS×Za)):=loop F (ZfG F Z9 WW Us ws c p0) (0,[])
abbrev Zh8(wm:Nat):=N->U (Ast wm)->O MB->Prop
def Zhq(wm w cf:Nat)(ct:O Nat)(fv:FV wm)(WIN:Zh8 wm)(Z9:UZ):Prop:=
 ∀{h:H}{S:U SE}{b:Nat}{c:U NM}{names:U Y}{pa:O Addr}{pc:Nat}{wv:N}{Gw:U (Ast wm)}{wi:O MB}{free taken:MB}{r:MB×NM},wm<=h.size->Rd S (some b) c->Sl ZW wm h pa pc names->WIN wv Gw wi->Z9 taken c names wi=some r->Z7 (Gw++JP wm w cf ct fv free taken S) h ->
   WR XX 150 #[pV b,.slice pa names.length pc,wv] wm h (CP (fun v (Gb:U (Ast wm))=>∃(S':U SE) (b':Nat),(∀e∈S,e∈S')/\v=Uf (some b')/\Rd S' (some b') (r.2::c)/\Gb=Gw++JP wm w cf ct fv free r.1 S') (Gw++JP wm w cf ct fv free taken S) h)
def ZoS(wm w cf:Nat)(ct:O Nat)(fv:FV wm)(Us:WS×U NM×Term->O (PR (WS×Term))):Prop:=
 ∀(x:WS×U NM×Term)(r:PR (WS×Term)),Us x=some r->∀{h:H}{S:U SE}{b:Nat}{p:TmP},wm<=h.size->Rd S (some b) x.2.1->Zu.F wm h p x.2.2->Z7 (JP wm w cf ct fv x.1.1 x.1.2 S) h ->
   WF XX 118 #[pV b,.agg (Qi p x.2.2).toArray] wm h (PQ 147 (fun(r:WS×Term) v (Gb:U (Ast wm))=>∃(S':U SE) (q:TmP),(∀e∈S,e∈S')/\v=.agg (Qi q r.2).toArray/\Gb=Ye wm Zu q r.2::JP wm w cf ct fv r.1.1 r.1.2 S') (JP wm w cf ct fv x.1.1 x.1.2 S) h r)
abbrev ZO2(wm b3:Nat)(p:TmP)(x:Za)(b6:Nat)(a:O Addr)(c:Nat)(names:U Y):U (Ast wm):=[bx wm b3 (UG p x),Ye wm Zc p x,bx wm b6 [.slice a names.length c],Ye wm (Yy ZW) (a,c) names]
def ZkT{wm:Nat}(WIN:Zh8 wm)(WW:Za->U Y->O MB):Prop:=∀b3 p x b6 a c names,WIN (.func (.func 180) #[] #[(Vf b3),(Vf b6)]) (ZO2 wm b3 p x b6 a c names) (WW x names)
def Zu2{F wm w cf:Nat}{ct:O Nat}{fv:FV wm}{WIN:Zh8 wm}{Z9:UZ}{WW:Za->U Y->O MB}{Us:WS×U NM×Term->O (PR (WS×Term))}(hB:Zhq wm w cf ct fv WIN Z9)(hW:ZkT WIN WW)(ZbL:ZoS wm w cf ct fv Us)
 {ws:WS} {S:U SE} {h:H} {b:Nat} {c:U NM} {p0:Za} {p:TmP} {r:PR (WS×Za)} (Zt:wm<=h.size) (hr:Rd S (some b) c) (hF:Zc.F wm h p p0) (hO:Z7 (JP wm w cf ct fv ws.1 ws.2 S) h) (hL:Zms F Z9 WW Us ws c p0=some r):
  WF XX 173 #[pV b,.agg (UG p p0).toArray] wm h (PQ 147 (fun(r:WS×Za) v (Gb:U (Ast wm))=>∃(S':U SE) (q:TmP),(∀e∈S,e∈S')/\v=.agg (UG q r.2).toArray/\Gb=Ye wm Zc q r.2::JP wm w cf ct fv r.1.1 r.1.2 S') (JP wm w cf ct fv ws.1 ws.2 S) h r):=by
 obtain⟨⟨pj,cj⟩,⟨pd,cd⟩,⟨pk,ck⟩⟩:=p;obtain⟨hsj,hsd,hsk⟩:=Z5.1 hF;dsimp only at hsj hsd hsk;refine WF.begin (args:=[_,_]) (fn:=Tryz.f173) Kq0 (by exact rfl) Tryz.ntmps173 (by simp) ?_;simp only[Zl,Zn,Nat.reduceAdd];obtain⟨T,hT,hS⟩:∃T,T=Qm (JP wm w cf ct fv ws.1 ws.2 S)/\Sp wm T h (JP wm w cf ct fv ws.1 ws.2 S) h:=⟨_,rfl,Sp.start Zt hO⟩
 unfold Zms at hL;refine WC.seq<|WC.region<|Vk (Zi4 hS (Zm fh rfl) (vs:=(q3W p0 pj cj pd cd pk ck)) rfl) ?_;rintro _ h3 ⟨b3,eb3,rfl,hS⟩;refine Vk (Zhv hS Kq (vs:=[Ve 0,.string (⟨#[]⟩:Y),Vd,Vd,Vd]) rfl) ?_;rintro _ h4 ⟨b4,eb4,rfl,hS⟩;refine WO.nil<|Yl.YG<|WC.seq<|WC.region<|Vi (Xf Zqy (Zm (Zi rfl fh) rfl))<|Vi (ZY Ztz (Zm fh rfl) (hS.UC k1) (j:=0) rfl (v:= Ve p0.qV) rfl)<|Vi (XC ZBk (ZE (Zm fh rfl) ZV) rfl (cs':=[Ve p0.qV,.string (⟨#[]⟩:Y),Vd,Vd,Vd]) rfl)<|Vk (Zhv hS Kq (vs:=[Ve 0,.string (⟨#[]⟩:Y),Vd,Vd,Vd]) rfl) ?_;rintro _ h5 ⟨b5,eb5,rfl,hS⟩;refine WO.hu gN (Zb5 hS k0 YE (Zm fh rfl) (Zm (Zi rfl fh) rfl) (vs:=[Ve p0.qV,.string (⟨#[]⟩:Y),Vd,Vd,Vd]) rfl rfl rfl rfl (cs':=[Ve p0.qV,.string (⟨#[]⟩:Y),Vd,Vd,Vd]) rfl) ?_;rintro h6 hS;refine WO.nil<|Yl.YG<|WC.seq<|WC.region<|Vk (Zhv hS ZxD (vs:=[Vd]) rfl) ?_;rintro _ h7 ⟨b6,eb6,rfl,hS⟩;refine WO.nil<|Yl.YG<|WC.seq<|WC.seq<|WC.region<|Vi (Xf Zcq (Zm (YC rfl (Yb rfl fh)) rfl))<|Vi (ZY ZoK (Zm fh rfl) (hS.UC k3) (j:=2) rfl (v:=.slice pj p0.qG.length cj) rfl)<|Vi (ZoD U9 (Zm fh rfl) rfl)<|Vi (Z0 (U6 rfl))<|WO.nil<|Yl.YG<|WC.block ?_;have hS:=hS.nil (e:=ZW);refine WC.loop (WL.lift hL (fun(q:Int×U Y)(s:Fs)=>match q with | (i,names)=>∃(X8:Fr) (h9:H) (a:O Addr) (n cc:Nat),s=⟨X8,[],h9,none⟩/\Sp wm T h (bx wm b6 [.slice a n cc]::ow wm ZW a n cc names::bx wm b5 [Ve p0.qV,.string (⟨#[]⟩:Y),Vd,Vd,Vd]::bx wm b4 [Ve 0,.string (⟨#[]⟩:Y),Vd,Vd,Vd]::bx wm b3 (q3W p0 pj cj pd cd pk ck)::JP wm w cf ct fv ws.1 ws.2 S) h9/\X8.at 0=pV b/\X8.at 3=(Vf b3)/\X8.at 4=(Vf b4)/\X8.at 5=(Vf b5)/\X8.at 6=(Vf b6)/\X8.at 19=.slice pj p0.qG.length cj/\X8.at 20= Ve (p0.qG.length:Int)/\X8.at 21= Ve i) ⟨_,_,none,0,0,rfl,hS.only (.c k1 (.c k0 (.c k0 (.c k0 (.c k0 (.c k0 (.c k0 (.c k0 (.c k0 .n))))))))),(Xb rfl (YC rfl fh)),(Xb rfl (Yb rfl fh)),(Xb rfl (Zi rfl fh)),(YC rfl (Zi rfl fh)),(YC rfl fh),(Yb rfl fh),(Zi rfl fh),fh⟩ ?_);rintro Zcg ⟨i,names⟩ s Jr hL ⟨X8,h9,a,n,cc,rfl,hS,e0,e3,e4,e5,e6,e19,e20,e21⟩;obtain rfl:=hS.on k1;refine WC.seq<|WC.region<|Vi (YZ (Zm e21 rfl) (Zm e20 rfl) ZrB)<|WO.nil<|Yl.YG<|WC.seq<|WC.Uu (Zm fh rfl) (fun hc=>?_) (fun hc=>?_)
 ·replace hL:=XQ hc hL;refine WC.skip<|Yl.YG<|WC.seq<|WC.block<|WC.seq<|WC.region ?_;obtain⟨m,hm,hL⟩:=bS hL;obtain⟨b23,o24,⟨a25,c26⟩,JE,JG,JF,QM⟩:=Sl.at_ hsj hm;refine Vi (ZQ U9 XD (Zm (Zi rfl e19) rfl) (Zm (Zi rfl e21) rfl) rfl JE hm) ?_;have Zfn:Sl ZW wm h a25 c26 m.names:=QM;refine Vi (YN ZcO XD (Zm fh rfl) (At.fz hS.fz JF JG) (j:=0) rfl rfl (ws:=[.string m.qJ,.slice a25 m.names.length c26]) rfl)<|Vk (Zhv hS Zc2 (vs:=[.string (⟨#[]⟩:Y),Vd]) rfl) ?_;rintro _ h28 ⟨b8,eb8,rfl,hS⟩;refine WO.hu gN (Zb5 hS k0 XD (Zm fh rfl) (Zm (Zi rfl fh) rfl) (vs:=[.string m.qJ,.slice a25 m.names.length c26]) rfl rfl rfl rfl (cs':=[.string m.qJ,.slice a25 m.names.length c26]) rfl) ?_;rintro h29 hS;refine WO.nil<|Yl.YG<|WC.region<|Vi (ZY ZcN (Zm (YC rfl e6) rfl) (hS.UC k1) (j:=0) rfl (v:=.slice a names.length cc) rfl)<|Vi (Xf ZfC (Zm (Zi rfl fh) rfl))<|Vi (ZY ZcN (Zm fh rfl) (hS.UC k0) (j:=1) rfl (v:=.slice a25 m.names.length c26) rfl) ?_;obtain⟨z,hz,hL⟩:=bS hL;refine WO.hv gN rfl (KX (e:=ZW) hS k2 UR (Zm (Yb rfl fh) rfl) (Zm fh rfl) (Sl.src (hS.sl Zfn)) rfl hz) ?_;rintro _ h30 ⟨a39,c40,rfl,hS⟩;refine WO.hu gN (Zb5 hS k2 ZiY (Zm (Xb rfl e6) rfl) (Zm fh rfl) (vs:=[.slice a39 z.length c40]) rfl rfl rfl rfl (cs':=[.slice a39 z.length c40]) rfl) ?_;rintro h31 hS;exact WO.nil<|YW.YG<|Yl.YG<|WC.region<|Vi (YZ (Zm (Xb rfl e21) rfl) (U6 rfl) Zhn)<|Vi (Z0 (Zm fh rfl))<|WO.nil<|ZM.YG (Jr _ _ hL ⟨_,_,a39,z.length,c40,rfl,hS.only (.c k0 (.c k0 (.c k1 (.c k1 (.c k1 (.c k1 (.c k1 (.c k1 (.c k1 .n))))))))),(Xb rfl (Yb rfl e0)),(Xb rfl (Yb rfl e3)),(Xb rfl (Yb rfl e4)),(Xb rfl (Yb rfl e5)),(Xb rfl (Yb rfl e6)),(Xb rfl (Yb rfl e19)),(Xb rfl (Yb rfl e20)),fh⟩)
 ·replace hL:=XR hc hL;refine WC.exit<|Yl.exit<|ZM.exit<|YW.here<|Yl.YG<|WC.fzn hS k1 ?_;rintro h40 ⟨ZVZ,hS⟩;have hS:=hS.add (A:=Ye wm Zc ((pj,cj),(pd,cd),(pk,ck)) p0) (Zc.mono hS.fz hF) (fun _ z=>z);obtain⟨bd,hbd,hL⟩:=bS hL;refine WC.seq<|WC.region<|Vi (Z0 (Zm (Zi rfl e0) rfl))<|Vi (ZY ZcN (Zm (Yb rfl e6) rfl) (hS.UC k2) (j:=0) rfl (v:=.slice a names.length cc) rfl)<|Vi (Wq (Zb (Zm (Yb rfl (Zi rfl e3)) rfl) (Zb (Zm (Yb rfl (Zi rfl e6)) rfl) Zd)))<|Vj (Yh.fn Zzk (Zb (Zm (Yb rfl fh) rfl) (Zb (Zm (Zi rfl fh) rfl) (Zb (Zm fh rfl) Zd)))) hS (.c k5 (.c k0 (.c k1 (.c k0 (.c k2 (.c k2 (.c k2 (.c k2 .n)))))))) (fun g' hz hf hO=>hB (hS.Vm hz) hr ((hS.fsl k1).mono hf) (hW b3 ((pj,cj),(pd,cd),(pk,ck)) p0 b6 a cc names) hbd hO) ?_;rintro _ h41 _ ⟨S1,b1,hS1,rfl,hr1,rfl⟩ hS;refine Vi (YO (Zm fh rfl))<|WO.nil<|Yl.YG<|WC.seq<|WC.seq<|WC.region<|Vi (Xf Zcq (Zm (YC rfl (Yb rfl e3)) rfl))<|Vi (ZY ZoK (Zm fh rfl) (hS.UC k0) (j:=2) rfl (v:=.slice pj p0.qG.length cj) rfl)<|r4 ?_;refine r1 ?_;have hS:=hS.nil (e:=Yg);refine WC.loop (WL.lift hL (fun(q:Int×MB×U YJ)(s:Fs)=>match q with | (i,fr,js)=>∃(U1:Fr) (h9:H) (a:O Addr) (n cc:Nat),s=⟨U1,[],h9,none⟩/\Sp wm T h (bx wm b5 [Ve p0.qV,.string (⟨#[]⟩:Y),.slice a n cc,Vd,Vd]::ow wm Yg a n cc js::bx wm b4 [Ve 0,.string (⟨#[]⟩:Y),Vd,Vd,Vd]::bx wm b3 (q3W p0 pj cj pd cd pk ck)::JP wm w cf ct fv fr bd.1 S1) h9/\U1.at 0=pV b/\U1.at 3=(Vf b3)/\U1.at 4=(Vf b4)/\U1.at 5=(Vf b5)/\U1.at 9=pV b1/\U1.at 35=.slice pj p0.qG.length cj/\U1.at 36= Ve (p0.qG.length:Int)/\U1.at 37= Ve i) ⟨_,_,none,0,0,rfl,hS.only (.c k9 (.c k0 (.c k8 (.c k0 (.c k3 (.c k3 (.c k3 (.c k3 .n)))))))),(Xb rfl (Yb rfl e0)),(Xb rfl (Yb rfl e3)),(Xb rfl (Yb rfl e4)),(Xb rfl (Yb rfl e5)),(YC rfl fh),(Yb rfl fh),(Zi rfl fh),fh⟩ ?_);rintro ZQr ⟨i2,fr,js⟩ s ZDA hL ⟨U1,h42,a2,n2,cc2,rfl,hS,e0,e3,e4,e5,e9,e35,e36,e37⟩;obtain rfl:=hS.on k1;refine r6 ?_;refine WC.Uu (Zm fh rfl) (fun hc=>?_) (fun hc=>?_)
  ·replace hL:=XQ hc hL;refine r3 ?_;refine WC.block<|WC.seq<|WC.region ?_;obtain⟨m,hm,hL⟩:=bS hL;obtain⟨b23,o24,⟨a25,c26⟩,JE,JG,JF,QM⟩:=Sl.at_ hsj hm;refine Vi (ZQ U9 XD (Zm (Zi rfl e35) rfl) (Zm (Zi rfl e37) rfl) rfl JE hm) ?_;have Zfn:Sl ZW wm h a25 c26 m.names:=QM;refine Vi (YN ZcO XD (Zm fh rfl) (At.fz hS.fz JF JG) (j:=0) rfl rfl (ws:=[.string m.qJ,.slice a25 m.names.length c26]) rfl)<|Vk (Zhv hS Zc2 (vs:=[.string (⟨#[]⟩:Y),Vd]) rfl) ?_;rintro _ h28 ⟨b11,ZOe,rfl,hS⟩;refine WO.hu gN (Zb5 hS k0 XD (Zm fh rfl) (Zm (Zi rfl fh) rfl) (vs:=[.string m.qJ,.slice a25 m.names.length c26]) rfl rfl rfl rfl (cs':=[.string m.qJ,.slice a25 m.names.length c26]) rfl) ?_;rintro h29 hS;refine WO.nil<|Yl.YG<|WC.seq<|WC.region<|Vi (Z0 (Zm (YC rfl e0) rfl))<|Vi (Xf Zqx (Zm (Zi rfl fh) rfl))<|Vi (ZY U3 (Zm fh rfl) (hS.UC k0) (j:=0) rfl (v:=.string m.qJ) rfl) ?_;obtain⟨y,hy,hL⟩:=bS hL;refine Vj (Yh.fn ZjI (Zb (Zm (Yb rfl fh) rfl) (Zb (Zm fh rfl) Zd))) hS (.c k5 (.c k5 (.c k5 (.c k5 .n)))) (fun g' hz hf hO=>Zn9 (hS.Vm hz) (hr.mono hS1) hO hy) ?_;rintro _ h43 _ ⟨rfl,rfl⟩ hS;refine Vi (XC ZJT (ZE (Zm fh rfl) ZV) rfl (cs':=[.string y.2,Vd]) rfl)<|Vk (Zhv hS Zc2 (vs:=[.string (⟨#[]⟩:Y),Vd]) rfl) ?_;rintro _ h44 ⟨b12,ZwP,rfl,hS⟩;refine WO.hu gN (Zb5 hS k0 XD (Zm fh rfl) (Zm (Zi rfl fh) rfl) (vs:=[.string y.2,Vd]) rfl rfl rfl rfl (cs':=[.string y.2,Vd]) rfl) ?_;rintro h45 hS;refine WO.nil<|Yl.YG<|WC.seq<|WC.seq<|WC.region<|Vi (Xf ZfC (Zm (YC rfl (Yb rfl fh)) rfl))<|Vi (ZY ZcN (Zm fh rfl) (hS.UC k5) (j:=1) rfl (v:=.slice a25 m.names.length c26) rfl)<|Vi (ZoD Qe (Zm fh rfl) rfl)<|Vi (Z0 (U6 rfl))<|WO.nil<|Yl.YG<|WC.block ?_;have hS:=hS.nil (e:=ZW);refine WC.loop (WL.lift hL (fun(q:Int×MB×U Y)(s:Fs)=>match q with | (j,fr,ns)=>∃(Zew:Fr) (h9:H) (a:O Addr) (n cc:Nat),s=⟨Zew,[],h9,none⟩/\Sp wm T h (bx wm b12 [.string y.2,.slice a n cc]::ow wm ZW a n cc ns::bx wm b5 [Ve p0.qV,.string (⟨#[]⟩:Y),.slice a2 js.length cc2,Vd,Vd]::ow wm Yg a2 js.length cc2 js::bx wm b4 [Ve 0,.string (⟨#[]⟩:Y),Vd,Vd,Vd]::bx wm b3 (q3W p0 pj cj pd cd pk ck)::JP wm w cf ct fv fr bd.1 S1) h9/\Zew.at 0=pV b/\Zew.at 3=(Vf b3)/\Zew.at 4=(Vf b4)/\Zew.at 5=(Vf b5)/\Zew.at 9=pV b1/\Zew.at 35=.slice pj p0.qG.length cj/\Zew.at 36= Ve (p0.qG.length:Int)/\Zew.at 37= Ve i2/\Zew.at 12=(Vf b12)/\Zew.at 47=.slice a25 m.names.length c26/\Zew.at 48= Ve (m.names.length:Int)/\Zew.at 49= Ve j) ⟨_,_,none,0,0,rfl,hS.only (.c k1 (.c k0 (.c k5 (.c k5 (.c k5 (.c k5 (.c k0 (.c k0 (.c k0 (.c k0 .n)))))))))),(Xb rfl (YC rfl (Yb rfl e0))),(Xb rfl (YC rfl (Yb rfl e3))),(Xb rfl (YC rfl (Yb rfl e4))),(Xb rfl (YC rfl (Yb rfl e5))),(Xb rfl (YC rfl (Yb rfl e9))),(Xb rfl (YC rfl (Yb rfl e35))),(Xb rfl (YC rfl (Yb rfl e36))),(Xb rfl (YC rfl (Yb rfl e37))),(YC rfl fh),(Yb rfl fh),(Zi rfl fh),fh⟩ ?_);clear hL hS e0 e3 e4 e5 e9 e35 e36 e37;rintro ZQq ⟨j3,fr3,ns⟩ s ZDx hL ⟨Zew,h46,a3,n3,cc3,rfl,hS,e0,e3,e4,e5,e9,e35,e36,e37,e12,e47,e48,e49⟩;obtain rfl:=hS.on k1;refine r6 ?_;refine WC.Uu lk (fun hc=>?_) (fun hc=>?_)
   ·replace hL:=XQ hc hL;refine r6 ?_;obtain⟨x,hx,hL⟩:=bS hL;obtain⟨b33,o34,_,Zqb,Zqo,ZuR,Zqi⟩:=Sl.at_ Zfn hx;refine Vi (ZQ Qe Qo lk lk rfl Zqb hx)<|Vi (ZY U3 (Zm fh rfl) (At.fz hS.fz ZuR Zqo) (j:=0) rfl (v:=.string x) rfl)<|r3 ?_;refine WC.JR mixed Kq0<|r1 ?_;refine WX.wr (fun x=>x=b12) hS gN rfl (fun _ _ hR=>ZY ZcN (Zm fh rfl) (At.eqv (hR b12 rfl) (hS.UC k0)) (j:=1) rfl (v:=.slice a3 ns.length cc3) rfl) ?_ rfl rfl;rintro h47 ZXK hS;refine r2 ?_;obtain⟨y2,hy2,hL⟩:=bS hL;refine WX.cl gN rfl (Yh.fn ZjI (Zb lk (Zb lk Zd))) hS (.c k6 (.c k6 (.c k6 (.c k6 .n)))) (fun g' hz hf hO=>Zn9 (hS.Vm hz) hr1 hO hy2) ?_ rfl rfl [1] Kq0 (.c .z (hS.djs (.c k0 (.c k5 (.c k5 (.c k5 (.c k5 .n)))))) XI.e);rintro _ h48 _ ⟨rfl,rfl⟩ hS;refine WX.hn gN rfl (Zal (e:=ZW) hS Qe Qo ZiH rfl rfl rfl (ZE lk ZV) rfl [((),y2.2)] rfl (xs:=[y2.2]) rfl (by intro q hq;exact trivial) rfl) ?_ Kq0;rintro _ h49 ⟨b58,ZXq,rfl,hS⟩;obtain⟨z,hz,hL⟩:=bS hL;refine WX.hv gN rfl (KX (e:=ZW) hS k6 UR lk lk (hS.Jk k0) (hS.on k0) hz) ?_ rfl Kq0 [] Kq0 XI.e;rintro _ h50 ⟨a39,c40,rfl,hS⟩;refine WX.w gN rfl (Xf ZfC lk) ?_ Kq0;refine WX.hu gN (Zb5 hS k6 ZiY lk lk (vs:=[.slice a39 z.length c40]) rfl rfl rfl rfl (cs':=[.string y.2,.slice a39 z.length c40]) rfl) ?_ rfl Kq0 [] Kq0 XI.e;rintro h51 hS;refine r4 ?_;refine r1 ?_;exact Vi (Z0 (Zm fh rfl))<|WO.nil<|ZM.YG (ZDx _ _ hL ⟨_,_,a39,z.length,c40,rfl,hS.only (.c k0 (.c k0 (.c k5 (.c k5 (.c k5 (.c k5 (.c k1 (.c k1 (.c k1 (.c k1 .n)))))))))),(Xb rfl (YC rfl (Yb rfl e0))),(Xb rfl (YC rfl (Yb rfl e3))),(Xb rfl (YC rfl (Yb rfl e4))),(Xb rfl (YC rfl (Yb rfl e5))),(Xb rfl (YC rfl (Yb rfl e9))),(Xb rfl (YC rfl (Yb rfl e35))),(Xb rfl (YC rfl (Yb rfl e36))),(Xb rfl (YC rfl (Yb rfl e37))),(Xb rfl (YC rfl (Yb rfl e12))),(Xb rfl (YC rfl (Yb rfl e47))),(Xb rfl (YC rfl (Yb rfl e48))),fh⟩)
   ·replace hL:=XR hc hL;refine WC.exit<|Yl.exit<|ZM.exit<|YW.here<|Yl.YG<|WC.fzn hS k1 ?_;rintro h52 ⟨ZQ8,hS⟩;refine WC.region<|Vi (Xf Zcq (Zm (Zi rfl e5) rfl))<|Vi (ZY ZoK (Zm fh rfl) (hS.UC k2) (j:=2) rfl (v:=.slice a2 js.length cc2) rfl)<|Vi (YN ZcO XD (Zm (Yb rfl (Zi rfl e12)) rfl) (hS.UC k1) (j:=0) rfl rfl (ws:=[.string y.2,.slice a3 ns.length cc3]) rfl)<|Vk (Zal (e:=Yg) hS U9 XD Zc2 rfl rfl rfl (ZE (Zm fh rfl) ZV) rfl [((a3,cc3),⟨y.2,ns⟩)] rfl (xs:=[⟨y.2,ns⟩]) rfl (by intro q hq;simp only[Kd,G9,or_false]at hq;subst hq;exact hS.fsl k0) rfl) ?_;rintro _ h53 ⟨b65,ZXp,rfl,hS⟩;obtain⟨z,hz,hL⟩:=bS hL;refine WO.hv gN rfl (KX (e:=Yg) hS k4 Ztu (Zm (Yb rfl fh) rfl) (Zm fh rfl) (hS.Jk k0) (hS.on k0) hz) ?_;rintro _ h54 ⟨a39,c40,rfl,hS⟩;refine Vi (Xf Zcq (Zm (YC rfl (Yb rfl e5)) rfl))<|WO.hu gN (Zb5 hS k4 Zt3 (Zm fh rfl) (Zm (Zi rfl fh) rfl) (vs:=[.slice a39 z.length c40]) rfl rfl rfl rfl (cs':=[Ve p0.qV,.string (⟨#[]⟩:Y),.slice a39 z.length c40,Vd,Vd]) rfl) ?_;rintro h55 hS;exact WO.nil<|YW.YG<|Yl.YG<|WC.region<|Vi (YZ (Zm (YC rfl (Yb rfl (Zi rfl e37))) rfl) (U6 rfl) Zhn)<|Vi (Z0 (Zm fh rfl))<|WO.nil<|ZM.YG (ZDA _ _ hL ⟨_,_,a39,z.length,c40,rfl,hS.only (.c k0 (.c k0 (.c k3 (.c k3 (.c k3 (.c k3 (.c k3 (.c k3 .n)))))))),(Xb rfl (Zi rfl e0)),(Xb rfl (Zi rfl e3)),(Xb rfl (Zi rfl e4)),(Xb rfl (Zi rfl e5)),(Xb rfl (Zi rfl e9)),(Xb rfl (Zi rfl e35)),(Xb rfl (Zi rfl e36)),fh⟩)
  ·replace hL:=XR hc hL;refine WC.exit<|Yl.exit<|ZM.exit<|YW.here<|Yl.YG<|WC.seq<|WC.region<|Vi (Z0 (Zm (Zi rfl e9) rfl))<|Vi (Xf ZfD (Zm (Yb rfl e3) rfl))<|Vi (ZY ZmN (Zm fh rfl) (hS.UC k3) (j:=4) rfl (v:=.slice pk p0.qQ.length ck) rfl) ?_;obtain⟨kd,hkd,hL⟩:=bS hL;obtain⟨b23,o24,pkd,JE,JG,JF,QM⟩:=Sl.at_ hsk hkd;refine Vi (ZQ Zb2 Xu (Zm fh rfl) (U6 rfl) rfl JE hkd)<|Vi (YN UU Xu (Zm fh rfl) (At.fz hS.fz JF JG) (j:=0) rfl rfl (ws:=Qi pkd kd) rfl) ?_;obtain⟨z,hz,hL⟩:=bS hL;rcases z with z|ek
   rotate_left
   ·replace hL:=ZT hL;refine WO.WN gN (Yh.fn Zcj (Zb (Zm (YC rfl fh) rfl) (Zb (Zm fh rfl) Zd))) hS (.c k4 (.c k4 (.c k4 (.c k4 .n)))) (fun g' hz' hf hO=>ZbL _ _ hz (by rw[hz'];exact hS.hw) hr1 (Zu.mono hf (Zu.mono hS.fz QM)) hO) ?_;rintro Zli hS
    repeat first|refine Yl.panic ?_|refine YW.panic ?_|refine ZM.panic ?_|refine Xh.panic ?_
    have hr':=Oi0 hL;subst hr';exact YK.Znr hT hS
   replace hL:=Yp hL;refine Vj (Yh.fn Zcj (Zb (Zm (YC rfl fh) rfl) (Zb (Zm fh rfl) Zd))) hS (.c k4 (.c k4 (.c k4 (.c k4 .n)))) (fun g' hz' hf hO=>PQ.ok (ZbL _ _ hz (by rw[hz'];exact hS.hw) hr1 (Zu.mono hf (Zu.mono hS.fz QM)) hO)) ?_;rintro _ h60 _ ⟨S2,q2,hS2,rfl,rfl⟩ hS;refine Vk (Zal (e:=Zu) hS Zb2 Xu ZiI rfl rfl rfl (ZE (Zm fh rfl) ZV) rfl [(q2,z.2)] rfl (xs:=[z.2]) rfl (by intro q hq;simp only[Kd,G9,or_false]at hq;subst hq;exact hS.get k0) rfl) ?_;rintro _ h61 ⟨bk,ebk,rfl,hS⟩;refine Vi (Xf ZfD (Zm (Xb rfl e5) rfl))<|WO.hu gN (Zb5 hS k6 Zsg (Zm fh rfl) (Zm (Zi rfl fh) rfl) (vs:=[.slice (some ⟨bk,0,none⟩) 1 (2*1)]) rfl rfl rfl rfl (cs':=[Ve p0.qV,.string (⟨#[]⟩:Y),.slice a2 js.length cc2,Vd,.slice (some ⟨bk,0,none⟩) 1 (2*1)]) rfl) ?_;rintro h62 hS;refine WO.nil<|Yl.YG<|WC.seq<|WC.region<|Vi (YN Uk YE (Zm (Xb rfl (Zi rfl e5)) rfl) (hS.UC k0) (j:=0) rfl rfl (ws:=[Ve p0.qV,.string (⟨#[]⟩:Y),.slice a2 js.length cc2,Vd,.slice (some ⟨bk,0,none⟩) 1 (2*1)]) rfl)<|WO.hu gN (Zb5 hS k8 YE (Zm (Xb rfl (Yb rfl e4)) rfl) (Zm fh rfl) (vs:=[Ve p0.qV,.string (⟨#[]⟩:Y),.slice a2 js.length cc2,Vd,.slice (some ⟨bk,0,none⟩) 1 (2*1)]) rfl rfl rfl rfl (cs':=[Ve p0.qV,.string (⟨#[]⟩:Y),.slice a2 js.length cc2,Vd,.slice (some ⟨bk,0,none⟩) 1 (2*1)]) rfl) ?_;rintro h63 hS;refine WO.nil<|Yl.YG<|WC.fzn hS k8 ?_;rintro h64 ⟨ZVY,hS⟩;refine WC.fzn hS k3 ?_;rintro h65 ⟨ZQ7,hS⟩;refine r1 ?_;have hS:=hS.add (A:=Ye wm Zc ((a2,cc2),(none,0),(some ⟨bk,0,none⟩,2*1)) (Za.mk p0.qV ⟨#[]⟩ js [] [z.2])) (Z5.2 ⟨hS.fsl k1,Sl.nil,hS.fsl k0⟩) (fun _ z=>z);have hr':=Oi0 hL;subst hr';exact YK.XY rfl (Yn (Xb rfl (Yb rfl e4)) (Xz Uk YE (hS.UC k3) (j:=0) rfl rfl (ws:=[Ve p0.qV,.string (⟨#[]⟩:Y),.slice a2 js.length cc2,Vd,.slice (some ⟨bk,0,none⟩) 1 (2*1)]) rfl) Zj) ⟨_,⟨S2,((a2,cc2),(none,0),(some ⟨bk,0,none⟩,2*1)),fun e he=>hS2 e (hS1 e he),rfl,rfl⟩,hT▸hS.only (.c k0 (.c k5 (.c k5 (.c k5 (.c k5 .n)))))⟩
def ZnN:(XX.fns.get 152).isSome=true:=Kq0
def Zkk(F:Nat)(Z9:UZ)(WW:Za->U Y->O MB)(Us:WS×U NM×Term->O (PR (WS×Term)))(c:U NM)(l:U Za)(Ym:WS×U Za->O (PR (WS×U Za))):Int×WS×U Za->(Int×WS×U Za->O (PR (WS×U Za)))->O (PR (WS×U Za)):=fun(i,ws,acc) next=>
 bif decide (i<(l.length:Int)) then(YA l i).bind fun x=>bif x.qV==2 then(Zkn F ws.1 c x.qJ).bind fun y=>(Ym ((y.1,ws.2),x.qK)).bind fun d=>Jp d (fun e=>some (.ZX e)) fun d=>(YA x.qQ 0).bind fun k=>(Us (d.1,c,k)).bind fun z=>Jp z (fun e=>some (.ZX e)) fun z=>(app 96 acc [Za.mk x.qV y.2 [] d.2 [z.2]]).bind fun a=>next (XO (i+1),z.1,a) else(Zms F Z9 WW Us ws c x).bind fun z=>Jp z (fun e=>some (.ZX e)) fun z=>(app 96 acc [z.2]).bind fun a=>next (XO (i+1),z.1,a) else some (.ok (ws,acc))
def Zcx(F:Nat)(Z9:UZ)(WW:Za->U Y->O MB)(Us:WS×U NM×Term->O (PR (WS×Term)))(c:U NM):WS×U Za->(WS×U Za->O (PR (WS×U Za)))->O (PR (WS×U Za)):=fun(ws,l) Ym=>
 loop F (Zkk F Z9 WW Us c l Ym) (0,ws,[])
def Zu4(F:Nat)(Z9:UZ)(WW:Za->U Y->O MB)(Us:WS×U NM×Term->O (PR (WS×Term)))(c:U NM)(ws:WS)(l:U Za):O (PR (WS×U Za)):=loop F (Zcx F Z9 WW Us c) (ws,l)
def ZqK{F wm w cf:Nat}{ct:O Nat}{fv:FV wm}{WIN:Zh8 wm}{Z9:UZ}{WW:Za->U Y->O MB}{Us:WS×U NM×Term->O (PR (WS×Term))}(hB:Zhq wm w cf ct fv WIN Z9)(hW:ZkT WIN WW)(ZbL:ZoS wm w cf ct fv Us){b:Nat}{c:U NM}:
 ∀(Fr:Nat)(x:WS×U Za)(r:PR (WS×U Za)),loop Fr (Zcx F Z9 WW Us c) x=some r->(∀{h:H}{S:U SE}{pa:O Addr}{pc:Nat},wm<=h.size->Rd S (some b) c->Sl Zc wm h pa pc x.2->Z7 (JP wm w cf ct fv x.1.1 x.1.2 S) h->WF XX 152 #[pV b,.slice pa x.2.length pc] wm h (PQ 147 (fun(r:WS×U Za) v (Gb:U (Ast wm))=>∃(S':U SE) (ra:O Addr) (rc:Nat),(∀e∈S,e∈S')/\v=.slice ra r.2.length rc/\Gb=Ye wm (Yy Zc) (ra,rc) r.2::JP wm w cf ct fv r.1.1 r.1.2 S') (JP wm w cf ct fv x.1.1 x.1.2 S) h r)):=by
 refine Qt _ ?_;rintro Ym XB ⟨ws,l⟩ r hL h S pa pc Zt hr hsp hO;dsimp only at hsp hO;refine WF.begin (args:=[_,_]) (fn:=Tryz.f152) Kq0 (by exact rfl) Tryz.ntmps152 (by simp) ?_;simp only[Zl,Zn,Nat.reduceAdd];obtain⟨T,hT,hS⟩:∃T,T=Qm (JP wm w cf ct fv ws.1 ws.2 S)/\Sp wm T h (JP wm w cf ct fv ws.1 ws.2 S) h:=⟨_,rfl,Sp.start Zt hO⟩
 refine r16 ?_;refine r3 ?_;have hS:=hS.nil (e:=Zc);refine WC.loop (WL.lift hL (fun(q:Int×WS×U Za)(s:Fs)=>match q with | (i,ws,acc)=>∃(X8:Fr) (h9:H) (a:O Addr) (n cc:Nat) (S1:U SE),s=⟨X8,[],h9,none⟩/\(∀e∈S,e∈S1)/\Sp wm T h (ow wm Zc a n cc acc::JP wm w cf ct fv ws.1 ws.2 S1) h9/\X8.at 0=pV b/\X8.at 5=.slice a n cc/\X8.at 9=.slice pa l.length pc/\X8.at 10= Ve (l.length:Int)/\X8.at 11= Ve i) ⟨_,_,none,0,0,S,rfl,fun _ q=>q,hS.only (.c k0 (.c k0 (.c k0 (.c k0 (.c k0 .n))))),(YC rfl (Yb rfl fh)),(Yb rfl (Zi rfl fh)),(Yb rfl fh),(Zi rfl fh),fh⟩ ?_);rintro Zcg ⟨i,ws,acc⟩ s Jr hL ⟨X8,h9,a,n,cc,S1,rfl,hS1,hS,e0,e5,e9,e10,e11⟩;obtain rfl:=hS.on k0;refine r6 ?_;refine cn hL ?_ ?_
 ·intro hc hL;refine r6 ?_;obtain⟨x,hx,hL⟩:=bS hL;obtain⟨b23,o24,⟨⟨a1,c1⟩,⟨a2,c2⟩,⟨a3,c3⟩⟩,JE,JG,JF,QM⟩:=Sl.at_ hsp hx;obtain⟨hsj,hsd,hsk⟩:=Z5.1 QM;dsimp only at hsj hsd hsk;refine Vi (ZQ WB YE (Zm (Zi rfl e9) rfl) (Zm (Zi rfl e11) rfl) rfl JE hx)<|Vi (YN Uk YE (Zm fh rfl) (At.fz hS.fz JF JG) (j:=0) rfl rfl (ws:=(q3W x a1 c1 a2 c2 a3 c3)) rfl)<|r1 ?_;rintro _ h28 ⟨b7,eb7,rfl,hS⟩;refine r1 ?_;rintro h29 hS;refine r8 ?_;refine r2 ?_;refine cn hL ?_ ?_
  ·intro hc hL;refine r1 ?_;refine WC.JR mixed Kq0<|r1 ?_;refine WX.wr (fun x=>x=b7) hS gN rfl (fun _ _ hR=>ZY Ztz (Zm fh rfl) (At.eqv (hR b7 rfl) (hS.UC k0)) (j:=0) rfl (v:= Ve x.qV) rfl) ?_ rfl rfl;rintro h30 e30 hS;refine r3 ?_;obtain⟨y,hy,hL⟩:=bS hL;refine WX.cl gN rfl (Yh.fn ZjI (Zb (Zm (Yb rfl fh) rfl) (Zb (Zm fh rfl) Zd))) hS (.c k2 (.c k2 (.c k2 (.c k2 .n)))) (fun g' hz hf hO=>Zn9 (hS.Vm hz) (hr.mono hS1) hO hy) ?_ rfl rfl [1] Kq0 (.c .z (hS.djs (.c k0 (.c k1 (.c k1 (.c k1 (.c k1 .n)))))) XI.e);rintro _ h31 _ ⟨rfl,rfl⟩ hS;refine WX.w gN rfl (XC ZBk (ZE (Zm (YC rfl fh) rfl) (ZE (Zm fh rfl) ZV)) rfl (cs':=[Ve x.qV,.string y.2,Vd,Vd,Vd]) rfl) ?_ Kq0;refine WX.hn gN rfl (Zhv hS Kq (vs:=[Ve 0,.string (⟨#[]⟩:Y),Vd,Vd,Vd]) rfl) ?_ Kq0;rintro _ h32 ⟨b8,eb8,rfl,hS⟩;refine WX.hu gN (Zb5 hS k0 YE (Zm fh rfl) (Zm (Zi rfl fh) rfl) (vs:=[Ve x.qV,.string y.2,Vd,Vd,Vd]) rfl rfl rfl rfl (cs':=[Ve x.qV,.string y.2,Vd,Vd,Vd]) rfl) ?_ rfl Kq0 [] Kq0 XI.e;rintro h33 hS;refine r6 ?_;refine r1 ?_;obtain⟨d,hd,hL⟩:=bS hL;rcases d with d|ek
   rotate_left
   ·replace hL:=ZT hL;refine WO.WN gN (Yh.fn ZnN (Zb (Zm (Yb rfl fh) rfl) (Zb (Zm fh rfl) Zd))) hS (.c k1 (.c k1 (.c k1 (.c k1 .n)))) (fun g' hz hf hO=>XB _ _ hd (hS.Vm hz) (hr.mono hS1) ((hS.sl hsd).mono hf) hO) ?_;rintro Zli hS
    repeat first|refine Yl.panic ?_|refine YW.panic ?_|refine ZM.panic ?_|refine Xh.panic ?_
    have hr':=Oi0 hL;subst hr';exact YK.Znr hT hS
   replace hL:=Yp hL;refine Vj (Yh.fn ZnN (Zb (Zm (Yb rfl fh) rfl) (Zb (Zm fh rfl) Zd))) hS (.c k1 (.c k1 (.c k1 (.c k1 .n)))) (fun g' hz hf hO=>PQ.ok (XB _ _ hd (hS.Vm hz) (hr.mono hS1) ((hS.sl hsd).mono hf) hO)) ?_;rintro _ h34 _ ⟨S2,rd,rcd,hS2,rfl,rfl⟩ hS;refine r2 ?_;rintro h35 hS;refine r6 ?_;refine r1 ?_;obtain⟨kd,hkd,hL⟩:=bS hL;obtain⟨b33,o34,pkd,Zqb,Zqo,ZuR,Zqi⟩:=Sl.at_ hsk hkd;refine Vi (ZQ Zb2 Xu (Zm fh rfl) (U6 rfl) rfl Zqb hkd)<|Vi (YN UU Xu (Zm fh rfl) (At.fz hS.fz ZuR Zqo) (j:=0) rfl rfl (ws:=Qi pkd kd) rfl) ?_;obtain⟨z,hz,hL⟩:=bS hL;rcases z with z|ek
   rotate_left
   ·replace hL:=ZT hL;refine WO.WN gN (Yh.fn Zcj (Zb (Zm (YC rfl fh) rfl) (Zb (Zm fh rfl) Zd))) hS (.c k2 (.c k2 (.c k2 (.c k2 .n)))) (fun g' hz' hf hO=>ZbL _ _ hz (by rw[hz'];exact hS.hw) ((hr.mono hS1).mono hS2) (Zu.mono hf (Zu.mono hS.fz Zqi)) hO) ?_;rintro Zli hS
    repeat first|refine Yl.panic ?_|refine YW.panic ?_|refine ZM.panic ?_|refine Xh.panic ?_
    have hr':=Oi0 hL;subst hr';exact YK.Znr hT hS
   replace hL:=Yp hL;refine Vj (Yh.fn Zcj (Zb (Zm (YC rfl fh) rfl) (Zb (Zm fh rfl) Zd))) hS (.c k2 (.c k2 (.c k2 (.c k2 .n)))) (fun g' hz' hf hO=>PQ.ok (ZbL _ _ hz (by rw[hz'];exact hS.hw) ((hr.mono hS1).mono hS2) (Zu.mono hf (Zu.mono hS.fz Zqi)) hO)) ?_;rintro _ h36 _ ⟨S3,q2,hS3,rfl,rfl⟩ hS;refine Vk (Zal (e:=Zu) hS Zb2 Xu ZiI rfl rfl rfl (ZE (Zm fh rfl) ZV) rfl [(q2,z.2)] rfl (xs:=[z.2]) rfl (by intro q hq;simp only[Kd,G9,or_false]at hq;subst hq;exact hS.get k0) rfl) ?_;rintro _ h37 ⟨bk,ebk,rfl,hS⟩;refine r2 ?_;rintro h38 hS;refine r2 ?_;refine WC.fzn hS k1 ?_;rintro h39 ⟨ZV0,hS⟩;refine r4 ?_;refine Vk (Zal (e:=Zc) hS WB YE Kq rfl rfl rfl (ZE (Zm fh rfl) ZV) rfl [(((none,0),(rd,rcd),(some ⟨bk,0,none⟩,2*1)),Za.mk x.qV y.2 [] d.2 [z.2])] rfl (xs:=[Za.mk x.qV y.2 [] d.2 [z.2]]) rfl (by intro q hq;simp only[Kd,G9,or_false]at hq;subst hq;exact Z5.2 ⟨Sl.nil,hS.fsl k7,hS.fsl k0⟩) rfl) ?_;rintro _ h40 ⟨b40,ZXu,rfl,hS⟩;obtain⟨z2,hz2,hL⟩:=bS hL;refine WO.hv gN rfl (KX (e:=Zc) hS k10 Zga (Zm (Yb rfl fh) rfl) (Zm fh rfl) (hS.Jk k0) (hS.on k0) hz2) ?_;rintro _ h41 ⟨a41,c41,rfl,hS⟩;refine r8 ?_;refine r3 ?_;exact ZM.YG (Jr _ _ hL ⟨_,_,a41,z2.length,c41,S3,rfl,fun e he=>hS3 e (hS2 e (hS1 e he)),hS.only (.c k0 (.c k4 (.c k4 (.c k4 (.c k4 .n))))),(Xb rfl (Xb rfl (Xb rfl (Xb rfl (Yb rfl (Zi rfl e0)))))),(Yb rfl fh),(Xb rfl (Xb rfl (Xb rfl (Xb rfl (Yb rfl (Zi rfl e9)))))),(Xb rfl (Xb rfl (Xb rfl (Xb rfl (Yb rfl (Zi rfl e10)))))),fh⟩)
  ·intro hc hL;refine r6 ?_;obtain⟨z,hz,hL⟩:=bS hL;rcases z with z|ek
   rotate_left
   ·replace hL:=ZT hL;refine WO.WN gN (Yh.fn Zzj (Zb (Zm (Zi rfl fh) rfl) (Zb (Zm fh rfl) Zd))) hS (.c k2 (.c k2 (.c k2 (.c k2 .n)))) (fun g' hz' hf hO=>Zu2 (F:=F) (WIN:=WIN) (Z9:=Z9) (WW:=WW) @hB hW ZbL (p:=((a1,c1),(a2,c2),(a3,c3))) (by rw[hz'];exact hS.hw) (hr.mono hS1) (Zc.mono hf (Zc.mono hS.fz QM)) hO hz) ?_;rintro Zli hS
    repeat first|refine Yl.panic ?_|refine YW.panic ?_|refine ZM.panic ?_|refine Xh.panic ?_
    have hr':=Oi0 hL;subst hr';exact YK.Znr hT hS
   replace hL:=Yp hL;refine Vj (Yh.fn Zzj (Zb (Zm (Zi rfl fh) rfl) (Zb (Zm fh rfl) Zd))) hS (.c k2 (.c k2 (.c k2 (.c k2 .n)))) (fun g' hz' hf hO=>PQ.ok (Zu2 (F:=F) (WIN:=WIN) (Z9:=Z9) (WW:=WW) @hB hW ZbL (p:=((a1,c1),(a2,c2),(a3,c3))) (by rw[hz'];exact hS.hw) (hr.mono hS1) (Zc.mono hf (Zc.mono hS.fz QM)) hO hz)) ?_;rintro _ h36 _ ⟨S3,q2,hS3,rfl,rfl⟩ hS;refine Vk (Zal (e:=Zc) hS WB YE Kq rfl rfl rfl (ZE (Zm fh rfl) ZV) rfl [(q2,z.2)] rfl (xs:=[z.2]) rfl (by intro q hq;simp only[Kd,G9,or_false]at hq;subst hq;exact hS.get k0) rfl) ?_;rintro _ h37 ⟨bk,ebk,rfl,hS⟩;obtain⟨z2,hz2,hL⟩:=bS hL;refine WO.hv gN rfl (KX (e:=Zc) hS k7 Zga (Zm (YC rfl fh) rfl) (Zm fh rfl) (hS.Jk k0) (hS.on k0) hz2) ?_;rintro _ h41 ⟨a41,c41,rfl,hS⟩;refine r8 ?_;exact ZM.YG (Jr _ _ hL ⟨_,_,a41,z2.length,c41,S3,rfl,fun e he=>hS3 e (hS1 e he),hS.only (.c k0 (.c k2 (.c k2 (.c k2 (.c k2 .n))))),(Xb rfl (Xb rfl e0)),(Yb rfl fh),(Xb rfl (Xb rfl e9)),(Xb rfl (Xb rfl e10)),fh⟩)
 ·intro hc hL;refine r8 ?_;refine r3 ?_;refine WC.fzn hS k0 ?_;rintro h65 ⟨ZQ7,hS⟩;refine r1 ?_;have hr':=Oi0 hL;subst hr';exact YK.XY rfl (Zx (Zm fh rfl) Zj) ⟨_,⟨S1,a,cc,hS1,rfl,rfl⟩,hT▸hS.only (.c k0 (.c k0 (.c k0 (.c k0 (.c k0 .n)))))⟩
def ZL4:(XX.fns.get 70).isSome=true:=Kq0
def ZfO(t:Term)(Ym:WS×U NM×Term->O (PR (WS×Term)))(c:U NM)(tx:Y)(args:U Ze)(ds:U Za):Int×WS×U Term->(Int×WS×U Term->O (PR (WS×Term)))->O (PR (WS×Term)):=fun(i,ws,acc) next=>
 bif decide (i<(t.qQ.length:Int)) then(YA t.qQ i).bind fun x=>(Ym (ws,c,x)).bind fun y=>Jp y (fun e=>some (.ZX e)) fun y=>(app 96 acc [y.2]).bind fun z=>next (XO (i+1),y.1,z) else some (.ok (ws,Term.mk t.op tx args ds acc))
def Wz(F:Nat)(t:Term)(Ym:WS×U NM×Term->O (PR (WS×Term)))(tx:Y)(args:U Ze):WS×U NM×U Za->O (PR (WS×Term)):=fun(ws,c,ds)=>loop F (ZfO t Ym c tx args ds) (0,ws,[])
def ZfP(F:Nat)(Z9:UZ)(WW:Za->U Y->O MB)(frL:Term->O MB)(t:Term)(Ym:WS×U NM×Term->O (PR (WS×Term)))(tk:MB)(c:U NM)(tx:Y):Int×MB×U Ze->(Int×MB×U Ze->O (PR (WS×Term)))->O (PR (WS×Term)):=fun(i,fr,acc) next=>
 bif decide (i<(t.args.length:Int)) then(YA t.args i).bind fun x=>(Zva F c fr x).bind fun y=>(app 56 acc [y.2]).bind fun z=>next (XO (i+1),y.1,z)
 else bif t.op==4 then(ZsZ F t.qK).bind fun cp=>(app 16 cp.1 cp.2).bind fun names=>(Z9 tk c names (frL t)).bind fun bd=>(Zu4 F Z9 WW Ym (bd.2::c) (fr,bd.1) t.qK).bind fun d=>Jp d (fun e=>some (.ZX e)) fun d=>Wz F t Ym tx acc (d.1,bd.2::c,d.2)
 else Wz F t Ym tx acc ((fr,tk),c,[])
def Zbv(F:Nat)(Z9:UZ)(WW:Za->U Y->O MB)(frL:Term->O MB)(t:Term)(Ym:WS×U NM×Term->O (PR (WS×Term)))(tk:MB)(c:U NM):MB×Y->O (PR (WS×Term)):=fun(fr,tx)=>loop F (ZfP F Z9 WW frL t Ym tk c tx) (0,fr,[])
def Zcy(F:Nat)(Z9:UZ)(WW:Za->U Y->O MB)(frL:Term->O MB):WS×U NM×Term->(WS×U NM×Term->O (PR (WS×Term)))->O (PR (WS×Term)):=fun(ws,c,t) Ym=>
 bif !decide (t.qJ=⟨#[]⟩) then(Zmt F ws.1 c t.qJ).bind fun y=>Jp y (fun e=>some (.ZX e)) fun y=>Zbv F Z9 WW frL t Ym ws.2 c y else Zbv F Z9 WW frL t Ym ws.2 c (ws.1,⟨#[]⟩)
def Zkp(F:Nat)(Z9:UZ)(WW:Za->U Y->O MB)(frL:Term->O MB):WS×U NM×Term->O (PR (WS×Term)):=loop F (Zcy F Z9 WW frL)
def ZtI{wm:Nat}(WIN:Zh8 wm)(frL:Term->O MB):Prop:=∀b3 q x,WIN (.func (.func 151) #[] #[(Vf b3)]) [bx wm b3 (Qi q x),Ye wm Zu q x] (frL x)
def ZqM{F wm w cf:Nat}{ct:O Nat}{fv:FV wm}{WIN:Zh8 wm}{Z9:UZ}{WW:Za->U Y->O MB}{frL:Term->O MB}(hB:Zhq wm w cf ct fv WIN Z9)(hW:ZkT WIN WW)(hW1:ZtI WIN frL):∀Fu,ZoS wm w cf ct fv (loop Fu (Zcy F Z9 WW frL)):=by
 refine fun Fu=>Qt (body:=Zcy F Z9 WW frL) (fun(x:WS×U NM×Term)(r:PR (WS×Term))=>∀{h:H}{S:U SE}{b:Nat}{p:TmP},wm<=h.size->Rd S (some b) x.2.1->Zu.F wm h p x.2.2->Z7 (JP wm w cf ct fv x.1.1 x.1.2 S) h ->
  WF XX 118 #[pV b,.agg (Qi p x.2.2).toArray] wm h (PQ 147 (fun(r:WS×Term) v (Gb:U (Ast wm))=>∃(S':U SE) (q:TmP),(∀e∈S,e∈S')/\v=.agg (Qi q r.2).toArray/\Gb=Ye wm Zu q r.2::JP wm w cf ct fv r.1.1 r.1.2 S') (JP wm w cf ct fv x.1.1 x.1.2 S) h r)) ?_ Fu
 rintro Ym XB ⟨ws,c,t⟩ r hL h S b ⟨⟨pA,cA⟩,⟨pD,cD⟩,⟨pK,cK⟩⟩ Zt hr hF hO;have ZbL:ZoS wm w cf ct fv Ym:=XB;dsimp only at hr hF hO;obtain⟨hsA,hsD,hsK⟩:=Qu.1 hF;dsimp only at hsA hsD hsK;refine WF.begin (args:=[_,_]) (fn:=Tryz.f118) Kq0 (by exact rfl) Tryz.ntmps118 (by simp) ?_;simp only[Zl,Zn,Nat.reduceAdd];obtain⟨T,hT,hS⟩:∃T,T=Qm (JP wm w cf ct fv ws.1 ws.2 S)/\Sp wm T h (JP wm w cf ct fv ws.1 ws.2 S) h:=⟨_,rfl,Sp.start Zt hO⟩
 refine r3 ?_;rintro _ h3 ⟨b3,eb3,rfl,hS⟩;refine r1 ?_;rintro _ h4 ⟨b4,eb4,rfl,hS⟩;refine r6 ?_;refine Vi (XC ZGv (ZE (Zm fh rfl) ZV) rfl (cs':=[Ve t.op,.string (⟨#[]⟩:Y),Vd,Vd,Vd]) rfl)<|r1 ?_;rintro _ h5 ⟨b5,eb5,rfl,hS⟩;refine r1 ?_;rintro h6 hS;refine r2 ?_;refine WC.Zei (r:=r) (fun(q:MB×Y)(s:Fs)=>∃(WY:Fr) (h9:H),s=⟨WY,[],h9,none⟩/\Sp wm T h (bx wm b5 [Ve t.op,.string q.2,Vd,Vd,Vd]::bx wm b4 [Ve 0,.string (⟨#[]⟩:Y),Vd,Vd,Vd]::bx wm b3 (q1W t pA cA pD cD pK cK)::JP wm w cf ct fv q.1 ws.2 S) h9/\WY.at 0=pV b/\WY.at 3=(Vf b3)/\WY.at 4=(Vf b4)/\WY.at 5=(Vf b5)) (Zbv F Z9 WW frL t Ym ws.2 c) ?_ ?_
 rotate_left
 ·refine WC.seq<|r3 ?_;refine Vi (YZ (Zm fh rfl) (U6 rfl) Ul)<|r2 ?_;refine cn hL ?_ ?_
  ·intro hc hL;obtain⟨y,hy,hL⟩:=bS hL;refine r4 ?_;rcases y with y|ek
   rotate_left
   ·replace hL:=ZT hL;refine WO.WN gN (Yh.fn ZjI (Zb (Zm (Yb rfl fh) rfl) (Zb (Zm fh rfl) Zd))) hS (.c k3 (.c k3 (.c k3 (.c k3 .n)))) (fun g' hz hf hO=>Zkm (hS.Vm hz) hr hO hy) ?_;rintro Zli hS
    repeat first|refine Yl.panic ?_|refine YW.panic ?_|refine ZM.panic ?_|refine Xh.panic ?_
    have hr':=Oi0 hL;subst hr';exact YK.Znr hT hS
   replace hL:=Yp hL;refine Vj (Yh.fn ZjI (Zb (Zm (Yb rfl fh) rfl) (Zb (Zm fh rfl) Zd))) hS (.c k3 (.c k3 (.c k3 (.c k3 .n)))) (fun g' hz hf hO=>PQ.ok (Zkm (hS.Vm hz) hr hO hy)) ?_;rintro _ h7 _ ⟨rfl,rfl⟩ hS;refine r2 ?_;rintro h8 hS;refine r1 ?_;exact Xh.YG y hL ⟨_,_,rfl,hS.only (.c k0 (.c k4 (.c k4 (.c k0 (.c k0 (.c k0 (.c k0 .n))))))),(Xb rfl (YC rfl (Yb rfl (Zi rfl fh)))),(Xb rfl (YC rfl (Zi rfl fh))),(Xb rfl (YC rfl fh)),(Xb rfl fh)⟩
  ·intro hc hL;refine r1 ?_;exact Xh.YG (ws.1,⟨#[]⟩) hL ⟨_,_,rfl,hS.only (.c k0 (.c k0 (.c k0 (.c k0 (.c k0 (.c k0 (.c k0 .n))))))),(Xb rfl (Yb rfl fh)),(Xb rfl fh),(YC rfl (Yb rfl (Zi rfl fh))),(Yb rfl (Zi rfl fh))⟩
 rintro⟨WY,tx⟩ s hL ⟨frx,h9,rfl,hS,e0,e3,e4,e5⟩;refine r8 ?_;refine r2 ?_;have hS:=hS.nil (e:=Zh);refine WC.loop (WL.lift hL (fun(q:Int×MB×U Ze)(s:Fs)=>match q with | (i,fr,acc)=>∃(U1:Fr) (h9:H) (a:O Addr) (n cc:Nat),s=⟨U1,[],h9,none⟩/\Sp wm T h (bx wm b5 [Ve t.op,.string tx,.slice a n cc,Vd,Vd]::ow wm Zh a n cc acc::bx wm b4 [Ve 0,.string (⟨#[]⟩:Y),Vd,Vd,Vd]::bx wm b3 (q1W t pA cA pD cD pK cK)::JP wm w cf ct fv fr ws.2 S) h9/\U1.at 0=pV b/\U1.at 3=(Vf b3)/\U1.at 4=(Vf b4)/\U1.at 5=(Vf b5)/\U1.at 25=.slice pA t.args.length cA/\U1.at 26= Ve (t.args.length:Int)/\U1.at 27= Ve i) ⟨_,_,none,0,0,rfl,hS.only (.c k1 (.c k0 (.c k0 (.c k0 (.c k0 (.c k0 (.c k0 (.c k0 .n)))))))),(YC rfl e0),(YC rfl e3),(YC rfl e4),(YC rfl e5),Yb rfl fh,Zi rfl fh,fh⟩ ?_);clear hL hS e0 e3 e4 e5;rintro Zcg ⟨i,fr,args⟩ s Jr hL ⟨U1,h10,aA,nA,ccA,rfl,hS,e0,e3,e4,e5,e25,e26,e27⟩;obtain rfl:=hS.on k1;refine r6 ?_;refine WC.Uu (Zm fh rfl) (fun hc=>?_) (fun hc=>?_)
 ·replace hL:=XQ hc hL;refine r6 ?_;obtain⟨x,hx,hL⟩:=bS hL;obtain⟨b23,o24,⟨a25,c26⟩,JE,JG,JF,QM⟩:=Sl.at_ hsA hx;refine Vi (ZQ Zan Xl (Zm (Zi rfl e25) rfl) (Zm (Zi rfl e27) rfl) rfl JE hx) ?_;have Zfn:Sl Zh wm h a25 c26 x.qQ:=YB.1 QM;refine Vi (YN U8 Xl (Zm fh rfl) (At.fz hS.fz JF JG) (j:=0) rfl rfl (ws:=(q2W x a25 c26)) rfl)<|r1 ?_;rintro _ h28 ⟨b7,eb7,rfl,hS⟩;refine r1 ?_;rintro h29 hS;refine r2 ?_;refine WC.JR mixed Kq0<|r1 ?_;refine WX.wr (fun x=>x=b5) hS gN rfl (fun _ _ hR=>ZY ZBE (Zm fh rfl) (At.eqv (hR b5 rfl) (hS.UC k1)) (j:=2) rfl (v:=.slice aA args.length ccA) rfl) ?_ rfl rfl;rintro h30 e30 hS;refine r2 ?_;obtain⟨y,hy,hL⟩:=bS hL;refine WX.cl gN rfl (Yh.fn ZsI (Zb (Zm (Zi rfl fh) rfl) (Zb (Zm fh rfl) Zd))) hS (.c k5 (.c k5 (.c k5 (.c k5 .n)))) (fun g' hz hf hO=>ZqN (cf:=cf) (ct:=ct) (fv:=fv) (taken:=ws.2) hr F (fr,x) y hy (hS.Vm hz) ((hS.sl Zfn).mono hf) hO) ?_ rfl rfl [1] Kq0 (.c .z (hS.djs (.c k1 (.c k4 (.c k4 (.c k4 (.c k4 .n)))))) XI.e);rintro _ h34 _ ⟨a31,c33,rfl,rfl⟩ hS;refine WX.hn gN rfl (Zal (e:=Zh) hS Zan Xl Zgp rfl rfl rfl (ZE (Zm fh rfl) ZV) rfl [((a31,c33),y.2)] rfl (xs:=[y.2]) rfl (by intro q hq;simp only[Kd,G9,or_false]at hq;subst hq;exact(YB.2 (hS.fsl k0))) rfl) ?_ Kq0;rintro _ h37 ⟨b36,ZED,rfl,hS⟩;obtain⟨z,hz,hL⟩:=bS hL;refine WX.hv gN rfl (KX (e:=Zh) hS k8 ZkN (Zm (YC rfl fh) rfl) (Zm fh rfl) (hS.Jk k0) (hS.on k0) hz) ?_ rfl Kq0 [] Kq0 XI.e;rintro _ h41 ⟨a39,c40,rfl,hS⟩;refine WX.w gN rfl (Xf ZuV (Zm (Xb rfl (Yb rfl (Zi rfl e5))) rfl)) ?_ Kq0;refine WX.hu gN (Zb5 hS k8 Znf (Zm fh rfl) (Zm (Zi rfl fh) rfl) (vs:=[.slice a39 z.length c40]) rfl rfl rfl rfl (cs':=[Ve t.op,.string tx,.slice a39 z.length c40,Vd,Vd]) rfl) ?_ rfl Kq0 [] Kq0 XI.e;rintro h42 hS;refine r6 ?_;refine r1 ?_;exact ZM.YG (Jr _ _ hL ⟨_,_,a39,z.length,c40,rfl,hS.only (.c k0 (.c k0 (.c k7 (.c k7 (.c k2 (.c k2 (.c k2 (.c k2 .n)))))))),(Xb rfl (YC rfl (Yb rfl e0))),(Xb rfl (YC rfl (Yb rfl e3))),(Xb rfl (YC rfl (Yb rfl e4))),(Xb rfl (YC rfl (Yb rfl e5))),(Xb rfl (YC rfl (Yb rfl e25))),(Xb rfl (YC rfl (Yb rfl e26))),fh⟩)
 replace hL:=XR hc hL;refine r4 ?_;refine r1 ?_;refine WC.fzn hS k1 ?_;rintro h43 ⟨hn43,hS⟩;refine r6 ?_;refine WC.Zei (r:=r) (fun(q:WS×U NM×U Za)(s:Fs)=>∃(WY:Fr) (h9:H) (S1:U SE) (b8:Nat) (rd:O Addr) (rcd:Nat),s=⟨WY,[],h9,none⟩/\(∀e∈S,e∈S1)/\Rd S1 (some b8) q.2.1/\Sp wm T h (bx wm b5 [Ve t.op,.string tx,.slice aA args.length ccA,.slice rd q.2.2.length rcd,Vd]::Ye wm (Yy Zh) (aA,ccA) args::Ye wm (Yy Zc) (rd,rcd) q.2.2::bx wm b4 [Ve 0,.string (⟨#[]⟩:Y),Vd,Vd,Vd]::bx wm b3 (q1W t pA cA pD cD pK cK)::JP wm w cf ct fv q.1.1 q.1.2 S1) h9/\WY.at 3=(Vf b3)/\WY.at 4=(Vf b4)/\WY.at 5=(Vf b5)/\WY.at 8=pV b8) (Wz F t Ym tx args) ?_ ?_
 rotate_left
 ·refine WC.seq<|r6 ?_;refine cn hL ?_ ?_
  ·intro hc hL;refine r4 ?_;obtain⟨cp,hcp,hL⟩:=bS hL;refine Vj (Yh.fn ZL4 (Zb (Zm fh rfl) Zd)) hS .n (fun g' hz hf hO=>ZI9 (hS.Vm hz) ((hS.sl hsD).mono hf) hcp) ?_;rintro _ h50 _ ⟨ra0,rn0,rc0,ra1,rn1,rc1,rfl,rfl⟩ hS;obtain rfl:=hS.on k0;obtain rfl:=hS.on k1;refine r1 ?_;refine Vi (Q6 (Zm fh rfl) rfl)<|Vi (Q6 (Zm (Zi rfl fh) rfl) rfl)<|r8 ?_;refine r1 ?_;obtain⟨names,hnm,hL⟩:=bS hL;refine WO.hv gN rfl (KX (e:=ZW) hS k0 UR (Zm (Zi rfl fh) rfl) (Zm fh rfl) (hS.Jk k1) (hS.on k1) hnm) ?_;rintro _ h51 ⟨aN,cN,rfl,hS⟩;refine WO.fzn hS k0 ?_;rintro h52 ⟨ZQ8,hS⟩;have hS:=hS.add (A:=Ye wm Zu ((pA,cA),(pD,cD),(pK,cK)) t) (Zu.mono hS.fz hF) (fun _ z=>z);refine Vi (Wq (Zb (Zm (Xb rfl (Xb rfl (Yb rfl e3))) rfl) Zd)) ?_;obtain⟨bd,hbd,hL⟩:=bS hL;refine Vj (Yh.fn Zzk (Zb (Zm (YC rfl fh) rfl) (Zb (Zm (Zi rfl fh) rfl) (Zb (Zm fh rfl) Zd)))) hS (.c k6 (.c k0 (.c k5 (.c k5 (.c k5 (.c k5 .n)))))) (fun g' hz hf hO=>hB (hS.Vm hz) hr ((hS.fsl k1).mono hf) (hW1 b3 ((pA,cA),(pD,cD),(pK,cK)) t) hbd hO) ?_;rintro _ h53 _ ⟨S1,b1,hS1,rfl,hr1,rfl⟩ hS;refine r6 ?_;refine r1 ?_;obtain⟨d,hd,hL⟩:=bS hL;rcases d with d|ek
   rotate_left
   ·replace hL:=ZT hL;refine WO.WN gN (Yh.fn ZnN (Zb (Zm (Yb rfl fh) rfl) (Zb (Zm fh rfl) Zd))) hS (.c k2 (.c k2 (.c k2 (.c k2 .n)))) (fun g' hz hf hO=>ZqK (F:=F) (WIN:=WIN) (Z9:=Z9) (WW:=WW) @hB hW ZbL F ((fr,bd.1),t.qK) _ hd (hS.Vm hz) hr1 ((hS.sl hsD).mono hf) hO) ?_;rintro Zli hS
    repeat first|refine Yl.panic ?_|refine YW.panic ?_|refine ZM.panic ?_|refine Xh.panic ?_
    have hr':=Oi0 hL;subst hr';exact YK.Znr hT hS
   replace hL:=Yp hL;refine Vj (Yh.fn ZnN (Zb (Zm (Yb rfl fh) rfl) (Zb (Zm fh rfl) Zd))) hS (.c k2 (.c k2 (.c k2 (.c k2 .n)))) (fun g' hz hf hO=>PQ.ok (ZqK (F:=F) (WIN:=WIN) (Z9:=Z9) (WW:=WW) @hB hW ZbL F ((fr,bd.1),t.qK) _ hd (hS.Vm hz) hr1 ((hS.sl hsD).mono hf) hO)) ?_;rintro _ h54 _ ⟨S2,rd,rcd,hS2,rfl,rfl⟩ hS;refine r2 ?_;rintro h55 hS;refine r1 ?_;exact Xh.YG (d.1,bd.2::c,d.2) hL ⟨_,_,S2,b1,rd,rcd,rfl,fun e he=>hS2 e (hS1 e he),hr1.mono hS2,hS.only (.c k0 (.c k9 (.c k0 (.c k8 (.c k4 (.c k0 (.c k0 (.c k0 (.c k0 .n))))))))),(Xb rfl (Xb rfl (Xb rfl (Yb rfl e3)))),(Xb rfl (Xb rfl (Xb rfl (Yb rfl e4)))),(Xb rfl (Xb rfl (Xb rfl (Yb rfl e5)))),(YC rfl (Zi rfl fh))⟩
  ·intro hc hL;refine r1 ?_;have hS:=hS.add (A:=Ye wm (Yy Zc) (none,0) []) Sl.nil (fun _ z=>z);exact Xh.YG ((fr,ws.2),c,[]) hL ⟨_,_,S,b,none,0,rfl,fun _ q=>q,hr,hS.only (.c k2 (.c k1 (.c k0 (.c k0 (.c k0 (.c k0 (.c k0 (.c k0 (.c k0 .n))))))))),(YC rfl (Yb rfl e3)),(YC rfl (Yb rfl e4)),(YC rfl (Yb rfl e5)),(Yb rfl (Zi rfl fh))⟩
 clear hL hS e0 e3 e4 e5;rintro⟨ws2,c2,ds⟩ s hL ⟨frz,h60,S1,b8,rd,rcd,rfl,hS1,hr8,hS,e3,e4,e5,e8⟩;dsimp only[Wz]at hL hr8;refine r8 ?_;refine r2 ?_;have hS:=hS.nil (e:=Zu);refine WC.loop (WL.lift hL (fun(q:Int×WS×U Term)(s:Fs)=>match q with | (i,ws,acc)=>∃(U1:Fr) (h9:H) (a:O Addr) (n cc:Nat) (S2:U SE),s=⟨U1,[],h9,none⟩/\(∀e∈S1,e∈S2)/\Sp wm T h (bx wm b5 [Ve t.op,.string tx,.slice aA args.length ccA,.slice rd ds.length rcd,.slice a n cc]::ow wm Zu a n cc acc::Ye wm (Yy Zh) (aA,ccA) args::Ye wm (Yy Zc) (rd,rcd) ds::bx wm b4 [Ve 0,.string (⟨#[]⟩:Y),Vd,Vd,Vd]::JP wm w cf ct fv ws.1 ws.2 S2) h9/\U1.at 4=(Vf b4)/\U1.at 5=(Vf b5)/\U1.at 8=pV b8/\U1.at 62=.slice pK t.qQ.length cK/\U1.at 63= Ve (t.qQ.length:Int)/\U1.at 64= Ve i) ⟨_,_,none,0,0,S1,rfl,fun _ q=>q,hS.only (.c k1 (.c k0 (.c k0 (.c k0 (.c k0 (.c k1 (.c k1 (.c k1 (.c k1 .n))))))))),(YC rfl e4),(YC rfl e5),(YC rfl e8),Yb rfl fh,Zi rfl fh,fh⟩ ?_);clear hL hS e3 e4 e5 e8;rintro ZQp ⟨i3,ws3,acc⟩ s ZDt hL ⟨Zew,h61,aK,nK,ccK,S2,rfl,hS2,hS,e4,e5,e8,e62,e63,e64⟩;obtain rfl:=hS.on k1;refine r6 ?_;refine cn hL ?_ ?_
 ·intro hc hL;refine r6 ?_;obtain⟨x,hx,hL⟩:=bS hL;obtain⟨b23,o24,qx,JE,JG,JF,QM⟩:=Sl.at_ hsK hx;refine Vi (ZQ Zb2 Xu (Zm (Zi rfl e62) rfl) (Zm (Zi rfl e64) rfl) rfl JE hx)<|Vi (YN UU Xu (Zm fh rfl) (At.fz hS.fz JF JG) (j:=0) rfl rfl (ws:=Qi qx x) rfl)<|r1 ?_;rintro _ h28 ⟨b12,ZwP,rfl,hS⟩;refine r1 ?_;rintro h29 hS;refine r2 ?_;obtain⟨y,hy,hL⟩:=bS hL;rcases y with y|ek
  rotate_left
  ·replace hL:=ZT hL;obtain⟨Zli,hSp,Zzz⟩:=PQ.ZX (ZbL _ _ hy hS.hw (hr8.mono hS2) (Zu.mono hS.fz QM) (hS.Zbs (.c k6 (.c k6 (.c k6 (.c k6 .n))))));refine WC.ZOh mixed (c:=4) Kq0<|PX.w rfl (Xf Zis lk)<|PX.w rfl (ZY ZmN lk (hS.UC k1) (j:=4) rfl (v:=.slice aK acc.length ccK) rfl)<|PX.w rfl (Z0 lk)<|PX.w rfl (YN UU Xu lk (hS.UC k0) (j:=0) rfl rfl (ws:=Qi qx x) rfl)<|PX.call ⟨118,_,_,Zli,rfl,Yh.fn Zcj (Zb lk (Zb lk Zd)) _,Zzz,fun Qp=>?_⟩
   repeat first|refine Yl.panic ?_|refine YW.panic ?_|refine ZM.panic ?_|refine Xh.panic ?_
   have hr':=Oi0 hL;subst hr';exact YK.Znr hT (hS.call (.c k6 (.c k6 (.c k6 (.c k6 .n)))) hSp)
  replace hL:=Yp hL;refine WC.JR mixed Kq0<|r1 ?_;refine WX.wr (fun x=>x=b5) hS gN rfl (fun _ _ hR=>ZY ZmN (Zm fh rfl) (At.eqv (hR b5 rfl) (hS.UC k1)) (j:=4) rfl (v:=.slice aK acc.length ccK) rfl) ?_ rfl rfl;rintro h30 e30 hS;refine r2 ?_;refine WX.cl gN rfl (Yh.fn Zcj (Zb (Zm (Zi rfl fh) rfl) (Zb (Zm fh rfl) Zd))) hS (.c k6 (.c k6 (.c k6 (.c k6 .n)))) (fun g' hz hf hO=>PQ.ok (ZbL _ _ hy (hS.Vm hz) (hr8.mono hS2) (Zu.mono hf (Zu.mono hS.fz QM)) hO)) ?_ rfl rfl [1] Kq0 (.c .z (hS.djs (.c k1 (.c k5 (.c k5 (.c k5 (.c k5 .n)))))) XI.e);rintro _ h34 _ ⟨S3,q3,hS3,rfl,rfl⟩ hS;refine WX.hn gN rfl (Zal (e:=Zu) hS Zb2 Xu ZiI rfl rfl rfl (ZE (Zm fh rfl) ZV) rfl [(q3,y.2)] rfl (xs:=[y.2]) rfl (by intro q hq;simp only[Kd,G9,or_false]at hq;subst hq;exact hS.get k0) rfl) ?_ Kq0;rintro _ h37 ⟨b36,ZED,rfl,hS⟩;obtain⟨z,hz,hL⟩:=bS hL;refine WX.hv gN rfl (KX (e:=Zu) hS k8 ZBt (Zm (YC rfl fh) rfl) (Zm fh rfl) (hS.Jk k0) (hS.on k0) hz) ?_ rfl Kq0 [] Kq0 XI.e;rintro _ h41 ⟨a39,c40,rfl,hS⟩;refine WX.w gN rfl (Xf Zis (Zm (Xb rfl (Yb rfl (Zi rfl e5))) rfl)) ?_ Kq0;refine WX.hu gN (Zb5 hS k8 Zsg (Zm fh rfl) (Zm (Zi rfl fh) rfl) (vs:=[.slice a39 z.length c40]) rfl rfl rfl rfl (cs':=[Ve t.op,.string tx,.slice aA args.length ccA,.slice rd ds.length rcd,.slice a39 z.length c40]) rfl) ?_ rfl Kq0 [] Kq0 XI.e;rintro h42 hS;refine r6 ?_;refine r1 ?_;exact ZM.YG (ZDt _ _ hL ⟨_,_,a39,z.length,c40,S3,rfl,fun e he=>hS3 e (hS2 e he),hS.only (.c k0 (.c k0 (.c k7 (.c k7 (.c k7 (.c k2 (.c k2 (.c k2 (.c k2 .n))))))))),(Xb rfl (YC rfl (Yb rfl e4))),(Xb rfl (YC rfl (Yb rfl e5))),(Xb rfl (YC rfl (Yb rfl e8))),(Xb rfl (YC rfl (Yb rfl e62))),(Xb rfl (YC rfl (Yb rfl e63))),fh⟩)
 ·intro hc hL;refine r4 ?_;refine r1 ?_;refine WC.fzn hS k1 ?_;rintro h43 ⟨hn43,hS⟩;refine r4 ?_;rintro h63 hS;refine r3 ?_;have hS:=hS.add (A:=Ye wm Zu ((aA,ccA),(rd,rcd),(aK,ccK)) (Term.mk t.op tx args ds acc)) (Qu.2 ⟨hS.fsl k3,hS.fsl k4,hS.fsl k1⟩) (fun _ z=>z);have hr':=Oi0 hL;subst hr';exact YK.XY rfl (Yn (Yb rfl e4) (Xz UU Xu (hS.UC k1) (j:=0) rfl rfl (ws:=[Ve t.op,.string tx,.slice aA args.length ccA,.slice rd ds.length rcd,.slice aK acc.length ccK]) rfl) Zj) ⟨_,⟨S2,((aA,ccA),(rd,rcd),(aK,ccK)),fun e he=>hS2 e (hS1 e he),rfl,rfl⟩,hT▸hS.only (.c k0 (.c k5 (.c k5 (.c k5 (.c k5 .n)))))⟩
end
end Go.Proofs.YtbnepjakjmnadaaGreat
end
end
section
set_option maxRecDepth 20000
noncomputable section
namespace Go.ZF
open Go.Lf
def Zni{α:Type}:∀(Ga Gr:U α),Sel (Ga++Gr) Ga Gr
 | [],_=>.n
 | _::Ga,Gr=>.c .z (Zni Ga Gr)
def ZA8{X:Ctx}{wm:Nat}{f:V8}{args:Va N}{h:H}{K:N->U (Ast wm)->Prop}{Ga:U (Ast wm)}(Gw:U (Ast wm))(Zt:wm<=h.size)(hO:Z7 (Gw++Ga) h)(c:WR X f args wm h (CP K Ga h)):
 WR X f args wm h (CP (fun v Gb=>∃Gb',K v Gb'/\Gb=Gw++Gb') (Gw++Ga) h):=by
 obtain⟨e,h',⟨v,rfl,Gb,hk,hS⟩,hj⟩:=c;refine⟨_,h',⟨v,rfl,Gw++Gb,⟨Gb,hk,rfl⟩,?_⟩,hj⟩;have s:=Sp.start Zt hO;have s1:Sp wm (Qm (Gw++Ga)) h (Ga++Gw) h:=s.perm List.perm_append_comm;exact(s1.call (Zni Ga Gw) hS).perm List.perm_append_comm
end Go.ZF
end
end
section
set_option maxRecDepth 20000
noncomputable section
namespace Go.Proofs.YtbnepjakjmnadaaGreat
open Go.ZF Go.Lf
section
def ZuG:(XX.fns.get 79).isSome=true:=Kq0
def ZuH:(XX.fns.get 68).isSome=true:=Kq0
def ZtW:YF XX.P 110=some (.agg #[.map none,.map none,.nilFunc]):=Kq0
instance:UW XX.P 110 (.agg #[.map none,.map none,.nilFunc]):=⟨ZtW⟩
def Zow:JO XX.P 110 [.map none,.map none,.nilFunc] [(0,1),(1,1),(2,1)]:=⟨_,_,ZtW,rfl,Tryz.underlying110,by kernel_rfl⟩
def ZaM(F:Nat):UZ:=fun tk _ names _=>(Zkl F names).map fun m=>(tk,m)
def Zvn{F wm w cf:Nat}{ct:O Nat}{WIN:Zh8 wm}:Zhq wm w cf ct FV0 WIN (ZaM F):=by
 intro h S b c names pa pc wv Gw wi free taken r Zt hr hsp _ hL hO;unfold ZaM at hL;obtain⟨m,hm,rfl⟩:=Option.map_eq_some_iff.1 hL;have hO':Z7 (JP wm w cf ct FV0 free taken S) h:=Z7.right hO;obtain⟨e,h',⟨v,rfl,Gb,⟨Gb',⟨S',b',h1,h2,h3,rfl⟩,rfl⟩,hS⟩,hj⟩:=ZA8 Gw Zt hO (ZAT (wv:=wv) Zt hr hsp hO' hm);exact⟨_,h',⟨v,rfl,_,⟨S',b',h1,h2,h3,rfl⟩,hS⟩,hj⟩
def ZnY{F wm w:Nat}{ct cm:O Nat}{fv:FV wm}{WIN:Zh8 wm}{Z9:UZ}{WW:Za->U Y->O MB}{frL:Term->O MB}(hB:∀cf,Zhq wm w cf ct fv WIN Z9)(hW:ZkT WIN WW)(hW1:ZtI WIN frL)
 {taken:MB} {h:H} {t:Term} {p:TmP} {m:O Nat} {es:U (Y×EV)} {r:PR (WS×Term)} (Zt:wm<=h.size) (hF:Zu.F wm h p t) (hO:Z7 [bx wm w [.map cm,.map ct,fv.v],fv.A,tkA wm ct taken,mp wm Value.string vvE m es,esA wm es] h) (hL:Zkp F Z9 WW frL (([],taken),[Znw es],t)=some r):
  WF XX 79 #[pV w,.agg (Qi p t).toArray,.map m] wm h (PQ 147 (fun(r:WS×Term) v (Gb:U (Ast wm))=>∃(cf:Nat) (S':U SE) (q:TmP),v=.agg (Qi q r.2).toArray/\Gb=Ye wm Zu q r.2::JP wm w cf ct fv r.1.1 r.1.2 S') [bx wm w [.map cm,.map ct,fv.v],fv.A,tkA wm ct taken,mp wm Value.string vvE m es,esA wm es] h r):=by
 refine WF.begin (args:=[_,_,_]) (fn:=Tryz.f79) Kq0 (by exact rfl) Tryz.ntmps79 (by simp) ?_;simp only[Zl,Zn,Nat.reduceAdd];obtain⟨T,hT,hS⟩:∃T,T=Qm (wm:=wm) [bx wm w [.map cm,.map ct,fv.v],fv.A,tkA wm ct taken,mp wm Value.string vvE m es,esA wm es]/\Sp wm T h [bx wm w [.map cm,.map ct,fv.v],fv.A,tkA wm ct taken,mp wm Value.string vvE m es,esA wm es] h:=⟨_,rfl,Sp.start Zt hO⟩
 refine r3 ?_;rintro _ h3 ⟨b4,eb4,rfl,hS⟩;refine r1 ?_;rintro _ h4 ⟨b6,eb6,rfl,hS⟩;refine r4 ?_;refine r1 ?_;refine Vk (ZbG Value.string Value.bool hS) ?_;rintro _ h5 ⟨cf,ecf,rfl,hS⟩;refine r3 ?_;rintro h6 hS;have hS:=ZxH (hS.only (.c k0 (.c k3 (.c k0 (.c k0 (.c k0 (.c k0 (.c k0 (.c k0 .n)))))))));refine r6 ?_;refine Vi (XC Zov (ZE (Zm (Zi rfl fh) rfl) (ZE (Zm fh rfl) ZV)) rfl (cs':=[pV w,Uf none,.map m]) rfl)<|r1 ?_;rintro _ h7 ⟨bs,ebs,rfl,hS⟩;have hS:=hS.add (A:=stA wm w []) (fun x hx=>by cases hx) (fun i z=>by obtain⟨x,hx,_⟩:=z;cases hx);have hS:=Zna (S:=[]) (b:=bs) (ar:=none) (m:=m) (es:=es) (hS.only (.c k1 (.c k6 (.c k6 (.c k0 (.c k0 (.c k0 (.c k2 (.c k0 (.c k0 .n))))))))));refine r1 ?_;rcases r with r|ek
 rotate_left
 ·refine WO.WN gN (Yh.fn Zcj (Zb (Zm (Zi rfl fh) rfl) (Zb (Zm fh rfl) Zd))) hS (.c k1 (.c k1 (.c k1 (.c k0 .n)))) (fun g' hz hf hO=>ZqM (F:=F) (WIN:=WIN) (Z9:=Z9) (WW:=WW) (frL:=frL) (hB cf) hW hW1 F (([],taken),[Znw es],t) _ hL (b:=bs) (hS.Vm hz) (Rd.cons (e:=⟨bs,none,m,es⟩) Gm Rd.nil) (Zu.mono hf (Zu.mono hS.fz hF)) hO) ?_;rintro Zli hS
  repeat first|refine Yl.panic ?_|refine YW.panic ?_|refine ZM.panic ?_|refine Xh.panic ?_
  exact YK.Znr hT hS
 refine Vj (Yh.fn Zcj (Zb (Zm (Zi rfl fh) rfl) (Zb (Zm fh rfl) Zd))) hS (.c k1 (.c k1 (.c k1 (.c k0 .n)))) (fun g' hz hf hO=>PQ.ok (ZqM (F:=F) (WIN:=WIN) (Z9:=Z9) (WW:=WW) (frL:=frL) (hB cf) hW hW1 F (([],taken),[Znw es],t) _ hL (b:=bs) (hS.Vm hz) (Rd.cons (e:=⟨bs,none,m,es⟩) Gm Rd.nil) (Zu.mono hf (Zu.mono hS.fz hF)) hO)) ?_;rintro _ h8 _ ⟨S1,q,_,rfl,rfl⟩ hS;refine r1 ?_;rintro h9 hS;refine r3 ?_;exact YK.XY rfl (Yn (Xb rfl (Yb rfl fh)) (Xz UU Xu (hS.UC k0) (j:=0) rfl rfl (ws:=Qi q r.2) rfl) Zj) ⟨_,⟨cf,S1,q,rfl,rfl⟩,hT▸hS.only (.c k1 (.c k1 (.c k1 (.c k1 (.c k1 .n)))))⟩
def Zbu(F:Nat)(t:Term):O MB:=((Zkp F (ZaM F) (fun _ _=>none) (fun _=>none) (([],[]),[[]],t)).bind okP).map fun r=>r.1.1
def ZnZ{F wm:Nat}{h:H}{t:Term}{pA pD pK:O Addr}{cA cD cK:Nat}{r:MB}(Zt:wm<=h.size)(hsA:Sl Zh wm h pA cA t.args)(hsD:Sl Zc wm h pD cD t.qK)(hsK:Sl Zu wm h pK cK t.qQ)(hL:Zbu F t=some r):
 WR XX 68 #[.agg (q1W t pA cA pD cD pK cK).toArray] wm h (CP (fun v (Gb:U (Ast wm))=>∃(cf:Nat),v=.map (some cf)/\Gb=[mp wm Value.string Value.bool (some cf) r]) [] h):=by
 have hF:Zu.F wm h ((pA,cA),(pD,cD),(pK,cK)) t:=Qu.2 ⟨hsA,hsD,hsK⟩;unfold Zbu at hL;obtain⟨r',hr',rfl⟩:=Zjh hL;refine bg Tryz.ntmps68 Zt Z7.nil ?_;intro T hT hS;refine r3 ?_;rintro _ h3 ⟨b1,eb1,rfl,hS⟩;refine r4 ?_;refine r1 ?_;refine Vi (XC Zow ZV rfl (cs':=[.map none,.map none,.nilFunc]) rfl)<|r1 ?_;rintro _ h4 ⟨bw,ebw,rfl,hS⟩;refine r6 ?_;refine r1 ?_;have hS:=hS.add (A:=esA wm []) (fun x hx=>by cases hx) (fun _ z=>z);have hS:=hS.add (A:=mp wm Value.string vvE none []) ZcX.nil (fun i z=>by cases z);have hS:=hS.add (A:=tkA wm none []) ZcX.nil (fun i z=>by cases z);have hS:=hS.add (A:=noA wm) trivial (fun i z=>z);refine Vj (Yh.fn ZuG (Zb (Zm (Zi rfl fh) rfl) (Zb (Zm fh rfl) (Zb (U6 rfl) Zd)))) hS (.c k4 (.c k0 (.c k0 (.c k0 (.c k0 .n))))) (fun g' hz hf hO=>PQ.ok (ZnY (F:=F) (w:=bw) (fv:=FV0) (WIN:=fun _ _ _=>True) (Z9:=ZaM F) (WW:=fun _ _=>none) (frL:=fun _=>none) (fun cf=>@Zvn F wm bw cf none (fun _ _ _=>True)) (fun _ _ _ _ _ _ _=>trivial) (fun _ _ _=>trivial) (p:=((pA,cA),(pD,cD),(pK,cK))) (es:=[]) (hS.Vm hz) (Zu.mono hf (Zu.mono hS.fz hF)) hO hr')) ?_;rintro _ h8 _ ⟨cf,S1,q,rfl,rfl⟩ hS;refine r6 ?_;refine r1 ?_;refine Vi (ZY Zgd (Zm fh rfl) (ZeX hS k1) (j:=0) rfl (v:=.map (some cf)) rfl)<|r4 ?_;exact YK.XY rfl (Zx (Zm fh rfl) Zj) ⟨_,⟨cf,rfl,rfl⟩,hT▸hS.only (.c k2 .n)⟩
end
section
def ZL3:(XX.fns.get 72).isSome=true:=Kq0
def ZwG(F:Nat)(t:Term):O Term:=((Zkp F (ZaM F) (fun _ _=>none) (fun _=>none) (([],[]),[[]],t)).bind okP).map fun r=>r.2
def ZI8{F wm:Nat}{h:H}{t:Term}{pA pD pK:O Addr}{cA cD cK:Nat}{r:Term}(Zt:wm<=h.size)(hsA:Sl Zh wm h pA cA t.args)(hsD:Sl Zc wm h pD cD t.qK)(hsK:Sl Zu wm h pK cK t.qQ)(hL:ZwG F t=some r):
 WR XX 72 #[.agg (q1W t pA cA pD cD pK cK).toArray] wm h (CP (fun v (Gb:U (Ast wm))=>∃(Y3:O Addr) (Y2:Nat) (Zpw:O Addr) (Zpt:Nat) (Zpv:O Addr) (Zps:Nat),v=.agg (q1W r Y3 Y2 Zpw Zpt Zpv Zps).toArray/\Gb=[Ye wm (Yy Zh) (Y3,Y2) r.args,Ye wm (Yy Zc) (Zpw,Zpt) r.qK,Ye wm (Yy Zu) (Zpv,Zps) r.qQ]) [] h):=by
 have hF:Zu.F wm h ((pA,cA),(pD,cD),(pK,cK)) t:=Qu.2 ⟨hsA,hsD,hsK⟩;unfold ZwG at hL;obtain⟨r',hr',rfl⟩:=Zjh hL;refine bg Tryz.ntmps72 Zt Z7.nil ?_;intro T hT hS;refine r3 ?_;rintro _ h3 ⟨b1,eb1,rfl,hS⟩;refine r1 ?_;rintro _ h2 ⟨b2,eb2,rfl,hS⟩;refine r4 ?_;refine Vi (XC Zow ZV rfl (cs':=[.map none,.map none,.nilFunc]) rfl)<|r1 ?_;rintro _ h4 ⟨bw,ebw,rfl,hS⟩;refine r1 ?_;have hS:=hS.add (A:=esA wm []) (fun x hx=>by cases hx) (fun _ z=>z);have hS:=hS.add (A:=mp wm Value.string vvE none []) ZcX.nil (fun i z=>by cases z);have hS:=hS.add (A:=tkA wm none []) ZcX.nil (fun i z=>by cases z);have hS:=hS.add (A:=noA wm) trivial (fun i z=>z);refine Vj (Yh.fn ZuG (Zb (Zm (Zi rfl fh) rfl) (Zb (Zm fh rfl) (Zb (U6 rfl) Zd)))) hS (.c k4 (.c k0 (.c k0 (.c k0 (.c k0 .n))))) (fun g' hz hf hO=>PQ.ok (ZnY (F:=F) (w:=bw) (fv:=FV0) (WIN:=fun _ _ _=>True) (Z9:=ZaM F) (WW:=fun _ _=>none) (frL:=fun _=>none) (fun cf=>@Zvn F wm bw cf none (fun _ _ _=>True)) (fun _ _ _ _ _ _ _=>trivial) (fun _ _ _=>trivial) (p:=((pA,cA),(pD,cD),(pK,cK))) (es:=[]) (hS.Vm hz) (Zu.mono hf (Zu.mono hS.fz hF)) hO hr')) ?_;rintro _ h8 _ ⟨cf,S1,⟨⟨q0,c0⟩,⟨q1,c1⟩,⟨q2,c2⟩⟩,rfl,rfl⟩ hS;refine r1 ?_;rintro h9 hS;refine r3 ?_;have hq:=Qu.1 (hS.get k1);have hS:=hS.add (A:=Ye wm (Yy Zu) (q2,c2) r'.2.qQ) hq.2.2 (fun _ z=>z);have hS:=hS.add (A:=Ye wm (Yy Zc) (q1,c1) r'.2.qK) hq.2.1 (fun _ z=>z);have hS:=hS.add (A:=Ye wm (Yy Zh) (q0,c0) r'.2.args) hq.1 (fun _ z=>z);exact YK.XY rfl (Yn (YC rfl fh) (Xz UU Xu (hS.UC k3) (j:=0) rfl rfl (ws:=Qi ((q0,c0),(q1,c1),(q2,c2)) r'.2) rfl) Zj) ⟨_,⟨q0,c0,q1,c1,q2,c2,rfl,rfl⟩,hT▸hS.only (.c k0 (.c k0 (.c k0 .n)))⟩
end
section
open Go.ZF Go.RowKit Go.Maps Go.Sort Go.Shelf Go.Lf
def ZEe{wm m:Nat}{h:H}:Yq XX (.call 67 #[.map (some m)] wm h) (.fin (.ret (.func (.func 111) #[] #[(Vf h.size)])) (h.push (.box m))):=by
 intro ρ args' w Zt hr hvs;refine(ZuA hr hvs).mono fun e w' ⟨v',p,l,he,hb,hp,hp2,hvr,ho⟩=>?_
 subst he;obtain⟨q1,q2⟩:=Zsl hr Zt hb hp hp2 ho;exact⟨_,.ret hvr,q1,q2⟩
def ZCO{ρ:ZF.Ren}{h:H}{w w':V9}{v:N}{ss L:U (U UInt8)}(h1:L≠[])(h2:L.mergeSort leB=L)(hp:ss.Perm L)
 (ho:w'.ownsRow w.heap.size 9 1 v ss.length ((ss.mergeSort fun x y=>decide (x<=y)).map encStr)):
 ∃p l,w.heap.size<=p/\p<w'.heap.size/\VR (ρ.add h.size (p,0) l) (.slice (some ⟨h.size,0,none⟩) L.length (2*L.length+1)) v/\Qd (ρ.add h.size (p,0) l) w' p 0 l (.row (L.map encStr) true 1):=by
 have hm:(ss.mergeSort fun x y=>decide (x<=y))=L:=by
  have e1:ss.mergeSort leB=L.mergeSort leB:=mergeSort_of_perm hp;exact e1.trans h2
 rw[hm,hp.length_eq]at ho;obtain⟨_,⟨_,h0⟩|⟨g,cap,cur,rfl,hb,hg,c1,c2,c3,c4⟩⟩:=ho
 ·exact absurd (G7 h0) h1
 ·have hlt:g<w'.heap.size:=(Jn.1 hg).1;refine⟨g,(cur.size,1),hb,hlt,?_,?_⟩
  ·have:=VR.slice (ρ:=ρ.add h.size (g,0) (cur.size,1)) (i:=h.size) (b:=g) (d:=0) 0 L.length (2*L.length+1) cap (Ren.add_same _ _ _ _) ?_
   ·exact this
   ·rw[Ren.ZaF];refine⟨KB c2 (by decide),?_⟩;rw[if_neg Vg];dsimp only;omega
  ·refine⟨cur,9,(0,0),hg,fun _=>⟨rfl,fun _=>rfl⟩,by simp;omega,fun k v v' a b=>?_⟩;rw[Nat.mul_one]at c4
   have:cur.toList[k]? =some v:=by
    have hk:(L.map encStr)[k]? =some v:=a;rw[<-c4,List.getElem?_take]at hk;split at hk
    ·exact hk
    ·cases hk
   rw[G4]at b;rw[<-G8,this]at b;cases b;rw[GN,Option.map_eq_some_iff]at a;obtain⟨x,_,rfl⟩:=a;exact VR.string _
def Zr9{ρ:ZF.Ren}{h:H}{i m clock:Nat}{args':Va N}{w:V9}{es:U Vb}{ks L:U (U UInt8)}(hr:Rel ρ h w)(hi:h.at i=.box m)(hat:h.at m=.map es clock)(c1:Xq clock es=true)(c2:es.length<=1000000)(c3:ZbI es=some ks)(c4:nodupB ks=true)(hsz:Maps.size (Jq ks)<=1000000)(h1:L≠[])(h2:L.mergeSort leB=L)(hL:(strKeys (Jq ks)).Perm L)
 (hv:Jy ρ #[.func (.func 111) #[] #[(Vf i)]] args'):
 CallsIn base 0 Tryz.prog 66 args' w (fun e w'=>∃v' p l,e=.returned v'/\Below w.heap.size w w'/\w.heap.size<=p/\p<w'.heap.size/\
  VR (ρ.add h.size (p,0) l) (.slice (some ⟨h.size,0,none⟩) L.length (2*L.length+1)) v'/\Qd (ρ.add h.size (p,0) l) w' p 0 l (.row (L.map encStr) true 1)):=by
 obtain⟨b,d,rfl,hb⟩:∃b d,args'=#[.func (.func 111) #[] #[.pointer (some ⟨b,d+0,none⟩)]]/\ρ i=some (b,d):=by
  have h1:args'.size=1:=hv.1.symm;have h2:=hv.2 0 _ (args'[0]'Vg) (by rfl) (by simp[h1])
  have h3:args'=#[args'[0]'Vg]:=by
   apply Array.ext
   ·simp[h1]
   ·intro i hi _;obtain rfl:i=0:=Vg
    rfl
  generalize args'[0]'Vg=y at h2 h3;cases h2 with
  | func _ _ _ xs' ys' hf hx hy k1 k2=>
    have e1:xs'=#[]:=GT hx.symm;have hy:ys'.size=1:=hy.symm;have k3:=k2 0 _ (ys'[0]'Vg) (by rfl) (by simp[hy])
    have e2:ys'=#[ys'[0]'Vg]:=by
     apply Array.ext
     ·simp[hy]
     ·intro i hi _;obtain rfl:i=0:=Vg
      rfl
    generalize ys'[0]'Vg=z at k3 e2;cases k3 with
    | @ptr _ b d _ hb=>exact⟨b,d,by rw[h3,e1,e2],hb⟩
 have ho:=hr.obj _ _ _ hb;rw[hi]at ho;obtain⟨rfl,bm,el,hbm,hcell⟩:=ho;have hom:=hr.obj _ _ _ hbm;rw[hat]at hom;obtain⟨_,es',hw,hes⟩:=hom;have hown:=Zsn hw hes c1 c2 c3 c4;have hlt:=(hr.dom _ _ _ hb).2
 have hseq:SeqGives base 2 Tryz.prog 111 #[(Vf b)] encStr (fun ss=>ss.Perm (strKeys (Jq ks))) (Maps.size (Jq ks)) w:=
  AnyZ.keys_gives (ρ:=Zdn) {ZuB with} base _ (inB Kq0) rfl Vg b bm _ _ w hlt (by simp[World.cell?,hcell]) hown
 have h1m:(1000000:Nat)<=maxLen:=by decide
 have cS:=AnyZ.sorted_in Znb base 5 (inB Kq0) (inB Kq0) (inB Kq0) (inB Kq0) rfl Vg (sorts _) (enters_of Tryz.func110 Kq0 rfl) 111 #[(Vf b)] (inB Kq0) (enters_of Tryz.func111 Kq0 rfl) _ _ Vg Vg _ hseq;refine CallsIn.mono (Zdw cS) ?_;rintro e w' ⟨v,ss,rfl,hS,hrow,_,hbel⟩;obtain⟨p,l,q1,q2,q3,q4⟩:=ZCO (ρ:=ρ) (h:=h) h1 h2 (hS.trans hL) hrow;exact⟨v,p,l,rfl,hbel,q1,q2,q3,q4⟩
def ZAK{wm i m clock:Nat}{h:H}{es:U Vb}{ks L:U (U UInt8)}(hi:h.at i=.box m)(hat:h.at m=.map es clock)(c1:Xq clock es=true)(c2:es.length<=1000000)(c3:ZbI es=some ks)(c4:nodupB ks=true)(hsz:Maps.size (Jq ks)<=1000000)(h1:L≠[])(h2:L.mergeSort leB=L)(hL:(strKeys (Jq ks)).Perm L):
 Yq XX (.call 66 #[.func (.func 111) #[] #[(Vf i)]] wm h) (.fin (.ret (.slice (some ⟨h.size,0,none⟩) L.length (2*L.length+1))) (h.push (.row (L.map encStr) true 1))):=by
 intro ρ args' w Zt hr hvs;refine(Zr9 hr hi hat c1 c2 c3 c4 hsz h1 h2 hL hvs).mono fun e w' ⟨v',p,l,he,hb,hp,hp2,hvr,ho⟩=>?_
 subst he;obtain⟨q1,q2⟩:=Zsl hr Zt hb hp hp2 ho;exact⟨_,.ret hvr,q1,q2⟩
def kbs(l:U (Y×Z)):U (U UInt8):=l.map fun p=>p.1.data.toList
def ZhX(l:U (Y×Z)):U (U UInt8):=(kbs l).mergeSort leB
def Zbg(l:U (Y×Z)):U Y:=(ZhX l).map fun k=>⟨k.toArray⟩
def ZsB(ks:U (U UInt8)):(strKeys (Jq ks)).Perm ks:=by
 unfold Jq;show(((ks.map fun k=>(Lit.string k,DataW.nil (H:=Unit))).foldr DataW.insert []).map fun p=>strOf p.1).Perm ks;have h:=(Go.WideShapes.sorted_perm (ks.map fun k=>(Lit.string k,DataW.nil (H:=Unit)))).map fun p=>strOf p.1
 rw[Gt]at h
 have e:ks.map ((fun p:Lit×DataW Unit=>strOf p.1)∘fun k=>(Lit.string k,DataW.nil))=ks:=by
  conv=>rhs;rw[<-List.map_id ks]
  exact List.map_congr_left fun k _=>rfl
 rwa[e]at h
def ZvX(l:U (Y×Z)):(strKeys (Jq (kbs l))).Perm (ZhX l):=(ZsB _).trans (List.mergeSort_perm _ _).symm
def Zl9:∀a b c:U UInt8,leB a b=true->leB b c=true->leB a c=true:=fun a b c h1 h2=>by simp only[leB,decide_eq_true_eq]at *;exact List.le_trans h1 h2
def Zma:∀a b:U UInt8,(leB a b||leB b a)=true:=fun a b=>by simp only[leB,GL,decide_eq_true_eq];exact List.le_total a b
def Zpi(l:U (Y×Z)):(ZhX l).mergeSort leB=ZhX l:=List.mergeSort_of_pairwise (List.pairwise_mergeSort Zl9 Zma _)
def ZiU(l:U (Y×Z)):(ZhX l).length=l.length:=by unfold ZhX;rw[List.length_mergeSort];simp[kbs]
def ZpD{k:U UInt8}:∀{xs},k∉xs->ZlY k xs=true
 | [],_=>rfl
 | x::xs,h=>by
   unfold ZlY;rw[decide_eq_false (fun e=>h (by rw[e];simp))];exact ZpD fun hm=>h (Kf _ hm)
def Zl0:∀{xs:U (U UInt8)},xs.Nodup->nodupB xs=true
 | [],_=>rfl
 | x::xs,h=>by
   obtain⟨h1,h2⟩:=GC.1 h;unfold nodupB;rw[ZpD h1,Zl0 h2];rfl
def ZlZ{b:Nat}:∀{es:U Vb},b∉es.map (·.born)->K4 b es=true
 | [],_=>rfl
 | e::es,h=>by
   unfold K4
   have:Nat.beq e.born b=false:=by
    cases hb:Nat.beq e.born b
    ·rfl
    ·exact absurd (by simp[Nb0 hb]) h
   rw[this];exact ZlZ fun hm=>h (Kf _ hm)
def ZgE{vv:Z->N}:∀(l:U (Y×Z))(bs:U Nat),bs.length=l.length->(Xc Value.string vv l bs).map (·.born)=bs
 | [],[],_=>rfl
 | [],_::_,h=>by cases h
 | _::_,[],h=>by cases h
 | p::l,b::bs,h=>by
   show b::(Xc Value.string vv l bs).map (·.born)=b::bs;rw[ZgE l bs (by simpa using h)]
def ZkF{Y6:Nat}:∀{es:U Vb},(es.map (·.born)).Nodup->(∀b∈es.map (·.born),b<Y6)->Xq Y6 es=true
 | [],_,_=>rfl
 | e::es,h,hl=>by
   obtain⟨h1,h2⟩:=GC.1 h;unfold Xq;rw[ZlZ h1,ZkF h2 fun b hb=>hl b (Kf _ hb)];have:Nat.blt e.born Y6=true:=by rw[G6];exact hl _ (by simp)
   rw[this];rfl
def ZpS{vv:Z->N}:∀(l:U (Y×Z))(bs:U Nat),bs.length=l.length->(∀p∈l,p.1.size<=1000000)->ZbI (Xc Value.string vv l bs)=some (kbs l)
 | [],[],_,_=>rfl
 | [],_::_,h,_=>by cases h
 | _::_,[],h,_=>by cases h
 | p::l,b::bs,h,hs=>by
   have i:=ZpS (vv:=vv) l bs (by simpa using h) fun q hq=>hs q (Kf _ hq)
   show(match Zy2 (Value.string p.1),ZbI (Xc Value.string vv l bs) with|some k,some ks=>some (k::ks) | _,_=>none)=_
   have hk:Zy2 (Value.string p.1)=some p.1.data.toList:=by
    have h1:=hs p (by simp);have:p.1.data.toList.length<=1000000:=by rw[G3];exact h1
    show(bif Nat.ble p.1.data.toList.length 1000000 then some p.1.data.toList else none)=_;rw[Nm0 this];rfl
   rw[hk,i];rfl
def ZsA(ks:U (U UInt8)):Maps.size (Jq ks)=ks.length:=by
 unfold Jq;rw[Maps.size_eq,(Go.WideShapes.sorted_perm _).length_eq,Gf]
def Zsa{ρ:ZF.Ren}{h:H}{i m clock:Nat}{args':Va N}{w:V9}{es:U Vb}{ks:U (U UInt8)}(hr:Rel ρ h w)(hi:h.at i=.box m)(hat:h.at m=.map es clock)(c1:Xq clock es=true)(c2:es.length<=1000000)(c3:ZbI es=some ks)(c4:nodupB ks=true)(hsz:Maps.size (Jq ks)<=1000000)(h1:ks=[])
 (hv:Jy ρ #[.func (.func 111) #[] #[(Vf i)]] args'):
 CallsIn base 0 Tryz.prog 66 args' w (fun e w'=>e=.returned (Vd)/\Below w.heap.size w w'):=by
 obtain⟨b,d,rfl,hb⟩:∃b d,args'=#[.func (.func 111) #[] #[.pointer (some ⟨b,d+0,none⟩)]]/\ρ i=some (b,d):=by
  have h1:args'.size=1:=hv.1.symm;have h2:=hv.2 0 _ (args'[0]'Vg) (by rfl) (by simp[h1])
  have h3:args'=#[args'[0]'Vg]:=by
   apply Array.ext
   ·simp[h1]
   ·intro i hi _;obtain rfl:i=0:=Vg
    rfl
  generalize args'[0]'Vg=y at h2 h3;cases h2 with
  | func _ _ _ xs' ys' hf hx hy k1 k2=>
    have e1:xs'=#[]:=GT hx.symm;have hy:ys'.size=1:=hy.symm;have k3:=k2 0 _ (ys'[0]'Vg) (by rfl) (by simp[hy])
    have e2:ys'=#[ys'[0]'Vg]:=by
     apply Array.ext
     ·simp[hy]
     ·intro i hi _;obtain rfl:i=0:=Vg
      rfl
    generalize ys'[0]'Vg=z at k3 e2;cases k3 with
    | @ptr _ b d _ hb=>exact⟨b,d,by rw[h3,e1,e2],hb⟩
 have ho:=hr.obj _ _ _ hb;rw[hi]at ho;obtain⟨rfl,bm,el,hbm,hcell⟩:=ho;have hom:=hr.obj _ _ _ hbm;rw[hat]at hom;obtain⟨_,es',hw,hes⟩:=hom;have hown:=Zsn hw hes c1 c2 c3 c4;have hlt:=(hr.dom _ _ _ hb).2
 have hseq:SeqGives base 2 Tryz.prog 111 #[(Vf b)] encStr (fun ss=>ss.Perm (strKeys (Jq ks))) (Maps.size (Jq ks)) w:=
  AnyZ.keys_gives (ρ:=Zdn) {ZuB with} base _ (inB Kq0) rfl Vg b bm _ _ w hlt (by simp[World.cell?,hcell]) hown
 have h1m:(1000000:Nat)<=maxLen:=by decide
 have cS:=AnyZ.sorted_in Znb base 5 (inB Kq0) (inB Kq0) (inB Kq0) (inB Kq0) rfl Vg (sorts _) (enters_of Tryz.func110 Kq0 rfl) 111 #[(Vf b)] (inB Kq0) (enters_of Tryz.func111 Kq0 rfl) _ _ Vg Vg _ hseq;refine CallsIn.mono (Zdw cS) ?_;rintro e w' ⟨v,ss,rfl,hS,hrow,hnil,hbel⟩;subst h1;have:ss=[]:=hS.eq_nil;exact⟨by rw[hnil.2 this],hbel⟩
def ZAL{wm i m clock:Nat}{h:H}{es:U Vb}{ks:U (U UInt8)}(hi:h.at i=.box m)(hat:h.at m=.map es clock)(c1:Xq clock es=true)(c2:es.length<=1000000)(c3:ZbI es=some ks)(c4:nodupB ks=true)(hsz:Maps.size (Jq ks)<=1000000)(h1:ks=[]):
 Yq XX (.call 66 #[.func (.func 111) #[] #[(Vf i)]] wm h) (.fin (.ret (Vd)) h):=by
 intro ρ args' w Zt hr hvs;refine(Zsa hr hi hat c1 c2 c3 c4 hsz h1 hvs).mono fun e w' ⟨he,hb⟩=>?_
 subst he;refine⟨ρ,.ret (VR.ZC rfl),⟨fun i b d e=>?_,fun i b d e=>?_,hr.inj⟩,⟨Ren.le_refl ρ,K1 _,fun _ _=>rfl,fun _ _ x=>x,fun _ _ x=>x,hb.os,hb.tape,hb.output,hb.size,fun b hb' _=>hb.block b hb',fun i b d e e'=>by rw[e]at e';cases e'⟩⟩
 ·obtain⟨q1,q2⟩:=hr.dom i b d e;exact⟨q1,G0 q2 hb.size⟩
 ·exact(hr.obj i b d e).world (hb.block b (hr.dom i b d e).2)
end
end Go.Proofs.YtbnepjakjmnadaaGreat
end
end
