/- Part 19. -/
import Derived.WalkKit
import Derived.OpenShut
import Derived.Carry
import Derived.Test.YtbnepjakjmnadaaGreatFa18
set_option linter.all false
set_option maxHeartbeats 2000000
def Go.Ne0{n:Nat}(h:n≠0):∃k,n=Nat.succ k:=Nat.exists_eq_succ_of_ne_zero h
section
noncomputable section
namespace Go.ZY
open Go.Lf
variable{P:GQ}
def Wj(P:GQ){α:Type}(e:UK α)(V:α->Prop)(t:J):Prop:=P.cellsOf t=e.sz/\∀{E:Type}{h:H}{cs:U N}{d:DataW E},AR P h t cs d->∃p x,cs=e.sh p x/\V x/\∀wm,e.F wm h p x
def Wj.int{t:J}{k:IntKind}(hu:P.underlying t=some (.int k))(hc:P.cellsOf t=1):Wj P (Qm k) (fun n=>(Lit.int k n).wf=true) t:=⟨hc,fun a=>by
 cases a with
 | int hu' wf=>rw[hu]at hu';cases hu';exact⟨(),_,rfl,wf,fun _=>trivial⟩
 | bool hu'=>rw[hu]at hu';cases hu'
 | string hu' _=>rw[hu]at hu';cases hu'
 | nil hu'=>rw[hu]at hu';cases hu'
 | empty hu'=>rw[hu]at hu';cases hu'
 | slice hu'=>rw[hu]at hu';cases hu'
 | struct hu'=>rw[hu]at hu';cases hu'⟩
def Wj.str{t:J}(hu:P.underlying t=some .string)(hc:P.cellsOf t=1):Wj P Zx (fun s=>s.size<=maxLen) t:=⟨hc,fun a=>by
 cases a with
 | string hu' hs=>exact⟨(),_,rfl,hs,fun _=>trivial⟩
 | bool hu'=>rw[hu]at hu';cases hu'
 | int hu' _=>rw[hu]at hu';cases hu'
 | nil hu'=>rw[hu]at hu';cases hu'
 | empty hu'=>rw[hu]at hu';cases hu'
 | slice hu'=>rw[hu]at hu';cases hu'
 | struct hu'=>rw[hu]at hu';cases hu'⟩
def Zct{α:Type}{e:UK α}{V:α->Prop}{h:H}{β:Type}:∀(els:U (U N×β)),(∀x∈els,∃p y,x.1=e.sh p y/\V y/\∀wm,e.F wm h p y) ->
 ∃ys:U α,ys.length=els.length/\(∀y∈ys,V y)/\∀(k:Nat)(y:α),ys[k]? =some y->∃x p,els[k]? =some x/\x.1=e.sh p y/\∀wm,e.F wm h p y
 | [],_=>⟨[],rfl,by simp,fun k y hk=>by simp at hk⟩
 | x::els,hx=>by
   obtain⟨ys,h1,hv,h2⟩:=Zct els (fun z hz=>hx z (by simp[hz]));obtain⟨p,y,h3,hvy,h4⟩:=hx x (by simp);refine⟨y::ys,by simp[h1],fun z hz=>?_,fun k z hk=>?_⟩
   ·rcases Ks.1 hz with q|q
    ·rw[q];exact hvy
    ·exact hv z q
   ·cases k with
    | zero=>simp at hk;subst hk;exact⟨x,p,rfl,h3,h4⟩
    | succ k=>
      obtain⟨x',p',q1,q2⟩:=h2 k z (by simpa using hk);exact⟨x',p',by simpa using q1,q2⟩
def Zd6{α β:Type}{f:α->U β}{sz:Nat}(l:U α)(hl:∀x∈l,(f x).length=sz){k:Nat}{x:α}(hk:l[k]? =some x):((l.flatMap f).drop (k*sz)).take sz=f x:=by
 have hfx:(f x).length=sz:=hl x (GM hk);refine List.ext_getElem? fun j=>?_
 by_cases hj:j<sz
 ·rw[List.getElem?_take_of_lt hj,List.getElem?_drop,flat_get l hl k j hj,hk];rfl
 ·rw[G7 (by rw[Gt];omega),G7 GZ]
def Wj.slice{α:Type}{e:UK α}{V:α->Prop}{t el:J}(hu:P.underlying t=some (.slice el))(hc:P.cellsOf t=1)(he:Wj P e V el):Wj P (Y8 e) (fun l=>∀x∈l,V x) t:=⟨hc,fun a=>by
 cases a with
 | bool hu'=>rw[hu]at hu';cases hu'
 | int hu' _=>rw[hu]at hu';cases hu'
 | string hu' _=>rw[hu]at hu';cases hu'
 | nil hu'=>exact⟨(none,0),[],rfl,by simp,fun _=>Sl.nil⟩
 | empty hu'=>exact⟨(some ⟨0,0,some 0⟩,0),[],rfl,by simp,fun _=>⟨by simp,by simp,.inr (.inl ⟨rfl,rfl⟩),.inl rfl⟩⟩
 | @slice t' e' els rest i cap hu' hl hcap hat hsz hel=>
   rw[hu]at hu';cases hu';obtain⟨ys,h1,hv,h2⟩:=Zct (e:=e) els (fun x hx=>he.2 (hel x hx));have hsz':∀x∈els,x.1.length=e.sz:=fun x hx=>(hsz x hx).trans he.1
   refine⟨(some ⟨i,0,none⟩,2*cap),ys,by show [Value.slice _ _ _]=[Value.slice _ _ _];rw[h1],hv,fun wm=>⟨?_,?_,.inr (.inr ⟨_,_,rfl⟩),.inr ⟨i,0,_,false,0,rfl,hat,.inr rfl,?_,fun k y hk=>?_⟩⟩⟩
   ·rw[h1];exact Kx (Kx hl hcap) (by decide)
   ·rw[h1];omega
   ·rw[h1,J1,Zfb els hsz'];exact K1 _
   ·obtain⟨x,p,q1,q2,q3⟩:=h2 k y hk;refine⟨p,?_,q3 wm⟩;rw[J1,Zd6 els hsz' q1,q2]
 | struct hu'=>rw[hu]at hu';cases hu'⟩
def AR.ZuQ{E:Type}{h:H}{t:J}{cs:U N}{d:DataW E}{fs:GT Field}(hu:P.underlying t=some (.struct fs))(a:AR P h t cs d):
 ∃els:U (U N×DataW E),cs=els.flatMap (·.1)/\els.length=fs.toList.length/\∀(i:Nat)(x:U N×DataW E)(f:Field),els[i]? =some x->fs.toList[i]? =some f->AR P h f.type x.1 x.2:=by
 cases a with
 | bool hu'=>rw[hu]at hu';cases hu'
 | int hu' _=>rw[hu]at hu';cases hu'
 | string hu' _=>rw[hu]at hu';cases hu'
 | nil hu'=>rw[hu]at hu';cases hu'
 | empty hu'=>rw[hu]at hu';cases hu'
 | slice hu'=>rw[hu]at hu';cases hu'
 | struct hu' hl hsz hel=>rw[hu]at hu';cases hu';exact⟨_,rfl,hl,hel⟩
def ZGh{ρ:Ren}{acs cs:U N}(h:LR ρ acs cs):VR ρ (.agg acs.toArray) (.agg cs.toArray):=
 .agg _ _ (by simpa using h.1) (fun i v v' e1 e2=>h.2 i v v' (by simpa using e1) (by simpa using e2))
def ZBE{ρ:Ren}{acs:U N}{cs:GT N}(h:LR ρ acs (Value.agg cs).cells.toList):VR ρ (.agg acs.toArray) (.agg cs):=by
 have:=ZGh h
 rwa[Array.toArray_toList]at this
def Zqh:Ren:=⟨fun _=>none,fun _=>(0,0)⟩
def Zrw:Zf1 ⟨.nil,0⟩:=fun i=>by
 have:(⟨.nil,0⟩:H).at i=.dead:=H.ZaC (Gq _);rw[this];rfl
def ZwV(w:GS):Rel Zqh ⟨.nil,0⟩ w:=⟨fun _ _ _ e=>(by cases e),fun _ _ _ e=>(by cases e),fun _ _ _ _ _ e=>(by cases e)⟩
def ZDC{E:Type}{W:GS}(l:U (J×U N×DataW E))(hl:∀x∈l,Zmu P W x.1 x.2.1 x.2.2):
 ∃(ρ:Ren) (h:H) (els:U (U N×DataW E)),Rel ρ h W/\Zf1 h/\els.length=l.length/\
   ∀(i:Nat)(x:U N×DataW E)(y:J×U N×DataW E),els[i]? =some x->l[i]? =some y->LR ρ x.1 y.2.1/\AR P h y.1 x.1 x.2:=by
 obtain⟨ρ,h,els,q1,q2,q3,q4,q5,q6,q7⟩:=ZnJ l hl Zqh ⟨.nil,0⟩ (ZwV W) Zrw;exact⟨ρ,h,els,q3,q4,q6,q7⟩
end Go.ZY
end
end
section
set_option maxRecDepth 20000
noncomputable section
namespace Go.Proofs.YtbnepjakjmnadaaGreat
open Go.ZY Go.Lf
section
open Go.ZY Go.RowKit Go.Maps Go.Sort Go.Shelf Go.Lf
def Zis(l:U (Y×Z)):(ZaK l).length=l.length:=by unfold ZaK;rw[Ge,Zit]
def ZwG(l:U (Y×Z)):(ZhN l).map encStr=(ZaK l).map Value.string:=by
 unfold ZaK;rw[List.map_map];exact List.map_congr_left fun k _=>rfl
def ZKr{wm m:Nat}{h h0:H}{T:Nat->Prop}{G Gr:U (Ast wm)}{l:U (Y×Z)}(hS:Sp wm T h0 G h)(pk:Pk G (mp wm Value.string Value.bool (some m) l) Gr)(hk:(l.map (·.1)).Nodup)(hs:∀p∈l,p.1.size<=1000000)(hl:l.length<=1000000):
 ∃v h2,Yx XX (.call 66 #[.func (.func 111) #[] #[(GY h.size)]] wm (h.push (.box m))) (.fin (.ret v) h2)/\∃a c,v=.slice a (ZaK l).length c/\Sp wm T h0 (ow wm Zx a (ZaK l).length c (ZaK l)::G) h2:=by
 have hS1:Sp wm T h0 G (h.push (.box m)):=hS.up (Up.push wm h _);have hi:(h.push (.box m)).at h.size=.box m:=QR _ _
 obtain⟨i,bs,X8,e,hat,hbl,hbn,hbc⟩:∃i bs X8,some m=some i/\h.at i=.map (Xy Value.string Value.bool l bs) X8/\bs.length=l.length/\bs.Nodup/\∀b∈bs,b<X8:=by
  rcases(hS.get pk).at_.mem with⟨q,_⟩|q
  ·cases q
  ·exact q
 cases e;have ZL4:(h.push (.box m)).at m=.map (Xy Value.string Value.bool l bs) X8:=by rw[Wd (Qt hat rfl)];exact hat
 have c1:Xt X8 (Xy Value.string Value.bool l bs)=true:=Zki (by rw[Zgl l bs hbl];exact hbn) (by rw[Zgl l bs hbl];exact hbc);have c2:(Xy Value.string Value.bool l bs).length<=1000000:=by unfold Xy;rw[List.length_zipWith,hbl];omega
 have c3:=Zo2 (vv:=Value.bool) l bs hbl hs
 have c4:nodupB (kbs l)=true:=ZlJ (by
  unfold kbs;rw[show(fun p:Y×Z=>p.1.data.toList)=(fun s:Y=>s.data.toList)∘(·.1) from rfl,<-List.map_map];exact List.Pairwise.map _ (fun a b hab e=>hab (by cases a;cases b;exact congrArg _ (GJ.1 e))) hk)
 have hsz:Maps.size (Jl (kbs l))<=1000000:=by rw[ZrH];simpa[kbs]using hl
 by_cases hn:l=[]
 ·subst hn;have e:ZaK []=[]:=G3 (Zis []);refine⟨GW,_,ZzH hi ZL4 c1 c2 c3 c4 hsz rfl,none,0,by rw[e];rfl,?_⟩;rw[e];exact hS1.nil
 ·have h1:ZhN l≠[]:=fun e=>hn (G3 (by rw[<-Zit l,e];rfl))
  have hlen:(ZhN l).length=(ZaK l).length:=by rw[Zit,Zis]
  refine⟨_,_,ZzG hi ZL4 c1 c2 c3 c4 hsz h1 (Zou l) (ZuU l),some ⟨(h.push (.box m)).size,0,none⟩,2*(ZaK l).length+1,by rw[hlen],?_⟩;refine hS1.new (Up.push wm _ _) ⟨rfl,?_,.inr ⟨_,0,(ZhN l).map encStr,rfl,hS1.hw,QR _ _,by omega,?_,?_⟩⟩ (fun i hi=>?_)
  ·rw[Zis];omega
  ·rw[Ge,hlen];show 0+_*1<=_;omega
  ·rw[ZwG,List.map_eq_flatMap];refine⟨by rw[<-List.map_eq_flatMap,Ge];show 0+_*1<=_;omega,fun k x hk=>⟨(),?_,trivial⟩⟩;rw[J1];exact Zd6 (ZaK l) (f:=fun x=>[Value.string x]) (sz:=1) (fun _ _=>rfl) hk
  ·obtain⟨o,ho⟩:=hi;cases ho;exact K1 _
end
section
def ZLo:(XX.fns.get 67).isSome=true:=Kq0
def ZLp:(XX.fns.get 66).isSome=true:=Kq0
def ZHn:(XX.fns.get 23).isSome=true:=Kq0
def Zgo(m:MB):Z:=decide ((m.map (·.1)).Nodup)&&m.all (fun p=>decide (p.1.size<=1000000))&&decide (m.length<=1000000)
def ZzN(F:Nat)(t:Term):O (U Y×Int):=(Zp1 F t).bind fun e=>bif e !=0 then some ([],e) else(Zvv F t).bind fun m=>bif Zgo m then some (ZaK m,0) else none
def ZIJ{F wm:Nat}{h:H}{t:Term}{pA pD pK:O Addr}{cA cD cK:Nat}{r:U Y×Int}(Zv:wm<=h.size)(hsA:Sl Zj wm h pA cA t.args)(hsD:Sl Zc wm h pD cD t.defs)(hsK:Sl ZB wm h pK cK t.kids)(hL:ZzN F t=some r):
 WR XX 27 #[.agg #[GX t.op,.string t.text,.slice pA t.args.length cA,.slice pD t.defs.length cD,.slice pK t.kids.length cK]] wm h (CP (fun v (Gb:U (Ast wm))=>∃(ZW:O Addr) (Yn:Nat) (ZV:Nat),v=.tuple #[.slice ZW Yn ZV,GX r.2]/\Gb=[ow wm Zx ZW Yn ZV r.1]) [] h):=by
 unfold ZzN at hL;refine bg Tryz.ntmps27 Zv Yb.nil ?_;intro T hT hS;refine r3 ?_;rintro _ h3 ⟨b1,eb1,rfl,hS⟩;refine r8 ?_;obtain⟨e,he,hL⟩:=bS hL;refine WO.cp gN rfl (Yi.fn ZHn (Zb lk Zd)) (ZzP (hS.slu hsA) (hS.slu hsD) (hS.slu hsK) he)<|r8 ?_;refine r1 ?_;refine cn hL ?_ ?_
 ·intro hc hL;refine r8 ?_;refine r1 ?_;have hS:=hS.nil (e:=Zx);have hr:=Oi0 hL;subst hr;exact YK.gen (vs:=[GW,GX e]) rfl (Zn lk (Zn lk Zk)) rfl ⟨_,⟨none,0,0,rfl,rfl⟩,hT▸hS.only (.c k0 .n)⟩
 ·intro hc hL;refine r4 ?_;refine r1 ?_;obtain⟨m,hm,hL⟩:=bS hL;refine V3 (Yi.fn ZLn (Zb lk Zd)) hS .n (fun g' hz hf hO=>ZIo (hS.V6 hz) ((hS.sl hsA).mono hf) ((hS.sl hsD).mono hf) ((hS.sl hsK).mono hf) hm) ?_;rintro _ h8 _ ⟨cf,rfl,rfl⟩ hS;cases hko:Zgo m
  ·rw[hko]at hL;cases hL
  rw[hko]at hL
  have ZHh:((m.map (·.1)).Nodup/\∀p∈m,p.1.size<=1000000)/\m.length<=1000000:=by
   unfold Zgo at hko
   simpa only[Ba0,decide_eq_true_eq,Kd]using hko
  obtain⟨v,h9,hj,a,cc,rfl,hS2⟩:=ZKr hS k0 ZHh.1.1 ZHh.1.2 ZHh.2;refine WO.en gN rfl (Yi.fn ZLo (Zb lk Zd)) ZC3<|WO.en gN rfl (Yi.fn ZLp (Zb lk Zd)) hj<|r4 ?_;refine r1 ?_;have hr:=Oi0 hL;subst hr;exact YK.gen (vs:=[.slice a (ZaK m).length cc,GX 0]) rfl (Zn lk (Zn lk Zk)) rfl ⟨_,⟨a,_,cc,rfl,rfl⟩,hT▸hS2.only (.c k0 .n)⟩
end
section
def f5L(F:Nat)(p0:Term):O Z:=
 (ZzN F p0).bind fun x3=>(ZzM F p0).bind fun x9=>(Zvx F p0).bind fun x15=>(ZzL F p0).bind fun x24=>(Zns F x3.1 x9.1).bind fun x33=>(gd (x33&&(x3.2==x9.2)) (Zns F x15.1 x24.1) default).bind fun x34=>(gd ((x33&&(x3.2==x9.2))&&x34) (Zns F x15.2.1 x24.2.1) default).bind fun x35=>(gd ((((x33&&(x3.2==x9.2))&&x34)&&x35)&&(x15.2.2==x24.2.2)) (ZIP) default).bind fun x36=>some (((((x33&&(x3.2==x9.2))&&x34)&&x35)&&(x15.2.2==x24.2.2))&&x36)
end
section
def ZNK{F wm h}{p0:Term}{Zf Ze Zu Zt Zp Zo}{r}(Zv:wm<=h.size)(Zl:Sl Zj wm h Zf Ze p0.args)(ZG:Sl Zc wm h Zu Zt p0.defs)(ZI:Sl ZB wm h Zp Zo p0.kids)(hL:f5L F p0=some r):
 WR XX 5 #[.agg #[GX p0.op,.string p0.text,.slice Zf p0.args.length Ze,.slice Zu p0.defs.length Zt,.slice Zp p0.kids.length Zo]] wm h (CP (fun v (Gb:U (Ast wm))=>v=.bool r/\Gb=[]) [] h):=by
 refine bg Tryz.ntmps5 Zv Yb.nil ?_;intro T hT hS;unfold f5L at hL;refine r3 ?_;rintro _ h2 ⟨b1,eb1,rfl,hS⟩;refine r6 ?_;obtain⟨x3,hx3,hL⟩:=bS hL;refine V3 (Yi.fn ZMc (Zb lk Zd)) hS .n (fun g' hz hf hO=>ZIJ (hS.V6 hz) ((hS.sl Zl).mono hf) ((hS.sl ZG).mono hf) ((hS.sl ZI).mono hf) hx3) ?_;rintro _ h7 _ ⟨a4,n5,c6,rfl,rfl⟩ hS;obtain rfl:=hS.on k0;refine r10 ?_;obtain⟨x9,hx9,hL⟩:=bS hL;refine V3 (Yi.fn ZMb (Zb lk Zd)) hS .n (fun g' hz hf hO=>ZII (hS.V6 hz) ((hS.sl Zl).mono hf) ((hS.sl ZG).mono hf) ((hS.sl ZI).mono hf) hx9) ?_;rintro _ h13 _ ⟨a10,n11,c12,rfl,rfl⟩ hS;obtain rfl:=hS.on k0;refine r10 ?_;obtain⟨x15,Zje,hL⟩:=bS hL;refine V3 (Yi.fn ZMa (Zb lk Zd)) hS .n (fun g' hz hf hO=>ZIH (hS.V6 hz) ((hS.sl Zl).mono hf) ((hS.sl ZG).mono hf) ((hS.sl ZI).mono hf) Zje) ?_;rintro _ h22 _ ⟨a16,n17,c18,a19,n20,c21,rfl,rfl⟩ hS;obtain rfl:=hS.on k0;obtain rfl:=hS.on k1;refine r12 ?_;obtain⟨x24,hx24,hL⟩:=bS hL;refine V3 (Yi.fn ZL9 (Zb lk Zd)) hS .n (fun g' hz hf hO=>ZIF (hS.V6 hz) ((hS.sl Zl).mono hf) ((hS.sl ZG).mono hf) ((hS.sl ZI).mono hf) hx24) ?_;rintro _ h31 _ ⟨a25,n26,c27,a28,n29,c30,rfl,rfl⟩ hS;obtain rfl:=hS.on k0;obtain rfl:=hS.on k1;refine r13 ?_;obtain⟨x33,ZCh,hL⟩:=bS hL;refine WO.cp gN rfl (Yi.fn Zyt (Zb lk (Zb lk Zd))) (Zsm (hS.ord k5) (hS.ord k4) ZCh)<|r8 ?_;obtain⟨x34,hx34,hL⟩:=Y1 hL;refine WO.gcp (Zh.yes rfl rfl rfl (Ya rfl fh)) rfl (fun hg=>(Yi.fn Zyt (Zb (X0 (Zg rfl fh) rfl hg) (Zb (X0 fh rfl hg) Zd)))) (fun hg=>Zsm (hS.ord k2) (hS.ord k0) (hx34 hg))<|r4 ?_;obtain⟨x35,ZG7,hL⟩:=Y1 hL;refine WO.gcp (Zh.yes rfl rfl rfl (Ya rfl fh)) rfl (fun hg=>(Yi.fn Zyt (Zb (X0 (Zg rfl fh) rfl hg) (Zb (X0 fh rfl hg) Zd)))) (fun hg=>Zsm (hS.ord k3) (hS.ord k1) (ZG7 hg))<|r7 ?_;obtain⟨x36,Ze1,hL⟩:=Y1 hL;refine WO.gcp (Zh.yes rfl rfl rfl fh) rfl (fun hg=>(Yi.fn ZMe Zd)) (fun hg=>ZIO (Ze1 hg))<|r5 ?_;exact rt hL hT hS
def ZNL{F h}{p0:Term}{Zf Ze Zu Zt Zp Zo}{r}(Zl:Sl Zj h.size h Zf Ze p0.args)(ZG:Sl Zc h.size h Zu Zt p0.defs)(ZI:Sl ZB h.size h Zp Zo p0.kids)(hL:f5L F p0=some r):Pure XX 5 #[.agg #[GX p0.op,.string p0.text,.slice Zf p0.args.length Ze,.slice Zu p0.defs.length Zt,.slice Zp p0.kids.length Zo]] h (.bool r):=
 WR.Zam rfl (ZNK V0 Zl ZG ZI hL)
end
end Go.Proofs.YtbnepjakjmnadaaGreat
end
end
section
set_option maxRecDepth 20000
noncomputable section
namespace Go.ZY
open Go.Lf
variable{P:GQ}
end Go.ZY
end
end
section
set_option maxRecDepth 20000
noncomputable section
namespace Go.Proofs.YtbnepjakjmnadaaGreat
open Go.ZY Go.Lf
section
end
section
def ZBx:YP XX.P 107=some (.pointer none):=Kq0
instance:UM XX.P 107 (.pointer none):=⟨ZBx⟩
def ZBS:Yz XX.P 107=some 1:=Kq0
instance:SzF XX.P 107 1:=⟨ZBS⟩
def ZBR:Yz XX.P 108=some 1:=Kq0
instance:SzF XX.P 108 1:=⟨ZBR⟩
end
section
end
end Go.Proofs.YtbnepjakjmnadaaGreat
end
end
section
namespace Go.Lf
def Zoi{k:Nat}(h:k<4611686018427387904):Xa ((k:Int)+1)=((k+1:Nat):Int):=by
 rw[Zim GZ GZ];rfl
def QK{α:Type}{KM:Nat}{xs ys:U α}(h:xs.length+ys.length<=1000000)(hb:KM<=1000):app KM xs ys=some (xs++ys):=
 ZAD (Kx (Nat.mul_le_mul (show 2*(xs.length+ys.length)+1000<=2001000 by omega) hb) (by decide))
def iter{α β σ:Type}(g:Nat->α->σ->(σ->O β)->O β)(d:σ->O β):Nat->U α->σ->O β
 | _,[],s=>d s
 | i,x::l,s=>g i x s (fun s'=>iter g d (i+1) l s')
def ZR{α β σ γ:Type}(l:U α)(mk:Int->σ->γ)(body:γ->(γ->O β)->O β)(g:Nat->α->σ->(σ->O β)->O β)(d:σ->O β)
 (hl:l.length<4611686018427387904)
 (hb:∀(k:Nat) x s next,l[k]? =some x->((k:Int)<(l.length:Int))->body (mk k s) next=g k x s (fun s'=>next (mk (Xa (k+1)) s')))
 (he:∀s next,body (mk l.length s) next=d s) {F:Nat} (hF:l.length<F) (s:σ):loop F body (mk 0 s)=iter g d 0 l s:=by
 have key:∀(m k F:Nat) s,k+m=l.length->m<F->loop F body (mk k s)=iter g d k (l.drop k) s:=by
  intro m
  induction m with
  | zero=>
    intro k F s hk hF;obtain⟨F,rfl⟩:=Ne0 (n:=F) GZ;have:k=l.length:=GZ
    subst this;rw[Z5,he,List.drop_length];rfl
  | succ m ih=>
    intro k F s hk hF;obtain⟨F,rfl⟩:=Ne0 (n:=F) GZ;have hlt:k<l.length:=GZ
    rw[Z5,hb k l[k] s _ (by simp[hlt]) GZ,List.drop_eq_getElem_cons hlt,iter];congr 1;funext s';rw[Zoi GZ];exact ih (k+1) F s' GZ GZ
 have:=key l.length 0 F s GZ GZ
 simpa using this
end Go.Lf
end
section
noncomputable section
namespace Go.Proofs.YtbnepjakjmnadaaGreat
open Go.Lf
section
section
variable{β γ:Type}
def ZlS{body:γ->(γ->O β)->O β}{r:O β}(S:Nat->γ){n F:Nat}(hF:n<F)(hb:∀k,k<n->∀next,body (S k) next=next (S (k+1)))(he:∀next,body (S n) next=r):loop F body (S 0)=r:=by
 have:∀j F,j<=n->n-j<F->loop F body (S j)=r:=by
  intro j F hj hF;obtain⟨d,hd⟩:∃d,d=n-j:=⟨_,rfl⟩
  induction d generalizing j F with
  | zero=>
    have:j=n:=GZ
    subst this;cases F with
    | zero=>omega
    | succ F=>rw[Z5];exact he _
  | succ d ih=>
    cases F with
    | zero=>omega
    | succ F=>rw[Z5,hb j GZ];exact ih (j+1) F GZ GZ GZ
 exact this 0 F (Gq _) GZ
def ZeY{body:γ->(γ->O β)->O β}{r1 r2:O β}(S:Nat->γ)(c:Nat->Z){n F:Nat}(hF:n<F)(hb:∀k,k<n->∀next,body (S k) next=bif c k then r1 else next (S (k+1)))(he:∀next,body (S n) next=r2):loop F body (S 0)=bif(List.range n).any c then r1 else r2:=by
 cases h:(List.range n).any c with
 | false=>
   rw[List.any_eq_false]at h;refine ZlS S hF (fun k hk next=>?_) he;have:=h k (List.mem_range.2 hk);rw[hb k hk,Gd.2 this];rfl
 | true=>
   have hex:∃k,k<n/\c k=true:=by
    obtain⟨k,h1,h2⟩:=GI.1 h;exact⟨k,List.mem_range.1 h1,h2⟩
   have hm:∃m,(m<n/\c m=true)/\∀k,k<m->c k=false:=by
    obtain⟨k,hk⟩:=hex
    induction k using Nat.strongRecOn with
    | _ k ih=>
      by_cases hz:∃j,j<k/\c j=true
      ·obtain⟨j,h1,h2⟩:=hz;exact ih j h1 ⟨by omega,h2⟩
      ·exact⟨k,hk,fun j hj=>Gd.2 fun q=>hz ⟨j,hj,q⟩⟩
   obtain⟨m,⟨h1,h2⟩,h3⟩:=hm;refine ZlS S (n:=m) GZ (fun k hk next=>?_) (fun next=>?_)
   ·rw[hb k GZ,h3 k hk];rfl
   ·rw[hb m h1,h2];rfl
end
def ZGg{k:Nat}(h:k<4611686018427387904):Xa ((k:Int)+1)=((k+1:Nat):Int):=Zoi h
def X7{k:Nat}(h:k<9223372036854775807):Xa ((k:Int)+1)=((k+1:Nat):Int):=by rw[Zim GZ GZ];omega
def ZQ{k n:Nat}(h:k<n):decide ((k:Int)<(n:Int))=true:=decide_eq_true GZ
def Zy(n:Nat):decide ((n:Int)<(n:Int))=false:=decide_eq_false GZ
def Zgv{α:Type}{l:U α}{k:Nat}(h:k<l.length):Yf l (k:Int)=some l[k]:=by rw[ZpL,Gl h]
def app1{α:Type}{b:Nat}{l:U α}{x:α}(h:l.length<=900000)(hb:b<=1000):app b l [x]=some (l++[x]):=QK (by simp;omega) hb
def ZB5{α:Type}[BEq α][LawfulBEq α](a:α):(a !=a)=false:=by simp
end
section
instance:LawfulBEq ByteArray where
 eq_of_beq {a b} h:=by
  cases a with|mk a=>cases b with|mk b=>
  have h:(a==b)=true:=h;rw[eq_of_beq h]
 rfl {a}:=by
  cases a with|mk a=>
  show(a==a)=true;simp
def kws:U Y:=[(⟨#[97,110,100]⟩:Y),(⟨#[100,101,102]⟩:Y),(⟨#[101,108,115,101]⟩:Y),(⟨#[103,111]⟩:Y),(⟨#[105,102]⟩:Y),(⟨#[105,110]⟩:Y),(⟨#[112,108,97,99,101]⟩:Y),(⟨#[115,116,111,112]⟩:Y),(⟨#[116,104,101,110]⟩:Y),(⟨#[119,97,116,99,104]⟩:Y)]
def Zkl(s:Y)(k:Nat):Z:=decide (((s.data.getD k 0).toNat:Int)<97)||decide (((s.data.getD k 0).toNat:Int)>122)
def Qb(s:Y):Z:=decide (0<s.size)&&decide (s.size<=8) && !((List.range s.size).any (Zkl s)) && !decide (s∈kws)
def Zte{s:Y}{k:Nat}(h:k<s.size):Zhh s (k:Int)=some ((s.data.getD k 0).toNat:Int):=by
 have hk:k<s.data.size:=h
 have e:s[((k:Int)).toNat]? =some (s.data[k]):=by
  rw[Int.toNat_natCast];show s.data[k]? =_;rw[Gx hk]
 unfold Zhh;rw[if_pos GZ,e,Q1,Gx hk]
 rfl
def has_eq(F:Nat)(l:U Y)(s:Y)(h:l.length<F)(hl:l.length<4000000000000000000):ZgP F l s=some (decide (s∈l)):=by
 have:=ZeY (body:=ZgO l s) (r1:=some true) (r2:=some false) (fun k:Nat=>(k:Int)) (fun k=>decide (l[k]? =some s)) (n:=l.length) h
  (fun k hk next=>by
    simp only[ZgO,ZQ hk,Cq1,Zgv hk,Bq0,ZGg (show k<4611686018427387904 by omega)];rw[Gl hk];simp)
  (fun next=>by simp[ZgO])
 rw[show ZgP F l s=loop F (ZgO l s) 0 from rfl];rw[show(0:Int)=((0:Nat):Int) from rfl,this]
 have e:(List.range l.length).any (fun k=>decide (l[k]? =some s))=decide (s∈l):=by
  rw[Bool.eq_iff_iff,GI,decide_eq_true_iff]
  constructor
  ·rintro⟨k,_,hk⟩;rw[decide_eq_true_iff]at hk;exact GM hk
  ·intro hm;obtain⟨k,hk,hs⟩:=List.getElem_of_mem hm;exact⟨k,List.mem_range.2 hk,by rw[decide_eq_true_iff,Gl hk,hs]⟩
 rw[e];cases decide (s∈l)<;>rfl
def setOf(l:U Y):U (Y×Z):=l.foldl (fun m s=>Xx m s true) []
def ZuX(l:U Y)(s:Y):(ZT (setOf l) s).getD false=decide (s∈l):=by
 have gen:∀(l:U Y)(m:U (Y×Z)),(ZT (l.foldl (fun m s=>Xx m s true) m) s).getD false=(decide (s∈l)||(ZT m s).getD false):=by
  intro l
  induction l with
  | nil=>intro m;simp
  | cons x l ih=>
    intro m;rw[Gh,ih,ZcT];by_cases h:s=x
    ·subst h;simp
    ·rw[if_neg h];simp[h]
 have:=gen l [];unfold setOf;rw[this];simp[ZT,Yj]
def ZGS(s:Y):(ZzK.bind fun m=>(ZkX m s false).bind fun x=>some (!x))=some (!decide (s∈kws)):=by
 have e:ZzK=some (setOf kws):=rfl;rw[e];show some (!((ZT (setOf kws) s).getD false))=_;rw[ZuX]
def Zxr(F:Nat)(s:Y)(h:s.size<F)(hl:s.size<=9223372036854775807):ZjW F s=some (Qb s):=by
 have:=ZeY (body:=ZgR s) (r1:=some false) (r2:=some (decide (0<s.size)&&decide (s.size<=8) && !decide (s∈kws))) (fun k:Nat=>(k:Int)) (Zkl s) (n:=s.size) h
  (fun k hk next=>by
    simp only[ZgR,ZQ hk,Cq1,Zte hk,Bq0,X7 (show k<9223372036854775807 by omega)];unfold Zkl;cases h1:decide (((s.data.getD k 0).toNat:Int)<97)<;>simp[gd])
  (fun next=>by
    simp only[ZgR,Zy,Cq0];rw[ZGS]
    have e1:decide ((s.size:Int)>0)=decide (0<s.size):=by
     by_cases hz:0<s.size
     ·rw[decide_eq_true hz,decide_eq_true GZ]
     ·rw[decide_eq_false hz,decide_eq_false GZ]
    have e2:decide ((s.size:Int)<=8)=decide (s.size<=8):=by
     by_cases hz:s.size<=8
     ·rw[decide_eq_true hz,decide_eq_true GZ]
     ·rw[decide_eq_false hz,decide_eq_false GZ]
    rw[e1,e2];cases (decide (0<s.size)&&decide (s.size<=8))<;>simp)
 show loop F (ZgR s) ((0:Nat):Int)=_;rw[this];unfold Qb;cases (List.range s.size).any (Zkl s)<;>simp
def Zxp(F:Nat)(s:Y)(h:s.size<F)(h2:20<=F):Znx F s=some (Qb s):=by
 unfold Znx;by_cases hz:0<s.size/\s.size<=8
 ·obtain⟨z1,z2⟩:=hz;rw[decide_eq_false GZ,decide_eq_false GZ];simp only[Bool.or_false,Cq0]
  have:=ZeY (body:=ZgQ F s) (r1:=some false) (r2:=some (!decide (s∈kws))) (fun k:Nat=>(k:Int)) (Zkl s) (n:=s.size) h
   (fun k hk next=>by
     simp only[ZgQ,ZQ hk,Cq1,Zte hk,Bq0,ZGg (show k<4611686018427387904 by omega)];unfold Zkl;cases h1:decide (((s.data.getD k 0).toNat:Int)<97)<;>simp[gd])
   (fun next=>by
     simp only[ZgQ,Zy,Cq0];have e:=has_eq F kws s (by show 10<F;omega) (by decide);unfold kws at e;rw[e];rfl)
  show loop F (ZgQ F s) ((0:Nat):Int)=_;rw[this];unfold Qb;rw[decide_eq_true z1,decide_eq_true z2];cases (List.range s.size).any (Zkl s)<;>simp
 ·have:Qb s=false:=by
   unfold Qb;by_cases z1:0<s.size
   ·rw[decide_eq_false (show ¬ s.size<=8 by omega)];simp
   ·rw[decide_eq_false z1];simp
  rw[this];by_cases z1:s.size<1
  ·rw[decide_eq_true GZ];rfl
  ·rw[decide_eq_true (show(s.size:Int)>8 by omega)];simp
end
section
def Yq:Part->U Part
 | .pr t=>t.args.map .ex++t.defs.map .cl++t.kids.map .pr
 | .ex e=>e.kids.map .ex
 | .cl c=>c.defs.map .cl++c.kids.map .pr
def pz:Part->Nat
 | .pr t=>SizeOf.sizeOf t
 | .ex e=>SizeOf.sizeOf e
 | .cl c=>SizeOf.sizeOf c
def Zb2{k p:Part}(h:k∈Yq p):pz k<pz p:=by
 cases p with
 | pr t=>
   obtain⟨op,tx,ags,ds,ks⟩:=t;simp only[Yq,G8,Gs]at h;rcases h with(⟨x,hx,rfl⟩|⟨x,hx,rfl⟩) | ⟨x,hx,rfl⟩<;>(have:=List.sizeOf_lt_of_mem hx;simp only[pz,Term.mk.sizeOf_spec];omega)
 | ex e=>
   obtain⟨op,n,tx,ks⟩:=e;simp only[Yq,Gs]at h;obtain⟨x,hx,rfl⟩:=h;have:=List.sizeOf_lt_of_mem hx;simp only[pz,Zi.mk.sizeOf_spec];omega
 | cl c=>
   obtain⟨fm,tx,js,ds,ks⟩:=c;simp only[Yq,G8,Gs]at h;rcases h with⟨x,hx,rfl⟩|⟨x,hx,rfl⟩<;>(have:=List.sizeOf_lt_of_mem hx;simp only[pz,Za.mk.sizeOf_spec];omega)
def Zao{P:Part->Prop}(h:∀p,(∀k∈Yq p,P k)->P p)(p:Part):P p:=by
 have:∀n p,pz p<n->P p:=by
  intro n
  induction n with
  | zero=>intro p hp;omega
  | succ n ih=>intro p hp;exact h p fun k hk=>ih k (by have:=Zb2 hk;omega)
 exact this _ p (Nat.lt_succ_self _)
def Uw{α β:Type}(l:U α)(f:α->U β):(l.attach.flatMap fun k=>f k.1)=l.flatMap f:=by
 conv=>rhs;rw[<-List.attach_map_subtype_val l]
 rw[List.flatMap_map]
def attach_map{α β:Type}(l:U α)(f:α->β):(l.attach.map fun k=>f k.1)=l.map f:=by
 conv=>rhs;rw[<-List.attach_map_subtype_val l]
 rw[List.map_map];rfl
def pre(p:Part):U Part:=p::(Yq p).attach.flatMap fun k=>pre k.1
termination_by pz p
decreasing_by exact Zb2 k.2
def pre_eq(p:Part):pre p=p::(Yq p).flatMap pre:=by rw[pre,Uw (Yq p) pre]
def ZeU(l:U Nat):Nat:=l.foldr max 0
def dep(p:Part):Nat:=ZeU ((Yq p).attach.map fun k=>dep k.1)+1
termination_by pz p
decreasing_by exact Zb2 k.2
def Zsu(p:Part):dep p=ZeU ((Yq p).map dep)+1:=by rw[dep,attach_map (Yq p) dep]
def ZcV(x:Nat)(l:U Nat):ZeU (x::l)=max x (ZeU l):=rfl
def Xz(p:Part):(pre p).length=((Yq p).flatMap pre).length+1:=by rw[pre_eq];rfl
def Xi(p:Part):1<=(pre p).length:=by rw[Xz];omega
def Ut{k:Part}{l:U Part}(h:k∈l):(pre k).length<=(l.flatMap pre).length:=by
 induction l with
 | nil=>cases h
 | cons x l ih=>
   rw[K2,K0];rcases Ks.1 h with rfl|h
   ·omega
   ·have:=ih h;omega
def Yr{k p:Part}(h:k∈Yq p):(pre k).length<(pre p).length:=by
 have:=Ut h;rw[Xz p];omega
def Uu(l:U Part):l.length<=(l.flatMap pre).length:=by
 induction l with
 | nil=>simp
 | cons x l ih=>rw[K2,K0,Kf];have:=Xi x;omega
def Zb1(p:Part):(Yq p).length<(pre p).length:=by
 have:=Uu (Yq p);rw[Xz p];omega
def ZI2(p:Part):dep p<=(pre p).length:=by
 induction p using Zao with
 | h p ih=>
   rw[Zsu,Xz]
   have:∀l:U Part,(∀k∈l,dep k<=(pre k).length)->ZeU (l.map dep)<=(l.flatMap pre).length:=by
    intro l
    induction l with
    | nil=>intro _;simp[ZeU]
    | cons x l ihl=>
      intro h;rw[Gc,ZcV,K2,K0];have h1:=h x (by simp);have h2:=ihl fun k hk=>h k (KB _ hk)
      omega
   have:=this _ ih;omega
def Z4{x k p:Part}(hk:k∈Yq p)(hx:x∈pre k):x∈pre p:=by
 rw[pre_eq p];exact KB _ (QP.2 ⟨k,hk,hx⟩)
def Yo(p:Part):p∈pre p:=by rw[pre_eq];exact Gz
def ZR{α σ β γ:Type}{body:γ->(γ->O β)->O β}(st:Nat->σ->γ)(l:U α)(Pre:U α->σ->Prop)(run:U α->σ->O β)
 (h0:∀s nx,Pre [] s->body (st l.length s) nx=run [] s)
 (h1:∀(k:Nat) x rest s nx,x∈l->k<l.length->Yf l (k:Int)=some x->Pre (x::rest) s->(∀s',Pre rest s'->nx (st (k+1) s')=run rest s')->body (st k s) nx=run (x::rest) s) {F:Nat} (hF:l.length<F) (s:σ) (hp:Pre l s):loop F body (st 0 s)=run l s:=by
 have key:∀(d j F:Nat)(s:σ),j+d=l.length->d<F->Pre (l.drop j) s->loop F body (st j s)=run (l.drop j) s:=by
  intro d
  induction d with
  | zero=>
    intro j F s hj hF hp;obtain⟨F,rfl⟩:∃G,F=G+1:=⟨F-1,by omega⟩
    obtain rfl:j=l.length:=GZ
    rw[List.drop_length]at hp ⊢;rw[Z5,h0 _ _ hp]
  | succ d ih=>
    intro j F s hj hF hp;obtain⟨F,rfl⟩:∃G,F=G+1:=⟨F-1,by omega⟩
    have hjl:j<l.length:=GZ
    rw[List.drop_eq_getElem_cons hjl]at hp ⊢;rw[Z5];exact h1 j _ _ s _ (List.getElem_mem hjl) hjl (Zgv hjl) hp fun s' hp'=>ih (j+1) F s' GZ GZ hp'
 have:=key l.length 0 F s GZ hF (by simpa using hp)
 simpa using this
abbrev E0:Y:=⟨#[]⟩
def BB:Nat:=9223372036854775807
def K6(e:Zi):Z:=
 bif e.op==1 then decide (e.n >=-1000000000)&&decide (e.n<=1000000000)&&decide (e.text=E0)&&(e.kids.length==0)
 else bif e.op==2 then Qb e.text&&(e.n==0)&&(e.kids.length==0)
 else decide (e.op >=3)&&decide (e.op<=7)&&decide (e.text=E0)&&(e.n==0)&&(e.kids.length==2)
def szs(t:Term)(a d k:Nat):Z:=(t.args.length==a)&&(t.defs.length==d)&&(t.kids.length==k)
def ZbA(t:Term):Z:=
 (bif(t.op==1)||(t.op==7) then szs t 0 0 0
  else bif t.op==2 then decide (t.args.length<=3)&&szs t t.args.length 0 0
  else bif t.op==3 then szs t 0 0 2
  else bif t.op==4 then decide (0<t.defs.length)&&decide (t.defs.length<=5)&&szs t 0 t.defs.length 1
  else bif t.op==5 then szs t 1 0 2
  else((t.op==6)||(t.op==8))&&szs t 0 0 1) &&
 (bif((t.op==2)||(t.op==6))||(t.op==8) then Qb t.text else decide (t.text=E0))
def nWb(hn:Y->Z):U Y->Z
 | []=>true
 | x::xs=>(Qb x && !hn x)&&nWb (fun s=>hn s||decide (s=x)) xs
def jW(ht hn:Y->Z):U Yl->Z
 | []=>true
 | m::js=>(Qb m.text && !ht m.text&&decide (m.names.length<=3))&&(nWb hn m.names&&jW (fun s=>ht s||decide (s=m.text)) (fun s=>hn s||decide (s∈m.names)) js)
def WV(c:Za):Z:=
 (c.kids.length==1)&&(bif c.form==2 then Qb c.text&&(c.joins.length==0)&&decide (c.defs.length<=5)
 else(c.form==1)&&decide (c.text=E0)&&(c.defs.length==0)&&decide (0<c.joins.length)&&decide (c.joins.length<=3)&&jW (fun _=>false) (fun _=>false) c.joins)
def Wn:Part->Z
 | .pr t=>ZbA t
 | .ex e=>K6 e
 | .cl c=>WV c
def Loc:Part->Prop
 | .pr t=>t.text.size<=BB/\t.args.length<=BB/\t.defs.length<=BB/\t.kids.length<=BB
 | .ex e=>e.text.size<=BB/\e.kids.length<=BB
 | .cl c=>c.text.size<=BB/\c.joins.length<=BB/\c.defs.length<=BB/\c.kids.length<=BB/\∀m∈c.joins,m.text.size<=BB/\m.names.length<=BB/\∀s∈m.names,s.size<=BB
def BS:Nat:=1048576
def Lo(p:Part):Prop:=∀x∈pre p,Loc x
def Sm(p:Part):Prop:=(pre p).length<=BS/\Lo p
def Lo.kid{k p:Part}(h:Lo p)(hk:k∈Yq p):Lo k:=fun x hx=>h x (Z4 hk hx)
def Lo.loc{p:Part}(h:Lo p):Loc p:=h p (Yo p)
def Sm.kid{k p:Part}(h:Sm p)(hk:k∈Yq p):Sm k:=⟨by have:=Yr hk;have:=h.1;omega,fun x hx=>h.2 x (Z4 hk hx)⟩
def Sm.loc{p:Part}(h:Sm p):Loc p:=h.2 p (Yo p)
def Jj(b:Z):JH b=some (bif b then .ok () else .Yd 2):=by cases b<;>rfl
def Uh(a b:Nat):((a:Int)==(b:Int))=(a==b):=by rw[Bool.eq_iff_iff,beq_iff_eq,beq_iff_eq];omega
def Ztq{α β:Type}{e:Int}{p:Int->O β}{k:α->O β}:JR (.Yd e) p k=p e:=rfl
def nameP{F:Nat}(hF:10000000000000000000<=F){s:Y}(h:s.size<=BB):ZjW F s=some (Qb s):=Zxr F s (by unfold BB at h;omega) (by unfold BB at h;omega)
def Zxq{F:Nat}(hF:10000000000000000000<=F){s:Y}(h:s.size<=BB):Znx F s=some (Qb s):=Zxp F s (by unfold BB at h;omega) GZ
def ZGM{F:Nat}(hF:10000000000000000000<=F){s:Y}(h:s.size<=BB)(b:Z):ZfC F s b=some (bif b then Qb s else decide (s=E0)):=by
 unfold ZfC;cases b
 ·simp[gd,E0]
 ·simp[gd,Zxq hF h]
def Zoy{F:Nat}(hF:10000000000000000000<=F)(e:Zi)(h:Loc (.ex e)):Zmc F e=some (bif K6 e then .ok () else .Yd 2):=by
 obtain⟨op,n,tx,ks⟩:=e;have hn:=nameP hF h.1;dsimp only at hn;have h2:((ks.length:Int)==2)=(ks.length==2):=Uh _ 2;have h0:((ks.length:Int)==0)=(ks.length==0):=Uh _ 0;have hc:op=1\/op=2\/op=3\/op=4\/op=5\/op=6\/op=7\/op<1\/7<op:=GZ
 unfold Zmc K6;dsimp only
 have j:∀op:Int,W9 ⟨op,n,tx,ks⟩ true=some (bif decide (tx=E0)&&(n==0)&&(ks.length==2) then .ok () else .Yd 2):=fun op=>by
  simp only[W9,Cq1,Jj,h2,Bq0];cases (decide (tx=E0)&&(n==0)&&(ks.length==2))<;>rfl
 rcases hc with rfl|rfl|rfl|rfl|rfl|rfl|rfl|hc
 ·simp only[Jj,h0,Bq0];cases (decide (n >=-1000000000)&&decide (n<=1000000000)&&decide (tx=E0)&&(ks.length==0))<;>rfl
 ·show(ZjW F tx).bind _=some (bif(Qb tx&&(n==0)&&(ks.length==0)) then _ else _);rw[hn];simp only[Jj,h0,Bq0];cases (Qb tx&&(n==0)&&(ks.length==0))<;>rfl
 ·exact j 3
 ·exact j 4
 ·exact j 5
 ·exact j 6
 ·exact j 7
 have e1:(op==1)=false:=by simp;omega
 have e2:(op==2)=false:=by simp;omega
 have e3:(op==3)=false:=by simp;omega
 have e4:(op==4)=false:=by simp;omega
 have e5:(op==5)=false:=by simp;omega
 have e6:(op==6)=false:=by simp;omega
 have e7:(op==7)=false:=by simp;omega
 have e8:(decide (op >=3)&&decide (op<=7))=false:=by
  rcases hc with hc|hc
  ·rw[decide_eq_false (show ¬ op >=3 by omega)];rfl
  ·rw[decide_eq_false (show ¬ op<=7 by omega)];simp
 rw[e1,e2,e3,e4,e5,e6,e7,e8]
 rfl
def Zak(t:Term)(a d k:Nat):WH t (a:Int) (d:Int) (k:Int)=some (bif szs t a d k then .ok () else .Yd 2):=by
 unfold WH szs;rw[Jj,Uh,Uh,Uh,Bq0];cases ((t.args.length==a)&&(t.defs.length==d)&&(t.kids.length==k))<;>rfl
def ZBH{F:Nat}(hF:10000000000000000000<=F)(t:Term)(h:t.text.size<=BB):(UG F t) ()=some (bif(bif((t.op==2)||(t.op==6))||(t.op==8) then Qb t.text else decide (t.text=E0)) then .ok () else .Yd 2):=by
 unfold UG Zc4;rw[nameP hF h];simp only[Jj,Bq0,E0];cases t.op==2<;>cases t.op==6<;>cases t.op==8<;>cases Qb t.text<;>cases decide (t.text=(⟨#[]⟩:Y))<;>rfl
def seq2{a b:Z}:(JR (bif a then PR.ok () else PR.Yd 2) (fun e=>some (.Yd e)) (fun _=>some (bif b then PR.ok () else PR.Yd 2)):O (PR Unit))=some (bif a&&b then .ok () else .Yd 2):=by cases a<;>rfl
def ZKt{a b:Z}:(JR (bif a then PR.ok () else PR.Yd 2) (fun _=>some (.Yd 2)) (fun _=>some (bif b then PR.ok () else PR.Yd 2)):O (PR Unit))=some (bif a&&b then .ok () else .Yd 2):=by cases a<;>rfl
def ZhO{F:Nat}(hF:10000000000000000000<=F)(t:Term)(h:Loc (.pr t)):Zmd F t=some (bif ZbA t then .ok () else .Yd 2):=by
 have ht:=ZBH hF t h.1
 have hg:decide ((t.args.length:Int)<=3)=decide (t.args.length<=3):=by
  by_cases z:t.args.length<=3
  ·rw[decide_eq_true z,decide_eq_true GZ]
  ·rw[decide_eq_false z,decide_eq_false GZ]
 have hd1:decide ((t.defs.length:Int)>0)=decide (0<t.defs.length):=by
  by_cases z:0<t.defs.length
  ·rw[decide_eq_true z,decide_eq_true GZ]
  ·rw[decide_eq_false z,decide_eq_false GZ]
 have hd5:decide ((t.defs.length:Int)<=5)=decide (t.defs.length<=5):=by
  by_cases z:t.defs.length<=5
  ·rw[decide_eq_true z,decide_eq_true GZ]
  ·rw[decide_eq_false z,decide_eq_false GZ]
 have ZPU:WH t 0 0 0=_:=Zak t 0 0 0;have ZPT:WH t 0 0 1=_:=Zak t 0 0 1;have ZPS:WH t 0 0 2=_:=Zak t 0 0 2;have ZPR:WH t 1 0 2=_:=Zak t 1 0 2;have sa:WH t t.args.length 0 0=_:=Zak t t.args.length 0 0;have sd:WH t 0 t.defs.length 1=_:=Zak t 0 t.defs.length 1
 have j2:∀b,(Zc3 F t) b=some (bif(bif b then szs t 0 0 0
  else bif t.op==2 then decide (t.args.length<=3)&&szs t t.args.length 0 0
  else bif t.op==3 then szs t 0 0 2
  else bif t.op==4 then decide (0<t.defs.length)&&decide (t.defs.length<=5)&&szs t 0 t.defs.length 1
  else bif t.op==5 then szs t 1 0 2
  else((t.op==6)||(t.op==8))&&szs t 0 0 1) &&
 (bif((t.op==2)||(t.op==6))||(t.op==8) then Qb t.text else decide (t.text=E0)) then .ok () else .Yd 2):=by
   intro b;unfold Zc3 Zfl;simp only[Jj,ZPU,ZPT,ZPS,ZPR,sa,sd,Bq0,hg,hd1,hd5,ht,seq2,ZpZ];cases b<;>cases t.op==2<;>cases t.op==3<;>cases t.op==4<;>cases t.op==5<;>cases t.op==6<;>cases t.op==8<;>simp only[Cq1,Cq0,Bool.true_or,Bool.or_true,Bool.or_false,Gk,G4,Gn,Ztq,seq2,ZKt,Bool.and_assoc]
 unfold Zmd ZbA;rw[j2,j2];cases t.op==1<;>cases t.op==7<;>rfl
def has(m:U (Y×Z)):Y->Z:=fun s=>(ZT m s).getD false
def Zax(m:U (Y×Z))(x:Y):has (Xx m x true)=fun s=>has m s||decide (s=x):=by
 funext s;unfold has;rw[ZcT];by_cases h:s=x
 ·subst h;simp
 ·rw[if_neg h];simp[h]
def Wo(m:U (Y×Z))(l:U Y):U (Y×Z):=l.foldl (fun m s=>Xx m s true) m
def Zjk(l:U Y):∀m,has (Wo m l)=fun s=>has m s||decide (s∈l):=by
 induction l with
 | nil=>intro m;funext s;simp[Wo]
 | cons x l ih=>
   intro m;have:Wo m (x::l)=Wo (Xx m x true) l:=rfl;rw[this,ih,Zax];funext s;by_cases h1:s=x<;>by_cases h2:s∈l<;>simp[h1,h2]
def Znk:has []=fun _=>false:=by funext s;rfl
def ZbV(m:U (Y×Z))(x:Y):ZkX m x false=some (has m x):=rfl
def ZeN{β:Type}{b:Z}{p:Int->O β}{k:Unit->O β}:JR (bif b then PR.ok () else PR.Yd 2) p k=bif b then k () else p 2:=by cases b<;>rfl
def le3(n:Nat):decide ((n:Int)<=3)=decide (n<=3):=by
 by_cases z:n<=3
 ·rw[decide_eq_true z,decide_eq_true GZ]
 ·rw[decide_eq_false z,decide_eq_false GZ]
def gt0(n:Nat):decide ((n:Int)>0)=decide (0<n):=by
 by_cases z:0<n
 ·rw[decide_eq_true z,decide_eq_true GZ]
 ·rw[decide_eq_false z,decide_eq_false GZ]
def le5(n:Nat):decide ((n:Int)<=5)=decide (n<=5):=by
 by_cases z:n<=5
 ·rw[decide_eq_true z,decide_eq_true GZ]
 ·rw[decide_eq_false z,decide_eq_false GZ]
def ZrA{F:Nat}(hF:10000000000000000000<=F)(k:Int)(m1:U (Y×Z))(nx:Int×(U (Y×Z))×(U (Y×Z))->O (PR Unit))(x:Yl)(hx:x.names.length<=BB)(hs:∀s∈x.names,s.size<=BB)(m:U (Y×Z)):
 loop F (Zfj F k m1 nx x) (0,m)=bif nWb (has m) x.names then nx (Xa (k+1),Xx m1 x.text true,Wo m x.names) else some (.Yd 2):=by
 refine ZR (fun(k:Nat)(m:U (Y×Z))=>((k:Int),m)) x.names (fun _ _=>True) (fun rest m=>bif nWb (has m) rest then nx (Xa (k+1),Xx m1 x.text true,Wo m rest) else some (.Yd 2)) ?_ ?_ (by unfold BB at hx;omega) m trivial
 ·intro s nx' _;simp only[Zfj,Zy,Cq0];rfl
 ·intro j y rest s nx' hy hj hg _ ih;simp only[Zfj,ZQ hj,Cq1,hg,Bq0,nameP hF (hs y hy),Jj,ZeN,ZbV];rw[X7 (by unfold BB at hx;omega)];simp only[ih _ trivial,nWb,Zax];cases hn:Qb y
  ·simp[gd]
  ·cases hh:has s y
   ·simp only[ZaX,Bq0,Gf,G4,Cq1];rfl
   ·simp[gd]
  all_goals omega
def ZrK{F:Nat}(hF:10000000000000000000<=F)(c:Za)(h:Loc (.cl c)):(Zfi F c) ()=some (bif jW (fun _=>false) (fun _=>false) c.joins then .ok () else .Yd 2):=by
 obtain⟨h1,h2,h3,h4,h5⟩:=h;have:=ZR (body:=Zfk F c) (fun(k:Nat)(m:U (Y×Z)×U (Y×Z))=>((k:Int),m.1,m.2)) c.joins (fun _ _=>True) (fun rest m=>some (bif jW (has m.1) (has m.2) rest then PR.ok () else .Yd 2)) (F:=F) ?_ ?_ (by unfold BB at h2;omega) ([],[]) trivial
 ·rw[Znk]at this;exact this
 ·intro s nx' _;simp only[Zfk,Zy,Cq0];rfl
 ·intro j y rest s nx' hy hj hg _ ih;obtain⟨q1,q2,q3⟩:=h5 y hy;simp only[Zfk,ZQ hj,Cq1,hg,Bq0,nameP hF q1,Jj,ZeN,ZbV,le3,ZrA hF _ _ _ y q2 q3];rw[X7 (by unfold BB at h2;omega)];have ih':=fun a b=>ih (a,b) trivial
  simp only at ih';simp only[ih',jW,Zax,Zjk];cases hn:Qb y.text
  ·simp[gd]
  ·cases hh:has s.1 y.text
   ·simp only[ZaX,Bq0,Gf,G4,Cq1];cases decide (y.names.length<=3)<;>cases nWb (has s.2) y.names<;>rfl
   ·simp[gd]
def Ziz{F:Nat}(hF:10000000000000000000<=F)(c:Za)(h:Loc (.cl c)):Zmb F c=some (bif WV c then .ok () else .Yd 2):=by
 have hj:=ZrK hF c h;obtain⟨h1,h2,h3,h4,h5⟩:=h;have e0:((c.joins.length:Int)==0)=(c.joins.length==0):=Uh _ 0;have e1:((c.kids.length:Int)==1)=(c.kids.length==1):=Uh _ 1;have e2:((c.defs.length:Int)==0)=(c.defs.length==0):=Uh _ 0;unfold Zmb WV;simp only[Jj,Bq0,ZeN,hj,nameP hF h1,e0,e1,e2,le5,le3,gt0,ZpZ,Ztq];cases c.kids.length==1
 ·rfl
 ·by_cases f2:c.form=2
  ·rw[f2];simp only[Int.reduceBEq,Cq1,G4];cases (Qb c.text&&(c.joins.length==0)&&decide (c.defs.length<=5))<;>rfl
  ·have:(c.form==2)=false:=by simpa using f2
   rw[this];cases c.form==1<;>cases (decide (c.text=E0))<;>cases (c.defs.length==0)<;>cases (decide (0<c.joins.length))<;>cases (decide (c.joins.length<=3))<;>cases (jW (fun _=>false) (fun _=>false) c.joins)<;>rfl
def ZwN{F:Nat}(hF:10000000000000000000<=F)(p:Part)(h:Loc p):Zp8 F p=some (bif Wn p then .ok () else .Yd 2):=by
 unfold Zp8;cases p with
 | pr t=>
   show(Zmd F t).bind _=_;rw[ZhO hF t h];show JR _ _ _=some (bif ZbA t then _ else _);cases ZbA t<;>rfl
 | ex e=>
   show(Zmc F e).bind _=_;rw[Zoy hF e h];show JR _ _ _=some (bif K6 e then _ else _);cases K6 e<;>rfl
 | cl c=>
   show(Zmb F c).bind _=_;rw[Ziz hF c h];show JR _ _ _=some (bif WV c then _ else _);cases WV c<;>rfl
def ZGP(ns:U Y)(x:Y):(fun s=>decide (s∈ns++[x]))=fun s=>decide (s∈ns)||decide (s=x):=by
 funext s;by_cases h1:s∈ns<;>by_cases h2:s=x<;>simp[h1,h2]
def ZP5(ns l:U Y):(fun s=>decide (s∈ns++l))=fun s=>decide (s∈ns)||decide (s∈l):=by
 funext s;by_cases h1:s∈ns<;>by_cases h2:s∈l<;>simp[h1,h2]
def Zu4{F:Nat}(hF:10000000000000000000<=F)(js:U Yl)(k:Nat)(y:Yl)(hg:Yf js (k:Int)=some y)(hx:y.names.length<=3)(hs:∀s∈y.names,s.size<=BB)(nx:(U Y)×(U Y)×Int->O Z)(z:U Y)(ns:U Y)(hns:ns.length<=100):
 loop F (Zfm F js (k:Int) nx z) (ns,0)=bif nWb (fun s=>decide (s∈ns)) y.names then nx (z,ns++y.names,Xa ((k:Int)+1)) else some false:=by
 refine ZR (fun(k:Nat)(m:U Y)=>(m,(k:Int))) y.names (fun rest m=>m.length+rest.length<=200) (fun rest m=>bif nWb (fun s=>decide (s∈m)) rest then nx (z,m++rest,Xa ((k:Int)+1)) else some false) ?_ ?_ GZ ns GZ
 ·intro s nx' _;simp only[Zfm,hg,Bq0,Zy,Cq0,Gp];rfl
 ·intro j x rest s nx' hy hj hgx hp ih;have hp':s.length+rest.length+1<=200:=by have:=hp;simp only[Kf]at this;omega
  simp only[Zfm,hg,ZQ hj,Cq1,hgx,Bq0,Zxq hF (hs x hy)];rw[X7 GZ,app1 GZ GZ];simp only[Bq0,nWb];cases hn:Qb x
  ·simp[gd]
  ·simp only[KK,Gf,gd,Cq1,Bq0,hgx];rw[has_eq F s x GZ GZ];by_cases hm:x∈s
   ·simp[hm]
   ·have e:decide (x∈s)=false:=decide_eq_false hm;simp only[gd,e,KK,Gf,Bool.or_false,Cq1,Cq0,Bq0,Bool.and_true,G4];rw[ih (s++[x]) (by simp;omega),ZGP,G6];rfl
def Zvg{F:Nat}(hF:10000000000000000000<=F)(js:U Yl)(h2:js.length<=BB)(h5:∀m∈js,m.text.size<=BB/\m.names.length<=BB/\∀s∈m.names,s.size<=BB):Zme F js=some (decide (0<js.length)&&decide (js.length<=3)&&jW (fun _=>false) (fun _=>false) js):=by
 unfold Zme;by_cases hl:0<js.length/\js.length<=3
 ·rw[decide_eq_false (show ¬ (js.length:Int)<1 by omega),decide_eq_false (show ¬ (js.length:Int)>3 by omega),decide_eq_true hl.1,decide_eq_true hl.2];simp only[Bool.or_false,Cq0,G4];have:=ZR (body:=Zfn F js) (fun(k:Nat)(m:U Y×U Y)=>(m.1,m.2,(k:Int))) js (fun rest m=>m.1.length+rest.length<=3/\m.2.length+3*rest.length<=9) (fun rest m=>some (jW (fun s=>decide (s∈m.1)) (fun s=>decide (s∈m.2)) rest)) (F:=F) ?_ ?_ GZ ([],[]) ⟨by simp;omega,by simp;omega⟩
  ·simpa using this
  ·intro s nx' _;simp only[Zfn,Zy,Cq0];rfl
  ·intro j y rest s nx' hy hj hg hp ih;obtain⟨q1,q2,q3⟩:=h5 y hy;obtain⟨p1,p2⟩:=hp;simp only[Kf]at p1 p2;simp only[Zfn,ZQ hj,Cq1,hg,Bq0,Zxq hF q1];rw[app1 GZ GZ];simp only[Bq0,jW];cases hn:Qb y.text
   ·simp[gd]
   ·simp only[KK,Gf,gd,Cq1,Bq0,hg];rw[has_eq F s.1 y.text GZ GZ];by_cases hm:y.text∈s.1
    ·simp[hm]
    ·have e:decide (y.text∈s.1)=false:=decide_eq_false hm;simp only[gd,e,KK,Gf,Bool.or_false,Cq1,Cq0,Bq0,Bool.and_true,G4,Gk];by_cases h3:y.names.length<=3
     ·rw[decide_eq_false (show ¬ (y.names.length:Int)>3 by omega),decide_eq_true h3,Cq0,Zu4 hF js j y hg h3 q3 nx' _ s.2 GZ,X7 GZ];have:=ih (s.1++[y.text],s.2++y.names) ⟨by simp;omega,by simp;omega⟩;simp only at this;rw[this,ZGP,ZP5];cases nWb (fun s_1=>decide (s_1∈s.2)) y.names<;>rfl
     ·rw[decide_eq_true (show(y.names.length:Int)>3 by omega),decide_eq_false h3];rfl
 ·have:(decide ((js.length:Int)<1)||decide ((js.length:Int)>3))=true:=by
   by_cases z:0<js.length
   ·rw[decide_eq_true (show(js.length:Int)>3 by omega)];simp
   ·rw[decide_eq_true (show(js.length:Int)<1 by omega)];rfl
  rw[this,Cq1];by_cases z:0<js.length
  ·rw[decide_eq_true z,decide_eq_false (show ¬ js.length<=3 by omega)];rfl
  ·rw[decide_eq_false z];rfl
abbrev NDB:=Nat×Nat×Z
def UB(s:Z×Nat×Nat)(r:NDB):Z×Nat×Nat:=(s.1&&r.2.2,s.2.1+r.1,max s.2.2 r.2.1)
def ZgB(s:Z×Nat×Nat):NDB:=(s.2.1,s.2.2+1,s.1)
def R(p:Part):NDB:=bif Wn p then ZgB (((Yq p).attach.map fun k=>R k.1).foldl UB (true,1,0)) else(1,1,false)
termination_by pz p
decreasing_by exact Zb2 k.2
def ZD7(p:Part):R p=bif Wn p then ZgB (((Yq p).map R).foldl UB (true,1,0)) else(1,1,false):=by rw[R,attach_map (Yq p) R]
def ZIj(l:U NDB):∀s,l.foldl UB s=(s.1&&l.all (·.2.2),s.2.1+(l.map (·.1)).sum,max s.2.2 (ZeU (l.map (·.2.1)))):=by
 induction l with
 | nil=>intro s;simp[ZeU]
 | cons x l ih=>
   intro s;rw[Gh,ih];simp only[UB,List.all_cons,Gc,List.sum_cons,ZcV,Bool.and_assoc,GC,Nat.max_assoc]
def ZA7(p:Part):(R p).2.2=(pre p).all Wn/\((pre p).all Wn=true->(R p).1=(pre p).length/\(R p).2.1=dep p)/\(R p).1<=(pre p).length/\(R p).2.1<=(pre p).length:=by
 induction p using Zao with
 | h p ih=>
   have key:∀l:U Part,(∀k∈l,(R k).2.2=(pre k).all Wn/\((pre k).all Wn=true->(R k).1=(pre k).length/\(R k).2.1=dep k)/\(R k).1<=(pre k).length/\(R k).2.1<=(pre k).length) ->
    (l.map R).all (·.2.2)=(l.flatMap pre).all Wn/\((l.flatMap pre).all Wn=true->((l.map R).map (·.1)).sum=(l.flatMap pre).length/\ZeU ((l.map R).map (·.2.1))=ZeU (l.map dep))/\((l.map R).map (·.1)).sum<=(l.flatMap pre).length/\ZeU ((l.map R).map (·.2.1))<=(l.flatMap pre).length:=by
    intro l
    induction l with
    | nil=>intro _;simp[ZeU]
    | cons x l ihl=>
      intro h;obtain⟨a1,a2,a3,a4⟩:=h x (by simp);obtain⟨b1,b2,b3,b4⟩:=ihl fun k hk=>h k (KB _ hk)
      simp only[Gc,List.all_cons,K2,List.all_append,List.sum_cons,ZcV,K0,a1,b1];refine⟨trivial,fun hh=>?_,by omega,by omega⟩;rw[Ba0]at hh;obtain⟨c1,c2⟩:=a2 hh.1;obtain⟨d1,d2⟩:=b2 hh.2;exact⟨by rw[c1,d1],by rw[c2,d2]⟩
   obtain⟨k1,k2,k3,k4⟩:=key (Yq p) ih;rw[ZD7,ZIj,pre_eq p];simp only[List.all_cons,Kf];cases hs:Wn p
   ·simp
   ·simp only[Cq1,ZgB,G4,k1,Nat.zero_max];refine⟨trivial,fun hh=>?_,by omega,by omega⟩;obtain⟨c1,c2⟩:=k2 hh;exact⟨by rw[c1];omega,by rw[c2,Zsu]⟩
def Jz{x p:Part}(h:x∈pre p):(pre x).length<=(pre p).length:=by
 induction p using Zao with
 | h p ih=>
   rw[pre_eq p]at h;rcases Ks.1 h with rfl|h
   ·exact K1 _
   ·obtain⟨k,hk,hx⟩:=QP.1 h;have:=ih k hk hx;have:=Yr hk;omega
def Jc{x y p:Part}(h:x∈pre y)(hy:y∈pre p):x∈pre p:=by
 induction p using Zao with
 | h p ih=>
   rw[pre_eq p]at hy;rcases Ks.1 hy with rfl|hy
   ·exact h
   ·obtain⟨k,hk,hyk⟩:=QP.1 hy;exact Z4 hk (ih k hk hyk)
def Sm.mem{x p:Part}(h:Sm p)(hx:x∈pre p):Sm x:=⟨by have:=Jz hx;have:=h.1;omega,fun y hy=>h.2 y (Jc hy hx)⟩
def out(r:NDB):Int×Int×Z:=((r.1:Int),(r.2.1:Int),r.2.2)
def Zm6(a b:Nat){i:Decidable ((b:Int)>(a:Int))}:@ite Int ((b:Int)>(a:Int)) i (b:Int) (a:Int)=((max a b:Nat):Int):=by
 by_cases h:b>a
 ·rw[if_pos GZ,Nat.max_eq_right GZ]
 ·rw[if_neg GZ,Nat.max_eq_left GZ]
def ZPF{n:Nat}(h:n<=4000000000000000000):Xa (n:Int)=(n:Int):=Zim GZ GZ
def Zwp{a b:Nat}(h:a+b<=4000000000000000000):Xa ((a:Int)+(b:Int))=((a+b:Nat):Int):=by rw[<-ZPF h,Int.natCast_add]
def ZOP{α:Type}(c:α->Part)(B0:Nat)(rest:U α)(s:Z×Nat×Nat):Prop:=s.2.1+((rest.map c).flatMap pre).length<=B0/\s.2.2<=1000000000
def Zi6{α:Type}{body:Z×Int×Int×Int->(Z×Int×Int×Int->O (Int×Int×Z))->O (Int×Int×Z)}(l:U α)(c:α->Part)(g:α->O (Int×Int×Z))(fin:Z×Nat×Nat->O (Int×Int×Z))(hl:l.length<=BB){B0:Nat}(hB:B0<=1000000000)
 (hg:∀x∈l,g x=some (out (R (c x))))
 (hb:∀b (n d i:Int) nx,body (b,n,d,i) nx=bif decide (i<(l.length:Int)) then(Yf l i).bind fun x=>(g x).bind fun y=>nx ((b&&y.2.2),Xa (n+y.1),(if y.2.1>d then y.2.1 else d),Xa (i+1)) else body (b,n,d,(l.length:Int)) nx)
 (he:∀s nx,s.2.1<=B0->s.2.2<=1000000000->body (s.1,(s.2.1:Int),(s.2.2:Int),(l.length:Int)) nx=fin s) {F:Nat} (hF:10000000000000000000<=F) (s:Z×Nat×Nat) (hp:ZOP c B0 l s) (hp2:∀x∈l,(pre (c x)).length<=BS):loop F body (s.1,(s.2.1:Int),(s.2.2:Int),0)=fin ((l.map fun x=>R (c x)).foldl UB s):=by
 refine ZR (fun(k:Nat)(s:Z×Nat×Nat)=>(s.1,(s.2.1:Int),(s.2.2:Int),(k:Int))) l (ZOP c B0) (fun rest s=>fin ((rest.map fun x=>R (c x)).foldl UB s)) ?_ ?_ (by unfold BB at hl;omega) s hp
 ·intro s nx hp;exact he s nx (by have:=hp.1;omega) hp.2
 ·intro k x rest s nx hx hk hgi hp ih;obtain⟨p1,p2⟩:=hp;simp only[Gc,K2,K0]at p1;obtain⟨_,_,r1,r2⟩:=ZA7 (c x);have h2:=hp2 x hx;unfold BS at h2;unfold BB at hl;show body (s.1,(s.2.1:Int),(s.2.2:Int),(k:Int)) nx=_;rw[hb,ZQ hk,Cq1,hgi,Bq0,hg x hx,Bq0];show nx (s.1&&(R (c x)).2.2,Xa ((s.2.1:Int)+((R (c x)).1:Int)),(if((R (c x)).2.1:Int)>(s.2.2:Int) then((R (c x)).2.1:Int) else(s.2.2:Int)),Xa ((k:Int)+1))=_;rw[Zwp GZ,Zm6,X7 GZ];have:=ih (UB s (R (c x))) ⟨by simp only[UB];omega,by simp only[UB];omega⟩;simp only[UB]at this;rw[this]
  rfl
def ZqA(a:Nat):((a:Int)==0)=(a==0):=Uh a 0
def Zqz(a:Nat):((a:Int)==1)=(a==1):=Uh a 1
def ZAu(a:Nat):((a:Int)==2)=(a==2):=Uh a 2
def ZDO(a:Nat):((a:Int)==-1)=false:=by rw[beq_eq_false_iff_ne];omega
def nmW(g b:Z)(s:Y):Z:=g&&(bif b then Qb s else decide (s=E0))
def Zr5{F:Nat}(hF:10000000000000000000<=F){s:Y}(h:s.size<=BB)(g b:Z):gd g (ZfC F s b) default=some (nmW g b s):=by
 rw[ZGM hF h];cases g<;>rfl
def ZIQ(e:Zi)(v:Nat)(hv:v=(if 3<=e.op/\e.op<=7 then 2 else 0)):(((((((decide (e.op >=1))&&(decide (e.op<=7)))&&nmW ((decide (e.op >=1))&&(decide (e.op<=7))) (e.op==2) e.text)&&((e.kids.length:Int)==(v:Int)))&&((e.op==1)||(e.n==0)))&&(decide (e.n >=(-1000000000))))&&(decide (e.n<=1000000000)))=K6 e:=by
 obtain⟨op,n,tx,ks⟩:=e;dsimp only at hv ⊢;rw[Uh];have hc:op=1\/op=2\/op=3\/op=4\/op=5\/op=6\/op=7\/op<1\/7<op:=GZ
 have hz:∀X:Z,((X&&(n==0))&&decide (n >=-1000000000)&&decide (n<=1000000000))=(X&&(n==0)):=fun X=>by
  by_cases h:n=0
  ·subst h;simp
  ·have:(n==0)=false:=by simpa using h
   rw[this];simp
 rcases hc with rfl|rfl|rfl|rfl|rfl|rfl|rfl|hc
 ·rw[if_neg GZ]at hv;subst hv;unfold K6 nmW;simp only[Int.reduceBEq,Cq1,Cq0,Bool.true_or,Bool.and_true];have a1:(decide ((1:Int) >=1)&&decide ((1:Int)<=7))=true:=by decide
  rw[a1];cases decide (n >=-1000000000)<;>cases decide (n<=1000000000)<;>cases decide (tx=E0)<;>cases ks.length==0<;>rfl
 ·rw[if_neg GZ]at hv;subst hv;unfold K6 nmW;simp only[Int.reduceBEq,Cq1,Cq0,Gk];have a1:(decide ((2:Int) >=1)&&decide ((2:Int)<=7))=true:=by decide
  rw[a1,hz];cases Qb tx<;>cases n==0<;>cases ks.length==0<;>rfl
 all_goals first
  | (rw[if_pos GZ]at hv;subst hv
     unfold K6 nmW;simp only[Int.reduceBEq,Cq1,Cq0,Gk];rw[hz];simp only[ge_iff_le,Int.reduceLE,decide_true,Bool.and_self,G4];cases decide (tx=E0)<;>cases n==0<;>cases ks.length==2<;>rfl)
  | (have q:(decide (op >=1)&&decide (op<=7))=false:=by
      rcases hc with hc|hc
      ·rw[decide_eq_false (show ¬ op >=1 by omega)];rfl
      ·rw[decide_eq_false (show ¬ op<=7 by omega)];simp
     have q1:(op==1)=false:=by simp;omega
     have q2:(op==2)=false:=by simp;omega
     have q3:(decide (op >=3)&&decide (op<=7))=false:=by
      rcases hc with hc|hc
      ·rw[decide_eq_false (show ¬ op >=3 by omega)];rfl
      ·rw[decide_eq_false (show ¬ op<=7 by omega)];simp
     unfold K6;rw[q,q1,q2,q3];rfl)
def XM{e x:Zi}(h:x∈e.kids):Part.ex x∈Yq (.ex e):=Gi h
def JF{t:Term}{x:Zi}(h:x∈t.args):Part.ex x∈Yq (.pr t):=List.mem_append_left _ (List.mem_append_left _ (Gi h))
def Y5{t:Term}{x:Za}(h:x∈t.defs):Part.cl x∈Yq (.pr t):=List.mem_append_left _ (GE _ (Gi h))
def XC{t x:Term}(h:x∈t.kids):Part.pr x∈Yq (.pr t):=GE _ (Gi h)
def YN{c x:Za}(h:x∈c.defs):Part.cl x∈Yq (.cl c):=List.mem_append_left _ (Gi h)
def XU{c:Za}{x:Term}(h:x∈c.kids):Part.pr x∈Yq (.cl c):=GE _ (Gi h)
def ZtW(s:Z×Nat×Nat)(h:s.2.2<=1000000000):(some ((s.2.1:Int),Xa ((s.2.2:Int)+1),s.1):O (Int×Int×Z))=some (out (ZgB s)):=by
 rw[X7 GZ];rfl
def ZDw{F:Nat}(hF:10000000000000000000<=F):∀n e,Sm (.ex e)->(pre (.ex e)).length<=n->∀Fr,n<=Fr->loop Fr (Zfc F) e=some (out (R (.ex e))):=by
 intro n
 induction n with
 | zero=>intro e hs hn;have:=Xi (.ex e);omega
 | succ n ih=>
   intro e hs hn Fr hFr;obtain⟨G,rfl⟩:∃G,Fr=G+1:=⟨Fr-1,by omega⟩
   rw[Z5];have hl:=hs.loc;have hlen:=Xz (.ex e);have hBB:=hs.1
   have j:∀v:Nat,v=(if 3<=e.op/\e.op<=7 then 2 else 0)->(ZgI F e (loop G (Zfc F))) (v:Int)=some (out (R (.ex e))):=by
    intro v hv;unfold ZgI;rw[Zr5 hF hl.1,Bq0,ZIQ e v hv,ZD7];show _=some (out (bif K6 e then _ else _));cases hsh:K6 e
    ·rfl
    ·simp only[KK,Cq0,Cq1]
     have:=Zi6 (body:=ZgJ e (loop G (Zfc F))) e.kids .ex (loop G (Zfc F)) (fun s=>some (out (ZgB s))) hl.2 V0 (fun x hx=>ih x (hs.kid (XM hx)) (by have:=Yr (XM hx);omega) G GZ)
      (fun b n d i nx=>by simp only[ZgJ,Zy,Cq0]) (fun s nx _ h2=>by simp only[ZgJ,Zy,Cq0];exact ZtW s h2) hF (true,1,0) ⟨by show 1+((Yq (.ex e)).flatMap pre).length<=_;unfold BS at hBB;omega,Gq _⟩ (fun x hx=>(hs.kid (XM hx)).1)
     show loop F (ZgJ e (loop G (Zfc F))) (true,((1:Nat):Int),((0:Nat):Int),0)=_;rw[this];show some (out (ZgB ((e.kids.map fun x=>R (.ex x)).foldl UB (true,1,0))))=some (out (ZgB (((e.kids.map .ex).map R).foldl UB (true,1,0))));rw[List.map_map];rfl
   unfold Zfc;by_cases h:3<=e.op/\e.op<=7
   ·rw[decide_eq_true (show e.op >=3 from h.1),decide_eq_true h.2];exact j 2 (by rw[if_pos h])
   ·have:(decide (e.op >=3)&&decide (e.op<=7))=false:=by
     rw[Gd,Ne,Ba0,decide_eq_true_iff,decide_eq_true_iff];exact h
    rw[this];exact j 0 (by rw[if_neg h])
def ZvE(c:Za)(x5:Z)(h5:c.form=1->x5=(decide (0<c.joins.length)&&decide (c.joins.length<=3)&&jW (fun _=>false) (fun _=>false) c.joins)\/((((((((c.form==1)||(c.form==2))&&nmW ((c.form==1)||(c.form==2)) (!(c.form==1)) c.text)&&((c.kids.length:Int)==1))&&(decide ((c.defs.length:Int)<=5)))&&(!(!(c.form==1))))&&((c.defs.length:Int)==0))=false)):
 (((((((c.form==1)||(c.form==2))&&nmW ((c.form==1)||(c.form==2)) (!(c.form==1)) c.text)&&((c.kids.length:Int)==1))&&(decide ((c.defs.length:Int)<=5)))&&((!(c.form==1))||(((c.defs.length:Int)==0)&&x5)))&&((c.form==1)||((c.joins.length:Int)==0)))=WV c:=by
 unfold WV nmW;simp only[Zqz,ZqA,le5]at h5 ⊢;by_cases f1:c.form=1
 ·have h5:=h5 f1;rw[f1]at h5 ⊢;simp only[Int.reduceBEq,Bool.true_or,KK,Gk,Cq1,Cq0,G4,Bool.and_true,nmW,Gf]at h5 ⊢;rcases h5 with rfl|h5
  ·cases decide (c.text=E0)<;>cases c.kids.length==1<;>cases hd:(c.defs.length==0)<;>simp
   intro _;have:c.defs.length=0:=by simpa using hd
   omega
  ·cases hk:(c.kids.length==1)<;>cases ht:decide (c.text=E0)<;>cases hd:(c.defs.length==0)<;>rw[hk,ht,hd]at h5<;>simp at h5 ⊢
   have:c.defs.length=0:=by simpa using hd
   omega
 ·have e1:(c.form==1)=false:=by simpa using f1
  by_cases f2:c.form=2
  ·rw[f2];simp only[Int.reduceBEq,Gk,Gf,Bool.true_or,Cq1,G4,Bool.and_true];cases Qb c.text<;>cases c.kids.length==1<;>cases decide (c.defs.length<=5)<;>cases c.joins.length==0<;>rfl
  ·have e2:(c.form==2)=false:=by simpa using f2
   rw[e1,e2];cases c.kids.length==1<;>rfl
def Zbw(op:Int):Int×Int×Int:=
 bif op==2 then(-1,0,0) else bif op==3 then(0,2,0) else bif op==4 then(0,1,-1) else bif op==5 then(1,2,0) else bif(op==6)||(op==8) then(0,1,0) else(0,0,0)
def ZBI(t:Term):((((((decide (t.op >=1))&&(decide (t.op<=8)))&&nmW ((decide (t.op >=1))&&(decide (t.op<=8))) (((t.op==2)||(t.op==6))||(t.op==8)) t.text)&&((t.kids.length:Int)==(Zbw t.op).2.1))&&(((decide ((Zbw t.op).1<0))&&(decide ((t.args.length:Int)<=3)))||((t.args.length:Int)==(Zbw t.op).1)))&&((((decide ((Zbw t.op).2.2<0))&&(decide ((t.defs.length:Int)>0)))&&(decide ((t.defs.length:Int)<=5)))||((t.defs.length:Int)==(Zbw t.op).2.2)))=ZbA t:=by
 have hc:t.op=1\/t.op=2\/t.op=3\/t.op=4\/t.op=5\/t.op=6\/t.op=7\/t.op=8\/t.op<1\/8<t.op:=GZ
 unfold ZbA szs nmW;rcases hc with h|h|h|h|h|h|h|h|h
 case inr.inr.inr.inr.inr.inr.inr.inr=>
  have q:(decide (t.op >=1)&&decide (t.op<=8))=false:=by
   rcases h with h|h
   ·rw[decide_eq_false (show ¬ t.op >=1 by omega)];rfl
   ·rw[decide_eq_false (show ¬ t.op<=8 by omega)];simp
  have e1:(t.op==1)=false:=by simp;omega
  have e2:(t.op==2)=false:=by simp;omega
  have e3:(t.op==3)=false:=by simp;omega
  have e4:(t.op==4)=false:=by simp;omega
  have e5:(t.op==5)=false:=by simp;omega
  have e6:(t.op==6)=false:=by simp;omega
  have e7:(t.op==7)=false:=by simp;omega
  have e8:(t.op==8)=false:=by simp;omega
  rw[q,e1,e2,e3,e4,e5,e6,e7,e8];rfl
 all_goals
  rw[h];simp only[Zbw,Int.reduceBEq,Cq1,Cq0,Bool.true_or,Bool.or_true,Gk,Bool.or_false,ge_iff_le,Int.reduceLE,Int.reduceLT,decide_true,decide_false,G4,Gn,Bool.and_true,ZqA,Zqz,ZAu,ZDO,le3,le5,gt0,beq_self_eq_true,Int.reduceNeg]
  ac_rfl
def Zuz{α:Type}(c:α->Part)(l:U α):(l.map fun x=>R (c x))=(l.map c).map R:=by rw[List.map_map];rfl
def Zwo(F:Nat)(t:Term)(nx:Term->O (Int×Int×Z)):ZjS F t nx=(Zaa F t nx) (Zbw t.op):=by
 unfold ZjS ZjT Zbw;cases t.op==2<;>cases t.op==3<;>cases t.op==4<;>cases t.op==5<;>cases t.op==6<;>cases t.op==8<;>rfl
def CT(F n:Nat):Prop:=∀t,Sm (.pr t)->(pre (.pr t)).length<=n->∀Fr,n<=Fr->loop Fr (ZjS F) t=some (out (R (.pr t)))
def CC(F n:Nat):Prop:=∀c next,Sm (.cl c)->(pre (.cl c)).length<=n->(∀t,Part.pr t∈pre (.cl c)->next t=some (out (R (.pr t))))->∀Fr,n<=Fr->loop Fr (Zek F next) c=some (out (R (.cl c)))
def c0W(c:Za):Z:=((((((((c.form==1)||(c.form==2))&&nmW ((c.form==1)||(c.form==2)) (!(c.form==1)) c.text)&&((c.kids.length:Int)==1))&&(decide ((c.defs.length:Int)<=5)))&&(!(!(c.form==1))))&&((c.defs.length:Int)==0)))
def ZEi{F n:Nat}(hF:10000000000000000000<=F)(ih:CC F n):CC F (n+1):=by
 intro c next hs hn hnext Fr hFr;obtain⟨G,rfl⟩:∃G,Fr=G+1:=⟨Fr-1,by omega⟩
 rw[Z5];obtain⟨l1,l2,l3,l4,l5⟩:=hs.loc;have hlen:=Xz (.cl c);have hBB:=hs.1;have hih:∀x∈c.defs,loop G (Zek F next) x=some (out (R (.cl x))):=fun x hx=>ih x next (hs.kid (YN hx)) (by have:=Yr (YN hx);omega) (fun t ht=>hnext t (Z4 (YN hx) ht)) G GZ
 generalize loop G (Zek F next)=nx1 at hih;unfold Zek;rw[Zr5 hF l1,Bq0,Zvg hF c.joins l2 l5];have hgd:∀(b:Z)(x:Z),gd b (some x) default=some (b&&x):=fun b x=>by cases b<;>rfl
 rw[hgd,Bq0]
 have h5:=ZvE c (c0W c&&(decide (0<c.joins.length)&&decide (c.joins.length<=3)&&jW (fun _=>false) (fun _=>false) c.joins)) (fun _=>by
  cases hc:c0W c
  ·exact .inr hc
  ·exact .inl rfl)
 unfold c0W at h5;rw[h5,ZD7];show _=some (out (bif WV c then _ else _));cases hsh:WV c
 ·rfl
 ·simp only[KK,Cq0,Cq1]
  obtain⟨k0,hk0⟩:∃k0,c.kids=[k0]:=by
   unfold WV at hsh;rw[Ba0]at hsh;have:=hsh.1;rw[beq_iff_eq]at this
   match hk:c.kids,this with
   | [k0],_=>exact⟨k0,rfl⟩
  have ZQV:Part.pr k0∈Yq (.cl c):=XU (by rw[hk0];simp);have hkp:Yq (.cl c)=c.defs.map .cl++[.pr k0]:=by show c.defs.map Part.cl++c.kids.map Part.pr=_;rw[hk0];rfl
  have hfl:(pre (.cl c)).length=((c.defs.map Part.cl).flatMap pre).length+(pre (.pr k0)).length+1:=by rw[hlen,hkp,Q4];simp
  obtain⟨_,_,r1,r2⟩:=ZA7 (.pr k0)
  have:=Zi6 (body:=Zc8 c next nx1) c.defs .cl nx1 (fun s=>some (out (ZgB (UB s (R (.pr k0)))))) l3 (B0:=1+((c.defs.map Part.cl).flatMap pre).length) (by unfold BS at hBB;omega)
   hih
   (fun b n d i nx=>by simp only[Zc8,Zy,Cq0])
   (fun s nx h1 h2=>by
     simp only[Zc8,Zy,Cq0];have hg0:Yf c.kids 0=some k0:=by rw[hk0];rfl
     rw[hg0,Bq0,hnext k0 (Z4 ZQV (Yo _)),Bq0];unfold BS at hBB;show some (Xa ((s.2.1:Int)+((R (.pr k0)).1:Int)),Xa ((if((R (.pr k0)).2.1:Int)>(s.2.2:Int) then((R (.pr k0)).2.1:Int) else(s.2.2:Int))+1),(s.1&&(R (.pr k0)).2.2))=_;rw[Zwp GZ,Zm6,X7 GZ];rfl)
   hF (true,1,0) ⟨K1 _,Gq _⟩ (fun x hx=>(hs.kid (YN hx)).1)
  show loop F (Zc8 c next nx1) (true,((1:Nat):Int),((0:Nat):Int),0)=_;rw[this,hkp,List.map_append,GB,Zuz];rfl
def ZEh{F n:Nat}(hF:10000000000000000000<=F)(hnF:n<=F)(ih:CT F n)(ihc:CC F n):CT F (n+1):=by
 intro t hs hn Fr hFr;obtain⟨G,rfl⟩:∃G,Fr=G+1:=⟨Fr-1,by omega⟩
 rw[Z5,Zwo];obtain⟨l1,l2,l3,l4⟩:=hs.loc;have hlen:=Xz (.pr t);have hBB:=hs.1;have hkp:Yq (.pr t)=t.args.map .ex++t.defs.map .cl++t.kids.map .pr:=rfl;have hfl:(pre (.pr t)).length=((t.args.map Part.ex).flatMap pre).length+((t.defs.map Part.cl).flatMap pre).length+((t.kids.map Part.pr).flatMap pre).length+1:=by rw[hlen,hkp,Q4,Q4,K0,K0]
 unfold Zaa;dsimp only;rw[Zr5 hF l1,Bq0];rw[ZBI t,ZD7];show _=some (out (bif ZbA t then _ else _));cases hsh:ZbA t
 ·rfl
 ·simp only[KK,Cq0,Cq1];generalize hnx:loop G (ZjS F)=next;have hnext:∀x,Part.pr x∈pre (.pr t)->(pre (.pr x)).length<=n->next x=some (out (R (.pr x))):=fun x hx hl=>by rw[<-hnx];exact ih x (hs.mem hx) hl G GZ
  unfold BS at hBB
  have hk:∀s:Z×Nat×Nat,s.2.1+((t.kids.map Part.pr).flatMap pre).length<=1000000000->s.2.2<=1000000000->loop F (ZgL t next) (s.1,(s.2.1:Int),(s.2.2:Int),0)=some (out (ZgB (((t.kids.map .pr).map R).foldl UB s))):=by
   intro s h1 h2
   have:=Zi6 (body:=ZgL t next) t.kids .pr next (fun s=>some (out (ZgB s))) l4 V0 (fun x hx=>hnext x (Z4 (XC hx) (Yo _)) (by have:=Yr (XC hx);omega))
    (fun b n d i nx=>by simp only[ZgL,Zy,Cq0]) (fun s nx _ h2=>by simp only[ZgL,Zy,Cq0];exact ZtW s h2) hF s ⟨h1,h2⟩ (fun x hx=>(hs.kid (XC hx)).1)
   rw[this,Zuz]
  have hd:∀s:Z×Nat×Nat,s.2.1+((t.defs.map Part.cl).flatMap pre).length+((t.kids.map Part.pr).flatMap pre).length<=1000000000->s.2.2<=1000000000->loop F (ZgM F t next) (s.1,(s.2.1:Int),(s.2.2:Int),0)=some (out (ZgB (((t.kids.map .pr).map R).foldl UB (((t.defs.map .cl).map R).foldl UB s)))):=by
   intro s h1 h2
   have:=Zi6 (body:=ZgM F t next) t.defs .cl (fun x=>Zz4 F next x) (fun s=>some (out (ZgB (((t.kids.map .pr).map R).foldl UB s)))) l3 (B0:=s.2.1+((t.defs.map Part.cl).flatMap pre).length) GZ
    (fun x hx=>ihc x next (hs.kid (Y5 hx)) (by have:=Yr (Y5 hx);omega) (fun y hy=>hnext y (Z4 (Y5 hx) hy) (by have:=Jz hy;have:=Yr (Y5 hx);omega)) F hnF)
    (fun b n d i nx=>by simp only[ZgM,Zy,Cq0]) (fun s' nx h3 h4=>by simp only[ZgM,Zy,Cq0];exact hk s' GZ h4) hF s ⟨K1 _,h2⟩ (fun x hx=>(hs.kid (Y5 hx)).1)
   rw[this,Zuz]
  have:=Zi6 (body:=ZgN F t next) t.args .ex (fun x=>ZC5 F x) (fun s=>some (out (ZgB (((t.kids.map .pr).map R).foldl UB (((t.defs.map .cl).map R).foldl UB s))))) l2 (B0:=1+((t.args.map Part.ex).flatMap pre).length) GZ
   (fun x hx=>ZDw hF _ x (hs.kid (JF hx)) V0 F (by have:=(hs.kid (JF hx)).1;unfold BS at this;omega))
   (fun b n d i nx=>by simp only[ZgN,Zy,Cq0]) (fun s' nx h3 h4=>by simp only[ZgN,Zy,Cq0];exact hd s' GZ h4) hF (true,1,0) ⟨K1 _,Gq _⟩ (fun x hx=>(hs.kid (JF hx)).1)
  show loop F (ZgN F t next) (true,((1:Nat):Int),((0:Nat):Int),0)=_;rw[this,hkp,List.map_append,List.map_append,GB,GB,Zuz]
def CTC{F:Nat}(hF:10000000000000000000<=F):∀n,n<=F->CT F n/\CC F n:=by
 intro n
 induction n with
 | zero=>intro _;exact⟨fun t hs hn=>by have:=Xi (.pr t);omega,fun c nx hs hn=>by have:=Xi (.cl c);omega⟩
 | succ n ih=>intro hn;obtain⟨a,b⟩:=ih GZ;exact⟨ZEh hF GZ a b,ZEi hF b⟩
def ZwC{F:Nat}(hF:10000000000000000000<=F)(t:Term)(hs:Sm (.pr t)):ZDd F t=some (out (R (.pr t))):=
 (CTC hF _ (by have:=hs.1;unfold BS at this;omega)).1 t hs V0 F (by have:=hs.1;unfold BS at this;omega)
def ZSi{α:Type}{b:Nat}{l:U α}{x:α}(h:l.length<=4000000)(hb:b<=1000):app b l [x]=some (l++[x]):=by
 refine ZAD ?_;have:(2*(l.length + [x].length)+1000)*b<=8001002*1000:=Nat.mul_le_mul (by simp;omega) hb;have e:(2:Nat) ^ 47=140737488355328:=by decide
 rw[e];omega
def ZeZ{α γ:Type}{body:U γ×Int->(U γ×Int->O (U γ))->O (U γ)}(l:U α)(c:α->γ)(fin:U γ->O (U γ))(hl:l.length<=BS)(b:Nat)(hb:b<=1000)
 (h:∀s (k:Int) nx,body (s,k) nx=bif decide (k<(l.length:Int)) then(Yf l k).bind fun x=>(app b s [c x]).bind fun z=>nx (z,Xa (k+1)) else fin s) {F:Nat} (hF:10000000000000000000<=F) (s:U γ) (hs:s.length<=2500000):loop F body (s,0)=fin (s++l.map c):=by
 unfold BS at hl;refine ZR (fun(k:Nat)(s:U γ)=>(s,(k:Int))) l (fun rest s=>s.length+rest.length<=3600000) (fun rest s=>fin (s++rest.map c)) ?_ ?_ GZ s GZ
 ·intro s nx _;rw[h,Zy,Cq0];simp
 ·intro k x rest s nx hx hk hg hp ih;have hp':s.length+rest.length+1<=3600000:=by have:=hp;simp only[Kf]at this;omega
  show body (s,(k:Int)) nx=_;rw[h,ZQ hk,Cq1,hg,Bq0,ZSi GZ hb,Bq0,X7 GZ,ih _ (by simp;omega)];simp
def Zmo{F:Nat}(hF:10000000000000000000<=F)(s:U Part)(hs:s.length<=2500000)(l:U Za)(hl:l.length<=BS):Zl7 F s l=some (s++l.map .cl):=
 ZeZ (body:=Znu l) l .cl some hl 16 GZ (fun s k nx=>rfl) hF s hs
def ZqB{F:Nat}(hF:10000000000000000000<=F)(s:U Part)(hs:s.length<=2500000)(l:U Term)(hl:l.length<=BS):Zl8 F s l=some (s++l.map .pr):=
 ZeZ (body:=Znv l) l .pr some hl 16 GZ (fun s k nx=>rfl) hF s hs
def parts_eq{F:Nat}(hF:10000000000000000000<=F)(p:Part)(h:(Yq p).length<=BS):ZdS F p=some (Yq p):=by
 unfold ZdS;cases p with
 | pr t=>
   simp only[Yq,K0,Ge]at h;have l2:t.args.length<=BS:=GZ
   have l3:t.defs.length<=BS:=GZ
   have l4:t.kids.length<=BS:=GZ
   have e1:=Zmo hF (t.args.map Part.ex) (by unfold BS at l2;simp;omega) t.defs l3;have e2:=ZqB hF (t.args.map Part.ex++t.defs.map Part.cl) (by unfold BS at l2 l3;simp;omega) t.kids l4;have:=ZeZ (body:=Znw F ⟨t⟩) t.args .ex (fun s=>(Zl7 F s t.defs).bind fun x=>(Zl8 F x t.kids).bind fun y=>some y) l2 16 GZ (fun s k nx=>rfl) hF [] (by simp);show Zp3 F ⟨t⟩=_;unfold Zp3;rw[this,G5,e1,Bq0,e2];rfl
 | ex e=>
   exact ZeZ (body:=Znt ⟨e⟩) e.kids .ex some (by simpa[Yq]using h) 16 GZ (fun s k nx=>rfl) hF [] (by simp)
 | cl c=>
   simp only[Yq,K0,Ge]at h;have l3:c.defs.length<=BS:=GZ
   have l4:c.kids.length<=BS:=GZ
   have e1:=Zmo hF [] (by simp) c.defs l3;have e2:=ZqB hF ([]++c.defs.map Part.cl) (by unfold BS at l3;simp;omega) c.kids l4;show Zp2 F ⟨c⟩=_;unfold Zp2;rw[e1,Bq0,e2];rfl
def ZtC{p:Part}(hs:Sm p):(Yq p).length<=BS:=by have:=Zb1 p;have:=hs.1;omega
def ZwM{p:Part}(h:Wn p=true)(hl:Loc p):(Yq p).length<=100:=by
 cases p with
 | pr t=>
   have h:ZbA t=true:=h;have e:(Yq (.pr t)).length=t.args.length+t.defs.length+t.kids.length:=by simp[Yq,GC]
   rw[e];unfold ZbA at h;rw[Ba0]at h;replace h:=h.1
   have sz:∀{a d k:Nat},szs t a d k=true->t.args.length=a/\t.defs.length=d/\t.kids.length=k:=fun h=>by
    unfold szs at h;simp only[Ba0,beq_iff_eq]at h;exact⟨h.1.1,h.1.2,h.2⟩
   cases c1:(t.op==1||t.op==7)<;>rw[c1]at h
   case true=>have:=sz h;omega
   cases c2:t.op==2<;>rw[c2]at h
   case true=>simp only[Cq1,Cq0,Ba0,decide_eq_true_eq]at h;have:=sz h.2;omega
   cases c3:t.op==3<;>rw[c3]at h
   case true=>have:=sz h;omega
   cases c4:t.op==4<;>rw[c4]at h
   case true=>simp only[Cq1,Cq0,Ba0,decide_eq_true_eq]at h;have:=sz h.2;omega
   cases c5:t.op==5<;>rw[c5]at h
   case true=>have:=sz h;omega
   simp only[Cq0,Ba0]at h;have:=sz h.2;omega
 | ex e=>
   have h:K6 e=true:=h;have el:(Yq (.ex e)).length=e.kids.length:=by simp[Yq]
   rw[el];unfold K6 at h;cases c1:e.op==1<;>rw[c1]at h
   case true=>simp only[Cq1,Ba0,beq_iff_eq]at h;omega
   cases c2:e.op==2<;>rw[c2]at h
   case true=>simp only[Cq1,Cq0,Ba0,beq_iff_eq]at h;omega
   simp only[Cq0,Ba0,beq_iff_eq]at h;omega
 | cl c=>
   have h:WV c=true:=h;have el:(Yq (.cl c)).length=c.defs.length+c.kids.length:=by simp[Yq]
   rw[el];unfold WV at h;rw[Ba0,beq_iff_eq]at h;obtain⟨h1,h⟩:=h;cases c1:c.form==2<;>rw[c1]at h
   ·simp only[Cq0,Ba0,beq_iff_eq,decide_eq_true_eq]at h;omega
   ·simp only[Cq1,Ba0,beq_iff_eq,decide_eq_true_eq]at h;omega
def ZDG{F:Nat}(hF:10000000000000000000<=F):∀n p,Sm p->(pre p).length<=n->∀Fr,n<=Fr->loop Fr (ZjQ F) p=some (dep p:Int):=by
 intro n
 induction n with
 | zero=>intro p hs hn;have:=Xi p;omega
 | succ n ih=>
   intro p hs hn Fr hFr;obtain⟨G,rfl⟩:∃G,Fr=G+1:=⟨Fr-1,by omega⟩
   rw[Z5];have hK:=ZtC hs;have hih:∀k∈Yq p,loop G (ZjQ F) k=some (dep k:Int):=fun k hk=>ih k (hs.kid hk) (by have:=Yr hk;omega) G GZ
   generalize loop G (ZjQ F)=nx1 at hih;unfold ZjQ;rw[parts_eq hF p hK,Bq0];unfold BS at hK;have:=ZR (body:=ZjR nx1 (Yq p)) (fun(k:Nat)(s:Nat)=>((s:Int),(k:Int))) (Yq p) (fun _ s=>s<=BS) (fun rest s=>some (((max s (ZeU (rest.map dep))+1:Nat)):Int)) (F:=F) ?_ ?_ GZ 0 (Gq _)
   ·rw[Zsu];rw[Nat.zero_max]at this;exact this
   ·intro s nx hs';unfold BS at hs';simp only[ZjR,Zy,Cq0];rw[X7 GZ];simp[ZeU]
   ·intro k x rest s nx hx hk hg hs' ih;unfold BS at hs';simp only[ZjR,ZQ hk,Cq1,hg,Bq0,hih x hx];rw[Zm6,X7 GZ];have hd:=ZI2 x;have hx2:=(hs.kid hx).1;have:=ih (max s (dep x)) (by unfold BS at hx2 ⊢;omega);rw[this,Gc,ZcV,Nat.max_assoc]
def V1(m:Nat)(l:U Part):PR (Z×Int):=bif decide (m+l.length<=60)&&l.all Wn then .ok (true,((m+l.length:Nat):Int)) else .Yd 2
def ZP6(n:Nat):decide ((n:Int)<=60)=decide (n<=60):=by
 by_cases z:n<=60
 ·rw[decide_eq_true z,decide_eq_true GZ]
 ·rw[decide_eq_false z,decide_eq_false GZ]
def ZKE{F:Nat}(hF:10000000000000000000<=F):∀n p,Lo p->(pre p).length<=n->∀Fr,n<=Fr->∀m:Nat,m<=60->loop Fr (Zcj F) (p,(m:Int))=some (V1 m (pre p)):=by
 intro n
 induction n with
 | zero=>intro p hs hn;have:=Xi p;omega
 | succ n ih=>
   intro p hs hn Fr hFr m hm;obtain⟨G,rfl⟩:∃G,Fr=G+1:=⟨Fr-1,by omega⟩
   rw[Z5];have hih:∀k∈Yq p,∀m:Nat,m<=60->loop G (Zcj F) (k,(m:Int))=some (V1 m (pre k)):=fun k hk=>ih k (hs.kid hk) (by have:=Yr hk;omega) G GZ
   generalize loop G (Zcj F)=nx1 at hih;unfold Zcj;dsimp only;rw[X7 GZ,ZP6,Jj,Bq0,ZeN,ZwN hF p hs.loc,Bq0,ZeN];by_cases h60:m+1<=60
   ·rw[decide_eq_true h60,Cq1];cases hsh:Wn p
    ·show some (PR.Yd 2)=_;rw[pre_eq];unfold V1;simp[hsh]
    ·simp only[Cq1,KK,Cq0];have hK:=ZwM hsh hs.loc;rw[parts_eq hF p (by unfold BS;omega),Bq0];have:=ZR (body:=ZjO nx1 (Yq p)) (fun(k:Nat)(s:Nat)=>((k:Int),(s:Int))) (Yq p) (fun _ s=>s<=60) (fun rest s=>some (V1 s (rest.flatMap pre))) (F:=F) ?_ ?_ GZ (m+1) h60
     ·have e:V1 (m+1) ((Yq p).flatMap pre)=V1 m (pre p):=by
       rw[pre_eq p];unfold V1;simp only[Kf,List.all_cons,hsh,G4];rw[show m+1+((Yq p).flatMap pre).length=m+(((Yq p).flatMap pre).length+1) by omega]
      rw[<-e];exact this
     ·intro s nx hs';simp only[ZjO,Zy,Cq0];unfold V1;rw[decide_eq_true (show s+(([]:U Part).flatMap pre).length<=60 by simpa using hs')];simp
     ·intro k x rest s nx hx hk hg hs' ih;simp only[ZjO,ZQ hk,Cq1,hg,Bq0,hih x hx s hs'];rw[X7 GZ,K2];by_cases hb:s+(pre x).length<=60
      ·cases ha:(pre x).all Wn
       ·have e1:V1 s (pre x)=.Yd 2:=by unfold V1;rw[ha,Bool.and_false];rfl
        have e2:V1 s (pre x++rest.flatMap pre)=.Yd 2:=by unfold V1;rw[List.all_append,ha,Gn,Bool.and_false];rfl
        rw[e1,e2,Ztq]
       ·have e1:V1 s (pre x)=.ok (true,((s+(pre x).length:Nat):Int)):=by unfold V1;rw[ha,decide_eq_true hb];rfl
        rw[e1];show nx (((k+1:Nat):Int),((s+(pre x).length:Nat):Int))=_;rw[ih (s+(pre x).length) hb];unfold V1;rw[List.all_append,ha,K0,G4,GC]
      ·have e1:V1 s (pre x)=.Yd 2:=by unfold V1;rw[decide_eq_false hb];rfl
       have e2:V1 s (pre x++rest.flatMap pre)=.Yd 2:=by unfold V1;rw[K0,decide_eq_false GZ];rfl
       rw[e1,e2,Ztq]
   ·rw[decide_eq_false h60,Cq0,pre_eq];unfold V1;rw[Kf,decide_eq_false GZ];rfl
def Ub(A:U Za->Z):Part->Z
 | .pr t=>!(t.op==4)||A t.defs
 | _=>true
def ZKD{F:Nat}(hF:10000000000000000000<=F)(A:U Za->Z):∀n p,Sm p->(∀t,Part.pr t∈pre p->t.op=4->ZdF F t.defs=some (bif A t.defs then .ok () else .Yd 2))->(pre p).length<=n->∀Fr,n<=Fr->loop Fr (Zea F) p=some (bif(pre p).all (Ub A) then .ok true else .Yd 2):=by
 intro n
 induction n with
 | zero=>intro p hs hA hn;have:=Xi p;omega
 | succ n ih=>
   intro p hs hA hn Fr hFr;obtain⟨G,rfl⟩:∃G,Fr=G+1:=⟨Fr-1,by omega⟩
   rw[Z5];have hK:=ZtC hs;have hih:∀k∈Yq p,loop G (Zea F) k=some (bif(pre k).all (Ub A) then .ok true else .Yd 2):=fun k hk=>ih k (hs.kid hk) (fun t ht=>hA t (Z4 hk ht)) (by have:=Yr hk;omega) G GZ
   generalize loop G (Zea F)=nx1 at hih
   have j2:(KF F p nx1) ()=some (bif((Yq p).flatMap pre).all (Ub A) then .ok true else .Yd 2):=by
    unfold KF;simp only[KK,Cq0];rw[parts_eq hF p hK,Bq0];unfold BS at hK;refine ZR (body:=ZjP nx1 (Yq p)) (fun(k:Nat)(_:Unit)=>(k:Int)) (Yq p) (fun _ _=>True) (fun rest _=>some (bif(rest.flatMap pre).all (Ub A) then .ok true else .Yd 2)) (F:=F) ?_ ?_ GZ () trivial
    ·intro s nx _;simp only[ZjP,Zy,Cq0];rfl
    ·intro k x rest s nx hx hk hg _ ih;simp only[ZjP,ZQ hk,Cq1,hg,Bq0,hih x hx];rw[X7 GZ,K2,List.all_append];cases (pre x).all (Ub A)
     ·rfl
     ·exact ih () trivial
   rw[pre_eq p,List.all_cons];unfold Zea;cases p with
   | pr t=>
     show(bif(true&&(t.op==4)) then _ else _)=_;rw[G4];by_cases h4:t.op=4
     ·rw[hA t (Yo _) h4,h4];simp only[Int.reduceBEq,Cq1,Bq0,Ub,h4,KK,Gk];cases A t.defs
      ·rfl
      ·show(KF F (.pr t) nx1) ()=_;rw[j2];rfl
     ·have:(t.op==4)=false:=by simpa using h4
      simp only[this,Cq0,Ub,Gf,Bool.true_or,G4];exact j2
   | ex e=>exact j2
   | cl c=>exact j2
def UU(A:U Za->Z)(p:Part):Z:=decide ((pre p).length<=60)&&(pre p).all Wn&&decide (dep p<=12)&&(pre p).all (Ub A)
def ZP9(n:Nat):decide ((n:Int)<=12)=decide (n<=12):=by
 by_cases z:n<=12
 ·rw[decide_eq_true z,decide_eq_true GZ]
 ·rw[decide_eq_false z,decide_eq_false GZ]
def Zvs{F:Nat}(hF:10000000000000000000<=F)(A:U Za->Z)(p:Part)(hs:Lo p)(hFp:(pre p).length<=F)(hA:(pre p).length<=60->(pre p).all Wn=true->∀t,Part.pr t∈pre p->t.op=4->ZdF F t.defs=some (bif A t.defs then .ok () else .Yd 2)):ZzJ F p=some (bif UU A p then .ok () else .Yd 2):=by
 unfold ZzJ UU;have h1:=ZKE hF _ p hs V0 F GZ 0 GZ;have h1':loop F (Zcj F) (p,0)=some (V1 0 (pre p)):=h1;rw[h1',Bq0];unfold V1;rw[J1];by_cases hl:(pre p).length<=60
 ·cases ha:(pre p).all Wn
  ·rw[Bool.and_false];simp[JR]
  ·rw[decide_eq_true hl];have hs:Sm p:=⟨by unfold BS;omega,hs⟩
   show(ZjN F p) ((pre p).length:Int)=_;unfold ZjN;rw[show ZDb F p=some (dep p:Int) from ZDG hF _ p hs V0 F GZ,Bq0,ZP9,Jj,Bq0,ZeN,ZKD hF A _ p hs (hA hl ha) V0 F GZ,Bq0];cases decide (dep p<=12)<;>cases (pre p).all (Ub A)<;>rfl
 ·rw[decide_eq_false hl];simp[JR]
def ZsA{F:Nat}(hF:10000000000000000000<=F)(A:U Za->Z)(t:Term)(hs:Lo (.pr t))(hFp:(pre (.pr t)).length<=F)(hA:(pre (.pr t)).length<=60->(pre (.pr t)).all Wn=true->∀x,Part.pr x∈pre (.pr t)->x.op=4->ZdF F x.defs=some (bif A x.defs then .ok () else .Yd 2)):Zp1 F t=some (bif UU A (.pr t) then 0 else 2):=by
 unfold Zp1;rw[Zvs hF A _ hs hFp hA,Bq0];cases UU A (.pr t)<;>rfl
def Uz:O Nat->Int
 | some a=>a
 | none=>-1
def dec(o:O Nat)(n:Nat):O Nat:=match o with
 | some a=>if n<=a then some (a-n) else none
 | none=>none
def ZAf(o:O Nat):dec o 0=o:=by cases o<;>simp[dec]
def Za3(o:O Nat)(a b:Nat):dec (dec o a) b=dec o (a+b):=by
 cases o with
 | none=>rfl
 | some x=>
   show dec (if a<=x then some (x-a) else none) b=(if a+b<=x then some (x-(a+b)) else none);by_cases h:a<=x
   ·rw[if_pos h];show(if b<=x-a then some (x-a-b) else none)=_;by_cases h2:b<=x-a
    ·rw[if_pos h2,if_pos GZ,Nat.sub_sub]
    ·rw[if_neg h2,if_neg GZ]
   ·rw[if_neg h,if_neg GZ];rfl
def Zts(o:O Nat):decide (Uz o >=0)=o.isSome:=by
 cases o with
 | none=>rfl
 | some a=>exact decide_eq_true (by show(a:Int) >=0;omega)
def ZI3(a:Nat)(h:a<=1000):Xa ((a:Int)-1)=Uz (dec (some a) 1):=by
 by_cases h0:1<=a
 ·rw[Zim GZ GZ];simp only[dec,if_pos h0,Uz];omega
 ·obtain rfl:a=0:=GZ
  rw[Zim GZ GZ];rfl
def Zel{o:O Nat}{n a:Nat}(h:dec o n=some a){b:Nat}(hb:∀x,o=some x->x<=b):a<=b:=by
 cases o with
 | none=>cases h
 | some x=>
   have h':(if n<=x then some (x-n) else none)=some a:=h;have:=hb x rfl;by_cases hn:n<=x
   ·rw[if_pos hn]at h';cases h';omega
   ·rw[if_neg hn]at h';cases h'
def Zas{α β:Type}{body:Int×Int->(Int×Int->O β)->O β}(l:U α)(c:α->Part)(g:α->Int->O Int)(fin:O Nat->O β)(hl:l.length<=BB)
 (hg:∀x∈l,∀a:Nat,a<=1000->g x (a:Int)=some (Uz (dec (some a) (pre (c x)).length)))
 (hb:∀(i v:Int) nx,body (i,v) nx=bif(decide (i<(l.length:Int))&&decide (v >=0)) then(Yf l i).bind fun x=>(g x v).bind fun y=>nx (Xa (i+1),y) else body ((l.length:Int),v) nx)
 (he:∀o nx,body ((l.length:Int),Uz o) nx=fin o) {F:Nat} (hF:10000000000000000000<=F) (o:O Nat) (ho:∀x,o=some x->x<=1000):loop F body (0,Uz o)=fin (dec o ((l.map c).flatMap pre).length):=by
 unfold BB at hl;refine ZR (fun(k:Nat)(o:O Nat)=>((k:Int),Uz o)) l (fun _ o=>∀x,o=some x->x<=1000) (fun rest o=>fin (dec o ((rest.map c).flatMap pre).length)) ?_ ?_ GZ o ho
 ·intro s nx _;rw[he];simp[ZAf]
 ·intro k x rest s nx hx hk hgi hs ih;show body ((k:Int),Uz s) nx=_;rw[hb,ZQ hk,Zts,G4];cases s with
  | none=>
    show body ((l.length:Int),Uz none) nx=_;rw[he];rfl
  | some a=>
    show((Yf l (k:Int)).bind fun x=>_)=_;rw[hgi,Bq0];show(g x (a:Int)).bind _=_;rw[hg x hx a (hs a rfl),Bq0,X7 GZ,ih _ (fun y hy=>Zel hy hs),Za3];simp
def Lo.mem{x p:Part}(h:Lo p)(hx:x∈pre p):Lo x:=fun y hy=>h y (Jc hy hx)
def Zow{F:Nat}(hF:10000000000000000000<=F):∀n e,Lo (.ex e)->(pre (.ex e)).length<=n->∀Fr,n<=Fr->∀a:Nat,a<=1000->loop Fr (ZjI F) (e,(a:Int))=some (Uz (dec (some a) (pre (.ex e)).length)):=by
 intro n
 induction n with
 | zero=>intro e hs hn;have:=Xi (.ex e);omega
 | succ n ih=>
   intro e hs hn Fr hFr a ha;obtain⟨G,rfl⟩:∃G,Fr=G+1:=⟨Fr-1,by omega⟩
   rw[Z5];have hih:∀x∈e.kids,∀a:Nat,a<=1000->(fun x v=>loop G (ZjI F) (x,v)) x (a:Int)=some (Uz (dec (some a) (pre (.ex x)).length)):=fun x hx a ha=>ih x (hs.kid (XM hx)) (by have:=Yr (XM hx);omega) G GZ a ha
   generalize loop G (ZjI F)=nx1 at hih;unfold ZjI;dsimp only
   rw[ZI3 a ha,Zas (body:=ZjJ e nx1) e.kids .ex (fun x v=>nx1 (x,v)) (fun o=>some (Uz o)) hs.loc.2 hih
    (fun i v nx=>by simp only[ZjJ,Zy,Gn,Cq0]) (fun o nx=>by simp only[ZjJ,Zy,Gn,Cq0]) hF _ (fun x hx=>Zel hx (fun y hy=>by cases hy;exact ha)),Za3]
   rw[Xz];show some (Uz (dec (some a) (1+((Yq (.ex e)).flatMap pre).length)))=_;rw[Nat.add_comm]
def ST(F n:Nat):Prop:=∀t,Lo (.pr t)->(pre (.pr t)).length<=n->∀Fr,n<=Fr->∀a:Nat,a<=1000->loop Fr (ZhA F) (t,(a:Int))=some (Uz (dec (some a) (pre (.pr t)).length),(dec (some a) (pre (.pr t)).length).isSome)
def SC(F n:Nat):Prop:=∀c next,Lo (.cl c)->(pre (.cl c)).length<=n->(∀t,Part.pr t∈pre (.cl c)->∀a:Nat,a<=1000->next (t,(a:Int))=some (Uz (dec (some a) (pre (.pr t)).length),(dec (some a) (pre (.pr t)).length).isSome))->∀Fr,n<=Fr->∀a:Nat,a<=1000->loop Fr (Zej F next) (c,(a:Int))=some (Uz (dec (some a) (pre (.cl c)).length))
def ZD6{F n:Nat}(hF:10000000000000000000<=F)(ih:SC F n):SC F (n+1):=by
 intro c next hs hn hnext Fr hFr a ha;obtain⟨G,rfl⟩:∃G,Fr=G+1:=⟨Fr-1,by omega⟩
 rw[Z5];obtain⟨l1,l2,l3,l4,l5⟩:=hs.loc;have hih:∀x∈c.defs,∀a:Nat,a<=1000->(fun x v=>loop G (Zej F next) (x,v)) x (a:Int)=some (Uz (dec (some a) (pre (.cl x)).length)):=fun x hx a ha=>ih x next (hs.kid (YN hx)) (by have:=Yr (YN hx);omega) (fun t ht=>hnext t (Z4 (YN hx) ht)) G GZ a ha
 generalize loop G (Zej F next)=nx1 at hih;unfold Zej;dsimp only
 have hk:∀o:O Nat,(∀x,o=some x->x<=1000)->loop F (Za1 c next) (0,Uz o)=some (Uz (dec o ((c.kids.map Part.pr).flatMap pre).length)):=fun o ho=>
  Zas (body:=Za1 c next) c.kids .pr (fun x v=>(next (x,v)).bind fun y=>some y.1) (fun o=>some (Uz o)) l4 (fun x hx a ha=>by
   show(next (x,(a:Int))).bind _=_;rw[hnext x (Z4 (XU hx) (Yo _)) a ha];rfl)
   (fun i v nx=>by
     simp only[Za1,Zy,Gn,Cq0];cases Yf c.kids i with
     | none=>rfl
     | some x=>dsimp only[Bq0];cases next (x,v)<;>rfl) (fun o nx=>by simp only[Za1,Zy,Gn,Cq0]) hF o ho
 have ho1:∀x,dec (some a) 1=some x->x<=1000:=fun x hx=>Zel hx (fun y hy=>by cases hy;exact ha)
 rw[ZI3 a ha]
 have:=Zas (body:=Zfx F c next nx1) c.defs .cl (fun x v=>nx1 (x,v)) (fun o=>loop F (Za1 c next) (0,Uz o)) l3 hih
  (fun i v nx=>by simp only[Zfx,Zy,Gn,Cq0]) (fun o nx=>by simp only[Zfx,Zy,Gn,Cq0]) hF _ ho1
 rw[this,hk _ (fun x hx=>Zel hx ho1),Za3,Za3]
 have e:(pre (.cl c)).length=1+(((c.defs.map Part.cl).flatMap pre).length+((c.kids.map Part.pr).flatMap pre).length):=by
  rw[Xz];show((c.defs.map Part.cl++c.kids.map Part.pr).flatMap pre).length+1=_;rw[Q4,K0];omega
 rw[e]
def ZD5{F n:Nat}(hF:10000000000000000000<=F)(hnF:n+1<=F)(ih:ST F n)(ihc:SC F n):ST F (n+1):=by
 intro t hs hn Fr hFr a ha;obtain⟨G,rfl⟩:∃G,Fr=G+1:=⟨Fr-1,by omega⟩
 rw[Z5];obtain⟨l1,l2,l3,l4⟩:=hs.loc;have hnext:∀x,Part.pr x∈pre (.pr t)->(pre (.pr x)).length<=n->∀a:Nat,a<=1000->loop G (ZhA F) (x,(a:Int))=some (Uz (dec (some a) (pre (.pr x)).length),(dec (some a) (pre (.pr x)).length).isSome):=fun x hx hl a ha=>ih x (Lo.mem hs hx) hl G GZ a ha
 generalize loop G (ZhA F)=nx1 at hnext;unfold ZhA;dsimp only
 have hk:∀o:O Nat,(∀x,o=some x->x<=1000)->loop F (Zd8 t nx1) (0,Uz o)=some (Uz (dec o ((t.kids.map Part.pr).flatMap pre).length),(dec o ((t.kids.map Part.pr).flatMap pre).length).isSome):=fun o ho=>
  Zas (body:=Zd8 t nx1) t.kids .pr (fun x v=>(nx1 (x,v)).bind fun y=>some y.1) (fun o=>some (Uz o,o.isSome)) l4 (fun x hx a ha=>by
   show(nx1 (x,(a:Int))).bind _=_;rw[hnext x (Z4 (XC hx) (Yo _)) (by have:=Yr (XC hx);omega) a ha];rfl)
   (fun i v nx=>by
     simp only[Zd8,Zy,Gn,Cq0];cases Yf t.kids i with
     | none=>rfl
     | some x=>dsimp only[Bq0];cases nx1 (x,v)<;>rfl) (fun o nx=>by simp only[Zd8,Zy,Gn,Cq0,Zts]) hF o ho
 have hd:∀o:O Nat,(∀x,o=some x->x<=1000)->loop F (Zd9 F t nx1) (0,Uz o)=some (Uz (dec (dec o ((t.defs.map Part.cl).flatMap pre).length) ((t.kids.map Part.pr).flatMap pre).length),(dec (dec o ((t.defs.map Part.cl).flatMap pre).length) ((t.kids.map Part.pr).flatMap pre).length).isSome):=fun o ho=>by
  rw[Zas (body:=Zd9 F t nx1) t.defs .cl (fun x v=>Zz2 F nx1 x v) (fun o=>loop F (Zd8 t nx1) (0,Uz o)) l3 (fun x hx a ha=>ihc x nx1 (hs.kid (Y5 hx)) (by have:=Yr (Y5 hx);omega) (fun y hy a ha=>hnext y (Z4 (Y5 hx) hy) (by have:=Jz hy;have:=Yr (Y5 hx);omega) a ha) F GZ a ha)
   (fun i v nx=>by simp only[Zd9,Zy,Gn,Cq0]) (fun o nx=>by simp only[Zd9,Zy,Gn,Cq0]) hF o ho,hk _ (fun x hx=>Zel hx ho)]
 have ho1:∀x,dec (some a) 1=some x->x<=1000:=fun x hx=>Zel hx (fun y hy=>by cases hy;exact ha)
 rw[ZI3 a ha,Zas (body:=ZjM F t nx1) t.args .ex (fun x v=>ZIs F x v) (fun o=>loop F (Zd9 F t nx1) (0,Uz o)) l2 (fun x hx a ha=>Zow hF _ x (hs.kid (JF hx)) V0 F (by have:=Yr (JF hx);omega) a ha)
     (fun i v nx=>by simp only[ZjM,Zy,Gn,Cq0]) (fun o nx=>by simp only[ZjM,Zy,Gn,Cq0]) hF _ ho1,hd _ (fun x hx=>Zel hx ho1),Za3,Za3,Za3]
 have e:(pre (.pr t)).length=1+(((t.args.map Part.ex).flatMap pre).length+(((t.defs.map Part.cl).flatMap pre).length+((t.kids.map Part.pr).flatMap pre).length)):=by
  rw[Xz];show((t.args.map Part.ex++t.defs.map Part.cl++t.kids.map Part.pr).flatMap pre).length+1=_;rw[Q4,Q4,K0,K0];omega
 rw[e]
def STC{F:Nat}(hF:10000000000000000000<=F):∀n,n<=F->ST F n/\SC F n:=by
 intro n
 induction n with
 | zero=>intro _;exact⟨fun t hs hn=>by have:=Xi (.pr t);omega,fun c nx hs hn=>by have:=Xi (.cl c);omega⟩
 | succ n ih=>intro hn;obtain⟨a,b⟩:=ih GZ;exact⟨ZD5 hF GZ a b,ZD6 hF b⟩
def ZwJ{F:Nat}(hF:10000000000000000000<=F)(t:Term)(hs:Lo (.pr t))(hFp:(pre (.pr t)).length<=F):ZIw F t 60=some (Uz (dec (some 60) (pre (.pr t)).length),decide ((pre (.pr t)).length<=60)):=by
 have:=(STC hF _ hFp).1 t hs V0 F hFp 60 GZ;show loop F (ZhA F) (t,((60:Nat):Int))=_;rw[this];congr 2;unfold dec;by_cases h:(pre (.pr t)).length<=60
 ·show(if _ then _ else _:O Nat).isSome=_;rw[if_pos h,decide_eq_true h];rfl
 ·show(if _ then _ else _:O Nat).isSome=_;rw[if_neg h,decide_eq_false h];rfl
def DT(F:Nat)(A:U Za->Z)(n:Nat):Prop:=∀t,Sm (.pr t)->(pre (.pr t)).all Wn=true->(∀x,Part.pr x∈pre (.pr t)->x.op=4->∃s,ZhS F x.defs=some (s,A x.defs))->(pre (.pr t)).length<=n->∀Fr,n<=Fr->loop Fr (ZjK F) t=some ((pre (.pr t)).all (Ub A))
def DC(F:Nat)(A:U Za->Z)(n:Nat):Prop:=∀(l:U Za) next,l.length<=BB->(∀c∈l,Sm (.cl c)/\(pre (.cl c)).all Wn=true)->((l.map Part.cl).flatMap pre).length<=n->(∀t,Part.pr t∈(l.map Part.cl).flatMap pre->next t=some ((pre (.pr t)).all (Ub A)))->∀Fr,n<Fr->loop Fr (Zei F next) l=some (((l.map Part.cl).flatMap pre).all (Ub A))
def ZEg{F:Nat}(hF:10000000000000000000<=F)(A:U Za->Z){n:Nat}(ih:∀m,m<n->DC F A m):DC F A n:=by
 intro l next hl hc hn hnext Fr hFr;obtain⟨G,rfl⟩:∃G,Fr=G+1:=⟨Fr-1,by omega⟩
 rw[Z5]
 have hmem:∀c∈l,(pre (.cl c)).length<=n/\∀x∈pre (.cl c),x∈(l.map Part.cl).flatMap pre:=fun c hcl=>
  ⟨Kx (Ut (Gi hcl)) hn,fun x hx=>QP.2 ⟨_,Gi hcl,hx⟩⟩
 have hih:∀c∈l,loop G (Zei F next) c.defs=some (((c.defs.map Part.cl).flatMap pre).all (Ub A)):=fun c hcl=>by
  obtain⟨h1,h2⟩:=hmem c hcl;obtain⟨hsm,hsh⟩:=hc c hcl
  have hd:((c.defs.map Part.cl).flatMap pre).length<(pre (.cl c)).length:=by
   rw[Xz];show _<((c.defs.map Part.cl++c.kids.map Part.pr).flatMap pre).length+1;rw[Q4,K0];omega
  refine ih (n-1) GZ c.defs next hsm.loc.2.2.1 (fun x hx=>⟨hsm.kid (YN hx),?_⟩) GZ (fun t ht=>hnext t (h2 _ ?_)) G GZ
  ·rw[Kd]at hsh ⊢;exact fun y hy=>hsh y (Z4 (YN hx) hy)
  ·obtain⟨y,hy,ht⟩:=QP.1 ht;obtain⟨x,hx,rfl⟩:=Gs.1 hy;exact Z4 (YN hx) ht
 generalize loop G (Zei F next)=nx1 at hih;unfold Zei;unfold BB at hl;refine ZR (body:=Zfw l next nx1) (fun(k:Nat)(_:Unit)=>(k:Int)) l (fun _ _=>True) (fun rest _=>some (((rest.map Part.cl).flatMap pre).all (Ub A))) (F:=F) ?_ ?_ GZ () trivial
 ·intro s nx _;simp only[Zfw,Zy,Cq0];rfl
 ·intro k c rest s nx hx hk hg _ ihl;obtain⟨hsm,hsh⟩:=hc c hx;have hsc:WV c=true:=by rw[Kd]at hsh;exact hsh _ (Yo _)
  obtain⟨k0,hk0⟩:∃k0,c.kids=[k0]:=by
   unfold WV at hsc;rw[Ba0]at hsc;have:=hsc.1;rw[beq_iff_eq]at this
   match hk:c.kids,this with
   | [k0],_=>exact⟨k0,rfl⟩
  have hkm:Part.pr k0∈pre (.cl c):=Z4 (XU (by rw[hk0];simp)) (Yo _)
  have e:(pre (.cl c)).all (Ub A)=(((c.defs.map Part.cl).flatMap pre).all (Ub A)&&(pre (.pr k0)).all (Ub A)):=by
   rw[pre_eq,List.all_cons];show(true&&((c.defs.map Part.cl++c.kids.map Part.pr).flatMap pre).all (Ub A))=_;rw[hk0,Q4,List.all_append];simp
  have hg0:Yf c.kids 0=some k0:=by rw[hk0];rfl
  simp only[Zfw,ZQ hk,Cq1,hg,Bq0,hih c hx,Gc,K2,List.all_append];rw[X7 GZ,e];cases ((c.defs.map Part.cl).flatMap pre).all (Ub A)
  ·rfl
  ·simp only[KK,Gf,gd,Cq1,Bq0,hg0,hnext k0 ((hmem c hx).2 _ hkm),G4];cases (pre (.pr k0)).all (Ub A)
   ·rfl
   ·exact ihl () trivial
def ZEf{F:Nat}(hF:10000000000000000000<=F)(A:U Za->Z){n:Nat}(hnF:n<F)(ih:DT F A n)(ihc:DC F A n):DT F A (n+1):=by
 intro t hs hsh hA hn Fr hFr;obtain⟨G,rfl⟩:∃G,Fr=G+1:=⟨Fr-1,by omega⟩
 rw[Z5];obtain⟨l1,l2,l3,l4⟩:=hs.loc;have hall:∀{x y},x∈pre (.pr t)->y∈pre x->y∈pre (.pr t):=fun hx hy=>Jc hy hx
 have ZLk:∀x,x∈pre (.pr t)->(pre x).all Wn=true:=fun x hx=>by
  rw[Kd]at hsh ⊢;exact fun y hy=>hsh y (hall hx hy)
 have hnext:∀x,Part.pr x∈pre (.pr t)->(pre (.pr x)).length<=n->loop G (ZjK F) x=some ((pre (.pr x)).all (Ub A)):=fun x hx hl=>ih x (hs.mem hx) (ZLk _ hx) (fun y hy=>hA y (hall hx hy)) hl G GZ
 generalize loop G (ZjK F)=nx1 at hnext;unfold BB at l4
 have j:(ZgK F t nx1) ()=some (((t.kids.map Part.pr).flatMap pre).all (Ub A)):=by
  unfold ZgK;refine ZR (body:=ZjL t nx1) (fun(k:Nat)(_:Unit)=>(k:Int)) t.kids (fun _ _=>True) (fun rest _=>some (((rest.map Part.pr).flatMap pre).all (Ub A))) (F:=F) ?_ ?_ GZ () trivial
  ·intro s nx _;simp only[ZjL,Zy,Cq0];rfl
  ·intro k x rest s nx hx hk hg _ ihl;simp only[ZjL,ZQ hk,Cq1,hg,Bq0,hnext x (Z4 (XC hx) (Yo _)) (by have:=Yr (XC hx);omega),Gc,K2,List.all_append];rw[X7 GZ];cases (pre (.pr x)).all (Ub A)
   ·rfl
   ·exact ihl () trivial
 have hex:∀l:U Zi,((l.map Part.ex).flatMap pre).all (Ub A)=true:=by
  have:∀p:Part,∀e,p=.ex e->(pre p).all (Ub A)=true:=by
   intro p
   induction p using Zao with
   | h p ihp=>
     rintro e rfl;rw[pre_eq,List.all_cons,Ba0];refine⟨rfl,?_⟩;rw[Kd];intro y hy;obtain⟨k,hk,hy⟩:=QP.1 hy;obtain⟨x,hx,rfl⟩:=Gs.1 hk;exact Kd.1 (ihp _ hk x rfl) y hy
  intro l;rw[Kd];intro y hy;obtain⟨k,hk,hy⟩:=QP.1 hy;obtain⟨x,hx,rfl⟩:=Gs.1 hk;exact Kd.1 (this _ x rfl) y hy
 have e:(pre (.pr t)).all (Ub A)=((!(t.op==4)||A t.defs)&&(((t.defs.map Part.cl).flatMap pre).all (Ub A)&&((t.kids.map Part.pr).flatMap pre).all (Ub A))):=by
  rw[pre_eq,List.all_cons];show((!(t.op==4)||A t.defs)&&((t.args.map Part.ex++t.defs.map Part.cl++t.kids.map Part.pr).flatMap pre).all (Ub A))=_;rw[Q4,Q4,List.all_append,List.all_append,hex,G4]
 unfold ZjK;rw[j,e];by_cases h4:t.op=4
 ·obtain⟨s,ZQG⟩:=hA t (Yo _) h4
  have hlt:((t.defs.map Part.cl).flatMap pre).length<(pre (.pr t)).length:=by
   rw[Xz];show _<((t.args.map Part.ex++t.defs.map Part.cl++t.kids.map Part.pr).flatMap pre).length+1;rw[Q4,Q4,K0,K0];omega
  have hw:=ihc t.defs nx1 l3 (fun c hc=>⟨hs.kid (Y5 hc),ZLk _ (Z4 (Y5 hc) (Yo _))⟩) GZ (fun x hx=>by
   obtain⟨k,hk,hx⟩:=QP.1 hx;obtain⟨c,hc,rfl⟩:=Gs.1 hk;exact hnext x (Z4 (Y5 hc) hx) (by have:=Jz hx;have:=Yr (Y5 hc);omega)) F hnF
  rw[h4,ZQG];simp only[Int.reduceBEq,Cq1,Bq0,KK,Gk];cases A t.defs
  ·rfl
  ·show(Zuc F nx1 t.defs).bind _=_;rw[show Zuc F nx1 t.defs=_ from hw,Bq0];cases ((t.defs.map Part.cl).flatMap pre).all (Ub A)<;>rfl
 ·have h4':(t.op==4)=false:=by simpa using h4
  have hd:t.defs=[]:=by
   have:=Kd.1 hsh _ (Yo _);have hsT:ZbA t=true:=this;unfold ZbA szs at hsT;rw[h4']at hsT
   have:t.defs.length=0:=by
    revert hsT
    cases t.op==1<;>cases t.op==7<;>cases t.op==2<;>cases t.op==3<;>cases t.op==5<;>cases hd:t.defs.length==0<;>simp_all
   exact G3 this
  rw[h4',hd];simp
def DTC{F:Nat}(hF:10000000000000000000<=F)(A:U Za->Z):∀n,n<=F->DT F A n:=by
 have hc:∀n,DC F A n:=fun n=>by
  induction n using Nat.strongRecOn with
  | _ n ih=>exact ZEg hF A ih
 intro n
 induction n with
 | zero=>intro _ t hs _ _ hn;have:=Xi (.pr t);omega
 | succ n ih=>intro hn;exact ZEf hF A GZ (ih GZ) (hc n)
def ZRu(n:Nat):decide ((n:Int)>12)= !decide (n<=12):=by
 by_cases z:n<=12
 ·rw[decide_eq_true z,decide_eq_false GZ];rfl
 ·rw[decide_eq_false z,decide_eq_true GZ];rfl
def ZvF{F:Nat}(hF:10000000000000000000<=F)(A:U Za->Z)(t:Term)(hs:Lo (.pr t))(hFp:(pre (.pr t)).length<=F)(hA:(pre (.pr t)).length<=60->(pre (.pr t)).all Wn=true->∀x,Part.pr x∈pre (.pr t)->x.op=4->∃s,ZhS F x.defs=some (s,A x.defs)):Zp0 F t=some (bif UU A (.pr t) then 0 else 2):=by
 unfold Zp0;rw[ZwJ hF t hs hFp,Bq0];unfold UU;by_cases hl:(pre (.pr t)).length<=60
 ·rw[decide_eq_true hl];have hs:Sm (.pr t):=⟨by unfold BS;omega,hs⟩
  simp only[KK,Cq0,G4];rw[ZwC hF t hs,Bq0];obtain⟨r1,r2,_,_⟩:=ZA7 (.pr t);simp only[out,r1];cases ha:(pre (.pr t)).all Wn
  ·rfl
  ·obtain⟨_,r3⟩:=r2 ha;rw[r3,ZRu];simp only[KK,Gk,G4,Bool.not_not];cases decide (dep (.pr t)<=12)
   ·rfl
   ·simp only[gd,Cq1,G4];rw[show ZC8 F t=_ from DTC hF A _ GZ t hs ha (hA hl ha) V0 F GZ,Bq0];cases (pre (.pr t)).all (Ub A)<;>rfl
 ·rw[decide_eq_false hl];rfl
abbrev Spt:=Y×U Za
def Xc(c:Za):U Spt:=bif c.form==2 then(c.text,c.defs)::c.defs.attach.flatMap (fun d=>Xc d.1) else []
termination_by SizeOf.sizeOf c
decreasing_by
 obtain⟨fm,tx,js,ds,ks⟩:=c;have:=List.sizeOf_lt_of_mem d.2;simp only[Za.mk.sizeOf_spec]at this ⊢;omega
def Ul(c:Za):Xc c=bif c.form==2 then(c.text,c.defs)::c.defs.flatMap Xc else []:=by rw[Xc,Uw c.defs Xc]
def Y9(l:U Za):U Y:=(l.flatMap Xc).map (·.1)
def ev(a:Nat)(m:Yl):Y×ZH:=(m.text,ZH.mk (a:Int) (m.names.length:Int))
def KL(l:U Za):U Yl:=l.flatMap (·.joins)
def evJ:Nat->U Spt->U (Y×ZH)
 | _,[]=>[]
 | a,sp::r=>(KL sp.2).map (ev a)++evJ (a+1) r
def upd(f:Y->O ZH)(e:Y×ZH):Y->O ZH:=fun x=>if x=e.1 then some e.2 else f x
def okE(f:Y->O ZH)(e:Y×ZH):Z:= !(f e.1).isSome||Ua ((f e.1).getD ⟨0,0⟩) e.2
def JW(f:Y->O ZH):U (Y×ZH)->Z
 | []=>true
 | e::r=>okE f e&&JW (upd f e) r
def Wp(h:Y->Z):U Y->Z
 | []=>true
 | x::xs=>!h x&&Wp (fun s=>h s||decide (s=x)) xs
def Zms(a b:U (Y×ZH)):∀f,JW f (a++b)=(JW f a&&JW (a.foldl upd f) b):=by
 induction a with
 | nil=>intro f;simp[JW]
 | cons e a ih=>intro f;simp only[GO,JW,ih,Gh,Bool.and_assoc]
def ZoP(a b:U Y):∀h,Wp h (a++b)=(Wp h a&&Wp (fun s=>h s||decide (s∈a)) b):=by
 induction a with
 | nil=>intro f;simp[Wp]
 | cons e a ih=>
   intro h;simp only[GO,Wp,ih,Bool.and_assoc];congr 2
   have:(fun s=>(h s||decide (s=e))||decide (s∈a))=fun s=>h s||decide (s∈e::a):=by
    funext s;by_cases h1:s=e<;>by_cases h2:s∈a<;>simp[h1,h2]
   rw[this]
def eqS(x y:ZH):Ua x y=true↔x=y:=by
 obtain⟨a,b⟩:=x;obtain⟨c,d⟩:=y;simp[Ua]
def AgW(l:U Za):Z:=Wp (fun _=>false) (Y9 l)&&JW (fun _=>none) (evJ 0 ((E0,l)::l.flatMap Xc)) && !((evJ 0 ((E0,l)::l.flatMap Xc)).any fun e=>decide (e.1∈Y9 l))
def OkC(c:Za):Prop:=c.joins.length<=3/\(c.form=1\/c.form=2/\c.joins=[])
def OkS(sp:Spt):Prop:=sp.2.length<=60/\∀c∈sp.2,OkC c
def ZdT{c:Za}(h:WV c=true):OkC c:=by
 unfold WV at h;rw[Ba0]at h;obtain⟨_,h⟩:=h;by_cases f2:c.form=2
 ·rw[f2]at h;simp only[Int.reduceBEq,Cq1,Ba0,beq_iff_eq,decide_eq_true_eq]at h;have:c.joins=[]:=G3 h.1.2;exact⟨by rw[this];simp,.inr ⟨f2,this⟩⟩
 ·have:(c.form==2)=false:=by simpa using f2
  rw[this]at h;simp only[Cq0,Ba0,beq_iff_eq,decide_eq_true_eq]at h;exact⟨h.1.2,.inl h.1.1.1.1.1⟩
def ZBZ:∀n (c:Za),(pre (.cl c)).length<=n->(Xc c).length<=(pre (.cl c)).length:=by
 intro n
 induction n with
 | zero=>intro c h;have:=Xi (.cl c);omega
 | succ n ih=>
   intro c hn;rw[Ul];have h0:=Xz (.cl c)
   have h1:((Yq (.cl c)).flatMap pre).length=((c.defs.map Part.cl).flatMap pre).length+((c.kids.map Part.pr).flatMap pre).length:=by
    show((c.defs.map Part.cl++c.kids.map Part.pr).flatMap pre).length=_;rw[Q4,K0]
   have:∀l:U Za,(∀d∈l,(Xc d).length<=(pre (.cl d)).length)->(l.flatMap Xc).length<=((l.map Part.cl).flatMap pre).length:=by
    intro l
    induction l with
    | nil=>simp
    | cons d l ihl=>
      intro h;have a:=h d (by simp);have b:=ihl fun x hx=>h x (KB _ hx)
      simp only[K2,Gc,K0];omega
   have h2:=this c.defs fun d hd=>ih d (by have:=Yr (YN hd);omega)
   cases c.form==2
   ·show 0<=_;omega
   ·show(c.defs.flatMap Xc).length+1<=_;omega
def ZwY(l:U Za):(l.flatMap Xc).length<=((l.map Part.cl).flatMap pre).length:=by
 induction l with
 | nil=>simp
 | cons d l ihl=>simp only[K2,Gc,K0];have:=ZBZ _ d V0;omega
def ZaQ{c:Za}{l:U Za}(h:c∈l):(Xc c).length<=(l.flatMap Xc).length:=by
 induction l with
 | nil=>cases h
 | cons x l ih=>
   rw[K2,K0];rcases Ks.1 h with rfl|h
   ·omega
   ·have:=ih h;omega
def KZ(l:U Za):l.length<=((l.map Part.cl).flatMap pre).length:=by
 have:=Uu (l.map Part.cl)
 simpa using this
def ZB2:∀n (c:Za),(pre (.cl c)).length<=n->n<=60->(pre (.cl c)).all Wn=true->∀sp∈Xc c,OkS sp:=by
 intro n
 induction n with
 | zero=>intro c h;have:=Xi (.cl c);omega
 | succ n ih=>
   intro c hn h60 hs sp hsp;rw[Ul]at hsp;cases hf:c.form==2
   ·rw[hf]at hsp;cases hsp
   rw[hf]at hsp;simp only[Cq1]at hsp
   have hd:∀d∈c.defs,(pre (.cl d)).all Wn=true:=fun d hd=>by
    rw[Kd]at hs ⊢;exact fun y hy=>hs y (Z4 (YN hd) hy)
   rcases Ks.1 hsp with rfl|hsp
   ·refine⟨?_,fun d hdm=>ZdT ?_⟩
    ·have:=Zb1 (.cl c);simp only[Yq,K0,Ge]at this;show c.defs.length<=60;omega
    ·exact Kd.1 (hd d hdm) _ (Yo _)
   ·obtain⟨d,hdm,hsp⟩:=QP.1 hsp;exact ih d (by have:=Yr (YN hdm);omega) GZ (hd d hdm) sp hsp
def Zi5{α σ β γ:Type}{body:γ->(γ->O β)->O β}(st:Nat->σ->γ)(l:U α)(Pre:Nat->U α->σ->Prop)(run:Nat->U α->σ->O β)
 (h0:∀s nx,Pre l.length [] s->body (st l.length s) nx=run l.length [] s)
 (h1:∀(k:Nat) x rest s nx,x∈l->k<l.length->Yf l (k:Int)=some x->Pre k (x::rest) s->(∀s',Pre (k+1) rest s'->nx (st (k+1) s')=run (k+1) rest s')->body (st k s) nx=run k (x::rest) s) {F:Nat} (hF:l.length<F) (s:σ) (hp:Pre 0 l s):loop F body (st 0 s)=run 0 l s:=by
 have key:∀(d j F:Nat)(s:σ),j+d=l.length->d<F->Pre j (l.drop j) s->loop F body (st j s)=run j (l.drop j) s:=by
  intro d
  induction d with
  | zero=>
    intro j F s hj hF hp;obtain⟨F,rfl⟩:∃G,F=G+1:=⟨F-1,by omega⟩
    obtain rfl:j=l.length:=GZ
    rw[List.drop_length]at hp ⊢;rw[Z5,h0 _ _ hp]
  | succ d ih=>
    intro j F s hj hF hp;obtain⟨F,rfl⟩:∃G,F=G+1:=⟨F-1,by omega⟩
    have hjl:j<l.length:=GZ
    rw[List.drop_eq_getElem_cons hjl]at hp ⊢;rw[Z5];exact h1 j _ _ s _ (List.getElem_mem hjl) hjl (Zgv hjl) hp fun s' hp'=>ih (j+1) F s' GZ GZ hp'
 have:=key l.length 0 F s GZ hF (by simpa using hp)
 simpa using this
abbrev MM:=U (Y×ZH)
abbrev MN:=U (Y×Z)
abbrev SS:=Nat×MM×MN
def Zbq:MM->U (Y×ZH)->O MM
 | m,[]=>some m
 | m,e::r=>bif okE (ZT m) e then Zbq (Xx m e.1 e.2) r else none
def Zo3(a b:U (Y×ZH)):∀m,Zbq m (a++b)=(Zbq m a).bind fun x=>Zbq x b:=by
 induction a with
 | nil=>intro m;rfl
 | cons e a ih=>
   intro m;simp only[GO,Zbq];cases okE (ZT m) e
   ·rfl
   ·exact ih _
def Zdv(s:SS)(sp:Spt):O SS:=bif decide (0<s.1)&&has s.2.2 sp.1 then none else(Zbq s.2.1 ((KL sp.2).map (ev s.1))).map fun m=>(s.1+1,m,bif decide (0<s.1) then Xx s.2.2 sp.1 true else s.2.2)
def ZdQ:SS->U Spt->O SS
 | s,[]=>some s
 | s,x::r=>(Zdv s x).bind fun s=>ZdQ s r
def ZoB(a b:U Spt):∀s,ZdQ s (a++b)=(ZdQ s a).bind fun x=>ZdQ x b:=by
 induction a with
 | nil=>intro m;rfl
 | cons e a ih=>
   intro s;simp only[GO,ZdQ];cases Zdv s e with
   | none=>rfl
   | some s'=>exact ih _
def ZwE{s s':SS}{x:Spt}(h:Zdv s x=some s'):s'.1=s.1+1:=by
 unfold Zdv at h;cases hb:(decide (0<s.1)&&has s.2.2 x.1) with
 | true=>rw[hb]at h;cases h
 | false=>
   rw[hb]at h;simp only[Cq0,Option.map_eq_some_iff]at h;obtain⟨m,_,rfl⟩:=h;rfl
def Ztn:∀{l:U Spt}{s s':SS},ZdQ s l=some s'->s'.1=s.1+l.length
 | [],s,s',h=>by cases h;rfl
 | x::r,s,s',h=>by
   obtain⟨s1,h1,h2⟩:=bS (by exact h);have:=ZwE h1;have:=Ztn h2;simp only[Kf];omega
def Zs0:O SS->PR (Z×Int×MM×MN)
 | some s=>.ok (true,(s.1:Int),s.2.1,s.2.2)
 | none=>.Yd 2
def ZrL{F:Nat}(hF:10000000000000000000<=F)(a:Nat)(i:Int)(nx:Int×MM->O (PR (Z×Int×MM×MN)))(x:Za)(hx:x.joins.length<=BB)(m:MM):
 loop F (Zfz (a:Int) i nx x) (0,m)=opt (Zbq m (x.joins.map (ev a))) (some (.Yd 2)) fun m=>nx (Xa (i+1),m):=by
 unfold BB at hx;refine ZR (fun(k:Nat)(m:MM)=>((k:Int),m)) x.joins (fun _ _=>True) (fun rest m=>opt (Zbq m (rest.map (ev a))) (some (.Yd 2)) fun m=>nx (Xa (i+1),m)) ?_ ?_ GZ m trivial
 ·intro s nx' _;simp only[Zfz,Zy,Cq0];rfl
 ·intro j y rest s nx' hy hj hg _ ih;simp only[Zfz,ZQ hj,Cq1,hg,Bq0,Zw0,Jj,ZeN];rw[X7 GZ];simp only[ih _ trivial,Gc,Zbq,okE,ev];cases (!(ZT s y.text).isSome||Ua ((ZT s y.text).getD ⟨0,0⟩) ⟨(a:Int),(y.names.length:Int)⟩)<;>rfl
def Zrp{F:Nat}(hF:10000000000000000000<=F)(l rules:U Za)(a:Nat)(ha:a<=2000)(n1:Y×(U Za)×Int×MM×MN->O (PR (Z×Int×MM×MN)))(ns:MN)(hr:rules.length<=BB)(hx:∀x∈rules,x.joins.length<=BB)(m:MM):
 loop F (ZfA F l (a:Int) n1 rules ns) (0,m)=opt (Zbq m ((KL rules).map (ev a))) (some (.Yd 2)) fun m=>loop F (Za2 l n1) (0,((a+1:Nat):Int),m,ns):=by
 unfold BB at hr;refine ZR (fun(k:Nat)(m:MM)=>((k:Int),m)) rules (fun _ _=>True) (fun rest m=>opt (Zbq m ((KL rest).map (ev a))) (some (.Yd 2)) fun m=>loop F (Za2 l n1) (0,((a+1:Nat):Int),m,ns)) ?_ ?_ GZ m trivial
 ·intro s nx' _;simp only[ZfA,Zy,Cq0,KK];rw[X7 GZ];rfl
 ·intro j y rest s nx' hy hj hg _ ih;simp only[ZfA,ZQ hj,Cq1,hg,Bq0,ZrL hF a _ _ y (hx y hy)];rw[X7 GZ];simp only[ih _ trivial,KL,K2,List.map_append,Zo3];cases Zbq s (y.joins.map (ev a))<;>rfl
def Zja{l:U Za}(h:∀c∈l,OkC c):KL (l.filter fun c=>c.form==1)=KL l:=by
 induction l with
 | nil=>rfl
 | cons c l ih=>
   have i:=ih fun d hd=>h d (KB _ hd)
   obtain⟨_,h1|⟨h2,h3⟩⟩:=h c (by simp)
   ·rw[List.filter_cons_of_pos (by simp[h1])];unfold KL at i ⊢;rw[K2,K2,i]
   ·rw[List.filter_cons_of_neg (by simp[h2]),i];unfold KL;rw[K2,h3,G5]
def ZvW{F:Nat}(hF:10000000000000000000<=F):∀n (nm:Y) (l:U Za) (s:SS),(l.flatMap Xc).length<=n->OkS (nm,l)->(∀sp∈l.flatMap Xc,OkS sp)->s.1+(l.flatMap Xc).length<=1000->∀Fr,n<Fr ->
 loop Fr (KW F) (nm,l,(s.1:Int),s.2.1,s.2.2)=some (Zs0 (ZdQ s ((nm,l)::l.flatMap Xc))):=by
 intro n
 induction n using Nat.strongRecOn with
 | _ n ih=>
   intro nm l s hn hok Zpb hs1 Fr hFr;obtain⟨G,rfl⟩:∃G,Fr=G+1:=⟨Fr-1,by omega⟩
   rw[Z5]
   have hih:∀c∈l,c.form=2->∀s:SS,s.1+(Xc c).length<=1001->loop G (KW F) (c.text,c.defs,(s.1:Int),s.2.1,s.2.2)=some (Zs0 (ZdQ s (Xc c))):=fun c hc hf s hs=>by
    have e:Xc c=(c.text,c.defs)::c.defs.flatMap Xc:=by rw[Ul,hf];rfl
    have hle:(Xc c).length<=(l.flatMap Xc).length:=ZaQ hc;have hm:∀sp∈Xc c,OkS sp:=fun sp hsp=>Zpb sp (QP.2 ⟨c,hc,hsp⟩)
    rw[e]at hle hm hs ⊢;simp only[Kf]at hle hs;exact ih (n-1) GZ c.text c.defs s GZ (hm _ (by simp)) (fun sp hsp=>hm sp (by simp[hsp])) GZ G GZ
   generalize loop G (KW F)=n1 at hih;obtain⟨hl,hoc⟩:=hok;dsimp only at hl hoc
   have hb3:∀s:SS,s.1+(l.flatMap Xc).length<=1001->0<s.1->loop F (Za2 l n1) (0,(s.1:Int),s.2.1,s.2.2)=some (Zs0 (ZdQ s (l.flatMap Xc))):=fun s hs h0=>by
    refine ZR (fun(k:Nat)(s:SS)=>((k:Int),(s.1:Int),s.2.1,s.2.2)) l (fun rest s=>s.1+(rest.flatMap Xc).length<=1001) (fun rest s=>some (Zs0 (ZdQ s (rest.flatMap Xc)))) ?_ ?_ GZ s hs
    ·intro s nx _;simp only[Za2,Zy,Cq0];rfl
    ·intro k c rest s nx hc hk hg hp ihl;simp only[Za2,ZQ hk,Cq1,hg,Bq0];rw[X7 GZ];rw[K2,K0]at hp;rw[K2,ZoB];rcases(hoc c hc).2 with h1|⟨h2,_⟩
     ·rw[h1];have e:Xc c=[]:=by rw[Ul,h1];rfl
      rw[e]at hp ⊢;exact ihl s (by simpa using hp)
     ·rw[h2];have hpos:1<=(Xc c).length:=by rw[Ul,h2];simp
      simp only[Int.reduceBEq,Cq1];rw[hih c hc h2 s GZ,Bq0];cases hr:ZdQ s (Xc c) with
      | none=>rfl
      | some s'=>
        have:=Ztn hr;exact ihl s' GZ
   have hj2:∀ns,(KX F l (s.1:Int) s.2.1 n1 (l.filter fun c=>c.form==1)) ns=some (Zs0 ((Zbq s.2.1 ((KL l).map (ev s.1))).bind fun m=>ZdQ (s.1+1,m,ns) (l.flatMap Xc))):=fun ns=>by
    unfold KX;have hfl:(l.filter fun c=>c.form==1).length<=l.length:=List.length_filter_le _ _;rw[Zrp hF l _ s.1 GZ n1 ns (by unfold BB;omega) (fun x hx=>by have:=(hoc x (GN.1 hx).1).1;unfold BB;omega) s.2.1,Zja hoc];cases Zbq s.2.1 ((KL l).map (ev s.1)) with
    | none=>rfl
    | some m=>exact hb3 (s.1+1,m,ns) (by show s.1+1+_<=1001;omega) (Nat.succ_pos _)
   unfold KW;dsimp only;have:=ZR (body:=ZfB F nm l (s.1:Int) s.2.1 s.2.2 n1) (fun(k:Nat)(a:U Za)=>((k:Int),a)) l (fun rest a=>a.length+rest.length<=60) (fun rest a=>(bif decide ((s.1:Int)>0) then(ZkX s.2.2 nm false).bind fun Zwm=>(JH (!Zwm)).bind fun Zwl=>JR Zwl (fun e267=>some (.Yd 2)) (fun ZKg=>(KX F l (s.1:Int) s.2.1 n1 (a++rest.filter fun c=>c.form==1)) (Xx s.2.2 nm true)) else(KX F l (s.1:Int) s.2.1 n1 (a++rest.filter fun c=>c.form==1)) s.2.2)) (F:=F) ?_ ?_ GZ [] (by simpa using hl)
   ·refine this.trans ?_;simp only[G5,ZbV,Bq0,Jj,ZeN,hj2,gt0];show _=some (Zs0 ((Zdv s (nm,l)).bind fun s=>ZdQ s (l.flatMap Xc)));unfold Zdv;cases decide (0<s.1)
    ·simp only[Cq0,Gn];cases Zbq s.2.1 ((KL l).map (ev s.1))<;>rfl
    ·simp only[Cq1,G4];cases has s.2.2 nm
     ·simp only[Gf,Cq1,Cq0];cases Zbq s.2.1 ((KL l).map (ev s.1))<;>rfl
     ·rfl
   ·intro a nx _;simp only[ZfB,Zy,Cq0,List.filter_nil,Gp]
   ·intro k c rest a nx hc hk hg hp ihl;simp only[Kf]at hp;simp only[ZfB,ZQ hk,Cq1,hg,Bq0,Zfy];rw[X7 GZ];cases hf:c.form==1
    ·rw[List.filter_cons_of_neg (by simp[hf])];exact ihl a GZ
    ·rw[List.filter_cons_of_pos (p:=fun c:Za=>c.form==1) hf];simp only[Cq1];rw[app1 GZ GZ,Bq0,ihl _ (by simp;omega),G6];rfl
def ZkS(m:MM)(l:U (Y×ZH)):MM:=l.foldl (fun m e=>Xx m e.1 e.2) m
def Zdz(m:MM)(e:Y×ZH):ZT (Xx m e.1 e.2)=upd (ZT m) e:=by
 funext x;rw[ZcT];rfl
def Zgm(l:U (Y×ZH)):∀m,ZT (ZkS m l)=l.foldl upd (ZT m):=by
 induction l with
 | nil=>intro m;rfl
 | cons e l ih=>
   intro m;show ZT (ZkS (Xx m e.1 e.2) l)=_;rw[ih,Zdz];rfl
def ZtF(l:U (Y×ZH)):∀m,Zbq m l=bif JW (ZT m) l then some (ZkS m l) else none:=by
 induction l with
 | nil=>intro m;rfl
 | cons e l ih=>
   intro m;simp only[Zbq,JW,ih,Zdz];cases okE (ZT m) e<;>rfl
def Zhl(a b:U (Y×ZH))(m:MM):ZkS m (a++b)=ZkS (ZkS m a) b:=GB
def ZBT(l:U Spt):∀a,0<a->∀m ns,ZdQ (a,m,ns) l=bif Wp (has ns) (l.map (·.1))&&JW (ZT m) (evJ a l) then some (a+l.length,ZkS m (evJ a l),Wo ns (l.map (·.1))) else none:=by
 induction l with
 | nil=>intro a ha m ns;rfl
 | cons x l ih=>
   intro a ha m ns;show(Zdv (a,m,ns) x).bind _=_;unfold Zdv;simp only[decide_eq_true ha,G4,Gc,Wp,evJ,Zms,ZtF,<-Zgm,Cq1];cases has ns x.1
   ·simp only[Cq0,Gf,G4];cases JW (ZT m) ((KL x.2).map (ev a))
    ·simp
    ·simp only[Cq1,Option.map_some,Bq0,G4];rw[ih (a+1) GZ,Zax,Zhl];have:Wo ns (x.1::l.map (·.1))=Wo (Xx ns x.1 true) (l.map (·.1)):=rfl;rw[this,Kf,show a+1+l.length=a+(l.length+1) by omega]
   ·rfl
def Zur{ν:Type}(m:U (Y×ν))(g:Y->Z):(m.any fun e=>g e.1)=true↔∃k,(ZT m k).isSome=true/\g k=true:=by
 rw[GI]
 constructor
 ·rintro⟨e,he,hg⟩;refine⟨e.1,?_,hg⟩;cases h:ZT m e.1 with
  | some v=>rfl
  | none=>
    unfold ZT at h
    have:Yj m e.1=none:=by cases h':Yj m e.1 with
     | none=>rfl
     | some q=>rw[h']at h;cases h
    exact absurd rfl (ZdV.1 this e he)
 ·rintro⟨k,hk,hg⟩;cases h:Yj m k with
  | none=>unfold ZT at hk;rw[h]at hk;cases hk
  | some q=>exact⟨(k,q.2),GM (ZaS h),hg⟩
def Zwv(l:U (Y×ZH)):∀f x,(l.foldl upd f x).isSome=((f x).isSome||l.any fun e=>decide (x=e.1)):=by
 induction l with
 | nil=>intro f x;simp
 | cons e l ih=>
   intro f x;rw[Gh,ih,List.any_cons];unfold upd;by_cases h:x=e.1
   ·simp[h]
   ·simp[h]
def ZAI(l:U (Y×ZH))(g:Y->Z):((ZkS [] l).any fun e=>g e.1)=l.any fun e=>g e.1:=by
 rw[Bool.eq_iff_iff,Zur];simp only[Zgm,Zwv];rw[GI]
 constructor
 ·rintro⟨k,h,hg⟩;have:(l.any fun e=>decide (k=e.1))=true:=by simpa[ZT,Yj]using h
  obtain⟨e,he,hk⟩:=GI.1 this;rw[decide_eq_true_eq]at hk;exact⟨e,he,by rw[<-hk];exact hg⟩
 ·rintro⟨e,he,hg⟩;refine⟨e.1,?_,hg⟩;rw[Gv];right;exact GI.2 ⟨e,he,by simp⟩
def Zu6{ν:Type}(b:Y->ν->O Z)(g:Y->Z)(h:∀k v,b k v=some (g k))(l:U (Y×ν)):ZlM b l=some (l.any fun e=>g e.1):=by
 induction l with
 | nil=>rfl
 | cons e l ih=>simp only[ZlM,h,ih,Bq0,List.any_cons]
def ZsN{F:Nat}(hF:10000000000000000000<=F)(l:U Za)(hl:OkS (E0,l))(hs:∀sp∈l.flatMap Xc,OkS sp)(hn:(l.flatMap Xc).length<=60):ZdF F l=some (bif AgW l then .ok () else .Yd 2):=by
 unfold ZdF;have:=ZvW hF _ E0 l (0,[],[]) V0 hl hs (by show 0+_<=1000;omega) F GZ;have e:loop F (KW F) (E0,l,0,[],[])=_:=this;rw[e,Bq0]
 have e2:ZdQ (0,[],[]) ((E0,l)::l.flatMap Xc)=bif JW (fun _=>none) (evJ 0 ((E0,l)::l.flatMap Xc))&&Wp (fun _=>false) (Y9 l) then some (1+(l.flatMap Xc).length,ZkS [] (evJ 0 ((E0,l)::l.flatMap Xc)),Wo [] (Y9 l)) else none:=by
  show(Zdv (0,[],[]) (E0,l)).bind _=_;unfold Zdv;have h0:(ZT ([]:MM))=fun _=>none:=by funext x;rfl
  simp only[Nat.lt_irrefl,decide_false,Gn,Cq0,evJ,Zms,ZtF,h0];have hm:JW ((List.map (ev 0) (KL l)).foldl upd fun _=>none) (evJ (0+1) (l.flatMap Xc))=JW (ZT (ZkS [] ((KL l).map (ev 0)))) (evJ (0+1) (l.flatMap Xc)):=by rw[Zgm,h0]
  rw[hm];cases JW (fun _=>none) ((KL l).map (ev 0))
  ·simp
  ·simp only[Cq1,Option.map_some,Bq0,G4];rw[ZBT _ (0+1) GZ,Znk,Zhl,Bool.and_comm];rfl
 rw[e2];unfold AgW;rw[Bool.and_comm (JW _ _)];cases Wp (fun _=>false) (Y9 l)&&JW (fun _=>none) (evJ 0 ((E0,l)::l.flatMap Xc))
 ·rfl
 ·simp only[Cq1,G4,Zs0,JR];unfold Zh8;dsimp only
  rw[Zu6 _ (has (Wo [] (Y9 l))) (fun k v=>by
   simp only[Znz,ZbV,Bq0,Jj,ZeN];cases has (Wo [] (Y9 l)) k<;>rfl),Bq0,ZAI,Zjk,Znk]
  simp only[Gk];cases ((evJ 0 ((E0,l)::l.flatMap Xc)).any fun e=>decide (e.1∈Y9 l))<;>rfl
def Zw6(c:Za)(l:U Za):Y9 (c::l)=(Xc c).map (·.1)++Y9 l:=by unfold Y9;rw[K2,List.map_append]
def ZKL(ns l:U Y)(x:Y):(fun s=>decide (s∈ns++[x]++l))=fun s=>(decide (s∈ns)||decide (s=x))||decide (s∈l):=by
 funext s;by_cases h1:s∈ns<;>by_cases h2:s=x<;>by_cases h3:s∈l<;>simp[h1,h2,h3]
def ZlL{F:Nat}(hF:10000000000000000000<=F):∀n (l:U Za) (s:YZ),(l.flatMap Xc).length<=n->l.length<=60->(∀sp∈l.flatMap Xc,OkS sp)->s.places.length+(l.flatMap Xc).length<=1000->∀Fr,n<Fr ->
 loop Fr (Zeg F) (s,l)=some ⟨s.channels,s.many,s.at_,s.places++Y9 l,s.bad || !Wp (fun x=>decide (x∈s.places)) (Y9 l)⟩:=by
 intro n
 induction n using Nat.strongRecOn with
 | _ n ih=>
   intro l s hn hl Zpb hs1 Fr hFr;obtain⟨G,rfl⟩:∃G,Fr=G+1:=⟨Fr-1,by omega⟩
   rw[Z5]
   have hih:∀c∈l,c.form=2->∀s:YZ,s.places.length+(Xc c).length<=1001->loop G (Zeg F) (s,c.defs)=some ⟨s.channels,s.many,s.at_,s.places++Y9 c.defs,s.bad || !Wp (fun x=>decide (x∈s.places)) (Y9 c.defs)⟩:=fun c hc hf s hs=>by
    have e:Xc c=(c.text,c.defs)::c.defs.flatMap Xc:=by rw[Ul,hf];rfl
    have hle:(Xc c).length<=(l.flatMap Xc).length:=ZaQ hc;have hm:∀sp∈Xc c,OkS sp:=fun sp hsp=>Zpb sp (QP.2 ⟨c,hc,hsp⟩)
    rw[e]at hle hm hs;simp only[Kf]at hle hs;exact ih (n-1) GZ c.defs s GZ (hm (c.text,c.defs) (by simp)).1 (fun sp hsp=>hm sp (by simp[hsp])) GZ G GZ
   generalize loop G (Zeg F)=n1 at hih;unfold Zeg;dsimp only;refine ZR (body:=Zft F l n1) (fun(k:Nat)(p:U Y×Z)=>((k:Int),s.channels,s.many,s.at_,p.1,p.2)) l (fun rest p=>p.1.length+(rest.flatMap Xc).length<=1000) (fun rest p=>some ⟨s.channels,s.many,s.at_,p.1++Y9 rest,p.2 || !Wp (fun x=>decide (x∈p.1)) (Y9 rest)⟩) (F:=F) ?_ ?_ GZ (s.places,s.bad) hs1
   ·intro p nx _;simp only[Zft,Zy,Cq0,Y9,List.flatMap_nil,List.map_nil,Gp,Wp,KK,Bool.or_false]
   ·intro k c rest p nx hc hk hg hp ihl;obtain⟨pl,bad⟩:=p;dsimp only at hp ihl ⊢;rw[K2,K0]at hp;simp only[Zft,ZQ hk,Cq1,hg,Bq0,Zfs];rw[X7 GZ,Zw6];by_cases hf:c.form=2
    ·have e:Xc c=(c.text,c.defs)::c.defs.flatMap Xc:=by rw[Ul,hf];rfl
     have e':(Xc c).map (·.1)=c.text::Y9 c.defs:=by rw[e];rfl
     rw[e'];have hlen:(Xc c).length=(c.defs.flatMap Xc).length+1:=by rw[e];rfl
     rw[hf,show((2:Int)==2)=true from rfl];simp only[Cq1];rw[app1 GZ GZ]
     have hgd:∀(k:Z->O YZ),((gd (!bad) (some c) default).bind fun x57=>(gd (!bad) (ZgP F pl x57.text) default).bind fun x66=>k (bad||x66))=k (bad||decide (c.text∈pl)):=fun k=>by
      cases bad
      ·simp only[Gf,ZaX,Bq0];rw[has_eq F pl c.text GZ GZ];rfl
      ·rfl
     have h2:=hih c hc hf ⟨s.channels,s.many,s.at_,pl++[c.text],bad||decide (c.text∈pl)⟩ (by simp;omega);refine(hgd (fun b=>(n1 (⟨s.channels,s.many,s.at_,pl++[c.text],b⟩,c.defs)).bind fun x93=>nx (((k+1:Nat):Int),x93.channels,x93.many,x93.at_,x93.places,x93.bad))).trans ?_;rw[h2,Bq0];refine(ihl (pl++[c.text]++Y9 c.defs,_) ?_).trans ?_
     ·show(pl++[c.text]++Y9 c.defs).length+_<=1000;simp only[K0,Y9,Ge,List.length_singleton];omega
     ·dsimp only
      have eN:Wp (fun x=>decide (x∈pl)) (c.text::Y9 c.defs++Y9 rest)=(!decide (c.text∈pl)&&(Wp (fun s=>decide (s∈pl)||decide (s=c.text)) (Y9 c.defs)&&Wp (fun s=>(decide (s∈pl)||decide (s=c.text))||decide (s∈Y9 c.defs)) (Y9 rest))):=by
       rw[GO];show(_&&Wp _ _)=_;rw[ZoP]
      rw[eN,ZKL,ZGP];have eL:pl++[c.text]++Y9 c.defs++Y9 rest=pl++(c.text::Y9 c.defs++Y9 rest):=by simp
      rw[eL];cases bad<;>cases decide (c.text∈pl)<;>cases Wp (fun s=>decide (s∈pl)||decide (s=c.text)) (Y9 c.defs)<;>simp
    ·have e:Xc c=[]:=by
      rw[Ul,show(c.form==2)=false by simpa using hf];rfl
     rw[show(c.form==2)=false by simpa using hf,e];rw[e]at hp;simp only[Cq0,List.map_nil,G5];exact ihl (pl,bad) (by simpa using hp)
def ZOw{α:Type}{l:U α}{x:α}(h:l.length<=900000):app 24 l [x]=some (l++[x]):=app1 h GZ
def Zlw{F:Nat}(hF:10000000000000000000<=F):∀n (l:U Za) (out:U (U Za)),(l.flatMap Xc).length<=n->l.length<=60->(∀sp∈l.flatMap Xc,OkS sp)->out.length+(l.flatMap Xc).length<=1000->∀Fr,n<Fr ->
 loop Fr (Zed F) (out,l)=some (out++(l.flatMap Xc).map (·.2)):=by
 intro n
 induction n using Nat.strongRecOn with
 | _ n ih=>
   intro l out hn hl Zpb hs1 Fr hFr;obtain⟨G,rfl⟩:∃G,Fr=G+1:=⟨Fr-1,by omega⟩
   rw[Z5]
   have hih:∀c∈l,c.form=2->∀o:U (U Za),o.length+(Xc c).length<=1001->loop G (Zed F) (o,c.defs)=some (o++(c.defs.flatMap Xc).map (·.2)):=fun c hc hf s hs=>by
    have e:Xc c=(c.text,c.defs)::c.defs.flatMap Xc:=by rw[Ul,hf];rfl
    have hle:(Xc c).length<=(l.flatMap Xc).length:=ZaQ hc;have hm:∀sp∈Xc c,OkS sp:=fun sp hsp=>Zpb sp (QP.2 ⟨c,hc,hsp⟩)
    rw[e]at hle hm hs;simp only[Kf]at hle hs;exact ih (n-1) GZ c.defs s GZ (hm (c.text,c.defs) (by simp)).1 (fun sp hsp=>hm sp (by simp[hsp])) GZ G GZ
   generalize loop G (Zed F)=n1 at hih;unfold Zed;dsimp only;refine ZR (body:=Zfg l n1) (fun(k:Nat)(p:U (U Za))=>(p,(k:Int))) l (fun rest p=>p.length+(rest.flatMap Xc).length<=1000) (fun rest p=>some (p++(rest.flatMap Xc).map (·.2))) (F:=F) ?_ ?_ GZ out hs1
   ·intro p nx _;simp only[Zfg,Zy,Cq0];simp
   ·intro k c rest p nx hc hk hg hp ihl;rw[K2,K0]at hp;simp only[Zfg,ZQ hk,Cq1,hg,Bq0,Zff];rw[X7 GZ,K2];by_cases hf:c.form=2
    ·have e:Xc c=(c.text,c.defs)::c.defs.flatMap Xc:=by rw[Ul,hf];rfl
     have hlen:(Xc c).length=(c.defs.flatMap Xc).length+1:=by rw[e];rfl
     rw[hf,show((2:Int)==2)=true from rfl];simp only[Cq1];rw[ZOw GZ,Bq0,hih c hc hf _ (by simp only[K0,Ge,List.length_singleton];omega),Bq0,ihl _ (by simp only[K0,Ge,List.length_singleton];omega),e];simp
    ·have e:Xc c=[]:=by
      rw[Ul,show(c.form==2)=false by simpa using hf];rfl
     rw[show(c.form==2)=false by simpa using hf,e];rw[e]at hp;simp only[Cq0,G5];exact ihl p (by simpa using hp)
abbrev RJ:=MM×Z
def rj(s:RJ)(e:Y×ZH):RJ:=match ZT s.1 e.1 with
 | none=>(s.1++[e],s.2)
 | some w=>(s.1,s.2||w.many !=e.2.many||w.at_ !=e.2.at_)
def Jy(pl:U Y)(s:RJ):YZ:=⟨s.1.map (·.1),s.1.map (·.2.many),s.1.map (·.2.at_),pl,s.2⟩
def ZwT(s:RJ)(e:Y×ZH):(rj s e).1.length<=s.1.length+1:=by
 unfold rj;cases ZT s.1 e.1<;>simp
def ZhY(l:U (Y×ZH)):∀s:RJ,(l.foldl rj s).1.length<=s.1.length+l.length:=by
 induction l with
 | nil=>intro s;simp
 | cons e l ih=>intro s;rw[Gh];have:=ih (rj s e);have:=ZwT s e;simp only[Kf];omega
def ZlO(m:MM)(e:Y×ZH)(h:ZT m e.1=none):ZT (m++[e])=upd (ZT m) e:=by
 funext x;unfold upd;by_cases hx:x=e.1
 ·rw[if_pos hx,hx,UY h];simp[ZT,Yj]
 ·rw[if_neg hx];cases e2:ZT m x with
  | some v=>exact Zaq e2
  | none=>rw[UY e2];simp[ZT,Yj];exact fun z=>hx z.symm
def ZGF(l:U (Y×ZH)):∀s:RJ,(l.foldl rj s).2=(s.2 || !JW (ZT s.1) l)/\∀x,(ZT (l.foldl rj s).1 x).isSome=((ZT s.1 x).isSome||l.any fun e=>decide (x=e.1)):=by
 induction l with
 | nil=>intro s;simp[JW]
 | cons e l ih=>
   intro s;obtain⟨m,b⟩:=s;rw[Gh];obtain⟨i1,i2⟩:=ih (rj (m,b) e);rw[i1];cases h:ZT m e.1 with
   | none=>
     have hr:rj (m,b) e=(m++[e],b):=by unfold rj;rw[h]
     rw[hr]at i2 ⊢;refine⟨?_,fun x=>?_⟩
     ·simp only[JW,okE,h,ZlO m e h];rfl
     ·rw[i2 x,ZlO m e h,List.any_cons];unfold upd;by_cases hx:x=e.1
      ·simp[hx]
      ·simp[hx]
   | some w=>
     have hr:rj (m,b) e=(m,b||w.many !=e.2.many||w.at_ !=e.2.at_):=by unfold rj;rw[h]
     rw[hr]at i2 ⊢;refine⟨?_,fun x=>?_⟩
     ·simp only[JW,okE,h,Option.getD_some,Option.isSome_some,KK,Gk];by_cases hw:w=e.2
      ·have hu:upd (ZT m) e=ZT m:=by
        funext x;unfold upd;by_cases hx:x=e.1
        ·rw[if_pos hx,hx,h,hw]
        ·rw[if_neg hx]
       rw[hu,(eqS w e.2).2 hw,hw];simp
      ·have:Ua w e.2=false:=by
        cases hq:Ua w e.2
        ·rfl
        ·exact absurd ((eqS w e.2).1 hq) hw
       rw[this]
       have:(w.many !=e.2.many||w.at_ !=e.2.at_)=true:=by
        obtain⟨wa,wm⟩:=w;obtain⟨t,ea,em⟩:=e;by_cases h1:wm=em
        ·have:wa≠ea:=fun h2=>hw (by rw[h1,h2])
         simp[this]
        ·simp[h1]
       rw[Bool.or_assoc b,this];simp
     ·rw[i2 x,List.any_cons];by_cases hx:x=e.1
      ·rw[hx,h];simp
      ·simp[hx]
def Zcc{α β:Type}{l:U α}{k:Nat}{x:α}(f:α->β)(h:Yf l (k:Int)=some x):Yf (l.map f) (k:Int)=some (f x):=by
 rw[ZpL]at h ⊢;rw[GG,h];rfl
def join_one{F:Nat}(hF:10000000000000000000<=F)(pl:U Y)(s:RJ)(m:Yl)(a:Nat)(hl:s.1.length<=800000):Zua F (Jy pl s) m (a:Int)=some (Jy pl (rj s (ev a m))):=by
 obtain⟨tr,b⟩:=s
 have:=ZR (body:=Zfr (Jy pl (tr,b)) m (a:Int)) (fun(k:Nat)(_:Unit)=>(k:Int)) tr (fun _ _=>True) (fun rest _=>some (match ZT rest m.text with
  | none=>Jy pl (tr++[ev a m],b)
  | some w=>Jy pl (tr,b||w.many !=(m.names.length:Int)||w.at_ !=(a:Int)))) (F:=F) ?_ ?_ (by dsimp only at hl;omega) () trivial
 ·refine this.trans ?_;unfold rj;show some (match ZT tr m.text with|none=>_|some w=>_)=some (Jy pl (match ZT tr m.text with|none=>_|some w=>_));cases ZT tr m.text<;>rfl
 ·intro _ nx _;have e:(((Jy pl (tr,b)).channels.length:Nat):Int)=((tr.length:Nat):Int):=by simp[Jy]
  simp only[Zfr,e,Zy,Cq0,Jy];dsimp only at hl;rw[app1 (by rw[Ge];omega) GZ,Bq0,app1 (by rw[Ge];omega) GZ,Bq0,app1 (by rw[Ge];omega) GZ,Bq0];simp[ZT,Yj,ev]
 ·intro k x rest _ nx hx hk hg _ ihl;have e:(((Jy pl (tr,b)).channels.length:Nat):Int)=((tr.length:Nat):Int):=by simp[Jy]
  simp only[Zfr,e,ZQ hk,Cq1];simp only[Jy];rw[Zcc (·.1) hg,Bq0]
  have hmg:ZT (x::rest) m.text=if x.1=m.text then some x.2 else ZT rest m.text:=by
   unfold ZT;rw[Yj];by_cases h:x.1=m.text
   ·simp[h]
   ·simp only[h,if_false];cases Yj rest m.text<;>rfl
  rw[hmg];dsimp only at hl;by_cases h:x.1=m.text
  ·rw[decide_eq_true h,if_pos h,Cq1,Zcc (fun e:Y×ZH=>e.2.many) hg,Zcc (fun e:Y×ZH=>e.2.at_) hg];cases b
   ·simp only[Gf,ZaX,Bq0,Gk];cases x.2.many !=(m.names.length:Int)<;>rfl
   ·rfl
  ·rw[decide_eq_false h,if_neg h,Cq0,X7 GZ];exact ihl () trivial
def stJ(pl:U Y)(s:RJ):(U Y)×(U Int)×(U Int)×(U Y)×Z:=(s.1.map (·.1),s.1.map (·.2.many),s.1.map (·.2.at_),pl,s.2)
def ZrF{F:Nat}(hF:10000000000000000000<=F)(pl:U Y)(all:U (U Za))(cl:U Za)(i j:Nat)(c:Za)(hi:Yf all (i:Int)=some cl)(hj:Yf cl (j:Int)=some c)(hc:c.joins.length<=3)(nx:Int×(U Y)×(U Int)×(U Int)×(U Y)×Z->O (YZ×Z))(s:RJ)(hs:s.1.length<=100000):
 loop F (ZgD F all (i:Int) (j:Int) nx) (0,stJ pl s)=nx (Xa ((j:Int)+1),stJ pl ((c.joins.map (ev i)).foldl rj s)):=by
 refine ZR (body:=ZgD F all (i:Int) (j:Int) nx) (fun(k:Nat)(s:RJ)=>((k:Int),stJ pl s)) c.joins (fun rest s=>s.1.length+rest.length<=200000) (fun rest s=>nx (Xa ((j:Int)+1),stJ pl ((rest.map (ev i)).foldl rj s))) (F:=F) ?_ ?_ GZ s GZ
 ·intro s nx' _;simp only[ZgD,hi,hj,Bq0,stJ,Zy,Cq0];rfl
 ·intro k m rest s nx' hm hk hg hp ih;simp only[Kf]at hp;simp only[ZgD,hi,hj,Bq0,stJ,ZQ hk,Cq1,hg];have:=join_one hF pl s m i GZ;unfold Jy at this;rw[this,Bq0,X7 GZ];exact ih (rj s (ev i m)) (by have:=ZwT s (ev i m);omega)
def ZrE{F:Nat}(hF:10000000000000000000<=F)(pl:U Y)(all:U (U Za))(cl:U Za)(i:Nat)(hi:Yf all (i:Int)=some cl)(hl:cl.length<=60)(hc:∀c∈cl,c.joins.length<=3)(nx:Int×(U Y)×(U Int)×(U Int)×(U Y)×Z->O (YZ×Z))(s:RJ)(hs:s.1.length<=50000):
 loop F (ZgE F all (i:Int) nx) (0,stJ pl s)=nx (Xa ((i:Int)+1),stJ pl (((KL cl).map (ev i)).foldl rj s)):=by
 refine ZR (body:=ZgE F all (i:Int) nx) (fun(k:Nat)(s:RJ)=>((k:Int),stJ pl s)) cl (fun rest s=>s.1.length+3*rest.length<=60000) (fun rest s=>nx (Xa ((i:Int)+1),stJ pl (((KL rest).map (ev i)).foldl rj s))) (F:=F) ?_ ?_ GZ s GZ
 ·intro s nx' _;simp only[ZgE,hi,Bq0,stJ,Zy,Cq0];rfl
 ·intro k c rest s nx' hm hk hg hp ih;simp only[Kf]at hp;have h3:=hc c hm;simp only[ZgE,hi,Bq0,stJ,ZQ hk,Cq1];have:=ZrF hF pl all cl i k c hi hg h3 nx' s GZ;unfold stJ at this;rw[this,X7 GZ];refine(ih _ ?_).trans ?_
  ·have:=ZhY (c.joins.map (ev i)) s;rw[Ge]at this;omega
  ·unfold KL;rw[K2,List.map_append,GB];rfl
def ZoZ{F:Nat}(hF:10000000000000000000<=F)(pl:U Y)(Qr:U Spt)(hn:Qr.length<=61)(hs:∀sp∈Qr,OkS sp)(b:Z):
 loop F (ZgF F (Qr.map (·.2))) (0,[],[],[],pl,b)=loop F (Zcf F (((evJ 0 Qr).foldl rj ([],b)).1.map (·.1)) (((evJ 0 Qr).foldl rj ([],b)).1.map (·.2.many)) (((evJ 0 Qr).foldl rj ([],b)).1.map (·.2.at_)) pl) (0,((evJ 0 Qr).foldl rj ([],b)).2):=by
 have:=Zi5 (body:=ZgF F (Qr.map (·.2))) (fun(k:Nat)(s:RJ)=>((k:Int),stJ pl s)) Qr (fun _ rest s=>s.1.length+180*rest.length<=12000) (fun k rest s=>loop F (Zcf F (((evJ k rest).foldl rj s).1.map (·.1)) (((evJ k rest).foldl rj s).1.map (·.2.many)) (((evJ k rest).foldl rj s).1.map (·.2.at_)) pl) (0,((evJ k rest).foldl rj s).2)) (F:=F) ?_ ?_ GZ ([],b) (by simp;omega)
 ·exact this
 ·intro s nx _;have e:(((Qr.map (·.2)).length:Nat):Int)=(Qr.length:Int):=by simp
  simp only[ZgF,e,stJ,Zy,Cq0];rfl
 ·intro k sp rest s nx hm hk hg hp ih;simp only[Kf]at hp;have e:(((Qr.map (·.2)).length:Nat):Int)=(Qr.length:Int):=by simp
  obtain⟨h1,h2⟩:=hs sp hm;simp only[ZgF,e,stJ,ZQ hk,Cq1];have:=ZrE hF pl (Qr.map (·.2)) sp.2 k (Zcc (·.2) hg) h1 (fun c hc=>(h2 c hc).1) nx s GZ;unfold stJ at this;rw[this,X7 GZ]
  have hj:(KL sp.2).length<=3*sp.2.length:=by
   have:∀l:U Za,(∀c∈l,OkC c)->(KL l).length<=3*l.length:=by
    intro l
    induction l with
    | nil=>intro _;simp[KL]
    | cons c l ih=>
      intro h;have a:=ih fun d hd=>h d (KB _ hd)
      have b:=(h c (by simp)).1;unfold KL at a ⊢;rw[K2,K0,Kf];omega
   exact this _ h2
  refine(ih _ ?_).trans ?_
  ·have:=ZhY ((KL sp.2).map (ev k)) s;rw[Ge]at this;omega
  ·simp only[evJ,GB]
def ZoY{F:Nat}(hF:10000000000000000000<=F)(pl:U Y)(hpl:pl.length<=1000)(s:RJ)(hs:s.1.length<=100000):
 loop F (Zcf F (s.1.map (·.1)) (s.1.map (·.2.many)) (s.1.map (·.2.at_)) pl) (0,s.2)=some (Jy pl (s.1,s.2||s.1.any fun e=>decide (e.1∈pl)),!(s.2||s.1.any fun e=>decide (e.1∈pl))):=by
 refine ZR (body:=Zcf F (s.1.map (·.1)) (s.1.map (·.2.many)) (s.1.map (·.2.at_)) pl) (fun(k:Nat)(b:Z)=>((k:Int),b)) s.1 (fun _ _=>True) (fun rest b=>some (Jy pl (s.1,b||rest.any fun e=>decide (e.1∈pl)),!(b||rest.any fun e=>decide (e.1∈pl)))) (F:=F) ?_ ?_ GZ s.2 trivial
 ·intro b nx _;have e:(((s.1.map (·.1)).length:Nat):Int)=(s.1.length:Int):=by simp
  simp only[Zcf,e,Zy,Cq0];simp[Jy]
 ·intro k x rest b nx hx hk hg _ ih;have e:(((s.1.map (·.1)).length:Nat):Int)=(s.1.length:Int):=by simp
  simp only[Zcf,e,ZQ hk,Cq1,Zcc (·.1) hg];rw[X7 GZ,List.any_cons];cases b
  ·simp only[Gf,ZaX,Bq0,Gk];rw[has_eq F pl x.1 GZ GZ,Bq0];exact ih _ trivial
  ·exact ih true trivial
def ZNN{s:YZ}{a b:Z}(h:a=b):∃s',some (s,a)=some (s',b):=⟨s,by rw[h]⟩
def ZvV{F:Nat}(hF:10000000000000000000<=F)(l:U Za)(hl:OkS (E0,l))(hs:∀sp∈l.flatMap Xc,OkS sp)(hn:(l.flatMap Xc).length<=60):∃s,ZhS F l=some (s,AgW l):=by
 have h1:Zub F (YZ.mk [] [] [] [] false) l=_:=ZlL hF _ l ⟨[],[],[],[],false⟩ V0 hl.1 hs (by show 0+_<=1000;omega) F GZ;have h2:Zt4 F [l] l=_:=Zlw hF _ l [l] V0 hl.1 hs (by show 1+_<=1000;omega) F GZ;unfold ZhS Zp7;rw[h1,Bq0,h2];simp only[Bq0,G5,Gk,Jx,decide_false];have hsp: [l]++(l.flatMap Xc).map (·.2)=((E0,l)::l.flatMap Xc).map (·.2):=rfl
 have hok:∀sp∈(E0,l)::l.flatMap Xc,OkS sp:=fun sp hsp=>by
  rcases Ks.1 hsp with rfl|h
  ·exact hl
  ·exact hs sp h
 have hlen:(evJ 0 ((E0,l)::l.flatMap Xc)).length<=20000:=by
  have:∀(Qr:U Spt)(a:Nat),(∀sp∈Qr,OkS sp)->(evJ a Qr).length<=180*Qr.length:=by
   intro Qr
   induction Qr with
   | nil=>intro a _;simp[evJ]
   | cons sp r ih=>
     intro a h;have i:=ih (a+1) fun x hx=>h x (KB _ hx)
     obtain⟨h1,h2⟩:=h sp (by simp)
     have hj:∀l:U Za,(∀c∈l,OkC c)->(KL l).length<=3*l.length:=by
      intro l
      induction l with
      | nil=>intro _;simp[KL]
      | cons c l ih=>
        intro h;have a:=ih fun d hd=>h d (KB _ hd)
        have b:=(h c (by simp)).1;unfold KL at a ⊢;rw[K2,K0,Kf];omega
     have:=hj sp.2 h2;simp only[evJ,K0,Ge,Kf];omega
  have:=this _ 0 hok;simp only[Kf]at this;omega
 have hnm:(Y9 l).length<=60:=by unfold Y9;rw[Ge];exact hn
 rw[hsp,ZoZ hF _ _ (by simp only[Kf];omega) hok];have hr:=ZhY (evJ 0 ((E0,l)::l.flatMap Xc)) ([],!Wp (fun _=>false) (Y9 l));rw[ZoY hF _ GZ _ (by simp only[List.length_nil]at hr;omega)];obtain⟨r1,r2⟩:=ZGF (evJ 0 ((E0,l)::l.flatMap Xc)) ([],!Wp (fun _=>false) (Y9 l))
 have ha:(((evJ 0 ((E0,l)::l.flatMap Xc)).foldl rj ([],!Wp (fun _=>false) (Y9 l))).1.any fun e=>decide (e.1∈Y9 l))=(evJ 0 ((E0,l)::l.flatMap Xc)).any fun e=>decide (e.1∈Y9 l):=by
  rw[Bool.eq_iff_iff,Zur _ (fun x=>decide (x∈Y9 l))];simp only[r2];rw[GI]
  constructor
  ·rintro⟨k,h,hg⟩;have:((evJ 0 ((E0,l)::l.flatMap Xc)).any fun e=>decide (k=e.1))=true:=by simpa[ZT,Yj]using h
   obtain⟨e,he,hk⟩:=GI.1 this;rw[decide_eq_true_eq]at hk;exact⟨e,he,by rw[<-hk];exact hg⟩
  ·rintro⟨e,he,hg⟩;refine⟨e.1,?_,hg⟩;rw[Gv];right;exact GI.2 ⟨e,he,by simp⟩
 have h0:(ZT ([]:MM))=fun _=>none:=by funext x;rfl
 rw[ha,r1];refine ZNN ?_;unfold AgW;rw[h0];cases Wp (fun _=>false) (Y9 l)<;>cases JW (fun _=>none) (evJ 0 ((E0,l)::l.flatMap Xc))<;>simp
def ZcP{p:Part}(h60:(pre p).length<=60)(hs:(pre p).all Wn=true){x:Term}(hx:Part.pr x∈pre p):OkS (E0,x.defs)/\(∀sp∈x.defs.flatMap Xc,OkS sp)/\(x.defs.flatMap Xc).length<=60:=by
 have hle:=Jz hx
 have hlen:((x.defs.map Part.cl).flatMap pre).length<=(pre (.pr x)).length:=by
  rw[Xz];show _<=((x.args.map Part.ex++x.defs.map Part.cl++x.kids.map Part.pr).flatMap pre).length+1;rw[Q4,Q4,K0,K0];omega
 have hc:∀c∈x.defs,(pre (.cl c)).all Wn=true:=fun c hc=>by
  rw[Kd]at hs ⊢;exact fun y hy=>hs y (Jc (Z4 (Y5 hc) hy) hx)
 have h1:=KZ x.defs;have h2:=ZwY x.defs;refine⟨⟨by show x.defs.length<=60;omega,fun c h=>ZdT (Kd.1 (hc c h) _ (Yo _))⟩,fun sp hsp=>?_,by omega⟩;obtain⟨c,h,hsp⟩:=QP.1 hsp;exact ZB2 60 c (by have:=Yr (Y5 h);omega) GZ (hc c h) sp hsp
def ZnO{F:Nat}(hF:10000000000000000000<=F)(t:Term)(hs:Lo (.pr t))(hFp:(pre (.pr t)).length<=F):Zp1 F t=some (bif UU AgW (.pr t) then 0 else 2):=
 ZsA hF AgW t hs hFp fun h60 hsh x hx _=>by obtain⟨a,b,c⟩:=ZcP h60 hsh hx;exact ZsN hF x.defs a b c
def Zul{F:Nat}(hF:10000000000000000000<=F)(t:Term)(hs:Lo (.pr t))(hFp:(pre (.pr t)).length<=F):Zp0 F t=some (bif UU AgW (.pr t) then 0 else 2):=
 ZvF hF AgW t hs hFp fun h60 hsh x hx _=>by obtain⟨a,b,c⟩:=ZcP h60 hsh hx;exact ZvV hF x.defs a b c
def Zaz{p:Part}(h:UU AgW p=true):(pre p).all Wn=true/\(pre p).length<=60:=by
 unfold UU at h;simp only[Ba0,decide_eq_true_eq]at h;exact⟨h.1.1.2,h.1.1.1⟩
abbrev CH:=U Y×MN
def dj(s:CH)(t:Y):CH:=bif has s.2 t then s else(s.1++[t],Xx s.2 t true)
def ZI1(s:CH)(t:Y):(dj s t).1.length<=s.1.length+1:=by
 unfold dj;cases has s.2 t<;>simp
def ZnL(l:U Y):∀s:CH,(l.foldl dj s).1.length<=s.1.length+l.length:=by
 induction l with
 | nil=>intro s;simp
 | cons t l ih=>intro s;rw[Gh];have:=ih (dj s t);have:=ZI1 s t;simp only[Kf];omega
structure DS where
 c:CH
 pl:List ByteArray
 at_:Nat
def J2(s:DS)(sp:Spt):DS:=⟨((KL sp.2).map (·.text)).foldl dj s.c,bif decide (0<s.at_) then s.pl++[sp.1] else s.pl,s.at_+1⟩
abbrev RD:=Z×(U Y)×(U Y)×Int×MN
def Zu2(s:DS):RD:=(true,s.c.1,s.pl,(s.at_:Int),s.c.2)
def Zqn{F:Nat}(hF:10000000000000000000<=F)(i:Int)(nx:Int×(U Y)×MN->O RD)(x:Za)(hx:x.joins.length<=3)(s:CH)(hs:s.1.length<=100000):
 loop F (ZgG i nx x) (0,s.1,s.2)=nx (Xa (i+1),((x.joins.map (·.text)).foldl dj s).1,((x.joins.map (·.text)).foldl dj s).2):=by
 refine ZR (body:=ZgG i nx x) (fun(k:Nat)(s:CH)=>((k:Int),s.1,s.2)) x.joins (fun rest s=>s.1.length+rest.length<=200000) (fun rest s=>nx (Xa (i+1),((rest.map (·.text)).foldl dj s).1,((rest.map (·.text)).foldl dj s).2)) (F:=F) ?_ ?_ GZ s GZ
 ·intro s nx' _;simp only[ZgG,Zy,Cq0];rfl
 ·intro j y rest s nx' hy hj hg hp ih;simp only[Kf]at hp;simp only[ZgG,ZjF,ZQ hj,Cq1,hg,Bq0,ZbV];rw[X7 GZ,app1 GZ GZ];simp only[Bq0,Gc,Gh];cases hh:has s.2 y.text
  ·have e:dj s y.text=(s.1++[y.text],Xx s.2 y.text true):=by unfold dj;rw[hh];rfl
   rw[e];exact ih (s.1++[y.text],Xx s.2 y.text true) (by simp;omega)
  ·have e:dj s y.text=s:=by unfold dj;rw[hh];rfl
   rw[e];exact ih s GZ
def Zqk{F:Nat}(hF:10000000000000000000<=F)(l rules:U Za)(a:Nat)(ha:a<=2000)(n1:Y×(U Za)×(U Y)×(U Y)×Int×MN->O RD)(pl:U Y)(hr:rules.length<=60)(hx:∀x∈rules,x.joins.length<=3)(s:CH)(hs:s.1.length<=50000):
 loop F (ZgH F l (a:Int) n1 rules pl) (0,s.1,s.2)=loop F (Zci l n1) (0,((a+1:Nat):Int),(((KL rules).map (·.text)).foldl dj s).1,pl,(((KL rules).map (·.text)).foldl dj s).2):=by
 refine ZR (body:=ZgH F l (a:Int) n1 rules pl) (fun(k:Nat)(s:CH)=>((k:Int),s.1,s.2)) rules (fun rest s=>s.1.length+3*rest.length<=60000) (fun rest s=>loop F (Zci l n1) (0,((a+1:Nat):Int),(((KL rest).map (·.text)).foldl dj s).1,pl,(((KL rest).map (·.text)).foldl dj s).2)) (F:=F) ?_ ?_ GZ s GZ
 ·intro s nx' _;simp only[ZgH,Zy,Cq0,KK];rw[X7 GZ];rfl
 ·intro j y rest s nx' hy hj hg hp ih;simp only[Kf]at hp;have h3:=hx y hy;simp only[ZgH,ZQ hj,Cq1,hg,Bq0];rw[Zqn hF _ _ y h3 s GZ,X7 GZ];refine(ih ((y.joins.map (·.text)).foldl dj s) ?_).trans ?_
  ·have:=ZnL (y.joins.map (·.text)) s;rw[Ge]at this;omega
  ·unfold KL;rw[K2,List.map_append,GB]
def Zm8{l:U Za}(h:∀c∈l,OkC c):(KL l).length<=3*l.length:=by
 induction l with
 | nil=>simp[KL]
 | cons c l ih=>
   have a:=ih fun d hd=>h d (KB _ hd)
   have b:=(h c (by simp)).1;unfold KL at a ⊢;rw[K2,K0,Kf];omega
def ZuS(s:DS){sp:Spt}(h:OkS sp):(J2 s sp).c.1.length<=s.c.1.length+180/\(J2 s sp).pl.length<=s.pl.length+1/\(J2 s sp).at_=s.at_+1:=by
 obtain⟨h1,h2⟩:=h;refine⟨?_,?_,rfl⟩
 ·have:=ZnL ((KL sp.2).map (·.text)) s.c;have:=Zm8 h2;rw[Ge]at *;show((KL sp.2).map (·.text) |>.foldl dj s.c).1.length<=_;omega
 ·unfold J2;dsimp only;cases decide (0<s.at_)<;>simp
def Zgy:∀(l:U Spt)(s:DS),(∀sp∈l,OkS sp)->(l.foldl J2 s).c.1.length<=s.c.1.length+180*l.length/\(l.foldl J2 s).pl.length<=s.pl.length+l.length/\(l.foldl J2 s).at_=s.at_+l.length
 | [],s,_=>by simp
 | sp::l,s,h=>by
   have a:=ZuS s (h sp (by simp));have b:=Zgy l (J2 s sp) fun x hx=>h x (KB _ hx)
   rw[Gh];simp only[Kf];omega
def Zuy(s:DS)(n:Nat):Prop:=s.c.1.length+180*n<=20000/\s.pl.length+n<=1000/\s.at_+n<=1000
def ZDF{F:Nat}(hF:10000000000000000000<=F):∀n (nm:Y) (l:U Za) (s:DS),(l.flatMap Xc).length<=n->OkS (nm,l)->(∀sp∈l.flatMap Xc,OkS sp)->Zuy s ((l.flatMap Xc).length+1)->∀Fr,n<Fr ->
 loop Fr (Zcg F) (nm,l,s.c.1,s.pl,(s.at_:Int),s.c.2)=some (Zu2 (((nm,l)::l.flatMap Xc).foldl J2 s)):=by
 intro n
 induction n using Nat.strongRecOn with
 | _ n ih=>
   intro nm l s hn hok Zpb hs1 Fr hFr;obtain⟨G,rfl⟩:∃G,Fr=G+1:=⟨Fr-1,by omega⟩
   rw[Z5]
   have hih:∀c∈l,c.form=2->∀s:DS,Zuy s (Xc c).length->loop G (Zcg F) (c.text,c.defs,s.c.1,s.pl,(s.at_:Int),s.c.2)=some (Zu2 ((Xc c).foldl J2 s)):=fun c hc hf s hs=>by
    have e:Xc c=(c.text,c.defs)::c.defs.flatMap Xc:=by rw[Ul,hf];rfl
    have hle:(Xc c).length<=(l.flatMap Xc).length:=ZaQ hc;have hm:∀sp∈Xc c,OkS sp:=fun sp hsp=>Zpb sp (QP.2 ⟨c,hc,hsp⟩)
    rw[e]at hle hm hs ⊢;simp only[Kf]at hle hs;exact ih (n-1) GZ c.text c.defs s GZ (hm _ (by simp)) (fun sp hsp=>hm sp (by simp[hsp])) hs G GZ
   generalize loop G (Zcg F)=n1 at hih;have hok':=hok;obtain⟨hl,hoc⟩:=hok;dsimp only at hl hoc;obtain⟨r1,r2,r3⟩:=hs1
   have hb3:∀s:DS,Zuy s (l.flatMap Xc).length->loop F (Zci l n1) (0,(s.at_:Int),s.c.1,s.pl,s.c.2)=some (Zu2 ((l.flatMap Xc).foldl J2 s)):=fun s hs=>by
    refine ZR (body:=Zci l n1) (fun(k:Nat)(s:DS)=>((k:Int),(s.at_:Int),s.c.1,s.pl,s.c.2)) l (fun rest s=>Zuy s (rest.flatMap Xc).length) (fun rest s=>some (Zu2 ((rest.flatMap Xc).foldl J2 s))) (F:=F) ?_ ?_ GZ s hs
    ·intro s nx _;simp only[Zci,Zy,Cq0];rfl
    ·intro k c rest s nx hc hk hg hp ihl;simp only[Zci,ZQ hk,Cq1,hg,Bq0];rw[X7 GZ];rw[K2,K0]at hp;rw[K2,GB];obtain⟨p1,p2,p3⟩:=hp;rcases(hoc c hc).2 with h1|⟨h2,_⟩
     ·have e:Xc c=[]:=by rw[Ul,h1];rfl
      rw[h1];rw[e]at p1 p2 p3 ⊢;simp only[List.length_nil,J1]at p1 p2 p3;exact ihl s ⟨p1,p2,p3⟩
     ·rw[h2];simp only[Int.reduceBEq,Cq1];rw[hih c hc h2 s ⟨by omega,by omega,by omega⟩,Bq0];have hfl:=Zgy (Xc c) s fun sp hsp=>Zpb sp (QP.2 ⟨c,hc,hsp⟩)
      exact ihl ((Xc c).foldl J2 s) ⟨by omega,by omega,by omega⟩
   have hj2:∀pl:U Y,pl.length+(l.flatMap Xc).length<=1000->(Zch F l s.c.1 (s.at_:Int) s.c.2 n1 (l.filter fun c=>c.form==1)) pl=some (Zu2 ((l.flatMap Xc).foldl J2 ⟨((KL l).map (·.text)).foldl dj s.c,pl,s.at_+1⟩)):=fun pl hpl=>by
    unfold Zch;have hfl:(l.filter fun c=>c.form==1).length<=l.length:=List.length_filter_le _ _;rw[Zqk hF l _ s.at_ GZ n1 pl GZ (fun x hx=>(hoc x (GN.1 hx).1).1) s.c GZ,Zja hoc];have h1:=ZnL ((KL l).map (·.text)) s.c;have h2:=Zm8 hoc;rw[Ge]at h1;exact hb3 ⟨((KL l).map (·.text)).foldl dj s.c,pl,s.at_+1⟩ ⟨by dsimp only;omega,by dsimp only;omega,by dsimp only;omega⟩
   unfold Zcg;dsimp only;have:=ZR (body:=ZjH F nm l s.c.1 s.pl (s.at_:Int) s.c.2 n1) (fun(k:Nat)(a:U Za)=>((k:Int),a)) l (fun rest a=>a.length+rest.length<=60) (fun rest a=>(bif decide ((s.at_:Int)>0) then(app 16 s.pl [nm]).bind fun Zwj=>(Zch F l s.c.1 (s.at_:Int) s.c.2 n1 (a++rest.filter fun c=>c.form==1)) Zwj else(Zch F l s.c.1 (s.at_:Int) s.c.2 n1 (a++rest.filter fun c=>c.form==1)) s.pl)) (F:=F) ?_ ?_ GZ [] (by simpa using hl)
   ·refine this.trans ?_;rw[app1 (l:=s.pl) (x:=nm) GZ GZ];simp only[G5,Bq0,gt0];rw[hj2 s.pl GZ,hj2 (s.pl++[nm]) (by simp only[K0,List.length_singleton];omega)];show _=some (Zu2 ((l.flatMap Xc).foldl J2 (J2 s (nm,l))));unfold J2;cases decide (0<s.at_)<;>rfl
   ·intro a nx _;simp only[ZjH,Zy,Cq0,List.filter_nil,Gp]
   ·intro k c rest a nx hc hk hg hp ihl;simp only[Kf]at hp;simp only[ZjH,ZQ hk,Cq1,hg,Bq0,ZjG];rw[X7 GZ];cases hf:c.form==1
    ·rw[List.filter_cons_of_neg (by simp[hf])];exact ihl a GZ
    ·rw[List.filter_cons_of_pos (p:=fun c:Za=>c.form==1) hf];simp only[Cq1];rw[app1 GZ GZ,Bq0,ihl _ (by simp;omega),G6];rfl
def Zxw(m:MM)(x:Y):(ZT m x).isSome=decide (x∈m.map (·.1)):=by
 induction m with
 | nil=>simp[ZT,Yj]
 | cons e m ih=>
   have hmg:ZT (e::m) x=if e.1=x then some e.2 else ZT m x:=by
    unfold ZT;rw[Yj];by_cases h:e.1=x
    ·simp[h]
    ·simp only[h,if_false];cases Yj m x<;>rfl
   rw[hmg];by_cases h:e.1=x
   ·rw[if_pos h];simp[h]
   ·rw[if_neg h,ih];have:x≠e.1:=fun z=>h z.symm
    simp[this]
def chans(J':U (Y×ZH)):∀(s:RJ)(d:CH),s.1.map (·.1)=d.1->(∀x,has d.2 x=decide (x∈d.1))->(J'.foldl rj s).1.map (·.1)=((J'.map (·.1)).foldl dj d).1:=by
 induction J' with
 | nil=>intro s d h _;exact h
 | cons e J' ih=>
   intro s d h hd;rw[Gh,Gc,Gh];have hm:(ZT s.1 e.1).isSome=has d.2 e.1:=by rw[Zxw,hd,h]
   refine ih _ _ ?_ ?_
   ·unfold rj dj;cases hg:ZT s.1 e.1 with
    | none=>
      have hz:has d.2 e.1=false:=by rw[<-hm,hg];rfl
      rw[hz];simp[h]
    | some w=>
      have hz:has d.2 e.1=true:=by rw[<-hm,hg];rfl
      rw[hz];exact h
   ·intro x;unfold dj;cases hz:has d.2 e.1
    ·simp only[Cq0];rw[Zax];show(has d.2 x||decide (x=e.1))=decide (x∈d.1++[e.1]);rw[hd x];by_cases h1:x∈d.1<;>by_cases h2:x=e.1<;>simp[h1,h2]
    ·exact hd x
def Zmi:∀(l:U Spt)(a:Nat),(evJ a l).map (·.1)=l.flatMap fun sp=>(KL sp.2).map (·.text)
 | [],_=>rfl
 | sp::l,a=>by
   simp only[evJ,List.map_append,List.map_map,K2,Zmi l (a+1)]
   rfl
def Zno:∀(l:U Spt)(s:DS),(l.foldl J2 s).c=(l.flatMap fun sp=>(KL sp.2).map (·.text)).foldl dj s.c
 | [],_=>rfl
 | sp::l,s=>by rw[Gh,Zno l,K2,GB];rfl
def ZpO:∀(l:U Spt)(s:DS),0<s.at_->(l.foldl J2 s).pl=s.pl++l.map (·.1)
 | [],s,_=>by simp
 | sp::l,s,h=>by
   rw[Gh,ZpO l _ (by unfold J2;dsimp only;omega)];unfold J2;rw[decide_eq_true h];simp
def QI(l:U Za):U Y×U Y:=(((((E0,l)::l.flatMap Xc).flatMap fun sp=>(KL sp.2).map (·.text)).foldl dj ([],[])).1,Y9 l)
def Zkb{F:Nat}(hF:10000000000000000000<=F)(l:U Za)(hl:OkS (E0,l))(hs:∀sp∈l.flatMap Xc,OkS sp)(hn:(l.flatMap Xc).length<=60):Zlb F l=some (QI l):=by
 unfold Zlb;have h:=ZDF hF _ E0 l ⟨([],[]),[],0⟩ V0 hl hs ⟨by dsimp only[List.length_nil];omega,by dsimp only[List.length_nil];omega,by dsimp only;omega⟩ F GZ;have e:loop F (Zcg F) (E0,l,[],[],0,[])=_:=h;rw[e,Bq0];show some (_,_)=some (QI l);unfold QI;rw[Zno,Gh,ZpO _ _ (Nat.succ_pos _)]
 rfl
def Zui{F:Nat}(hF:10000000000000000000<=F)(l:U Za)(hl:OkS (E0,l))(hs:∀sp∈l.flatMap Xc,OkS sp)(hn:(l.flatMap Xc).length<=60):∃s b,ZhS F l=some (s,b)/\(s.channels,s.places)=QI l:=by
 have h1:Zub F (YZ.mk [] [] [] [] false) l=_:=ZlL hF _ l ⟨[],[],[],[],false⟩ V0 hl.1 hs (by show 0+_<=1000;omega) F GZ;have h2:Zt4 F [l] l=_:=Zlw hF _ l [l] V0 hl.1 hs (by show 1+_<=1000;omega) F GZ;unfold ZhS Zp7;rw[h1,Bq0,h2];simp only[Bq0,G5,Gk,Jx,decide_false];have hsp: [l]++(l.flatMap Xc).map (·.2)=((E0,l)::l.flatMap Xc).map (·.2):=rfl
 have hok:∀sp∈(E0,l)::l.flatMap Xc,OkS sp:=fun sp hsp=>by
  rcases Ks.1 hsp with rfl|h
  ·exact hl
  ·exact hs sp h
 have hlen:∀(Qr:U Spt)(a:Nat),(∀sp∈Qr,OkS sp)->(evJ a Qr).length<=180*Qr.length:=by
  intro Qr
  induction Qr with
  | nil=>intro a _;simp[evJ]
  | cons sp r ih=>
    intro a h;have i:=ih (a+1) fun x hx=>h x (KB _ hx)
    obtain⟨h1,h2⟩:=h sp (by simp);have:=Zm8 h2;simp only[evJ,K0,Ge,Kf];omega
 have hl2:=hlen _ 0 hok;simp only[Kf]at hl2;have hnm:(Y9 l).length<=60:=by unfold Y9;rw[Ge];exact hn
 rw[hsp,ZoZ hF _ _ (by simp only[Kf];omega) hok];have hr:=ZhY (evJ 0 ((E0,l)::l.flatMap Xc)) ([],!Wp (fun _=>false) (Y9 l));rw[ZoY hF _ GZ _ (by simp only[List.length_nil]at hr;omega)];refine⟨_,_,rfl,?_⟩;unfold Jy QI;dsimp only;rw[chans _ _ ([],[]) rfl (fun x=>rfl),Zmi]
def ZAe{F:Nat}(hF:10000000000000000000<=F)(t:Term)(hs:Lo (.pr t))(hFp:(pre (.pr t)).length<=F):∃r,Zvx F t=some r/\ZzL F t=some r:=by
 unfold Zvx ZzL;rw[ZnO hF t hs hFp,Zul hF t hs hFp];cases h:UU AgW (.pr t)
 ·exact⟨_,rfl,rfl⟩
 ·simp only[Bq0,Cq1];cases h4:(t.op !=4)
  ·obtain⟨a,b,c⟩:=ZcP (Zaz h).2 (Zaz h).1 (Yo (.pr t));obtain⟨s,b',e1,e2⟩:=Zui hF t.defs a b c;refine⟨((QI t.defs).1,(QI t.defs).2,0),?_,?_⟩
   ·show(Zlb F t.defs).bind _=_;rw[Zkb hF t.defs a b c];rfl
   ·show(ZhS F t.defs).bind _=_;rw[e1,<-e2];rfl
  ·exact⟨_,rfl,rfl⟩
def Zdp:U Y->Y->U Y
 | [],s=>[s]
 | x::l,s=>bif Zdu x s then x::Zdp l s else s::x::l
def Zdn(out B:U Y)(s:Y):U Y:=if s∈B\/s∈out then out else Zdp out s
def Ztf{l:U Y}{a b:Nat}(h:a<=b)(hb:b<=l.length):slL l (a:Int) (b:Int)=some ((l.take b).drop a):=by
 unfold slL;rw[decide_eq_true GZ,decide_eq_true GZ,decide_eq_true GZ];simp
def Zi1{l:U Y}{s x:Y}:x∈Zdp l s↔x=s\/x∈l:=by
 induction l with
 | nil=>simp[Zdp]
 | cons y l ih=>
   unfold Zdp;cases Zdu y s
   ·simp
   ·simp only[Cq1,Ks,ih]
    constructor
    ·rintro(h|h|h)<;>simp[h]
    ·rintro(h|h|h)<;>simp[h]
def ZxJ(l:U Y)(s:Y):(Zdp l s).length=l.length+1:=by
 induction l with
 | nil=>rfl
 | cons y l ih=>
   unfold Zdp;cases Zdu y s
   ·rfl
   ·simp only[Cq1,Kf,ih]
def put_eq{F:Nat}(hF:10000000000000000000<=F)(out B:U Y)(s:Y)(ho:out.length<=100000)(hB:B.length<=800000):Zmf F out B s=some (Zdn out B s):=by
 unfold Zmf Zdn;rw[has_eq F B s GZ GZ,Bq0];by_cases h1:s∈B
 ·rw[decide_eq_true h1,if_pos (.inl h1)];rfl
 ·rw[decide_eq_false h1];simp only[Gf,ZaX];rw[has_eq F out s GZ GZ,Bq0];by_cases h2:s∈out
  ·rw[decide_eq_true h2,if_pos (.inr h2)];rfl
  ·rw[decide_eq_false h2,if_neg (by simp[h1,h2])];simp only[Bool.or_false,Cq0]
   have fin:∀k:Nat,k<=out.length->((slL out (k:Int) (out.length:Int)).bind fun z15=>(app 16 [s] z15).bind fun z19=>(slL out 0 (k:Int)).bind fun z25=>(app 16 ([]:U Y) z25).bind fun z29=>(app 16 z29 z19).bind fun z33=>some z33)=some (out.take k++s::out.drop k):=fun k hk=>by
    have e0:slL out 0 (k:Int)=some ((out.take k).drop 0):=Ztf (a:=0) (Gq _) hk;rw[Ztf hk V0,e0];simp only[Bq0,List.take_length,List.drop_zero];have a1:app 16 [s] (out.drop k)=some ([s]++out.drop k):=QK (by simp;omega) GZ;have a2:app 16 ([]:U Y) (out.take k)=some ([]++out.take k):=QK (by simp;omega) GZ;rw[a1,a2];simp only[Bq0,G5];have a3:app 16 (out.take k) ([s]++out.drop k)=some (out.take k++([s]++out.drop k)):=QK (by simp;omega) GZ;rw[a3];rfl
   have:=Zi5 (body:=Zfo out s) (fun(k:Nat)(_:Unit)=>(k:Int)) out (fun k rest _=>rest=out.drop k) (fun k rest _=>some (out.take k++Zdp rest s)) (F:=F) ?_ ?_ GZ () (by simp)
   ·simpa using this
   ·intro _ nx _;simp only[Zfo,Zy,Zzd,Bq0,Gn,Cq0];rw[fin _ V0];simp[Zdp]
   ·intro k x rest _ nx hx hk hg hp ih;simp only[Zfo,ZQ hk,ZaX,hg,Bq0,G4];have hd:out.drop k=out[k]::out.drop (k+1):=List.drop_eq_getElem_cons hk;rw[hd]at hp;obtain⟨rfl,rfl⟩:=List.cons.inj hp;rw[X7 GZ];unfold Zdp;cases hc:Zdu out[k] s
    ·simp only[Cq0];rw[fin k GZ,hd]
    ·simp only[Cq1];rw[ih () rfl,List.take_succ_eq_append_getElem hk,G6];rfl
def nm1:Part->U Y
 | .ex e=>bif e.op==2 then [e.text] else []
 | _=>[]
def nmE(e:Zi):U Y:=(pre (.ex e)).flatMap nm1
def Zry(e:Zi):nmE e=(bif e.op==2 then [e.text] else [])++e.kids.flatMap nmE:=by
 unfold nmE;rw[pre_eq,K2];show nm1 (.ex e)++_=nm1 (.ex e)++_;congr 1;show((e.kids.map Part.ex).flatMap pre).flatMap nm1=_;rw[List.flatMap_assoc,List.flatMap_map]
def puts(B:U Y)(l:U Y)(out:U Y):U Y:=l.foldl (fun o s=>Zdn o B s) out
def ZeL(o B:U Y)(s:Y):(Zdn o B s).length<=o.length+1:=by
 unfold Zdn;split
 ·omega
 ·rw[ZxJ];omega
def ZiI(B:U Y):∀(l o:U Y),(puts B l o).length<=o.length+l.length
 | [],o=>by simp[puts]
 | s::l,o=>by
   have:=ZiI B l (Zdn o B s);have:=ZeL o B s;show(puts B l (Zdn o B s)).length<=_;simp only[Kf];omega
def Zhr(B a b o:U Y):puts B (a++b) o=puts B b (puts B a o):=GB
def ZmY(e:Zi):(nmE e).length<=(pre (.ex e)).length:=by
 unfold nmE;generalize pre (.ex e)=l
 induction l with
 | nil=>simp
 | cons p l ih=>
   rw[K2,K0,Kf]
   have:(nm1 p).length<=1:=by
    cases p with
    | ex e=>show(bif e.op==2 then [e.text] else []).length<=1;cases e.op==2<;>simp
    | _=>exact Gq _
   omega
def Zr9{F:Nat}(hF:10000000000000000000<=F)(B:U Y)(hB:B.length<=800000):∀n e (out:U Y),(pre (.ex e)).length<=n->n<=60->out.length+(nmE e).length<=20000->∀Fr,n<=Fr->loop Fr (ZjD F) (out,B,e)=some (puts B (nmE e) out):=by
 intro n
 induction n with
 | zero=>intro e out hn;have:=Xi (.ex e);omega
 | succ n ih=>
   intro e out hn h60 ho Fr hFr;obtain⟨G,rfl⟩:∃G,Fr=G+1:=⟨Fr-1,by omega⟩
   rw[Z5];have hih:∀x∈e.kids,∀o:U Y,o.length+(nmE x).length<=20000->loop G (ZjD F) (o,B,x)=some (puts B (nmE x) o):=fun x hx o ho=>ih x o (by have:=Yr (XM hx);omega) GZ ho G GZ
   have hkl:e.kids.length<(pre (.ex e)).length:=by have:=Zb1 (.ex e);simpa[Yq]using this
   generalize loop G (ZjD F)=n1 at hih
   have hj:∀o:U Y,o.length+(e.kids.flatMap nmE).length<=20000->ZgC F B e n1 o=some (puts B (e.kids.flatMap nmE) o):=fun o ho=>by
    unfold ZgC;refine ZR (body:=ZjE B e n1) (fun(k:Nat)(o:U Y)=>(o,(k:Int))) e.kids (fun rest o=>o.length+(rest.flatMap nmE).length<=20000) (fun rest o=>some (puts B (rest.flatMap nmE) o)) (F:=F) ?_ ?_ GZ o ho
    ·intro o nx _;simp only[ZjE,Zy,Cq0];rfl
    ·intro k x rest o nx hx hk hg hp ihl;rw[K2,K0]at hp;simp only[ZjE,ZQ hk,Cq1,hg,Bq0,hih x hx o GZ];rw[X7 GZ,K2,Zhr];exact ihl _ (by have:=ZiI B (nmE x) o;omega)
   rw[Zry,Zhr];rw[Zry,K0]at ho;unfold ZjD;dsimp only;cases h2:e.op==2<;>rw[h2]at ho
   ·exact hj out GZ
   ·simp only[Cq1,List.length_singleton]at ho ⊢;rw[put_eq hF out B e.text GZ hB,Bq0];exact hj _ (by have:=ZeL out B e.text;omega)
def ZM(js:U Yl):U Y:=js.flatMap (·.names)
def bnd(t:Term)(B:U Y):U Y:=bif t.op==4 then B++((QI t.defs).1++(QI t.defs).2) else B
abbrev Evt:=Y×U Y
def QD(p:Part)(B:U Y):U Evt:=
 match p with
 | .ex e=>(nmE e).map fun s=>(s,B)
 | .pr t=>(if t.text=E0 then [] else [(t.text,B)])++((t.args.flatMap nmE).map fun s=>(s,B))++(t.defs.attach.flatMap (fun c=>QD (.cl c.1) (bnd t B))++t.kids.attach.flatMap (fun k=>QD (.pr k.1) (bnd t B)))
 | .cl c=>c.defs.attach.flatMap (fun d=>QD (.cl d.1) B)++c.kids.attach.flatMap (fun k=>QD (.pr k.1) (B++ZM c.joins))
termination_by pz p
decreasing_by
 ·exact Zb2 (Y5 c.2)
 ·exact Zb2 (XC k.2)
 ·exact Zb2 (YN d.2)
 ·exact Zb2 (XU k.2)
def ZnC(t:Term)(B:U Y):QD (.pr t) B=(if t.text=E0 then [] else [(t.text,B)])++((t.args.flatMap nmE).map fun s=>(s,B))++(t.defs.flatMap (fun c=>QD (.cl c) (bnd t B))++t.kids.flatMap (fun k=>QD (.pr k) (bnd t B))):=by
 rw[QD,Uw t.defs fun c=>QD (.cl c) (bnd t B),Uw t.kids fun k=>QD (.pr k) (bnd t B)]
def Zj8(c:Za)(B:U Y):QD (.cl c) B=c.defs.flatMap (fun d=>QD (.cl d) B)++c.kids.flatMap (fun k=>QD (.pr k) (B++ZM c.joins)):=by
 rw[QD,Uw c.defs fun d=>QD (.cl d) B,Uw c.kids fun k=>QD (.pr k) (B++ZM c.joins)]
def Qf(l:U Evt)(out:U Y):U Y:=l.foldl (fun o e=>Zdn o e.2 e.1) out
def UD(a b:U Evt)(o:U Y):Qf (a++b) o=Qf b (Qf a o):=GB
def ZuZ(B:U Y)(l:U Y)(o:U Y):Qf (l.map fun s=>(s,B)) o=puts B l o:=by
 unfold Qf puts;rw[List.foldl_map]
def Zal:∀(l:U Evt)(o:U Y),(Qf l o).length<=o.length+l.length
 | [],o=>by simp[Qf]
 | e::l,o=>by
   have:=Zal l (Zdn o e.2 e.1);have:=ZeL o e.2 e.1;show(Qf l (Zdn o e.2 e.1)).length<=_;simp only[Kf];omega
def Zxy{o B:U Y}{s x:Y}:x∈Zdn o B s↔x∈o\/(x=s/\s∉B):=by
 unfold Zdn;by_cases h:s∈B\/s∈o
 ·rw[if_pos h]
  constructor
  ·exact .inl
  ·rintro(h1|⟨rfl,h1⟩)
   ·exact h1
   ·rcases h with h|h
    ·exact absurd h h1
    ·exact h
 ·rw[if_neg h,Zi1];have h1:s∉B:=fun z=>h (.inl z)
  constructor
  ·rintro(h2|h2)
   ·exact .inr ⟨h2,h1⟩
   ·exact .inl h2
  ·rintro(h2|⟨h2,_⟩)
   ·exact .inr h2
   ·exact .inl h2
def ZlQ:∀(l:U Evt)(o:U Y)(x:Y),x∈Qf l o↔x∈o\/∃e∈l,x=e.1/\e.1∉e.2
 | [],o,x=>by simp[Qf]
 | e::l,o,x=>by
   show x∈Qf l (Zdn o e.2 e.1)↔_;rw[ZlQ l,Zxy]
   constructor
   ·rintro((h|h) | ⟨e',he,h⟩)
    ·exact .inl h
    ·exact .inr ⟨e,by simp,h⟩
    ·exact .inr ⟨e',by simp[he],h⟩
   ·rintro(h|⟨e',he,h⟩)
    ·exact .inl (.inl h)
    ·rcases Ks.1 he with rfl|he
     ·exact .inl (.inr h)
     ·exact .inr ⟨e',he,h⟩
def ZfL{l:U Za}(hl:OkS (E0,l))(hs:∀sp∈l.flatMap Xc,OkS sp)(hn:(l.flatMap Xc).length<=60):(QI l).1.length<=10980/\(QI l).2.length<=60:=by
 have hok:∀sp∈(E0,l)::l.flatMap Xc,OkS sp:=fun sp hsp=>by
  rcases Ks.1 hsp with rfl|h
  ·exact hl
  ·exact hs sp h
 have h:=Zgy _ ⟨([],[]),[],0⟩ hok;rw[Zno]at h;simp only[Kf,List.length_nil]at h;refine⟨?_,by unfold QI Y9;rw[Ge];exact hn⟩;exact Kx h.1 GZ
def ZAq{F:Nat}(hF:10000000000000000000<=F)(l:U Za)(hl:OkS (E0,l))(hs:∀sp∈l.flatMap Xc,OkS sp)(hn:(l.flatMap Xc).length<=60):Zvw F l=some ((QI l).1++(QI l).2):=by
 obtain⟨s,b,e1,e2⟩:=Zui hF l hl hs hn;obtain⟨n1,n2⟩:=ZfL hl hs hn;have q1:s.channels=(QI l).1:=by rw[<-e2]
 have q2:s.places=(QI l).2:=by rw[<-e2]
 unfold Zvw;rw[e1];simp only[Bq0,q1,q2];have a1:app 16 ([]:U Y) (QI l).1=some ([]++(QI l).1):=QK (by simp;omega) GZ;have a2:app 16 (QI l).1 (QI l).2=some ((QI l).1++(QI l).2):=QK GZ GZ;rw[a1,Bq0,G5,a2];rfl
def Zvh{F:Nat}(hF:10000000000000000000<=F)(js:U Yl)(h3:js.length<=3)(hn:∀m∈js,m.names.length<=3):Zp4 F js=some (ZM js):=by
 have:=ZR (body:=Zc2 js) (fun(k:Nat)(s:U Y)=>(s,(k:Int))) js (fun rest s=>s.length+3*rest.length<=100) (fun rest s=>some (s++ZM rest)) (F:=F) ?_ ?_ GZ [] (by simp;omega)
 ·show loop F (Zc2 js) ([],0)=_
  simpa using this
 ·intro s nx _;simp only[Zc2,Zy,Cq0];simp[ZM]
 ·intro k m rest s nx hm hk hg hp ih;simp only[Kf]at hp;have h:=hn m hm;simp only[Zc2,ZQ hk,Cq1,hg,Bq0];have a1:app 16 s m.names=some (s++m.names):=QK GZ GZ;rw[a1,Bq0,X7 GZ,ih _ (by rw[K0];omega)];unfold ZM;rw[K2,G6]
def ZfH(p:Part):∀B,(QD p B).length<=(pre p).length:=by
 induction p using Zao with
 | h p ih=>
   intro B
   have hfl:∀{α:Type}(l:U α)(c:α->Part)(B:U Y),(∀x∈l,c x∈Yq p)->(l.flatMap fun x=>QD (c x) B).length<=((l.map c).flatMap pre).length:=by
    intro α l c B
    induction l with
    | nil=>intro _;simp
    | cons x l ihl=>
      intro h;have a:=ih (c x) (h x (by simp)) B;have b:=ihl fun y hy=>h y (KB _ hy)
      simp only[K2,Gc,K0];omega
   cases p with
   | ex e=>rw[QD,Ge];exact ZmY e
   | pr t=>
     rw[ZnC,Xz];have h1:=hfl t.defs .cl (bnd t B) fun x hx=>Y5 hx
     have h2:=hfl t.kids .pr (bnd t B) fun x hx=>XC hx
     have h3:(t.args.flatMap nmE).length<=((t.args.map Part.ex).flatMap pre).length:=by
      generalize t.args=l
      induction l with
      | nil=>simp
      | cons x l ihl=>have:=ZmY x;simp only[K2,Gc,K0];omega
     show _<=((t.args.map Part.ex++t.defs.map Part.cl++t.kids.map Part.pr).flatMap pre).length+1;rw[Q4,Q4];have h4:(if t.text=E0 then([]:U Evt) else [(t.text,B)]).length<=1:=by split<;>simp
     simp only[K0,Ge];omega
   | cl c=>
     rw[Zj8,Xz];have h1:=hfl c.defs .cl B fun x hx=>YN hx
     have h2:=hfl c.kids .pr (B++ZM c.joins) fun x hx=>XU hx
     show _<=((c.defs.map Part.cl++c.kids.map Part.pr).flatMap pre).length+1;rw[Q4];simp only[K0];omega
def Zo4:∀(js:U Yl)(ht hn:Y->Z),jW ht hn js=true->∀m∈js,m.names.length<=3
 | [],_,_,_,m,h=>by cases h
 | j::js,ht,hn,hw,m,h=>by
   unfold jW at hw;simp only[Ba0,decide_eq_true_eq]at hw;rcases Ks.1 h with rfl|h
   ·exact hw.1.2
   ·exact Zo4 js _ _ hw.2.2 m h
def ZaL{c:Za}(h:WV c=true):c.joins.length<=3/\(∀m∈c.joins,m.names.length<=3)/\∃k,c.kids=[k]:=by
 have ok:=ZdT h;unfold WV at h;rw[Ba0,beq_iff_eq]at h;refine⟨ok.1,?_,?_⟩
 ·rcases ok.2 with h1|⟨_,h2⟩
  ·have:(c.form==2)=false:=by rw[h1];rfl
   rw[this]at h;simp only[Cq0,Ba0]at h;exact Zo4 _ _ _ h.2.2
  ·rw[h2];intro m hm;cases hm
 ·match hk:c.kids,h.1 with
  | [k],_=>exact⟨k,rfl⟩
def OkB(B:U Y)(n:Nat):Prop:=B.length+12000*n<=750000
def RTx(next:U Y×U Y×Term->O (U Y))(t:Term):Prop:=∀o B,o.length+(pre (.pr t)).length<=20000->OkB B (pre (.pr t)).length->next (o,B,t)=some (Qf (QD (.pr t) B) o)
def RC(F n:Nat):Prop:=∀(c:Za) next,(pre (.cl c)).all Wn=true->(pre (.cl c)).length<=n->(∀t,Part.pr t∈pre (.cl c)->RTx next t)->∀Fr,n<=Fr->∀o B,o.length+(pre (.cl c)).length<=20000->OkB B (pre (.cl c)).length->loop Fr (Zee F next) (o,B,c)=some (Qf (QD (.cl c) B) o)
def ZD9{F n:Nat}(hF:10000000000000000000<=F)(h60:n<=60)(ih:RC F n):RC F (n+1):=by
 intro c next hs hn hnext Fr hFr o B ho hB;obtain⟨G,rfl⟩:∃G,Fr=G+1:=⟨Fr-1,by omega⟩
 rw[Z5];obtain⟨hj,hjn,k,hk1⟩:=ZaL (Kd.1 hs _ (Yo _))
 have e:(pre (.cl c)).length=((c.defs.map Part.cl).flatMap pre).length+(pre (.pr k)).length+1:=by
  rw[Xz];show((c.defs.map Part.cl++c.kids.map Part.pr).flatMap pre).length+1=_;rw[hk1,Q4,K0];simp
 unfold OkB at hB
 have hih:∀x∈c.defs,∀o:U Y,o.length+(pre (.cl x)).length<=20000->loop G (Zee F next) (o,B,x)=some (Qf (QD (.cl x) B) o):=fun x hx o ho=>
  ih x next (by rw[Kd]at hs ⊢;exact fun y hy=>hs y (Z4 (YN hx) hy)) (by have:=Yr (YN hx);omega) (fun t ht=>hnext t (Z4 (YN hx) ht)) G GZ o B ho (by have:=Yr (YN hx);unfold OkB;omega)
 generalize loop G (Zee F next)=n1 at hih;have hcl:=KZ c.defs;have hkm:Part.pr k∈pre (.cl c):=Z4 (XU (by rw[hk1];simp)) (Yo _)
 have hfin:∀o:U Y,o.length+(pre (.pr k)).length<=20000->((Zp4 F c.joins).bind fun x31=>(Zla B x31).bind fun x37=>(Yf c.kids 0).bind fun x43=>(next (o,x37,x43)).bind fun x52=>some x52)=some (Qf (QD (.pr k) (B++ZM c.joins)) o):=fun o ho=>by
  have hjl:(ZM c.joins).length<=9:=by
   have:∀js:U Yl,(∀m∈js,m.names.length<=3)->(ZM js).length<=3*js.length:=by
    intro js
    induction js with
    | nil=>intro _;simp[ZM]
    | cons m js ihj=>
      intro h;have a:=h m (by simp);have b:=ihj fun x hx=>h x (KB _ hx)
      unfold ZM at b ⊢;rw[K2,K0,Kf];omega
   have:=this c.joins hjn;omega
  have a1:Zla B (ZM c.joins)=some (B++ZM c.joins):=by
   unfold Zla;have a1:app 16 ([]:U Y) B=some ([]++B):=QK (by simp;omega) GZ;have a2:app 16 B (ZM c.joins)=some (B++ZM c.joins):=QK GZ GZ;rw[a1,Bq0,G5,a2];rfl
  have g0:Yf c.kids 0=some k:=by rw[hk1];rfl
  rw[Zvh hF c.joins hj hjn,Bq0,a1,Bq0,g0,Bq0,hnext k hkm o _ ho (by unfold OkB;rw[K0];omega)];rfl
 unfold Zee;dsimp only;have:=ZR (body:=Zfh F B c next n1) (fun(i:Nat)(o:U Y)=>(o,(i:Int))) c.defs (fun rest o=>o.length+((rest.map Part.cl).flatMap pre).length+(pre (.pr k)).length<=20000) (fun rest o=>some (Qf (rest.flatMap (fun d=>QD (.cl d) B)++QD (.pr k) (B++ZM c.joins)) o)) (F:=F) ?_ ?_ GZ o GZ
 ·refine this.trans ?_;rw[Zj8,hk1];simp
 ·intro o nx hp;simp only[Zfh,Zy,Cq0];exact hfin o (by simpa using hp)
 ·intro i x rest o nx hx hi hg hp ihl;rw[Gc,K2,K0]at hp;simp only[Zfh,ZQ hi,Cq1,hg,Bq0,hih x hx o GZ];rw[X7 GZ,K2,G6,UD];exact ihl _ (by have:=Zal (QD (.cl x) B) o;have:=ZfH (.cl x) B;omega)
def RT(F n:Nat):Prop:=∀t,(pre (.pr t)).all Wn=true->(pre (.pr t)).length<=n->∀Fr,n<=Fr->RTx (loop Fr (Zeh F)) t
def ZJH{F:Nat}(hF:10000000000000000000<=F):∀n,n<=60->RC F n:=by
 intro n
 induction n with
 | zero=>intro _ c next _ hn;have:=Xi (.cl c);omega
 | succ n ih=>intro h;exact ZD9 hF GZ (ih GZ)
def ZD8{F n:Nat}(hF:10000000000000000000<=F)(h60:n+1<=60)(ih:RT F n):RT F (n+1):=by
 intro t hs hn Fr hFr o B ho hB;obtain⟨G,rfl⟩:∃G,Fr=G+1:=⟨Fr-1,by omega⟩
 rw[Z5]
 have e:(pre (.pr t)).length=((t.args.map Part.ex).flatMap pre).length+(((t.defs.map Part.cl).flatMap pre).length+((t.kids.map Part.pr).flatMap pre).length)+1:=by
  rw[Xz];show((t.args.map Part.ex++t.defs.map Part.cl++t.kids.map Part.pr).flatMap pre).length+1=_;rw[Q4,Q4,K0,K0];omega
 have hall:∀{x},x∈pre (.pr t)->(pre x).all Wn=true:=fun hx=>by
  rw[Kd]at hs ⊢;exact fun y hy=>hs y (Jc hy hx)
 have hnext:∀x,Part.pr x∈pre (.pr t)->(pre (.pr x)).length<=n->RTx (loop G (Zeh F)) x:=fun x hx hl=>ih x (hall hx) hl G GZ
 generalize loop G (Zeh F)=n1 at hnext;have hal:t.args.length<=((t.args.map Part.ex).flatMap pre).length:=by have:=Uu (t.args.map Part.ex);simpa using this
 have hdl:=KZ t.defs;have hkl:t.kids.length<=((t.kids.map Part.pr).flatMap pre).length:=by have:=Uu (t.kids.map Part.pr);simpa using this
 unfold OkB at hB
 have hk:∀B',B'.length+12000*((pre (.pr t)).length-1)<=750000->∀o:U Y,o.length+((t.kids.map Part.pr).flatMap pre).length<=20000->loop F (Zc6 t n1 B') (o,0)=some (Qf (t.kids.flatMap fun k=>QD (.pr k) B') o):=fun B' hB' o ho=>by
  refine ZR (body:=Zc6 t n1 B') (fun(i:Nat)(o:U Y)=>(o,(i:Int))) t.kids (fun rest o=>o.length+((rest.map Part.pr).flatMap pre).length<=20000) (fun rest o=>some (Qf (rest.flatMap fun k=>QD (.pr k) B') o)) (F:=F) ?_ ?_ GZ o ho
  ·intro o nx _;simp only[Zc6,Zy,Cq0];rfl
  ·intro i x rest o nx hx hi hg hp ihl;rw[Gc,K2,K0]at hp;have hkx:=Yr (XC hx);simp only[Zc6,ZQ hi,Cq1,hg,Bq0,hnext x (Z4 (XC hx) (Yo _)) GZ o B' GZ (by unfold OkB;omega)];rw[X7 GZ,K2,UD];exact ihl _ (by have:=Zal (QD (.pr x) B') o;have:=ZfH (.pr x) B';omega)
 have hd:∀B',B'.length+12000*((pre (.pr t)).length-1)<=750000->∀o:U Y,o.length+((t.defs.map Part.cl).flatMap pre).length+((t.kids.map Part.pr).flatMap pre).length<=20000->KV F t n1 o B'=some (Qf (t.defs.flatMap (fun c=>QD (.cl c) B')++t.kids.flatMap fun k=>QD (.pr k) B') o):=fun B' hB' o ho=>by
  unfold KV;refine ZR (body:=Zfu F t n1 B') (fun(i:Nat)(o:U Y)=>(o,(i:Int))) t.defs (fun rest o=>o.length+((rest.map Part.cl).flatMap pre).length+((t.kids.map Part.pr).flatMap pre).length<=20000) (fun rest o=>some (Qf (rest.flatMap (fun c=>QD (.cl c) B')++t.kids.flatMap fun k=>QD (.pr k) B') o)) (F:=F) ?_ ?_ GZ o ho
  ·intro o nx hp;simp only[Zfu,Zy,Cq0]
   simpa using hk B' hB' o (by simpa using hp)
  ·intro i x rest o nx hx hi hg hp ihl;rw[Gc,K2,K0]at hp;have hkx:=Yr (Y5 hx);have hc:ZzV F n1 o B' x=some (Qf (QD (.cl x) B') o):=ZJH hF n GZ x n1 (hall (Z4 (Y5 hx) (Yo _))) GZ (fun y hy=>hnext y (Z4 (Y5 hx) hy) (by have:=Jz hy;omega)) F GZ o B' GZ (by unfold OkB;omega);simp only[Zfu,ZQ hi,Cq1,hg,Bq0,hc];rw[X7 GZ,K2,G6,UD];exact ihl _ (by have:=Zal (QD (.cl x) B') o;have:=ZfH (.cl x) B';omega)
 have hmid:∀o:U Y,o.length+((t.defs.map Part.cl).flatMap pre).length+((t.kids.map Part.pr).flatMap pre).length<=20000->(bif(t.op==4) then(Zvw F t.defs).bind fun x98=>(Zla B x98).bind fun x104=>(KV F t n1 o) x104 else(KV F t n1 o) B)=some (Qf (t.defs.flatMap (fun c=>QD (.cl c) (bnd t B))++t.kids.flatMap fun k=>QD (.pr k) (bnd t B)) o):=fun o ho=>by
  unfold bnd;cases h4:t.op==4
  ·simp only[Cq0];exact hd B GZ o ho
  ·simp only[Cq1];obtain⟨a,b,c⟩:=ZcP GZ hs (Yo (.pr t));obtain⟨n1',n2'⟩:=ZfL a b c;have hlen:((QI t.defs).1++(QI t.defs).2).length<=11040:=by rw[K0];omega
   rw[ZAq hF t.defs a b c,Bq0]
   have a1:Zla B ((QI t.defs).1++(QI t.defs).2)=some (B++((QI t.defs).1++(QI t.defs).2)):=by
    unfold Zla;have a1:app 16 ([]:U Y) B=some ([]++B):=QK (by simp;omega) GZ;have a2:app 16 B ((QI t.defs).1++(QI t.defs).2)=some (B++((QI t.defs).1++(QI t.defs).2)):=QK GZ GZ;rw[a1,Bq0,G5,a2];rfl
   rw[a1,Bq0];exact hd _ (by rw[K0];omega) o ho
 have ha:∀o:U Y,o.length+((t.args.map Part.ex).flatMap pre).length+((t.defs.map Part.cl).flatMap pre).length+((t.kids.map Part.pr).flatMap pre).length<=20000->Zc5 F B t n1 o=some (Qf (((t.args.flatMap nmE).map fun s=>(s,B))++(t.defs.flatMap (fun c=>QD (.cl c) (bnd t B))++t.kids.flatMap fun k=>QD (.pr k) (bnd t B))) o):=fun o ho=>by
  unfold Zc5;refine ZR (body:=Zfv F B t n1) (fun(i:Nat)(o:U Y)=>(o,(i:Int))) t.args (fun rest o=>o.length+((rest.map Part.ex).flatMap pre).length+((t.defs.map Part.cl).flatMap pre).length+((t.kids.map Part.pr).flatMap pre).length<=20000) (fun rest o=>some (Qf (((rest.flatMap nmE).map fun s=>(s,B))++(t.defs.flatMap (fun c=>QD (.cl c) (bnd t B))++t.kids.flatMap fun k=>QD (.pr k) (bnd t B))) o)) (F:=F) ?_ ?_ GZ o ho
  ·intro o nx hp;simp only[Zfv,Zy,Cq0]
   simpa using hmid o (by simpa using hp)
  ·intro i x rest o nx hx hi hg hp ihl;rw[Gc,K2,K0]at hp;have hnx:=ZmY x;have hkx:=Yr (JF hx);have hc:ZIl F o B x=some (puts B (nmE x) o):=Zr9 hF B GZ n x o GZ GZ GZ F GZ;simp only[Zfv,ZQ hi,Cq1,hg,Bq0,hc];rw[X7 GZ,K2,List.map_append,G6,UD,ZuZ];exact ihl _ (by have:=ZiI B (nmE x) o;omega)
 rw[ZnC,G6,UD];unfold Zeh;dsimp only;by_cases ht:t.text=E0
 ·have:decide (t.text=(⟨#[]⟩:Y))=true:=decide_eq_true ht;rw[this,if_pos ht];exact ha o GZ
 ·have:decide (t.text=(⟨#[]⟩:Y))=false:=decide_eq_false ht;rw[this,if_neg ht];simp only[Gf,Cq1];rw[put_eq hF o B t.text GZ GZ,Bq0];exact ha _ (by have:=ZeL o B t.text;omega)
def ZJG{F:Nat}(hF:10000000000000000000<=F):∀n,n<=60->RT F n:=by
 intro n
 induction n with
 | zero=>intro _ t _ hn;have:=Xi (.pr t);omega
 | succ n ih=>intro h;exact ZD8 hF h (ih GZ)
def Zze{F:Nat}(hF:10000000000000000000<=F)(t:Term)(hs:(pre (.pr t)).all Wn=true)(hn:(pre (.pr t)).length<=60):Zvu F t=some (Qf (QD (.pr t) []) []):=by
 unfold Zvu;have h:=ZJG hF 60 V0 t hs hn F GZ [] [] (by simp;omega) (by unfold OkB;simp;omega);have e:ZzZ F [] [] t=_:=h;rw[e];rfl
def nam(x:Y):Zi:=⟨2,0,x,[]⟩
def note(fr:MB)(B:U Y)(x:Y):MB:=if x∈B then fr else Xx fr x true
def bindM(l:U Y)(m:NM):NM:=l.foldl (fun m x=>Xx m x (nam x)) m
def Zg1:∀(l:U Y)(m:NM)(x:Y),ZT (bindM l m) x=if x∈l then some (nam x) else ZT m x
 | [],m,x=>by simp[bindM]
 | y::l,m,x=>by
   show ZT (bindM l (Xx m y (nam y))) x=_;rw[Zg1 l,ZcT];by_cases h1:x∈l
   ·simp[h1]
   ·by_cases h2:x=y
    ·subst h2;simp[h1]
    ·simp[h1,h2]
def bind_eq{F:Nat}(hF:10000000000000000000<=F)(l:U Y)(hl:l.length<=100000):ZjZ F l=some (bindM l []):=by
 unfold ZjZ;refine ZR (body:=ZjY l l) (fun(k:Nat)(m:NM)=>((k:Int),m)) l (fun _ _=>True) (fun rest m=>some (bindM rest m)) (F:=F) ?_ ?_ GZ [] trivial
 ·intro m nx _;simp only[ZjY,Zy,Cq0];rfl
 ·intro k x rest m nx hx hk hg _ ih;simp only[ZjY,ZQ hk,Cq1,hg,Bq0,Zt0];rw[X7 GZ];exact ih _ trivial
def notes(B:U Y)(l:U Y)(fr:MB):MB:=l.foldl (fun fr x=>note fr B x) fr
def ZeS(B a b:U Y)(fr:MB):notes B (a++b) fr=notes B b (notes B a fr):=GB
def ZtA:∀(l:U Y)(s:CH),(∀x,has s.2 x=decide (x∈s.1))->∀x,x∈(l.foldl dj s).1↔x∈s.1\/x∈l
 | [],s,_,x=>by simp
 | y::l,s,h,x=>by
   rw[Gh]
   have hs:∀z,has (dj s y).2 z=decide (z∈(dj s y).1):=fun z=>by
    unfold dj;cases hz:has s.2 y
    ·simp only[Cq0];rw[Zax];show(has s.2 z||decide (z=y))=decide (z∈s.1++[y]);rw[h z];by_cases h1:z∈s.1<;>by_cases h2:z=y<;>simp[h1,h2]
    ·exact h z
   rw[ZtA l _ hs x];have hy:has s.2 y=decide (y∈s.1):=h y
   have e:x∈(dj s y).1↔x∈s.1\/x=y:=by
    unfold dj;by_cases hm:y∈s.1
    ·rw[hy,decide_eq_true hm];exact⟨.inl,fun z=>z.elim id fun e=>e▸hm⟩
    ·rw[hy,decide_eq_false hm];simp
   rw[e];simp only[Ks]
   constructor
   ·rintro((h1|h1) | h1)<;>simp[h1]
   ·rintro(h1|h1|h1)<;>simp[h1]
def ZwB{l:U Za}{sp:Spt}(h:sp∈(E0,l)::l.flatMap Xc){c:Za}(hc:c∈sp.2){m:Yl}(hm:m∈c.joins):m.text∈(QI l).1:=by
 unfold QI;rw[ZtA _ ([],[]) (fun x=>rfl)];exact .inr (QP.2 ⟨sp,h,Gs.2 ⟨m,QP.2 ⟨c,hc,hm⟩,rfl⟩⟩)
def Zu1{l:U Za}{sp:Spt}(h:sp∈l.flatMap Xc):sp.1∈(QI l).2:=Gi (f:=(·.1)) h
def ext(env:NM)(l to:U Y):NM:=((l.zip to).map fun p=>(p.1,nam p.2)).reverse++env
def tx1(env:NM)(x:Y):Y:=match ZT env x with
 | some e=>e.text
 | none=>x
def tx0(env:NM)(x:Y):Y:=if x=E0 then E0 else tx1 env x
mutual
def exW (env:NM):Zi->Zi
 | .mk op n tx ks=>bif op==2 then(ZT env tx).getD (.mk op n tx ks) else .mk op n tx (ZDx env ks)
def ZDx (env:NM):U Zi->U Zi
 | []=>[]
 | k::l=>exW env k::ZDx env l
end
def Zz5(env:NM)(l:U Zi):ZDx env l=l.map (exW env):=by
 induction l with
 | nil=>rfl
 | cons k l ih=>rw[ZDx,ih];rfl
def Zz6(env:NM)(e:Zi):exW env e=bif e.op==2 then(ZT env e.text).getD e else .mk e.op e.n e.text (e.kids.map (exW env)):=by
 cases e;rw[exW,Zz5]
abbrev BF(σ:Type):=σ->NM->U Y->Part->σ×U Y
def U8(l:U Za):U Y:=(QI l).1++(QI l).2
def ZoT(env en:NM)(m:Yl):Yl:=⟨tx1 env m.text,m.names.map (tx1 en)⟩
section
variable{σ:Type}
mutual
def Wt (bd:BF σ) (s:σ) (env:NM):Term->σ×Term
 | .mk op tx ar ds ks=>bif op==4 then
     ((Wts bd (Wcs bd (bd s env (U8 ds) (.pr (.mk op tx ar ds ks))).1 (ext env (U8 ds) (bd s env (U8 ds) (.pr (.mk op tx ar ds ks))).2) ds).1 (ext env (U8 ds) (bd s env (U8 ds) (.pr (.mk op tx ar ds ks))).2) ks).1,
      .mk op (tx0 env tx) (ar.map (exW env)) (Wcs bd (bd s env (U8 ds) (.pr (.mk op tx ar ds ks))).1 (ext env (U8 ds) (bd s env (U8 ds) (.pr (.mk op tx ar ds ks))).2) ds).2
       (Wts bd (Wcs bd (bd s env (U8 ds) (.pr (.mk op tx ar ds ks))).1 (ext env (U8 ds) (bd s env (U8 ds) (.pr (.mk op tx ar ds ks))).2) ds).1 (ext env (U8 ds) (bd s env (U8 ds) (.pr (.mk op tx ar ds ks))).2) ks).2)
   else((Wts bd s env ks).1,.mk op (tx0 env tx) (ar.map (exW env)) [] (Wts bd s env ks).2)
def Wts (bd:BF σ) (s:σ) (env:NM):U Term->σ×U Term
 | []=>(s,[])
 | t::l=>((Wts bd (Wt bd s env t).1 env l).1,(Wt bd s env t).2::(Wts bd (Wt bd s env t).1 env l).2)
def Wc (bd:BF σ) (s:σ) (env:NM):Za->σ×Za
 | .mk f tx js ds ks=>bif f==2 then
     ((Wts bd (Wcs bd s env ds).1 env ks).1,.mk f (tx1 env tx) [] (Wcs bd s env ds).2 (Wts bd (Wcs bd s env ds).1 env ks).2)
   else
    ((Wts bd (bd s env (ZM js) (.cl (.mk f tx js ds ks))).1 (ext env (ZM js) (bd s env (ZM js) (.cl (.mk f tx js ds ks))).2) ks).1,
     .mk f E0 (js.map (ZoT env (ext env (ZM js) (bd s env (ZM js) (.cl (.mk f tx js ds ks))).2))) []
      (Wts bd (bd s env (ZM js) (.cl (.mk f tx js ds ks))).1 (ext env (ZM js) (bd s env (ZM js) (.cl (.mk f tx js ds ks))).2) ks).2)
def Wcs (bd:BF σ) (s:σ) (env:NM):U Za->σ×U Za
 | []=>(s,[])
 | c::l=>((Wcs bd (Wc bd s env c).1 env l).1,(Wc bd s env c).2::(Wcs bd (Wc bd s env c).1 env l).2)
end
def inT(bd:BF σ)(s:σ)(env:NM)(t:Term):σ×NM:=bif t.op==4 then((bd s env (U8 t.defs) (.pr t)).1,ext env (U8 t.defs) (bd s env (U8 t.defs) (.pr t)).2) else(s,env)
def inC(bd:BF σ)(s:σ)(env:NM)(c:Za):σ×NM:=bif c.form==2 then(s,env) else((bd s env (ZM c.joins) (.cl c)).1,ext env (ZM c.joins) (bd s env (ZM c.joins) (.cl c)).2)
theorem ZA2{bd:BF σ}{s:σ}{env:NM}{t:Term}(h:t.op=4):Wt bd s env t=((Wts bd (Wcs bd (inT bd s env t).1 (inT bd s env t).2 t.defs).1 (inT bd s env t).2 t.kids).1,.mk t.op (tx0 env t.text) (t.args.map (exW env)) (Wcs bd (inT bd s env t).1 (inT bd s env t).2 t.defs).2 (Wts bd (Wcs bd (inT bd s env t).1 (inT bd s env t).2 t.defs).1 (inT bd s env t).2 t.kids).2):=by
 cases t;simp only at h;subst h;rw[Wt];rfl
theorem Zuw{bd:BF σ}{s:σ}{env:NM}{t:Term}(h:t.op≠4):Wt bd s env t=((Wts bd s env t.kids).1,.mk t.op (tx0 env t.text) (t.args.map (exW env)) [] (Wts bd s env t.kids).2):=by
 cases t with|mk op tx ar ds ks=>
 simp only at h;have:(op==4)=false:=by simpa using h
 rw[Wt,this];rfl
theorem ZqU{bd:BF σ}{s:σ}{env:NM}{c:Za}(h:c.form=2):Wc bd s env c=((Wts bd (Wcs bd s env c.defs).1 env c.kids).1,.mk c.form (tx1 env c.text) [] (Wcs bd s env c.defs).2 (Wts bd (Wcs bd s env c.defs).1 env c.kids).2):=by
 cases c;simp only at h;subst h;rw[Wc];rfl
theorem Zux{bd:BF σ}{s:σ}{env:NM}{c:Za}(h:c.form≠2):Wc bd s env c=((Wts bd (inC bd s env c).1 (inC bd s env c).2 c.kids).1,.mk c.form E0 (c.joins.map (ZoT env (inC bd s env c).2)) [] (Wts bd (inC bd s env c).1 (inC bd s env c).2 c.kids).2):=by
 cases c with|mk f tx js ds ks=>
 simp only at h;have:(f==2)=false:=by simpa using h
 unfold inC;rw[Wc,this];simp only[this,Cq0]
theorem Zig(bd:BF σ)(s:σ)(env:NM):Wts bd s env []=(s,[]):=by rw[Wts]
theorem ZfZ(bd:BF σ)(s:σ)(env:NM)(t:Term)(l:U Term):Wts bd s env (t::l)=((Wts bd (Wt bd s env t).1 env l).1,(Wt bd s env t).2::(Wts bd (Wt bd s env t).1 env l).2):=by rw[Wts]
theorem Zn7(bd:BF σ)(s:σ)(env:NM):Wcs bd s env []=(s,[]):=by rw[Wcs]
theorem ZqT(bd:BF σ)(s:σ)(env:NM)(c:Za)(l:U Za):Wcs bd s env (c::l)=((Wcs bd (Wc bd s env c).1 env l).1,(Wc bd s env c).2::(Wcs bd (Wc bd s env c).1 env l).2):=by rw[Wcs]
end
def ZvG:U NM->Y->O Zi
 | [],_=>none
 | m::c,x=>match ZT m x with
   | some v=>some v
   | none=>ZvG c x
def find_eq(x:Y):∀(c:U NM)(F:Nat),c.length<F->ZhB F c x=some (match ZvG c x with|some v=>(v,true) | none=>(⟨0,0,E0,[]⟩,false)):=by
 intro c
 induction c with
 | nil=>
   intro F hF;obtain⟨G,rfl⟩:∃G,F=G+1:=⟨F-1,by omega⟩
   unfold ZhB;rw[Z5];simp[Zj2,ZvG]
 | cons m c ih=>
   intro F hF;obtain⟨G,rfl⟩:∃G,F=G+1:=⟨F-1,by omega⟩
   unfold ZhB;rw[Z5];show(bif(ZT m x).isSome then some ((ZT m x).getD ⟨0,0,⟨#[]⟩,[]⟩,true) else loop G (Zj2 x) c)=_;unfold ZvG;cases hg:ZT m x with
   | some v=>rfl
   | none=>
     have:=ih G (by simp only[Kf]at hF;omega);unfold ZhB at this;simp only[Option.isSome_none,Cq0];rw[this]
def Jk(bad:Y->Z)(l:U Y):Y->Z:=fun x=>bad x && !decide (x∈l)
mutual
def bT (bad:Y->Z):Term->Z
 | .mk op tx ar ds ks=>(!decide (tx=E0)&&bad tx)||bif op==4 then bCs (Jk bad (U8 ds)) ds||bTs (Jk bad (U8 ds)) ks else bTs bad ks
def bTs (bad:Y->Z):U Term->Z
 | []=>false
 | t::l=>bT bad t||bTs bad l
def bC (bad:Y->Z):Za->Z
 | .mk f tx js ds ks=>bif f==2 then bCs bad ds||bTs bad ks else bTs (Jk bad (ZM js)) ks
def bCs (bad:Y->Z):U Za->Z
 | []=>false
 | c::l=>bC bad c||bCs bad l
end
def ZFP(bad:Y->Z)(t:Term):bT bad t=((!decide (t.text=E0)&&bad t.text)||bif t.op==4 then bCs (Jk bad (U8 t.defs)) t.defs||bTs (Jk bad (U8 t.defs)) t.kids else bTs bad t.kids):=by cases t;rw[bT]
def ZAv(bad:Y->Z)(c:Za):bC bad c=bif c.form==2 then bCs bad c.defs||bTs bad c.kids else bTs (Jk bad (ZM c.joins)) c.kids:=by cases c;rw[bC]
def ZfQ(bad:Y->Z)(t:Term)(l:U Term):bTs bad (t::l)=(bT bad t||bTs bad l):=by rw[bTs]
def Zic(bad:Y->Z):bTs bad []=false:=by rw[bTs]
def ZqC(bad:Y->Z)(t:Za)(l:U Za):bCs bad (t::l)=(bC bad t||bCs bad l):=by rw[bCs]
def ZnW(bad:Y->Z):bCs bad []=false:=by rw[bCs]
structure CE(c:List NM)(env:NM)(B Bn:List ByteArray)(bad:ByteArray->Bool):Prop where
 get:∀x,ZvG c x=ZT env x
 sz:∀x e,ZT env x=some e->(pre (.ex e)).length<=60
 b:∀x,x∈B↔(ZT env x).isSome=true
 bd:∀x,bad x=true↔∃e,ZT env x=some e/\e.op≠2
 nb:∀x,x∈Bn->x∈B/\bad x=false
def Zoo{F:Nat}{B Bn:U Y}{bad:Y->Z}{env:NM}(x:Y)(fr:MB)(c:U NM)(hF:c.length<F)(h:CE c env B Bn bad):Zma F fr c x=some (bif bad x then .Yd 7 else .ok (note fr B x,tx1 env x)):=by
 unfold Zma note tx1;rw[find_eq x c F hF,Bq0,h.get x];have hb:=h.b x;have hd:=h.bd x;cases hg:ZT env x with
 | none=>
   rw[hg]at hb hd
   have hbad:bad x=false:=by
    cases e:bad x
    ·rfl
    ·obtain⟨_,z,_⟩:=hd.1 e;cases z
   rw[if_neg (by simpa using hb),hbad];rfl
 | some e=>
   rw[hg]at hb hd;rw[if_pos (hb.2 rfl)];by_cases h2:e.op=2
   ·have hbad:bad x=false:=by
     cases e':bad x
     ·rfl
     ·obtain⟨_,z,z2⟩:=hd.1 e';cases z;exact absurd h2 z2
    rw[hbad];simp[h2]
   ·have hbad:bad x=true:=hd.2 ⟨e,rfl,h2⟩;have:(e.op !=2)=true:=by simpa using h2
    rw[hbad];show(bif(e.op !=2) then some (PR.Yd 7) else some (PR.ok (fr,e.text)))=_;rw[this];rfl
def Zir{F:Nat}{B Bn:U Y}{bad:Y->Z}{env:NM}(x:Y)(fr:MB)(c:U NM)(hF:c.length<F)(h:CE c env B Bn bad)(hx:x∈Bn):Zj1 F fr c x=some (fr,tx1 env x):=by
 obtain⟨h1,h2⟩:=h.nb x hx;unfold Zj1;rw[Zoo x fr c hF h,h2];show some (id (note fr B x,tx1 env x))=_;unfold note;rw[if_pos h1];rfl
def ZnN{F:Nat}(hF:10000000000000000000<=F):∀n e,(pre (.ex e)).length<=n->n<=60->∀Fr,n<=Fr->loop Fr (Zec F) e=some e:=by
 intro n
 induction n with
 | zero=>intro e hn;have:=Xi (.ex e);omega
 | succ n ih=>
   intro e hn h60 Fr hFr;obtain⟨G,rfl⟩:∃G,Fr=G+1:=⟨Fr-1,by omega⟩
   rw[Z5];have hih:∀x∈e.kids,loop G (Zec F) x=some x:=fun x hx=>ih x (by have:=Yr (XM hx);omega) GZ G GZ
   have hkl:e.kids.length<(pre (.ex e)).length:=by have:=Zb1 (.ex e);simpa[Yq]using this
   generalize loop G (Zec F)=n1 at hih;unfold Zec;have:=ZR (body:=Zfe e n1) (fun(k:Nat)(acc:U Zi)=>((k:Int),acc)) e.kids (fun rest acc=>acc.length+rest.length<=1000) (fun rest acc=>some (Zi.mk e.op e.n e.text (acc++rest))) (F:=F) ?_ ?_ GZ [] (by simp;omega)
   ·refine this.trans ?_;rw[G5];cases e;rfl
   ·intro acc nx _;simp only[Zfe,Zy,Cq0,Gp]
   ·intro k x rest acc nx hx hk hg hp ihl;simp only[Kf]at hp;have a1:app 56 acc [x]=some (acc++[x]):=QK (by simp;omega) GZ;simp only[Zfe,ZQ hk,Cq1,hg,Bq0,hih x hx,a1];rw[X7 GZ,ihl _ (by simp;omega),G6];rfl
def ZNM{F:Nat}(hF:10000000000000000000<=F){B Bn:U Y}{bad:Y->Z}{env:NM}{c:U NM}(hc:CE c env B Bn bad)(hcl:c.length<F):∀n e (fr:MB),(pre (.ex e)).all Wn=true->(pre (.ex e)).length<=n->n<=60->∀Fr,n<=Fr->loop Fr (Zef F c) (fr,e)=some (notes B (nmE e) fr,exW env e):=by
 intro n
 induction n with
 | zero=>intro e fr _ hn;have:=Xi (.ex e);omega
 | succ n ih=>
   intro e fr hs hn h60 Fr hFr;obtain⟨G,rfl⟩:∃G,Fr=G+1:=⟨Fr-1,by omega⟩
   rw[Z5];have hih:∀x∈e.kids,∀fr:MB,loop G (Zef F c) (fr,x)=some (notes B (nmE x) fr,exW env x):=fun x hx fr=>ih x fr (by rw[Kd]at hs ⊢;exact fun y hy=>hs y (Z4 (XM hx) hy)) (by have:=Yr (XM hx);omega) GZ G GZ
   have hkl:e.kids.length<(pre (.ex e)).length:=by have:=Zb1 (.ex e);simpa[Yq]using this
   have hsh:K6 e=true:=Kd.1 hs _ (Yo _);generalize loop G (Zef F c)=n1 at hih;rw[Zry,Zz6];unfold Zef;dsimp only;cases h2:e.op==2
   ·simp only[Cq0,G5]
    have ht:e.text=E0:=by
     unfold K6 at hsh;rw[h2]at hsh;cases h1:e.op==1<;>rw[h1]at hsh<;>simp only[Cq1,Cq0,Ba0,decide_eq_true_eq]at hsh
     ·exact hsh.1.1.2
     ·exact hsh.1.2
    have:=ZR (body:=Zj3 e n1) (fun(k:Nat)(s:MB×U Zi)=>((k:Int),s.1,s.2)) e.kids (fun rest s=>s.2.length+rest.length<=1000) (fun rest s=>some (notes B (rest.flatMap nmE) s.1,Zi.mk e.op e.n E0 (s.2++rest.map (exW env)))) (F:=F) ?_ ?_ GZ (fr,[]) (by simp;omega)
    ·refine this.trans ?_;rw[ht];rfl
    ·intro s nx _;simp only[Zj3,Zy,Cq0,List.map_nil,Gp];rfl
    ·intro k x rest s nx hx hk hg hp ihl;simp only[Kf]at hp;simp only[Zj3,ZQ hk,Cq1,hg,Bq0,hih x hx];have a1:app 56 s.2 [exW env x]=some (s.2++[exW env x]):=QK (by simp;omega) GZ;rw[a1,Bq0,X7 GZ];refine(ihl (notes B (nmE x) s.1,s.2++[exW env x]) (by simp;omega)).trans ?_;rw[K2,ZeS,G6];rfl
   ·have hk:e.kids=[]:=by
     have h2':e.op=2:=by simpa using h2
     unfold K6 at hsh;rw[h2']at hsh;simp only[Int.reduceBEq,Cq1,Cq0,Ba0,beq_iff_eq]at hsh;exact G3 hsh.2
    rw[hk];simp only[Cq1,List.flatMap_nil,Gp];rw[find_eq e.text c F hcl,Bq0,hc.get];have hb:=hc.b e.text;cases hg:ZT env e.text with
    | none=>
      rw[hg]at hb;show some (Xx fr e.text true,e)=some (note fr B e.text,e);unfold note;rw[if_neg (by simpa using hb)]
    | some y=>
      rw[hg]at hb;have hy:=ZnN hF 60 y (hc.sz _ _ hg) V0 F GZ;show((Zt2 F y).bind fun z=>some (fr,z))=some (note fr B e.text,y);unfold note Zt2;rw[if_pos (hb.2 rfl),hy];rfl
end
section
structure BE(F:Nat)(I:Nat->MB->Prop)(Yk:UW)(WY:Za->List ByteArray->Option MB)(frL:Term->Option MB)(bd:BF MB):Prop where
 mono:∀k j tk,I (k+j) tk->I k tk
 t:∀tk c env B Bn bad t k,CE c env B Bn bad->c.length+2*(pre (.pr t)).length<F->B.length+12000*(pre (.pr t)).length<=750000->(pre (.pr t)).all Wn=true->(pre (.pr t)).length<=60->t.op=4->(U8 t.defs).length<=11040->I (k+(U8 t.defs).length) tk ->
  ∃m,Yk tk c (U8 t.defs) (frL t)=some ((bd tk env (U8 t.defs) (.pr t)).1,m)/\CE (m::c) (ext env (U8 t.defs) (bd tk env (U8 t.defs) (.pr t)).2) (B++U8 t.defs) (Bn++U8 t.defs) (Jk bad (U8 t.defs))/\I k (bd tk env (U8 t.defs) (.pr t)).1
 r:∀tk c env B Bn bad p k,CE c env B Bn bad->c.length+2*(pre (.cl p)).length<F->B.length+12000*(pre (.cl p)).length<=750000->(pre (.cl p)).all Wn=true->(pre (.cl p)).length<=60->p.form=1->(ZM p.joins).length<=9->I (k+(ZM p.joins).length) tk ->
  ∃m,Yk tk c (ZM p.joins) (WY p (ZM p.joins))=some ((bd tk env (ZM p.joins) (.cl p)).1,m)/\CE (m::c) (ext env (ZM p.joins) (bd tk env (ZM p.joins) (.cl p)).2) (B++ZM p.joins) (Bn++ZM p.joins) (Jk bad (ZM p.joins))/\I k (bd tk env (ZM p.joins) (.cl p)).1
def Xp(l:U Evt)(fr:MB):MB:=l.foldl (fun fr e=>note fr e.2 e.1) fr
def J4(a b:U Evt)(fr:MB):Xp (a++b) fr=Xp b (Xp a fr):=GB
def Zru(B:U Y)(l:U Y)(fr:MB):Xp (l.map fun s=>(s,B)) fr=notes B l fr:=by
 unfold Xp notes;rw[List.foldl_map]
def TXg(F:Nat)(I:Nat->MB->Prop)(bd:BF MB)(nx:WS×U NM×Term->O (PR (WS×Term)))(t:Term):Prop:=∀fr tk c env B Bn bad k,CE c env B Bn bad->c.length+2*(pre (.pr t)).length<F->B.length+12000*(pre (.pr t)).length<=750000->I (k+12000*(pre (.pr t)).length) tk ->
 nx ((fr,tk),c,t)=some (bif bT bad t then .Yd 7 else .ok ((Xp (QD (.pr t) B) fr,(Wt bd tk env t).1),(Wt bd tk env t).2))/\(bT bad t=false->I k (Wt bd tk env t).1)
def ZrM{c:Za}(hs:WV c=true):(ZM c.joins).length<=9:=by
 obtain⟨h3,hn3,k,hk⟩:=ZaL hs
 have:∀js:U Yl,(∀m∈js,m.names.length<=3)->(ZM js).length<=3*js.length:=by
  intro js
  induction js with
  | nil=>intro _;simp[ZM]
  | cons m js ihj=>
    intro h;have a:=h m (by simp);have b:=ihj fun x hx=>h x (KB _ hx)
    unfold ZM at b ⊢;rw[K2,K0,Kf];omega
 have:=this c.joins hn3;omega
def ZlC{c:Za}(hs:WV c=true)(hf:c.form=1):c.text=E0/\c.defs=[]:=by
 unfold WV at hs;rw[hf]at hs;simp only[Int.reduceBEq,Cq0,Ba0,decide_eq_true_eq,beq_iff_eq]at hs;exact⟨hs.2.1.1.1.1.2,G3 hs.2.1.1.1.2⟩
def ZGE{F:Nat}(hF:10000000000000000000<=F){I:Nat->MB->Prop}{Yk:UW}{rl:Za->U Y->O MB}{fl:Term->O MB}{bd:BF MB}(hE:BE F I Yk rl fl bd){B Bn:U Y}{bad:Y->Z}{c:U NM}{env:NM}(hc:CE c env B Bn bad)(nx:WS×U NM×Term->O (PR (WS×Term)))(p0:Za)(hs:(pre (.cl p0)).all Wn=true)(h60:(pre (.cl p0)).length<=60)(hf:p0.form=1)(hcl:c.length+2*(pre (.cl p0)).length<F)(hB:B.length+12000*(pre (.cl p0)).length<=750000)(hj:∀m∈p0.joins,m.text∈Bn)(hnx:∀k∈p0.kids,TXg F I bd nx k)(fr tk:MB)(kk:Nat)(hI:I (kk+12000*(pre (.cl p0)).length) tk):
 Zl9 F Yk rl nx (fr,tk) c p0=some (bif bC bad p0 then .Yd 7 else .ok ((Xp (QD (.cl p0) B) fr,(Wc bd tk env p0).1),(Wc bd tk env p0).2))/\(bC bad p0=false->I kk (Wc bd tk env p0).1):=by
 have hsC:WV p0=true:=Kd.1 hs _ (Yo _);obtain⟨h3,hn3,k,hk⟩:=ZaL hsC;have hd:=ZlC hsC hf;have hkl:=Yr (XU (c:=p0) (x:=k) (by rw[hk];simp));have hjl:=ZrM hsC;obtain⟨mb,hb,hci,hIb⟩:=hE.r tk c env B Bn bad p0 (kk+12000*(pre (.pr k)).length) hc hcl hB hs h60 hf hjl (hE.mono _ (12000*(pre (.cl p0)).length-12000*(pre (.pr k)).length-(ZM p0.joins).length) _ (by refine(congrArg (fun z=>I z tk) ?_).mp hI;omega));have he:QD (.cl p0) B=QD (.pr k) (B++ZM p0.joins):=by rw[Zj8,hd.2,hk];simp
 have hne:p0.form≠2:=GZ
 have hbc:bC bad p0=bT (Jk bad (ZM p0.joins)) k:=by
  rw[ZAv,hf,hk];show bTs _ [k]=_;rw[ZfQ,Zic,Bool.or_false]
 have hin:inC bd tk env p0=((bd tk env (ZM p0.joins) (.cl p0)).1,ext env (ZM p0.joins) (bd tk env (ZM p0.joins) (.cl p0)).2):=by
  unfold inC;rw[hf];rfl
 rw[Zux hne,hin,hk,ZfZ,Zig,he,hbc];dsimp only;generalize bd tk env (ZM p0.joins) (.cl p0)=bv at hb hci hIb;obtain⟨tk1,to⟩:=bv;dsimp only at hb hci hIb ⊢;generalize hen:ext env (ZM p0.joins) to=en at hci ⊢;have hkx:=fun fr=>hnx k (by rw[hk];simp) fr tk1 _ _ _ _ _ kk hci (by simp only[Kf];omega) (by rw[K0];omega) hIb
 refine⟨?_,(hkx fr).2⟩
 have hb2:∀(i:Int) next js (m:Yl) fr,m∈p0.joins->js.length<=10->loop F (Zc0 F (mb::c) i next js m (tx1 env m.text)) (0,fr,[])=next (Xa (i+1),fr,js++[ZoT env en m]):=fun i next js m fr hm hjs=>by
  have hmn:=hn3 m hm;have:=ZR (body:=Zc0 F (mb::c) i next js m (tx1 env m.text)) (fun(q:Nat)(ns:U Y)=>((q:Int),fr,ns)) m.names (fun rest ns=>ns.length+rest.length<=10) (fun rest ns=>next (Xa (i+1),fr,js++[Yl.mk (tx1 env m.text) (ns++rest.map (tx1 en))])) (F:=F) ?_ ?_ GZ [] (by simp;omega)
  ·refine this.trans ?_;rw[G5];rfl
  ·intro ns nx' hp;have a1:app 40 js [Yl.mk (tx1 env m.text) ns]=some (js++[Yl.mk (tx1 env m.text) ns]):=QK (by simp;omega) GZ;simp only[Zc0,Zy,Cq0,a1,Bq0,List.map_nil,Gp]
  ·intro q x rest ns nx' hx hq hg hp ih;simp only[Kf]at hp;have hxb:x∈Bn++ZM p0.joins:=GE _ (QP.2 ⟨m,hm,hx⟩);have ht:=Zir (F:=F) x fr (mb::c) (by simp only[Kf];omega) hci hxb;have a1:app 16 ns [tx1 en x]=some (ns++[tx1 en x]):=QK (by simp;omega) GZ;simp only[Zc0,ZQ hq,Cq1,hg,Bq0,ht,a1];rw[X7 GZ,ih _ (by simp;omega),G6];rfl
 have hb1:∀fr:MB,loop F (Zc1 F nx c (mb::c) tk1 p0) (0,fr,[])=some (bif bT (Jk bad (ZM p0.joins)) k then .Yd 7 else .ok ((Xp (QD (.pr k) (B++ZM p0.joins)) fr,(Wt bd tk1 en k).1),Za.mk p0.form E0 (p0.joins.map (ZoT env en)) [] [(Wt bd tk1 en k).2])):=fun fr=>by
  refine ZR (body:=Zc1 F nx c (mb::c) tk1 p0) (fun(q:Nat)(js:U Yl)=>((q:Int),fr,js)) p0.joins (fun rest js=>js.length+rest.length<=10) (fun rest js=>some (bif bT (Jk bad (ZM p0.joins)) k then .Yd 7 else .ok ((Xp (QD (.pr k) (B++ZM p0.joins)) fr,(Wt bd tk1 en k).1),Za.mk p0.form E0 (js++rest.map (ZoT env en)) [] [(Wt bd tk1 en k).2]))) (F:=F) ?_ ?_ GZ [] (by simp;omega)
  ·intro js nx' hp;have g0:Yf p0.kids 0=some k:=by rw[hk];rfl
   simp only[Zc1,Zy,Cq0,g0,Bq0];rw[(hkx fr).1,Bq0,List.map_nil,Gp];cases bT (Jk bad (ZM p0.joins)) k<;>rfl
  ·intro q m rest js nx' hm hq hg hp ih;have ht:=Zir (F:=F) m.text fr c GZ hc (hj m hm);simp only[Kf]at hp;simp only[Zc1,ZQ hq,Cq1,hg,Bq0,ht];rw[hb2 _ _ js m fr hm GZ,X7 GZ,ih _ (by simp;omega),G6];rfl
 unfold Zl9;have:=ZR (body:=Zfd F Yk rl nx (fr,tk) c p0) (fun(q:Nat)(ns:U Y)=>((q:Int),ns)) p0.joins (fun rest ns=>ns++ZM rest=ZM p0.joins/\ns.length<=9) (fun _ _=>some (bif bT (Jk bad (ZM p0.joins)) k then .Yd 7 else .ok ((Xp (QD (.pr k) (B++ZM p0.joins)) fr,(Wt bd tk1 en k).1),Za.mk p0.form E0 (p0.joins.map (ZoT env en)) [] [(Wt bd tk1 en k).2]))) (F:=F) ?_ ?_ GZ [] ⟨rfl,Gq _⟩
 ·exact this
 ·intro ns nx' hp;have hns:ns=ZM p0.joins:=by have:=hp.1;simpa[ZM]using this
  subst hns;simp only[Zfd,Zy,Cq0];rw[hb,Bq0];exact hb1 fr
 ·intro q m rest ns nx' hm hq hg hp ih;have hmn:=hn3 m hm;have a1:app 16 ns m.names=some (ns++m.names):=QK GZ GZ;simp only[Zfd,ZQ hq,Cq1,hg,Bq0,a1];rw[X7 GZ];refine ih _ ⟨?_,?_⟩
  ·have:=hp.1;unfold ZM at this ⊢;rw[K2]at this;rw[G6];exact this
  ·have:=congrArg List.length hp.1;unfold ZM at this;rw[K2,K0,K0]at this;unfold ZM at hjl;rw[K0];omega
end
end Go.Proofs.YtbnepjakjmnadaaGreat
end
end
