/- Part 18. -/
import Derived.WalkKit
import Derived.OpenShut
import Derived.Carry
import Derived.Test.YtbnepjakjmnadaaGreatLa17
set_option linter.all false
set_option maxHeartbeats 2000000
def Go.Ne0{n:Nat}(h:n≠0):∃k,n=Nat.succ k:=Nat.exists_eq_succ_of_ne_zero h
section
noncomputable section
namespace Go.ZP
open Go.Lf
variable{P:V0}
def WA(P:V0){α:Type}(e:JY α)(V:α->Prop)(t:J):Prop:=P.cellsOf t=e.sz/\∀{E:Type}{h:H}{cs:U N}{d:DataW E},AR P h t cs d->∃p x,cs=e.sh p x/\V x/\∀wm,e.F wm h p x
def WA.int{t:J}{k:IntKind}(hu:P.underlying t=some (.int k))(hc:P.cellsOf t=1):WA P (Zxb k) (fun n=>(Lit.int k n).wf=true) t:=⟨hc,fun a=>by
 cases a with
 | int hu' wf=>rw[hu]at hu';cases hu';exact⟨(),_,rfl,wf,fun _=>trivial⟩
 | bool hu'=>rw[hu]at hu';cases hu'
 | string hu' _=>rw[hu]at hu';cases hu'
 | nil hu'=>rw[hu]at hu';cases hu'
 | empty hu'=>rw[hu]at hu';cases hu'
 | slice hu'=>rw[hu]at hu';cases hu'
 | struct hu'=>rw[hu]at hu';cases hu'⟩
def WA.str{t:J}(hu:P.underlying t=some .string)(hc:P.cellsOf t=1):WA P Xb (fun s=>s.size<=maxLen) t:=⟨hc,fun a=>by
 cases a with
 | string hu' hs=>exact⟨(),_,rfl,hs,fun _=>trivial⟩
 | bool hu'=>rw[hu]at hu';cases hu'
 | int hu' _=>rw[hu]at hu';cases hu'
 | nil hu'=>rw[hu]at hu';cases hu'
 | empty hu'=>rw[hu]at hu';cases hu'
 | slice hu'=>rw[hu]at hu';cases hu'
 | struct hu'=>rw[hu]at hu';cases hu'⟩
def ZcA{α:Type}{e:JY α}{V:α->Prop}{h:H}{β:Type}:∀(els:U (U N×β)),(∀x∈els,∃p y,x.1=e.sh p y/\V y/\∀wm,e.F wm h p y) ->
 ∃ys:U α,ys.length=els.length/\(∀y∈ys,V y)/\∀(k:Nat)(y:α),ys[k]? =some y->∃x p,els[k]? =some x/\x.1=e.sh p y/\∀wm,e.F wm h p y
 | [],_=>⟨[],rfl,by simp,fun k y hk=>by simp at hk⟩
 | x::els,hx=>by
   obtain⟨ys,h1,hv,h2⟩:=ZcA els (fun z hz=>hx z (by simp[hz]));obtain⟨p,y,h3,hvy,h4⟩:=hx x (by simp);refine⟨y::ys,by simp[h1],fun z hz=>?_,fun k z hk=>?_⟩
   ·rcases Kx.1 hz with q|q
    ·rw[q];exact hvy
    ·exact hv z q
   ·cases k with
    | zero=>simp at hk;subst hk;exact⟨x,p,rfl,h3,h4⟩
    | succ k=>
      obtain⟨x',p',q1,q2⟩:=h2 k z (by simpa using hk);exact⟨x',p',by simpa using q1,q2⟩
def Zd7{α β:Type}{f:α->U β}{sz:Nat}(l:U α)(hl:∀x∈l,(f x).length=sz){k:Nat}{x:α}(hk:l[k]? =some x):((l.flatMap f).drop (k*sz)).take sz=f x:=by
 have hfx:(f x).length=sz:=hl x (GK hk);refine GU fun j=>?_
 by_cases hj:j<sz
 ·rw[List.getElem?_take_of_lt hj,List.getElem?_drop,flat_get l hl k j hj,hk];rfl
 ·rw[G9 (by rw[Gu];omega),G9 Va]
def WA.slice{α:Type}{e:JY α}{V:α->Prop}{t el:J}(hu:P.underlying t=some (.slice el))(hc:P.cellsOf t=1)(he:WA P e V el):WA P (YB e) (fun l=>∀x∈l,V x) t:=⟨hc,fun a=>by
 cases a with
 | bool hu'=>rw[hu]at hu';cases hu'
 | int hu' _=>rw[hu]at hu';cases hu'
 | string hu' _=>rw[hu]at hu';cases hu'
 | nil hu'=>exact⟨(none,0),[],rfl,by simp,fun _=>Sl.nil⟩
 | empty hu'=>exact⟨(some ⟨0,0,some 0⟩,0),[],rfl,by simp,fun _=>⟨by simp,by simp,.inr (.inl ⟨rfl,rfl⟩),.inl rfl⟩⟩
 | @slice t' e' els rest i cap hu' hl hcap hat hsz hel=>
   rw[hu]at hu';cases hu';obtain⟨ys,h1,hv,h2⟩:=ZcA (e:=e) els (fun x hx=>he.2 (hel x hx));have hsz':∀x∈els,x.1.length=e.sz:=fun x hx=>(hsz x hx).trans he.1
   refine⟨(some ⟨i,0,none⟩,2*cap),ys,by show [Value.slice _ _ _]=[Value.slice _ _ _];rw[h1],hv,fun wm=>⟨?_,?_,.inr (.inr ⟨_,_,rfl⟩),.inr ⟨i,0,_,false,0,rfl,hat,.inr rfl,?_,fun k y hk=>?_⟩⟩⟩
   ·rw[h1];exact KB (KB hl hcap) (by decide)
   ·rw[h1];omega
   ·rw[h1,G0,Ze5 els hsz'];exact K1 _
   ·obtain⟨x,p,q1,q2,q3⟩:=h2 k y hk;refine⟨p,?_,q3 wm⟩;rw[G0,Zd7 els hsz' q1,q2]
 | struct hu'=>rw[hu]at hu';cases hu'⟩
def AR.ZuP{E:Type}{h:H}{t:J}{cs:U N}{d:DataW E}{fs:V4 Field}(hu:P.underlying t=some (.struct fs))(a:AR P h t cs d):
 ∃els:U (U N×DataW E),cs=els.flatMap (·.1)/\els.length=fs.toList.length/\∀(i:Nat)(x:U N×DataW E)(f:Field),els[i]? =some x->fs.toList[i]? =some f->AR P h f.type x.1 x.2:=by
 cases a with
 | bool hu'=>rw[hu]at hu';cases hu'
 | int hu' _=>rw[hu]at hu';cases hu'
 | string hu' _=>rw[hu]at hu';cases hu'
 | nil hu'=>rw[hu]at hu';cases hu'
 | empty hu'=>rw[hu]at hu';cases hu'
 | slice hu'=>rw[hu]at hu';cases hu'
 | struct hu' hl hsz hel=>rw[hu]at hu';cases hu';exact⟨_,rfl,hl,hel⟩
def ZF7{ρ:Ren}{acs cs:U N}(h:LR ρ acs cs):VR ρ (.agg acs.toArray) (.agg cs.toArray):=
 .agg _ _ (by simpa using h.1) (fun i v v' e1 e2=>h.2 i v v' (by simpa using e1) (by simpa using e2))
def ZBH{ρ:Ren}{acs:U N}{cs:V4 N}(h:LR ρ acs (Value.agg cs).cells.toList):VR ρ (.agg acs.toArray) (.agg cs):=by
 have:=ZF7 h
 rwa[Array.toArray_toList]at this
def Zqe:Ren:=⟨fun _=>none,fun _=>(0,0)⟩
def Zru:ZfI ⟨.nil,0⟩:=fun i=>by
 have:(⟨.nil,0⟩:H).at i=.dead:=H.ZaP (Gi _);rw[this];rfl
def Zw8(w:V3):Rel Zqe ⟨.nil,0⟩ w:=⟨fun _ _ _ e=>(by cases e),fun _ _ _ e=>(by cases e),fun _ _ _ _ _ e=>(by cases e)⟩
def ZDB{E:Type}{W:V3}(l:U (J×U N×DataW E))(hl:∀x∈l,Zmh P W x.1 x.2.1 x.2.2):
 ∃(ρ:Ren) (h:H) (els:U (U N×DataW E)),Rel ρ h W/\ZfI h/\els.length=l.length/\
   ∀(i:Nat)(x:U N×DataW E)(y:J×U N×DataW E),els[i]? =some x->l[i]? =some y->LR ρ x.1 y.2.1/\AR P h y.1 x.1 x.2:=by
 obtain⟨ρ,h,els,q1,q2,q3,q4,q5,q6,q7⟩:=ZnF l hl Zqe ⟨.nil,0⟩ (Zw8 W) Zru;exact⟨ρ,h,els,q3,q4,q6,q7⟩
end Go.ZP
end
end
section
set_option maxRecDepth 20000
noncomputable section
namespace Go.Proofs.YtbnepjakjmnadaaGreat
open Go.ZP Go.Lf
section
open Go.ZP Go.RowKit Go.Maps Go.Sort Go.Shelf Go.Lf
def Zh8(l:U (Y×Z)):(ZaZ l).length=l.length:=by unfold ZaZ;rw[JT,Zh9]
def ZwR(l:U (Y×Z)):(Zhd l).map encStr=(ZaZ l).map Value.string:=by
 unfold ZaZ;rw[GE];exact GA fun k _=>rfl
def ZJ7{wm m:Nat}{h h0:H}{T:Nat->Prop}{G Gr:U (Ast wm)}{l:U (Y×Z)}(hS:Sp wm T h0 G h)(pk:Pk G (mp wm Value.string Value.bool (some m) l) Gr)(hk:(l.map (·.1)).Nodup)(hs:∀p∈l,p.1.size<=1000000)(hl:l.length<=1000000):
 ∃v h2,Yn XX (.call 66 #[.func (.func 111) #[] #[(V9 h.size)]] wm (h.push (.box m))) (.fin (.ret v) h2)/\∃a c,v=.slice a (ZaZ l).length c/\Sp wm T h0 (ow wm Xb a (ZaZ l).length c (ZaZ l)::G) h2:=by
 have hS1:Sp wm T h0 G (h.push (.box m)):=hS.up (Up.push wm h _);have hi:(h.push (.box m)).at h.size=.box m:=QU _ _
 obtain⟨i,bs,Qe,e,hat,hbl,hbn,hbc⟩:∃i bs Qe,some m=some i/\h.at i=.map (Xx Value.string Value.bool l bs) Qe/\bs.length=l.length/\bs.Nodup/\∀b∈bs,b<Qe:=by
  rcases(hS.get pk).at_.mem with⟨q,_⟩|q
  ·cases q
  ·exact q
 cases e;have ZLL:(h.push (.box m)).at m=.map (Xx Value.string Value.bool l bs) Qe:=by rw[Ww (Qf hat rfl)];exact hat
 have c1:Xr Qe (Xx Value.string Value.bool l bs)=true:=Zkf (by rw[Zf0 l bs hbl];exact hbn) (by rw[Zf0 l bs hbl];exact hbc);have c2:(Xx Value.string Value.bool l bs).length<=1000000:=by unfold Xx;rw[List.length_zipWith,hbl];omega
 have c3:=Zo7 (vv:=Value.bool) l bs hbl hs
 have c4:nodupB (kbs l)=true:=Zlu (by
  unfold kbs;rw[show(fun p:Y×Z=>p.1.data.toList)=(fun s:Y=>s.data.toList)∘(·.1) from rfl,<-GE];exact List.Pairwise.map _ (fun a b hab e=>hab (by cases a;cases b;exact congrArg _ (GS.1 e))) hk)
 have hsz:Maps.size (Jl (kbs l))<=1000000:=by rw[ZrM];simpa[kbs]using hl
 by_cases hn:l=[]
 ·subst hn;have e:ZaZ []=[]:=Q4 (Zh8 []);refine⟨V7,_,Zzz hi ZLL c1 c2 c3 c4 hsz rfl,none,0,by rw[e];rfl,?_⟩;rw[e];exact hS1.nil
 ·have h1:Zhd l≠[]:=fun e=>hn (Q4 (by rw[<-Zh9 l,e];rfl))
  have hlen:(Zhd l).length=(ZaZ l).length:=by rw[Zh9,Zh8]
  refine⟨_,_,Zzy hi ZLL c1 c2 c3 c4 hsz h1 (Zos l) (ZuT l),some ⟨(h.push (.box m)).size,0,none⟩,2*(ZaZ l).length+1,by rw[hlen],?_⟩;refine hS1.new (Up.push wm _ _) ⟨rfl,?_,.inr ⟨_,0,(Zhd l).map encStr,rfl,hS1.hw,QU _ _,by omega,?_,?_⟩⟩ (fun i hi=>?_)
  ·rw[Zh8];omega
  ·rw[JT,hlen];show 0+_*1<=_;omega
  ·rw[ZwR,List.map_eq_flatMap];refine⟨by rw[<-List.map_eq_flatMap,JT];show 0+_*1<=_;omega,fun k x hk=>⟨(),?_,trivial⟩⟩;rw[G0];exact Zd7 (ZaZ l) (f:=fun x=>[Value.string x]) (sz:=1) (fun _ _=>rfl) hk
  ·obtain⟨o,ho⟩:=hi;cases ho;exact K1 _
end
section
def ZK2:(XX.fns.get 67).isSome=true:=Kq0
def ZK3:(XX.fns.get 66).isSome=true:=Kq0
def ZHm:(XX.fns.get 23).isSome=true:=Kq0
def Zf4(m:MB):Z:=decide ((m.map (·.1)).Nodup)&&m.all (fun p=>decide (p.1.size<=1000000))&&decide (m.length<=1000000)
def Zsi(F:Nat)(t:Term):O (U Y×Int):=(ZjJ F t).bind fun e=>bif e !=0 then some ([],e) else(ZvG F t).bind fun m=>bif Zf4 m then some (ZaZ m,0) else none
def ZzG{F wm:Nat}{h:H}{t:Term}{pA pD pK:O Addr}{cA cD cK:Nat}{r:U Y×Int}(Zy:wm<=h.size)(hsA:Sl Zh wm h pA cA t.args)(hsD:Sl Zc wm h pD cD t.defs)(hsK:Sl Zm wm h pK cK t.kids)(hL:Zsi F t=some r):
 WR XX 27 #[.agg #[V8 t.op,.string t.text,.slice pA t.args.length cA,.slice pD t.defs.length cD,.slice pK t.kids.length cK]] wm h (CP (fun v (Gb:U (Ast wm))=>∃(Ym:O Addr) (QS:Nat) (Yl:Nat),v=.tuple #[.slice Ym QS Yl,V8 r.2]/\Gb=[ow wm Xb Ym QS Yl r.1]) [] h):=by
 unfold Zsi at hL;refine bg Tryz.ntmps27 Zy Yp.nil ?_;intro T hT hS;refine r3 ?_;rintro _ h3 ⟨b1,eb1,rfl,hS⟩;refine r8 ?_;obtain⟨e,he,hL⟩:=bS hL;refine WO.cp gN rfl (Yo.fn ZHm (Zb lk Zd)) (ZjI (hS.slu hsA) (hS.slu hsD) (hS.slu hsK) he)<|r8 ?_;refine r1 ?_;refine cn hL ?_ ?_
 ·intro hc hL;refine r8 ?_;refine r1 ?_;have hS:=hS.nil (e:=Xb);have hr:=Oi0 hL;subst hr;exact Y0.gen (vs:=[V7,V8 e]) rfl (ZG lk (ZG lk Zk)) rfl ⟨_,⟨none,0,0,rfl,rfl⟩,hT▸hS.only (.c k0 .n)⟩
 ·intro hc hL;refine r4 ?_;refine r1 ?_;obtain⟨m,hm,hL⟩:=bS hL;refine Vd (Yo.fn ZK1 (Zb lk Zd)) hS .n (fun g' hz hf hO=>ZIb (hS.Vg hz) ((hS.sl hsA).mono hf) ((hS.sl hsD).mono hf) ((hS.sl hsK).mono hf) hm) ?_;rintro _ h8 _ ⟨cf,rfl,rfl⟩ hS;cases hko:Zf4 m
  ·rw[hko]at hL;cases hL
  rw[hko]at hL
  have ZHg:((m.map (·.1)).Nodup/\∀p∈m,p.1.size<=1000000)/\m.length<=1000000:=by
   unfold Zf4 at hko
   simpa only[Ba0,decide_eq_true_eq,Kd]using hko
  obtain⟨v,h9,hj,a,cc,rfl,hS2⟩:=ZJ7 hS k0 ZHg.1.1 ZHg.1.2 ZHg.2;refine WO.en gN rfl (Yo.fn ZK2 (Zb lk Zd)) ZDj<|WO.en gN rfl (Yo.fn ZK3 (Zb lk Zd)) hj<|r4 ?_;refine r1 ?_;have hr:=Oi0 hL;subst hr;exact Y0.gen (vs:=[.slice a (ZaZ m).length cc,V8 0]) rfl (ZG lk (ZG lk Zk)) rfl ⟨_,⟨a,_,cc,rfl,rfl⟩,hT▸hS2.only (.c k0 .n)⟩
end
section
end
section
end
end Go.Proofs.YtbnepjakjmnadaaGreat
end
end
section
set_option maxRecDepth 20000
noncomputable section
namespace Go.ZP
open Go.Lf
variable{P:V0}
end Go.ZP
end
end
section
set_option maxRecDepth 20000
noncomputable section
namespace Go.Proofs.YtbnepjakjmnadaaGreat
open Go.ZP Go.Lf
section
end
section
def ZBC:YM XX.P 107=some (.pointer none):=Kq0
instance:U0 XX.P 107 (.pointer none):=⟨ZBC⟩
def ZBV:Yz XX.P 107=some 1:=Kq0
instance:SzF XX.P 107 1:=⟨ZBV⟩
def ZBU:Yz XX.P 108=some 1:=Kq0
instance:SzF XX.P 108 1:=⟨ZBU⟩
end
section
end
section
end
section
def ZlQ(F:Nat):((U Term)×Term)->(((U Term)×Term)->O (U Term))->O (U Term):=fun(p0,p1) Zl=>
 (bif(p1.op==1) then some p0 else(bif(p1.op==3) then(ZN p1.kids 0).bind fun x4=>(Zl (p0,x4)).bind fun Jh=>(ZN p1.kids 1).bind fun KT=>(Zl (Jh,KT)).bind fun x33=>some x33 else(app 96 p0 [p1]).bind fun z41=>some z41))
def Zng(F:Nat)(p0:(U Term))(p1:Term):O (U Term):=
 loop F (ZlQ F) (p0,p1)
end
section
def ZDb{F wm:Nat}:∀(Fr:Nat)(x:((U Term)×Term))(r:(U Term)),loop Fr (ZlQ F) x=some r->(match x with | (p0,p1)=>∀{h:H}{Zf:O Addr}{Ze Kb:Nat}{Yr:O Addr}{Yq:Nat}{XE:O Addr}{XD:Nat}{Xz:O Addr}{Xy:Nat}(Zy:wm<=h.size)(YV:Sl Zh wm h Yr Yq p1.args)(QY:Sl Zc wm h XE XD p1.defs)(Qz:Sl Zm wm h Xz Xy p1.kids)(hO:Yp (wm:=wm) [ow wm Zm Zf Kb Ze p0] h),WR XX 89 #[.slice Zf Kb Ze,.agg #[V8 p1.op,.string p1.text,.slice Yr p1.args.length Yq,.slice XE p1.defs.length XD,.slice Xz p1.kids.length Xy]] wm h (CP (fun v (Gb:U (Ast wm))=>∃Ym QS Yl,v=.slice Ym QS Yl/\Gb=[ow wm Zm Ym QS Yl r]) [ow wm Zm Zf Kb Ze p0] h)):=by
 refine XU _ ?_;rintro Zl Xm ⟨p0,p1⟩ r hL h Zf Ze Kb Yr Yq XE XD Xz Xy Zy YV QY Qz hO;refine bg Tryz.ntmps89 Zy hO ?_;intro T hT hS;obtain rfl:=hS.on k0;refine r3 ?_;rintro _ h3 ⟨b2,eb2,rfl,hS⟩;refine r16 ?_;refine r1 ?_;refine cn hL ?_ ?_
 ·intro hc hL;refine r9 ?_;have hr:=Oi0 hL;subst hr;exact Y0.Jb rfl (ZG lk Zk) ⟨_,⟨Zf,p0.length,Ze,rfl,rfl⟩,hT▸hS.only (.c k1 .n)⟩
 ·intro hc hL;refine r6 ?_;refine cn hL ?_ ?_
  ·intro hc hL;refine r1 ?_;refine WC.Ub mixed Kq0<|r3 ?_;obtain⟨x4,hx4,hL⟩:=bS hL;obtain⟨b5,o6,⟨⟨a7,c8⟩,⟨a9,c10⟩,⟨a11,c12⟩⟩,ZQi,ZQv,ZQn,ZyP⟩:=Sl.at_ Qz hx4;replace ZyP:=Xd.1 ZyP;refine Vf (Yf Q9 Yd lk lk rfl ZQi hx4) ?_;have ZPR:Sl Zh wm h a7 c8 x4.args:=ZyP.1;have ZPP:Sl Zc wm h a9 c10 x4.defs:=ZyP.2.1;have Zyh:Sl Zm wm h a11 c12 x4.kids:=ZyP.2.2;refine Vf (Yx Qx Yd (Zj fh rfl) (At.fz hS.fz ZQn ZQv) (j:=0) rfl rfl (ws:=[V8 x4.op,.string x4.text,.slice a7 x4.args.length c8,.slice a9 x4.defs.length c10,.slice a11 x4.kids.length c12]) rfl) ?_;obtain⟨Jh,Zdu,hL⟩:=bS hL;have ZHB:=hS;refine WX.cl gN rfl (Yo.fn ZtL (Zb lk (Zb lk Zd))) hS (.c k1 .n) (fun g' hz hf hO=>(Xm _ _ Zdu) (hS.Vg hz) ((hS.sl ZPR).mono hf) ((hS.sl ZPP).mono hf) ((hS.sl Zyh).mono hf) hO) ?_ rfl rfl [] Kq0 XP.e;rintro _ h17 _ ⟨a14,n15,c16,rfl,rfl⟩ hS;obtain rfl:=hS.on k0;refine WX.w gN rfl (YI Zbe lk) ?_ Kq0;refine WX.wrM (fun x=>x=b2) hS gN rfl (fun _ _ hR=>Yt ZfE (Zj fh rfl) (At.eqv (hR b2 rfl) (hS.Jp k1)) (j:=4) rfl (v:=.slice Xz p1.kids.length Xy) rfl) ?_ rfl (.d (fun x hx e=>ZHB.djs (.c k0 (.c k0 .n)) x hx.1 e) .n);rintro h20 e21 hS;obtain⟨KT,Zf5,hL⟩:=bS hL;obtain⟨b23,o24,⟨⟨a25,c26⟩,⟨a27,c28⟩,⟨a29,c30⟩⟩,UM,Uw,Uv,Qo⟩:=Sl.at_ Qz Zf5;replace Qo:=Xd.1 Qo;refine WX.w gN rfl (Yf Q9 Yd lk lk rfl UM Zf5) ?_ Kq0;have Zb9:Sl Zh wm h a25 c26 KT.args:=Qo.1;have ZLh:Sl Zc wm h a27 c28 KT.defs:=Qo.2.1;have Zye:Sl Zm wm h a29 c30 KT.kids:=Qo.2.2;refine WX.wrM (fun x=>x=b23) hS gN rfl (fun _ _ hR=>Yx Qx Yd (Zj fh rfl) (At.eqv (hR b23 rfl) (At.fz hS.fz Uv Uw)) (j:=0) rfl rfl (ws:=[V8 KT.op,.string KT.text,.slice a25 KT.args.length c26,.slice a27 KT.defs.length c28,.slice a29 KT.kids.length c30]) rfl) ?_ rfl (.d (fun x hx e=>ZHB.nfz (.c k1 .n) (Stb.fz ZHB.fz Uw Uv) x hx.1 e) .n);rintro h31 e32 hS;obtain⟨x33,Zvq,hL⟩:=bS hL;refine WX.cl gN rfl (Yo.fn ZtL (Zb lk (Zb lk Zd))) hS (.c k0 .n) (fun g' hz hf hO=>(Xm _ _ Zvq) (hS.Vg hz) ((hS.sl Zb9).mono hf) ((hS.sl ZLh).mono hf) ((hS.sl Zye).mono hf) hO) ?_ rfl Kq0 [] Kq0 XP.e;rintro _ h37 _ ⟨a34,n35,c36,rfl,rfl⟩ hS;obtain rfl:=hS.on k0;refine WX.w gN rfl (ZW lk) ?_ Kq0;refine r5 ?_;have hr:=Oi0 hL;subst hr;exact Y0.Jb rfl (ZG lk Zk) ⟨_,⟨a34,x33.length,c36,rfl,rfl⟩,hT▸hS.only (.c k0 .n)⟩
  ·intro hc hL;refine r7 ?_;refine Ve (KI (e:=Zm) hS Q9 Yd WH rfl rfl rfl (ZF lk Z5) rfl [(((Yr,Yq),(XE,XD),(Xz,Xy)),p1)] rfl (xs:=[p1]) rfl (by intro q hq;simp only[Kx,Gc,or_false]at hq;subst hq;exact(Xd.2 ⟨(hS.sl YV),(hS.sl QY),(hS.sl Qz)⟩)) rfl) ?_;rintro _ h40 ⟨b39,ZQW,rfl,hS⟩;obtain⟨z41,ZPv,hL⟩:=bS hL;refine WO.hv gN rfl (Zak (e:=Zm) hS k2 Zko lk lk (hS.U8 k0) (hS.on k0) ZPv) ?_;rintro _ h44 ⟨a42,c43,rfl,hS⟩;refine r4 ?_;have hr:=Oi0 hL;subst hr;exact Y0.Jb rfl (ZG lk Zk) ⟨_,⟨a42,z41.length,c43,rfl,rfl⟩,hT▸hS.only (.c k0 .n)⟩
def Zzt{F wm h}{p0:(U Term)}{p1:Term}{Zf Ze Kb Yr Yq XE XD Xz Xy}{r}(Zy:wm<=h.size)(YV:Sl Zh wm h Yr Yq p1.args)(QY:Sl Zc wm h XE XD p1.defs)(Qz:Sl Zm wm h Xz Xy p1.kids)(hO:Yp (wm:=wm) [ow wm Zm Zf Kb Ze p0] h)(hL:Zng F p0 p1=some r):
 WR XX 89 #[.slice Zf Kb Ze,.agg #[V8 p1.op,.string p1.text,.slice Yr p1.args.length Yq,.slice XE p1.defs.length XD,.slice Xz p1.kids.length Xy]] wm h (CP (fun v (Gb:U (Ast wm))=>∃Ym QS Yl,v=.slice Ym QS Yl/\Gb=[ow wm Zm Ym QS Yl r]) [ow wm Zm Zf Kb Ze p0] h):=
 ZDb F (p0,p1) r hL Zy YV QY Qz hO
end
section
def ZvH(F:Nat)(p0:Term):O ((U Term)×Int):=
 (ZjJ F p0).bind fun x3=>(bif(x3 !=0) then some ([],x3) else(ZvF F p0).bind fun x4=>(Zng F [] x4).bind fun x16=>some (x16,0))
end
section
def ZzE{F wm h}{p0:Term}{Zf Ze ZA Zz Zw Zv}{r}(Zy:wm<=h.size)(Zt:Sl Zh wm h Zf Ze p0.args)(ZV:Sl Zc wm h ZA Zz p0.defs)(ZU:Sl Zm wm h Zw Zv p0.kids)(hL:ZvH F p0=some r):
 WR XX 39 #[.agg #[V8 p0.op,.string p0.text,.slice Zf p0.args.length Ze,.slice ZA p0.defs.length Zz,.slice Zw p0.kids.length Zv]] wm h (CP (fun v (Gb:U (Ast wm))=>∃Ym Yl,v=.tuple #[.slice Ym r.1.length Yl,V8 r.2]/\Gb=[Yi wm (YB Zm) (Ym,Yl) r.1]) [] h):=by
 refine bg Tryz.ntmps39 Zy Yp.nil ?_;intro T hT hS;unfold ZvH at hL;refine r3 ?_;rintro _ h2 ⟨b1,eb1,rfl,hS⟩;refine r8 ?_;obtain⟨x3,hx3,hL⟩:=bS hL;refine WO.cp gN rfl (Yo.fn ZtN (Zb lk Zd)) (ZjI (hS.slu Zt) (hS.slu ZV) (hS.slu ZU) hx3)<|r9 ?_;refine cn hL ?_ ?_
 ·intro hc hL;refine r9 ?_;have hS:=hS.add (A:=Yi wm (YB Zm) (none,0) []) Sl.nil (fun _ z=>z);have hr:=Oi0 hL;subst hr;exact Y0.gen (vs:=[V7,V8 x3]) rfl (ZG lk (ZG lk Zk)) rfl ⟨_,⟨none,0,rfl,rfl⟩,hT▸hS.only (.c k0 .n)⟩
 ·intro hc hL;refine r5 ?_;obtain⟨x4,hx4,hL⟩:=bS hL;refine Vd (Yo.fn ZFg (Zb lk Zd)) hS .n (fun g' hz hf hO=>Zzx (hS.Vg hz) ((hS.sl Zt).mono hf) ((hS.sl ZV).mono hf) ((hS.sl ZU).mono hf) hx4) ?_;rintro _ h14 _ ⟨a5,c7,a8,c10,a11,c13,rfl,rfl⟩ hS;obtain⟨x16,hx16,hL⟩:=bS hL;have hS:=hS.nil (e:=Zm);refine Vd (Yo.fn ZtL (Zb lk (Zb lk Zd))) hS (.c k0 .n) (fun g' hz hf hO=>Zzt (hS.Vg hz) ((hS.Uo k1).mono hf) ((hS.Uo k2).mono hf) ((hS.Uo k3).mono hf) hO hx16) ?_;rintro _ h20 _ ⟨a17,n18,c19,rfl,rfl⟩ hS;obtain rfl:=hS.on k0;refine r4 ?_;refine WC.fzn hS k0 ?_;rintro h22 ⟨ZUs,hS⟩;refine r1 ?_;have hr:=Oi0 hL;subst hr;exact Y0.gen (vs:=[.slice a17 x16.length c19,V8 0]) rfl (ZG lk (ZG lk Zk)) rfl ⟨_,⟨a17,c19,rfl,rfl⟩,hT▸hS.only (.c k0 .n)⟩
end
section
end
section
end
section
end
section
end
section
end
section
end
section
end
section
end
section
end
section
end
section
end
section
end
section
end
section
end
section
end
section
end
end Go.Proofs.YtbnepjakjmnadaaGreat
end
end
section
set_option maxRecDepth 20000
noncomputable section
namespace Go.ZP
open Go.Lf
variable{P:V0}
end Go.ZP
end
end
section
set_option maxRecDepth 20000
noncomputable section
namespace Go.Proofs.YtbnepjakjmnadaaGreat
open Go.ZP Go.Lf
section
end
section
def Fz.down{m wm:Nat}{h h':H}(hm:m<=wm)(f:Fz wm h h'):Fz m h h':=
 ⟨f.size,fun i cs own z e s=>f.keep i cs own z e (s.imp (fun x=>Jx x hm) id),fun i a b=>f.low i (Jx a hm) b⟩
def Zal{α:Type}(m:Nat)(r:JY α):JY α where
 sz:=r.sz
 pos:=r.pos
 Par:=r.Par
 dflt:=r.dflt
 sh:=r.sh
 len:=r.len
 one:=r.one
 F:=fun wm h p x=>r.F (min m wm) h p x
 mono:=fun f k=>r.mono (Fz.down (Nat.min_le_right _ _) f) k
 up:=fun{wm UC h p x} hw k=>r.up (show min m wm<=min m UC by omega) k
def ZmW{α:Type}{r:JY α}{m wm:Nat}{h:H}{p:r.Par}{x:α}(hm:m<=wm)(k:r.F m h p x):(Zal m r).F wm h p x:=by
 show r.F (min m wm) h p x;rw[Nat.min_eq_left hm];exact k
def cvL{α:Type}{r:JY α}{m wm UC:Nat}{p:r.Par}{x:α}(hm:m<=wm)(hw:wm<=UC):Cv (Yi UC (Zal m r) p x) (Yi wm (Zal m r) p x):=
 ⟨fun h s=>by
   have s':r.F (min m UC) h p x:=s;show r.F (min m wm) h p x;rw[show min m wm=min m UC by omega];exact s',fun _ z=>z⟩
def ZoI{α:Type}{e:JY α}{m wm c:Nat}{a:O Addr}{xs:U α}{T:Nat->Prop}{h0 h:H}{G:U (Ast wm)}(hS:Sp wm T h0 G h)(hT:∀i,¬ T i)(hm:m<=wm)(so:UR e m m h0 a c xs):UR e m m h a c xs:=by
 refine((ow m e a xs.length c xs).loc (Fz.down hm hS.fz) (fun j hj=>hS.keep j ?_ (hT j)) ⟨rfl,so⟩).2;rcases so.mem with⟨h1,_⟩|⟨i,o,cs,q1,q2,q3,_⟩
 ·obtain⟨o,e⟩:=hj;rw[h1]at e;cases e
 ·obtain⟨o',e⟩:=hj;rw[q1]at e;cases e;exact Qf q3 rfl
def Zum{wm b o:Nat}{vs:U N}{T:Nat->Prop}{h0 h:H}{G:U (Ast wm)}(hS:Sp wm T h0 G h)(hT:∀i,¬ T i)(hA:At h0 b o vs):At h b o vs:=by
 obtain⟨cs,own,z,h1,h2,h3⟩:=hA;exact⟨cs,own,z,(hS.keep _ (Qf h1 rfl) (hT _)).trans h1,h2,h3⟩
def ZGo{α:Type}{e:JY α}{m wm b c:Nat}{h:H}{xs:U α}(hb:wm<=b)(s:Sl (Zal m e) wm h (some ⟨b,0,none⟩) c xs):Sl e (min m wm) h (some ⟨b,0,none⟩) c xs:=
 ⟨s.max,s.cap,s.nl,s.mem.imp id fun⟨i,o,cs,own,z,h1,h2,h3,h4⟩=>⟨i,o,cs,own,z,h1,h2,.inr (h3.resolve_left (by cases h1;omega)),⟨h4.len,h4.get⟩⟩⟩
def ZE6:(XX.fns.get 95).isSome=true:=Kq0
def ZpR(F:Nat):(U Term)->((U Term)->O Term)->O Term:=fun p0 Zl=>
 (bif((p0.length:Int)==0) then some (Term.mk 1 (⟨#[]⟩:Y) [] [] []) else(bif((p0.length:Int)==1) then(ZN p0 0).bind fun x5=>some x5 else(ZN p0 0).bind fun x15=>(slL p0 1 p0.length).bind fun z24=>(Zl z24).bind fun x28=>some (Term.mk 3 (⟨#[]⟩:Y) [] [] [x15,x28])))
def Zzs(F:Nat)(p0:(U Term)):O Term:=
 loop F (ZpR F) p0
def ZC9{F:Nat}:∀(Fr:Nat)(p0:(U Term))(r:Term),loop Fr (ZpR F) p0=some r->(∀{m:Nat}{h:H}{Zf:O Addr}{Ze:Nat}(hm:m<=h.size)(so:UR Zm m m h Zf Ze p0),WR XX 95 #[.slice Zf p0.length Ze] h.size h (CP (fun(v:N)(Gb:U (Ast h.size))=>∃(Ym:O Addr) (Yl:Nat) (JA:O Addr) (Jy:Nat) (Jz:O Addr) (Jw:Nat),v=.agg #[V8 r.op,.string r.text,.slice Ym r.args.length Yl,.slice JA r.defs.length Jy,.slice Jz r.kids.length Jw]/\Gb=[Yi h.size (Zal m (YB Zh)) (Ym,Yl) r.args,Yi h.size (Zal m (YB Zc)) (JA,Jy) r.defs,Yi h.size (Zal m (YB Zm)) (Jz,Jw) r.kids]) [] h)):=by
 refine XU _ ?_;rintro Zl Xm p0 r hL m h Zf Ze hm so;refine WF.begin (args:=[_]) (fn:=Tryz.f95) Kq0 (by exact rfl) Tryz.ntmps95 (by simp) ?_;simp only[Zq,Zx,Nat.reduceAdd];obtain⟨T,hT,hS⟩:∃T,T=QF (wm:=h.size) []/\Sp h.size T h [] h:=⟨_,rfl,Sp.start Vb Yp.nil⟩
 have hnT:∀i,¬ T i:=fun i=>by rw[hT];rintro⟨A,q,_⟩;simp at q
 refine WC.seq<|WC.region<|Ve (U3 hS WH (vs:=[V8 0,.string (⟨#[]⟩:Y),V7,V7,V7]) rfl) ?_;rintro _ h3 ⟨b2,eb2,rfl,hS⟩;refine WO.nil<|ZB.Yc<|WC.seq<|WC.seq<|WC.region<|Vc (ZO (Zj (Zg rfl fh) rfl))<|Vc (Zaf Q9 (Zj fh rfl) rfl)<|WO.nil<|ZB.Yc<|WC.block<|WC.seq<|WC.region<|Vc (Y5 (Zj fh rfl) (J2 rfl) ZaS)<|Vc (ZW (Zj fh rfl))<|WO.nil<|ZB.Yc<|WC.Uc (Zj fh rfl) (fun hc=>?_) (fun hc=>?_)
 ·replace hL:=Xp hc hL;refine WC.seq<|WC.region<|Vc (XL Zl9 (ZF (J2 rfl) Z5) rfl (cs':=[V8 1,.string (⟨#[]⟩:Y),V7,V7,V7]) rfl)<|WO.hu gN (JO hS k0 Yd (Zj (YC rfl (Zg rfl fh)) rfl) (Zj fh rfl) (vs:=[V8 1,.string (⟨#[]⟩:Y),V7,V7,V7]) rfl rfl rfl rfl (cs':=[V8 1,.string (⟨#[]⟩:Y),V7,V7,V7]) rfl) ?_;rintro h4 hS;refine WO.nil<|ZB.Yc<|WC.ret<|Yy.ret<|ZB.ret ?_;have hS:=hS.add (A:=Yi h.size (Zal m (YB Zh)) (none,0) []) Sl.nil (fun _ z=>z);have hS:=hS.add (A:=Yi h.size (Zal m (YB Zc)) (none,0) []) Sl.nil (fun _ z=>z);have hS:=hS.add (A:=Yi h.size (Zal m (YB Zm)) (none,0) []) Sl.nil (fun _ z=>z);have hr:=Oi0 hL;subst hr;exact Y0.Jb rfl (YP (YC rfl (Zg rfl fh)) (Xc Qx Yd (hS.Jp k3) (j:=0) rfl rfl (ws:=[V8 1,.string (⟨#[]⟩:Y),V7,V7,V7]) rfl) Zk) ⟨_,⟨none,0,none,0,none,0,rfl,rfl⟩,hT▸hS.only (.c k2 (.c k1 (.c k0 .n)))⟩
 ·replace hL:=Xq hc hL;refine WC.seq<|WC.region<|Vc (Y5 (Zj (Z8 rfl fh) rfl) (J2 rfl) ZaS)<|Vc (ZW (Zj fh rfl))<|WO.nil<|ZB.Yc<|WC.Uc (Zj fh rfl) (fun hc=>?_) (fun hc=>?_)
  ·replace hL:=Xp hc hL;refine WC.seq<|WC.region<|Vc (ZO (Zj (YC rfl (Z8 rfl (Zg rfl fh))) rfl)) ?_;obtain⟨x5,hx5,hL⟩:=bS hL;obtain⟨b6,o7,⟨⟨a8,c9⟩,⟨a10,c11⟩,⟨a12,c13⟩⟩,ZQh,ZQu,ZyO⟩:=Src.at_ so.src hx5;replace ZyO:=Xd.1 ZyO;refine Vc (Yf Q9 Yd (Zj fh rfl) (J2 rfl) rfl ZQh hx5) ?_;have ZPQ:Sl Zh m h a8 c9 x5.args:=ZyO.1;have ZLo:Sl Zc m h a10 c11 x5.defs:=ZyO.2.1;have ZLn:Sl Zm m h a12 c13 x5.kids:=ZyO.2.2;refine Vc (Yx Qx Yd (Zj fh rfl) (Zum hS hnT ZQu) (j:=0) rfl rfl (ws:=[V8 x5.op,.string x5.text,.slice a8 x5.args.length c9,.slice a10 x5.defs.length c11,.slice a12 x5.kids.length c13]) rfl)<|WO.hu gN (JO hS k0 Yd (Zj (YJ rfl (Zg rfl fh)) rfl) (Zj fh rfl) (vs:=[V8 x5.op,.string x5.text,.slice a8 x5.args.length c9,.slice a10 x5.defs.length c11,.slice a12 x5.kids.length c13]) rfl rfl rfl rfl (cs':=[V8 x5.op,.string x5.text,.slice a8 x5.args.length c9,.slice a10 x5.defs.length c11,.slice a12 x5.kids.length c13]) rfl) ?_;rintro h14 hS;refine WO.nil<|ZB.Yc<|WC.ret<|Yy.ret<|ZB.ret ?_;have hS:=hS.add (A:=Yi h.size (Zal m (YB Zh)) (a8,c9) x5.args) (ZmW (r:=YB _) hm (ZPQ.mono (Fz.down hm hS.fz))) (fun _ z=>z);have hS:=hS.add (A:=Yi h.size (Zal m (YB Zc)) (a10,c11) x5.defs) (ZmW (r:=YB _) hm (ZLo.mono (Fz.down hm hS.fz))) (fun _ z=>z);have hS:=hS.add (A:=Yi h.size (Zal m (YB Zm)) (a12,c13) x5.kids) (ZmW (r:=YB _) hm (ZLn.mono (Fz.down hm hS.fz))) (fun _ z=>z);have hr:=Oi0 hL;subst hr;exact Y0.Jb rfl (YP (YJ rfl (Zg rfl fh)) (Xc Qx Yd (hS.Jp k3) (j:=0) rfl rfl (ws:=[V8 x5.op,.string x5.text,.slice a8 x5.args.length c9,.slice a10 x5.defs.length c11,.slice a12 x5.kids.length c13]) rfl) Zk) ⟨_,⟨a8,c9,a10,c11,a12,c13,rfl,rfl⟩,hT▸hS.only (.c k2 (.c k1 (.c k0 .n)))⟩
  ·replace hL:=Xq hc hL;refine WC.skip<|Yy.Yc<|ZB.Yc<|WC.seq<|WC.Ub mixed Kq0<|Vf (ZO (Zj (YC rfl (Z8 rfl (Zg rfl fh))) rfl)) ?_;obtain⟨x15,Zhh,hL⟩:=bS hL;obtain⟨b16,o17,⟨⟨a18,c19⟩,⟨a20,c21⟩,⟨a22,c23⟩⟩,Zpq,ZpD,Zcc⟩:=Src.at_ so.src Zhh;replace Zcc:=Xd.1 Zcc;refine Vf (Yf Q9 Yd (Zj fh rfl) (J2 rfl) rfl Zpq Zhh) ?_;have Zi4:Sl Zh m h a18 c19 x15.args:=Zcc.1;have Zi3:Sl Zc m h a20 c21 x15.defs:=Zcc.2.1;have Zyf:Sl Zm m h a22 c23 x15.kids:=Zcc.2.2;refine Vf (Yx Qx Yd (Zj fh rfl) (Zum hS hnT ZpD) (j:=0) rfl rfl (ws:=[V8 x15.op,.string x15.text,.slice a18 x15.args.length c19,.slice a20 x15.defs.length c21,.slice a22 x15.kids.length c23]) rfl)<|Vf (ZO (Zj (YJ rfl (Z8 rfl fh)) rfl)) ?_;obtain⟨z24,ZPz,hL⟩:=bS hL;refine WX.he gN rfl (ZKc (ZoI hS hnT hm so) rfl Q9 Yd (Zj fh rfl) (.inr ⟨_,ZzX (J2 rfl)⟩) (.inl ⟨rfl,rfl⟩) ZPz) ?_ rfl;rintro _ ⟨a25,c26,rfl,hv27⟩;have ZO2:=hv27.own (ZoI hS hnT hm so);obtain⟨x28,hx28,hL⟩:=bS hL;refine WX.clR gN rfl (Yo.fn ZE6 (Zb (Zj fh rfl) Zd)) hS.hw (Xm _ _ hx28 (KB hm hS.hw) ZO2) ?_ rfl rfl;rintro _ h38 _ ⟨a29,c31,a32,c34,a35,c37,rfl,rfl⟩ hC;have hS:=hS.clR hC (.c (cvL hm hS.hw) (.c (cvL hm hS.hw) (.c (cvL hm hS.hw) .n)));have ZUh:=hS.hw;refine WX.hn gN rfl (KI (e:=Zal m Zm) hS Q9 Yd WH rfl rfl rfl (ZF (Zj (Z8 rfl (Zg rfl fh)) rfl) (ZF (Zj fh rfl) Z5)) rfl [(((a18,c19),(a20,c21),(a22,c23)),x15),(((a29,c31),(a32,c34),(a35,c37)),x28)] rfl (xs:=[x15,x28]) rfl (by intro q hq;simp only[Kx,Gc,or_false]at hq;rcases hq with rfl|rfl;exact ZmW (r:=Zm) hm (Xd.2 ⟨Zi4.mono (Fz.down hm hS.fz),Zi3.mono (Fz.down hm hS.fz),Zyf.mono (Fz.down hm hS.fz)⟩);exact Xd.2 ⟨hS.get k0,hS.get k1,hS.get k2⟩) rfl) ?_ rfl;rintro _ h41 ⟨b40,ZQV,rfl,hS⟩;refine Vf (XL Zl9 (ZF (J2 rfl) (ZF (Zj fh rfl) Z5)) rfl (cs':=[V8 3,.string (⟨#[]⟩:Y),V7,V7,.slice (some ⟨b40,0,none⟩) 2 4]) rfl)<|WX.hu gN (JO hS k4 Yd (Zj (YJ rfl (YC rfl (Z8 rfl fh))) rfl) (Zj fh rfl) (vs:=[V8 3,.string (⟨#[]⟩:Y),V7,V7,.slice (some ⟨b40,0,none⟩) 2 4]) rfl rfl rfl rfl (cs':=[V8 3,.string (⟨#[]⟩:Y),V7,V7,.slice (some ⟨b40,0,none⟩) 2 4]) rfl) ?_ rfl rfl [] Kq0 XP.e;rintro h42 hS;refine WX.nil<|ZB.Yc ?_;have ZLx:=hS.on k1;rw[ZLx]at hS
   try rw[ZLx]
   refine WC.fzn hS k1 ?_;rintro h44 ⟨hn45,hS⟩;have hS:=hS.add (A:=Yi h.size (Zal m (YB Zm)) (some ⟨b40,0,none⟩,4) [x15,x28]) (ZGo Va (hS.get k0)) (fun _ z=>z);refine WC.ret ?_;have hS:=hS.add (A:=Yi h.size (Zal m (YB Zh)) (none,0) []) Sl.nil (fun _ z=>z);have hS:=hS.add (A:=Yi h.size (Zal m (YB Zc)) (none,0) []) Sl.nil (fun _ z=>z);have hr:=Oi0 hL;subst hr;exact Y0.Jb rfl (YP (YJ rfl (YC rfl (Z8 rfl fh))) (Xc Qx Yd (hS.Jp k4) (j:=0) rfl rfl (ws:=[V8 3,.string (⟨#[]⟩:Y),V7,V7,.slice (some ⟨b40,0,none⟩) ([x15,x28].length) 4]) rfl) Zk) ⟨_,⟨none,0,none,0,(some ⟨b40,0,none⟩),4,rfl,rfl⟩,hT▸hS.only (.c k1 (.c k0 (.c k0 .n)))⟩
def ZH1{F m:Nat}{h:H}{p0:(U Term)}{Zf:O Addr}{Ze:Nat}{r:Term}(hm:m<=h.size)(so:UR Zm m m h Zf Ze p0)(hL:Zzs F p0=some r):
 WR XX 95 #[.slice Zf p0.length Ze] h.size h (CP (fun(v:N)(Gb:U (Ast h.size))=>∃(Ym:O Addr) (Yl:Nat) (JA:O Addr) (Jy:Nat) (Jz:O Addr) (Jw:Nat),v=.agg #[V8 r.op,.string r.text,.slice Ym r.args.length Yl,.slice JA r.defs.length Jy,.slice Jz r.kids.length Jw]/\Gb=[Yi h.size (Zal m (YB Zh)) (Ym,Yl) r.args,Yi h.size (Zal m (YB Zc)) (JA,Jy) r.defs,Yi h.size (Zal m (YB Zm)) (Jz,Jw) r.kids]) [] h):=
 ZC9 F p0 r hL hm so
def ZIA{α:Type}{r:JY α}{m UC:Nat}{p:r.Par}{x:α}(hw:m<=UC):Cv (Yi UC (Zal m r) p x) (Yi m r p x):=
 ⟨fun h s=>by
   have s':r.F (min m UC) h p x:=s;rw[Nat.min_eq_left hw]at s';exact s',fun _ z=>z⟩
def ZE7:(XX.fns.get 88).isSome=true:=Kq0
def Zx9:(XX.fns.get 126).isSome=true:=Kq0
def Zdb(p0:(U Za))(ZiE:(Term->O Term))(Zl:((U Za)->O (U Za))):(U Za)×Int->((U Za)×Int->O (U Za))->O (U Za):=fun(v4,v11) ZxD=>
 (bif decide (v11<(p0.length:Int)) then(ZN p0 v11).bind fun KV=>(Zl KV.defs).bind fun x26=>(ZN KV.kids 0).bind fun x33=>(ZiE x33).bind fun x42=>(app 96 v4 ([(Za.mk KV.form KV.text KV.joins x26 [x42])])).bind fun z62=>ZxD (z62,YX (v11+1)) else some v4)
def Zcn(F:Nat)(ZiE:(Term->O Term)):(U Za)->((U Za)->O (U Za))->O (U Za):=fun p0 Zl=>
 loop F (Zdb p0 ZiE Zl) ([],0)
def Zt6(F:Nat)(ZiE:(Term->O Term))(p0:(U Za)):O (U Za):=
 loop F (Zcn F ZiE) p0
def Zjl(F:Nat)(p0:Term)(Zl:(Term->O Term))(x6:(U Za)):(U Term)×Int->((U Term)×Int->O Term)->O Term:=fun(v17,v24) ZxB=>
 (bif decide (v24<(p0.kids.length:Int)) then(ZN p0.kids v24).bind fun x27=>(Zl x27).bind fun x39=>(app 96 v17 [x39]).bind fun z53=>ZxB (z53,YX (v24+1)) else(Zng F [] (Term.mk p0.op p0.text p0.args x6 v17)).bind fun x58=>(Zzs F x58).bind fun x66=>some x66)
def Ze6(F:Nat):Term->(Term->O Term)->O Term:=fun p0 Zl=>
 (Zt6 F Zl p0.defs).bind fun x6=>loop F (Zjl F p0 Zl x6) ([],0)
def ZH5(F:Nat)(p0:Term):O Term:=
 loop F (Ze6 F) p0
def ZzP{F wm:Nat}{ZiE:(Term->O Term)}(Zym:∀(p0:Term)(r:Term),ZiE p0=some r->(∀{h:H}{Zf:O Addr}{Ze:Nat}{ZA:O Addr}{Zz:Nat}{Zw:O Addr}{Zv:Nat}(Zy:wm<=h.size)(Zt:Sl Zh wm h Zf Ze p0.args)(ZV:Sl Zc wm h ZA Zz p0.defs)(ZU:Sl Zm wm h Zw Zv p0.kids),WR XX 88 #[.agg #[V8 p0.op,.string p0.text,.slice Zf p0.args.length Ze,.slice ZA p0.defs.length Zz,.slice Zw p0.kids.length Zv]] wm h (CP (fun v (Gb:U (Ast wm))=>∃(Ym:O Addr) (Yl:Nat) (JA:O Addr) (Jy:Nat) (Jz:O Addr) (Jw:Nat),v=.agg #[V8 r.op,.string r.text,.slice Ym r.args.length Yl,.slice JA r.defs.length Jy,.slice Jz r.kids.length Jw]/\Gb=[Yi wm (YB Zh) (Ym,Yl) r.args,Yi wm (YB Zc) (JA,Jy) r.defs,Yi wm (YB Zm) (Jz,Jw) r.kids]) [] h))):∀(Fr:Nat)(p0:(U Za))(r:(U Za)),loop Fr (Zcn F ZiE) p0=some r->(∀{h:H}{Zf:O Addr}{Ze:Nat}(Zy:wm<=h.size)(Zt:Sl Zc wm h Zf Ze p0),WR XX 126 #[.slice Zf p0.length Ze] wm h (CP (fun v (Gb:U (Ast wm))=>∃(Ym:O Addr) (Yl:Nat),v=.slice Ym r.length Yl/\Gb=[Yi wm (YB Zc) (Ym,Yl) r]) [] h)):=by
 refine XU _ ?_;rintro Zl Xm p0 r hL h Zf Ze Zy Zt;refine WF.begin (args:=[_]) (fn:=Tryz.f126) Kq0 (by exact rfl) Tryz.ntmps126 (by simp) ?_;simp only[Zq,Zx,Nat.reduceAdd];obtain⟨T,hT,hS⟩:∃T,T=QF (wm:=wm) []/\Sp wm T h [] h:=⟨_,rfl,Sp.start Zy Yp.nil⟩
 refine WC.seq<|WC.region<|Vc (ZW (J2 rfl))<|WO.nil<|ZB.Yc<|WC.seq<|WC.region<|Vc (ZW (J2 rfl))<|WO.nil<|ZB.Yc<|WC.seq<|WC.seq<|WC.region<|Vc (ZO (Zj (Z8 rfl fh) rfl))<|Vc (Zaf Ur (Zj fh rfl) rfl)<|Vc (ZO (J2 rfl))<|WO.nil<|ZB.Yc<|WC.block ?_;have hS:=hS.nil (e:=Zc);refine WC.loop (WL.lift hL (fun(p:(U Za)×Int)(s:Fs)=>match p with | (v4,v11)=>∃(fr3:Fr) (h2:H) (a5:O Addr) (c6:Nat) (n7:Nat),s=⟨fr3,[],h2,none⟩/\Sp wm T h [ow wm Zc a5 n7 c6 v4] h2/\fr3.at 3=.slice a5 n7 c6/\fr3.at 6=.slice Zf p0.length Ze/\fr3.at 7= V8 (p0.length:Int)/\fr3.at 8= V8 v11) ⟨_,_,none,0,0,rfl,hS.only (.c k0 .n),(Z8 rfl (Zg rfl fh)),(Z8 rfl fh),(Zg rfl fh),fh⟩ ?_);rintro ZxD ⟨v4,v11⟩ s ZCO hL ⟨fr3,h2,a5,c6,n7,rfl,hS,e8,e9,e10,e12⟩;obtain rfl:=hS.on k0;refine WC.seq<|WC.region<|Vc (Y5 (Zj e12 rfl) (Zj e10 rfl) ZaR)<|WO.nil<|ZB.Yc<|WC.seq<|WC.Uc (Zj fh rfl) (fun hc=>?_) (fun hc=>?_)
 ·replace hL:=Xp hc hL;refine WC.skip<|ZB.Yc<|WC.seq<|WC.block<|WC.seq<|WC.region ?_;obtain⟨KV,ZKV,hL⟩:=bS hL;obtain⟨b15,o16,⟨⟨a17,c18⟩,⟨a19,c20⟩,⟨a21,c22⟩⟩,ZL6,ZMM,ZMt,ZpA⟩:=Sl.at_ Zt ZKV;replace ZpA:=Z6.1 ZpA;refine Vc (Yf Ur Yv (Zj (Zg rfl e9) rfl) (Zj (Zg rfl e12) rfl) rfl ZL6 ZKV) ?_;have ZLk:Sl Yj wm h a17 c18 KV.joins:=ZpA.1;have Zyg:Sl Zc wm h a19 c20 KV.defs:=ZpA.2.1;have ZlH:Sl Zm wm h a21 c22 KV.kids:=ZpA.2.2;refine Vc (Yx JN Yv (Zj fh rfl) (At.fz hS.fz ZMt ZMM) (j:=0) rfl rfl (ws:=[V8 KV.form,.string KV.text,.slice a17 KV.joins.length c18,.slice a19 KV.defs.length c20,.slice a21 KV.kids.length c22]) rfl)<|Ve (U3 hS UE (vs:=[V8 0,.string (⟨#[]⟩:Y),V7,V7,V7]) rfl) ?_;rintro _ h24 ⟨b23,ZQ0,rfl,hS⟩;refine WO.hu gN (JO hS k0 Yv (Zj fh rfl) (Zj (Zg rfl fh) rfl) (vs:=[V8 KV.form,.string KV.text,.slice a17 KV.joins.length c18,.slice a19 KV.defs.length c20,.slice a21 KV.kids.length c22]) rfl rfl rfl rfl (cs':=[V8 KV.form,.string KV.text,.slice a17 KV.joins.length c18,.slice a19 KV.defs.length c20,.slice a21 KV.kids.length c22]) rfl) ?_;rintro h25 hS;refine WO.nil<|ZB.Yc<|WC.seq<|WC.region<|Vc (YI Zjj (Zj fh rfl))<|Vc (Yt Zme (Zj fh rfl) (hS.Jp k0) (j:=3) rfl (v:=.slice a19 KV.defs.length c20) rfl) ?_;obtain⟨x26,Zvr,hL⟩:=bS hL;refine Vd (Yo.fn Zx9 (Zb (Zj fh rfl) Zd)) hS .n (fun g' hz hf hO=>(Xm _ _ Zvr) (hS.Vg hz) ((hS.sl Zyg).mono hf)) ?_;rintro _ h30 _ ⟨a27,c29,rfl,rfl⟩ hS;refine Vc (YI Zjj (Zj (Z8 rfl (Zg rfl fh)) rfl))<|WO.hu gN (JO hS k1 Zrk (Zj fh rfl) (Zj (Zg rfl fh) rfl) (vs:=[.slice a27 x26.length c29]) rfl rfl rfl rfl (cs':=[V8 KV.form,.string KV.text,.slice a17 KV.joins.length c18,.slice a27 x26.length c29,.slice a21 KV.kids.length c22]) rfl) ?_;rintro h32 hS;refine WO.nil<|ZB.Yc<|WC.seq<|WC.region<|Vc (YI ZaM (Zj (YC rfl fh) rfl))<|Vc (Yt ZfE (Zj fh rfl) (hS.Jp k0) (j:=4) rfl (v:=.slice a21 KV.kids.length c22) rfl) ?_;obtain⟨x33,Zvq,hL⟩:=bS hL;obtain⟨b34,o35,⟨⟨a36,c37⟩,⟨a38,c39⟩,⟨a40,c41⟩⟩,ZLX,ZMD,ZMj,Zpw⟩:=Sl.at_ ZlH Zvq;replace Zpw:=Xd.1 Zpw;refine Vc (Yf Q9 Yd (Zj fh rfl) (J2 rfl) rfl ZLX Zvq) ?_;have Zyc:Sl Zh wm h a36 c37 x33.args:=Zpw.1;have Zyb:Sl Zc wm h a38 c39 x33.defs:=Zpw.2.1;have ZLd:Sl Zm wm h a40 c41 x33.kids:=Zpw.2.2;refine Vc (Yx Qx Yd (Zj fh rfl) (At.fz hS.fz ZMj ZMD) (j:=0) rfl rfl (ws:=[V8 x33.op,.string x33.text,.slice a36 x33.args.length c37,.slice a38 x33.defs.length c39,.slice a40 x33.kids.length c41]) rfl) ?_;obtain⟨x42,ZPK,hL⟩:=bS hL;refine Vd (Yo.fn ZE7 (Zb (Zj fh rfl) Zd)) hS .n (fun g' hz hf hO=>(Zym _ _ ZPK) (hS.Vg hz) ((hS.sl Zyc).mono hf) ((hS.sl Zyb).mono hf) ((hS.sl ZLd).mono hf)) ?_;rintro _ h52 _ ⟨a43,c45,a46,c48,a49,c51,rfl,rfl⟩ hS;refine Ve (KI (e:=Zm) hS Q9 Yd WH rfl rfl rfl (ZF (Zj fh rfl) Z5) rfl [(((a43,c45),(a46,c48),(a49,c51)),x42)] rfl (xs:=[x42]) rfl (by intro q hq;simp only[Kx,Gc,or_false]at hq;subst hq;exact(Xd.2 ⟨(hS.Uo k0),(hS.Uo k1),(hS.Uo k2)⟩)) rfl) ?_;rintro _ h55 ⟨b54,ZVX,rfl,hS⟩;refine Vc (YI ZaM (Zj (YJ rfl (Z8 rfl fh)) rfl))<|WO.hu gN (JO hS k4 Zie (Zj fh rfl) (Zj (Zg rfl fh) rfl) (vs:=[.slice (some ⟨b54,0,none⟩) 1 2]) rfl rfl rfl rfl (cs':=[V8 KV.form,.string KV.text,.slice a17 KV.joins.length c18,.slice a27 x26.length c29,.slice (some ⟨b54,0,none⟩) 1 2]) rfl) ?_;rintro h56 hS;refine WO.nil<|ZB.Yc<|WC.region<|Vc (ZO (Zj (YJ rfl (YC rfl (Z8 rfl (Zg rfl e8)))) rfl))<|Vc (Yx JN Yv (Zj (YJ rfl (YC rfl fh)) rfl) (hS.Jp k0) (j:=0) rfl rfl (ws:=[V8 KV.form,.string KV.text,.slice a17 KV.joins.length c18,.slice a27 x26.length c29,.slice (some ⟨b54,0,none⟩) 1 2]) rfl) ?_;have ZLw:=hS.on k1;rw[ZLw]at hS
  try rw[ZLw]
  refine WO.fzn hS k1 ?_;rintro h58 ⟨ZUp,hS⟩;refine Ve (KI (e:=Zc) hS Ur Yv UE rfl rfl rfl (ZF (Zj fh rfl) Z5) rfl [(((a17,c18),(a27,c29),((some ⟨b54,0,none⟩),2)),(Za.mk KV.form KV.text KV.joins x26 [x42]))] rfl (xs:=[(Za.mk KV.form KV.text KV.joins x26 [x42])]) rfl (by intro q hq;simp only[Kx,Gc,or_false]at hq;subst hq;exact(Z6.2 ⟨(hS.sl ZLk),(hS.Uo k5),(hS.Uo k0)⟩)) rfl) ?_;rintro _ h61 ⟨b60,ZVV,rfl,hS⟩;obtain⟨z62,ZPt,hL⟩:=bS hL;refine WO.hv gN rfl (Zak (e:=Zc) hS k7 Zcy (Zj (Z8 rfl fh) rfl) (Zj fh rfl) (hS.U8 k0) (hS.on k0) ZPt) ?_;rintro _ h65 ⟨a63,c64,rfl,hS⟩;exact Vc (ZW (Zj fh rfl))<|WO.nil<|Yy.Yc<|ZB.Yc<|WC.region<|Vc (Y5 (Zj (YJ rfl (YJ rfl (YC rfl e12))) rfl) (J2 rfl) UB)<|Vc (ZO (Zj fh rfl))<|WO.nil<|Ya.Yc (ZCO _ _ hL ⟨_,_,a63,c64,z62.length,rfl,hS.only (.c k0 .n),(Z8 rfl fh),(YJ rfl (YJ rfl (YC rfl (Z8 rfl e9)))),(YJ rfl (YJ rfl (YC rfl (Z8 rfl e10)))),fh⟩)
 ·replace hL:=Xq hc hL;refine WC.exit<|ZB.exit<|Ya.exit<|Yy.here<|ZB.Yc<|WC.seq<|WC.region<|Vc (ZO (Zj (Zg rfl e8) rfl))<|Vc (ZW (Zj fh rfl))<|WO.nil<|ZB.Yc<|WC.fzn hS k0 ?_;rintro h66 ⟨ZUm,hS⟩;refine WC.ret ?_;have hr:=Oi0 hL;subst hr;exact Y0.Jb rfl (ZG (Zj fh rfl) Zk) ⟨_,⟨a5,c6,rfl,rfl⟩,hT▸hS.only (.c k0 .n)⟩
def ZDu{F wm:Nat}{ZiE:(Term->O Term)}(Zym:∀(p0:Term)(r:Term),ZiE p0=some r->(∀{h:H}{Zf:O Addr}{Ze:Nat}{ZA:O Addr}{Zz:Nat}{Zw:O Addr}{Zv:Nat}(Zy:wm<=h.size)(Zt:Sl Zh wm h Zf Ze p0.args)(ZV:Sl Zc wm h ZA Zz p0.defs)(ZU:Sl Zm wm h Zw Zv p0.kids),WR XX 88 #[.agg #[V8 p0.op,.string p0.text,.slice Zf p0.args.length Ze,.slice ZA p0.defs.length Zz,.slice Zw p0.kids.length Zv]] wm h (CP (fun v (Gb:U (Ast wm))=>∃(Ym:O Addr) (Yl:Nat) (JA:O Addr) (Jy:Nat) (Jz:O Addr) (Jw:Nat),v=.agg #[V8 r.op,.string r.text,.slice Ym r.args.length Yl,.slice JA r.defs.length Jy,.slice Jz r.kids.length Jw]/\Gb=[Yi wm (YB Zh) (Ym,Yl) r.args,Yi wm (YB Zc) (JA,Jy) r.defs,Yi wm (YB Zm) (Jz,Jw) r.kids]) [] h))){h:H}{p0:(U Za)}{Zf:O Addr}{Ze:Nat}{r:(U Za)}(Zy:wm<=h.size)(Zt:Sl Zc wm h Zf Ze p0)(hL:Zt6 F ZiE p0=some r):
 WR XX 126 #[.slice Zf p0.length Ze] wm h (CP (fun v (Gb:U (Ast wm))=>∃(Ym:O Addr) (Yl:Nat),v=.slice Ym r.length Yl/\Gb=[Yi wm (YB Zc) (Ym,Yl) r]) [] h):=
 ZzP Zym F p0 r hL Zy Zt
def ZDd{F wm:Nat}:∀(Fr:Nat)(p0:Term)(r:Term),loop Fr (Ze6 F) p0=some r->(∀{h:H}{Zf:O Addr}{Ze:Nat}{ZA:O Addr}{Zz:Nat}{Zw:O Addr}{Zv:Nat}(Zy:wm<=h.size)(Zt:Sl Zh wm h Zf Ze p0.args)(ZV:Sl Zc wm h ZA Zz p0.defs)(ZU:Sl Zm wm h Zw Zv p0.kids),WR XX 88 #[.agg #[V8 p0.op,.string p0.text,.slice Zf p0.args.length Ze,.slice ZA p0.defs.length Zz,.slice Zw p0.kids.length Zv]] wm h (CP (fun v (Gb:U (Ast wm))=>∃(Ym:O Addr) (Yl:Nat) (JA:O Addr) (Jy:Nat) (Jz:O Addr) (Jw:Nat),v=.agg #[V8 r.op,.string r.text,.slice Ym r.args.length Yl,.slice JA r.defs.length Jy,.slice Jz r.kids.length Jw]/\Gb=[Yi wm (YB Zh) (Ym,Yl) r.args,Yi wm (YB Zc) (JA,Jy) r.defs,Yi wm (YB Zm) (Jz,Jw) r.kids]) [] h)):=by
 refine XU _ ?_;rintro Zl Xm p0 r hL h Zf Ze ZA Zz Zw Zv Zy Zt ZV ZU;refine WF.begin (args:=[_]) (fn:=Tryz.f88) Kq0 (by exact rfl) Tryz.ntmps88 (by simp) ?_;simp only[Zq,Zx,Nat.reduceAdd];obtain⟨T,hT,hS⟩:∃T,T=QF (wm:=wm) []/\Sp wm T h [] h:=⟨_,rfl,Sp.start Zy Yp.nil⟩
 refine WC.seq<|WC.region<|Ve (ZgR hS (Zj fh rfl) (vs:=[V8 p0.op,.string p0.text,.slice Zf p0.args.length Ze,.slice ZA p0.defs.length Zz,.slice Zw p0.kids.length Zv]) rfl) ?_;rintro _ h3 ⟨b2,eb2,rfl,hS⟩;refine Ve (U3 hS WH (vs:=[V8 0,.string (⟨#[]⟩:Y),V7,V7,V7]) rfl) ?_;rintro _ h5 ⟨b4,eb4,rfl,hS⟩;refine WO.nil<|ZB.Yc<|WC.seq<|WC.region<|Vc (YI Zc6 (Zj (Zg rfl fh) rfl))<|Vc (Yt Zme (Zj fh rfl) (hS.Jp k1) (j:=3) rfl (v:=.slice ZA p0.defs.length Zz) rfl) ?_;obtain⟨x6,hx6,hL⟩:=bS hL;refine Vd (Yo.fn Zx9 (Zb (Zj fh rfl) Zd)) hS .n (fun g' hz hf hO=>(ZDu Xm) (hS.Vg hz) ((hS.sl ZV).mono hf) hx6) ?_;rintro _ h10 _ ⟨a7,c9,rfl,rfl⟩ hS;refine Vc (YI Zc6 (Zj (YC rfl fh) rfl))<|WO.hu gN (JO hS k2 Zrk (Zj fh rfl) (Zj (Zg rfl fh) rfl) (vs:=[.slice a7 x6.length c9]) rfl rfl rfl rfl (cs':=[V8 p0.op,.string p0.text,.slice Zf p0.args.length Ze,.slice a7 x6.length c9,.slice Zw p0.kids.length Zv]) rfl) ?_;rintro h12 hS;refine WO.nil<|ZB.Yc<|WC.seq<|WC.region<|Vc (ZW (J2 rfl))<|WO.nil<|ZB.Yc<|WC.seq<|WC.seq<|WC.region<|Vc (YI Zbe (Zj (YC rfl (Z8 rfl fh)) rfl))<|Vc (Yt ZfE (Zj fh rfl) (hS.Jp k0) (j:=4) rfl (v:=.slice Zw p0.kids.length Zv) rfl)<|Vc (Zaf Q9 (Zj fh rfl) rfl)<|Vc (ZO (J2 rfl))<|WO.nil<|ZB.Yc<|WC.block ?_;have hS:=hS.nil (e:=Zm);refine WC.loop (WL.lift hL (fun(p:(U Term)×Int)(s:Fs)=>match p with | (v17,v24)=>∃(ZpF:Fr) (h13:H) (a18:O Addr) (c19:Nat) (n20:Nat),s=⟨ZpF,[],h13,none⟩/\Sp wm T h [ow wm Zm a18 n20 c19 v17,bx wm b2 [V8 p0.op,.string p0.text,.slice Zf p0.args.length Ze,.slice a7 x6.length c9,.slice Zw p0.kids.length Zv],bx wm b4 [V8 0,.string (⟨#[]⟩:Y),V7,V7,V7],Yi wm (YB Zc) (a7,c9) x6] h13/\ZpF.at 1=(V9 b2)/\ZpF.at 2=(V9 b4)/\ZpF.at 3=.slice a18 n20 c19/\ZpF.at 11=.slice Zw p0.kids.length Zv/\ZpF.at 12= V8 (p0.kids.length:Int)/\ZpF.at 13= V8 v24) ⟨_,_,none,0,0,rfl,hS.only (.c k0 (.c k0 (.c k1 (.c k0 .n)))),(YJ rfl (Z8 rfl fh)),(YJ rfl (Zg rfl fh)),(YC rfl fh),(Z8 rfl fh),(Zg rfl fh),fh⟩ ?_);rintro ZxB ⟨v17,v24⟩ s ZCL hL ⟨ZpF,h13,a18,c19,n20,rfl,hS,e15,e16,e21,e22,e23,e25⟩;obtain rfl:=hS.on k0;refine WC.seq<|WC.region<|Vc (Y5 (Zj e25 rfl) (Zj e23 rfl) ZaR)<|WO.nil<|ZB.Yc<|WC.seq<|WC.Uc (Zj fh rfl) (fun hc=>?_) (fun hc=>?_)
 ·replace hL:=Xp hc hL;refine WC.skip<|ZB.Yc<|WC.seq<|WC.block<|WC.seq<|WC.region ?_;obtain⟨x27,hx27,hL⟩:=bS hL;obtain⟨b28,o29,⟨⟨a30,c31⟩,⟨a32,c33⟩,⟨a34,c35⟩⟩,ZL0,ZMG,ZMm,Zpy⟩:=Sl.at_ ZU hx27;replace Zpy:=Xd.1 Zpy;refine Vc (Yf Q9 Yd (Zj (Zg rfl e22) rfl) (Zj (Zg rfl e25) rfl) rfl ZL0 hx27) ?_;have ZLg:Sl Zh wm h a30 c31 x27.args:=Zpy.1;have ZLe:Sl Zc wm h a32 c33 x27.defs:=Zpy.2.1;have Zyd:Sl Zm wm h a34 c35 x27.kids:=Zpy.2.2;refine Vc (Yx Qx Yd (Zj fh rfl) (At.fz hS.fz ZMm ZMG) (j:=0) rfl rfl (ws:=[V8 x27.op,.string x27.text,.slice a30 x27.args.length c31,.slice a32 x27.defs.length c33,.slice a34 x27.kids.length c35]) rfl)<|Ve (U3 hS WH (vs:=[V8 0,.string (⟨#[]⟩:Y),V7,V7,V7]) rfl) ?_;rintro _ h37 ⟨b36,Zz3,rfl,hS⟩;refine WO.hu gN (JO hS k0 Yd (Zj fh rfl) (Zj (Zg rfl fh) rfl) (vs:=[V8 x27.op,.string x27.text,.slice a30 x27.args.length c31,.slice a32 x27.defs.length c33,.slice a34 x27.kids.length c35]) rfl rfl rfl rfl (cs':=[V8 x27.op,.string x27.text,.slice a30 x27.args.length c31,.slice a32 x27.defs.length c33,.slice a34 x27.kids.length c35]) rfl) ?_;rintro h38 hS;refine WO.nil<|ZB.Yc<|WC.region<|Vc (ZO (Zj (YC rfl e21) rfl))<|Vc (Yx Qx Yd (Zj (Zg rfl fh) rfl) (hS.Jp k0) (j:=0) rfl rfl (ws:=[V8 x27.op,.string x27.text,.slice a30 x27.args.length c31,.slice a32 x27.defs.length c33,.slice a34 x27.kids.length c35]) rfl) ?_;obtain⟨x39,hx39,hL⟩:=bS hL;refine Vd (Yo.fn ZE7 (Zb (Zj fh rfl) Zd)) hS .n (fun g' hz hf hO=>(Xm _ _ hx39) (hS.Vg hz) ((hS.sl ZLg).mono hf) ((hS.sl ZLe).mono hf) ((hS.sl Zyd).mono hf)) ?_;rintro _ h49 _ ⟨a40,c42,a43,c45,a46,c48,rfl,rfl⟩ hS;refine Ve (KI (e:=Zm) hS Q9 Yd WH rfl rfl rfl (ZF (Zj fh rfl) Z5) rfl [(((a40,c42),(a43,c45),(a46,c48)),x39)] rfl (xs:=[x39]) rfl (by intro q hq;simp only[Kx,Gc,or_false]at hq;subst hq;exact(Xd.2 ⟨(hS.Uo k0),(hS.Uo k1),(hS.Uo k2)⟩)) rfl) ?_;rintro _ h52 ⟨b51,ZVZ,rfl,hS⟩;obtain⟨z53,ZPu,hL⟩:=bS hL;refine WO.hv gN rfl (Zak (e:=Zm) hS k5 Zko (Zj (Z8 rfl (Zg rfl fh)) rfl) (Zj fh rfl) (hS.U8 k0) (hS.on k0) ZPu) ?_;rintro _ h56 ⟨a54,c55,rfl,hS⟩;exact Vc (ZW (Zj fh rfl))<|WO.nil<|Yy.Yc<|ZB.Yc<|WC.region<|Vc (Y5 (Zj (YJ rfl (Z8 rfl e25)) rfl) (J2 rfl) UB)<|Vc (ZO (Zj fh rfl))<|WO.nil<|Ya.Yc (ZCL _ _ hL ⟨_,_,a54,c55,z53.length,rfl,hS.only (.c k0 (.c k5 (.c k5 (.c k5 .n)))),(YJ rfl (YC rfl e15)),(YJ rfl (YC rfl e16)),(Z8 rfl fh),(YJ rfl (YC rfl e22)),(YJ rfl (YC rfl e23)),fh⟩)
 ·replace hL:=Xq hc hL;refine WC.exit<|ZB.exit<|Ya.exit<|Yy.here<|ZB.Yc<|WC.seq<|WC.region<|Vc (ZO (Zj (Zg rfl e21) rfl))<|Vc (YI Zbe (Zj (Z8 rfl e15) rfl))<|WO.hu gN (JO hS k1 Zie (Zj fh rfl) (Zj (Zg rfl fh) rfl) (vs:=[.slice a18 v17.length c19]) rfl rfl rfl rfl (cs':=[V8 p0.op,.string p0.text,.slice Zf p0.args.length Ze,.slice a7 x6.length c9,.slice a18 v17.length c19]) rfl) ?_;rintro h57 hS;refine WO.nil<|ZB.Yc<|WC.seq<|WC.region<|Vc (Yx Qx Yd (Zj (Z8 rfl (Zg rfl e15)) rfl) (hS.Jp k0) (j:=0) rfl rfl (ws:=[V8 p0.op,.string p0.text,.slice Zf p0.args.length Ze,.slice a7 x6.length c9,.slice a18 v17.length c19]) rfl) ?_;obtain⟨x58,ZG4,hL⟩:=bS hL;have hS:=hS.nil (e:=Zm);refine WO.fzn hS k2 ?_;rintro h59 ⟨ZUo,hS⟩;refine Vd (Yo.fn ZtL (Zb (J2 rfl) (Zb (Zj fh rfl) Zd))) hS (.c k1 .n) (fun g' hz hf hO=>Zzt (p1:=(Term.mk p0.op p0.text p0.args x6 v17)) (hS.Vg hz) ((hS.sl Zt).mono hf) ((hS.Uo k4).mono hf) ((hS.Uo k0).mono hf) hO ZG4) ?_;rintro _ h64 _ ⟨a61,n62,c63,rfl,rfl⟩ hS;obtain rfl:=hS.on k0;obtain⟨x66,Zvn,hL⟩:=bS hL;refine WO.clR gN rfl (Yo.fn ZE6 (Zb (Zj fh rfl) Zd)) hS.hw (ZH1 (m:=wm) hS.hw (hS.get k0).2 Zvn) ?_;rintro _ h78 _ ⟨a69,c71,a72,c74,a75,c77,rfl,rfl⟩ hC;have hS:=hS.clR hC (.c (ZIA hS.hw) (.c (ZIA hS.hw) (.c (ZIA hS.hw) .n)));refine WO.hu gN (JO hS k6 Yd (Zj (YC rfl (Z8 rfl e16)) rfl) (Zj fh rfl) (vs:=[V8 x66.op,.string x66.text,.slice a69 x66.args.length c71,.slice a72 x66.defs.length c74,.slice a75 x66.kids.length c77]) rfl rfl rfl rfl (cs':=[V8 x66.op,.string x66.text,.slice a69 x66.args.length c71,.slice a72 x66.defs.length c74,.slice a75 x66.kids.length c77]) rfl) ?_;rintro h80 hS;refine WO.nil<|ZB.Yc<|WC.ret ?_;have hr:=Oi0 hL;subst hr;exact Y0.Jb rfl (YP (YC rfl (Z8 rfl e16)) (Xc Qx Yd (hS.Jp k0) (j:=0) rfl rfl (ws:=[V8 x66.op,.string x66.text,.slice a69 x66.args.length c71,.slice a72 x66.defs.length c74,.slice a75 x66.kids.length c77]) rfl) Zk) ⟨_,⟨a69,c71,a72,c74,a75,c77,rfl,rfl⟩,hT▸hS.only (.c k1 (.c k1 (.c k1 .n)))⟩
def ZH3{F wm:Nat}{h:H}{p0:Term}{Zf:O Addr}{Ze:Nat}{ZA:O Addr}{Zz:Nat}{Zw:O Addr}{Zv:Nat}{r:Term}(Zy:wm<=h.size)(Zt:Sl Zh wm h Zf Ze p0.args)(ZV:Sl Zc wm h ZA Zz p0.defs)(ZU:Sl Zm wm h Zw Zv p0.kids)(hL:ZH5 F p0=some r):
 WR XX 88 #[.agg #[V8 p0.op,.string p0.text,.slice Zf p0.args.length Ze,.slice ZA p0.defs.length Zz,.slice Zw p0.kids.length Zv]] wm h (CP (fun v (Gb:U (Ast wm))=>∃(Ym:O Addr) (Yl:Nat) (JA:O Addr) (Jy:Nat) (Jz:O Addr) (Jw:Nat),v=.agg #[V8 r.op,.string r.text,.slice Ym r.args.length Yl,.slice JA r.defs.length Jy,.slice Jz r.kids.length Jw]/\Gb=[Yi wm (YB Zh) (Ym,Yl) r.args,Yi wm (YB Zc) (JA,Jy) r.defs,Yi wm (YB Zm) (Jz,Jw) r.kids]) [] h):=
 ZDd F p0 r hL Zy Zt ZV ZU
end
section
def Znp(F:Nat)(p0:Term):O (Term×Int):=
 (ZjJ F p0).bind fun x5=>(bif(x5 !=0) then some ((Term.mk 0 (⟨#[]⟩:Y) [] [] []),x5) else(ZH5 F p0).bind fun x7=>(ZjJ F x7).bind fun KT=>(bif(KT !=0) then some ((Term.mk 0 (⟨#[]⟩:Y) [] [] []),3) else(ZvF F x7).bind fun x24=>some (x24,0)))
end
section
def Zsg{F wm h}{p0:Term}{Zf Ze ZA Zz Zw Zv}{r}(Zy:wm<=h.size)(Zt:Sl Zh wm h Zf Ze p0.args)(ZV:Sl Zc wm h ZA Zz p0.defs)(ZU:Sl Zm wm h Zw Zv p0.kids)(hL:Znp F p0=some r):
 WR XX 38 #[.agg #[V8 p0.op,.string p0.text,.slice Zf p0.args.length Ze,.slice ZA p0.defs.length Zz,.slice Zw p0.kids.length Zv]] wm h (CP (fun v (Gb:U (Ast wm))=>∃Ym Yl JA Jy Jz Jw,v=.tuple #[.agg #[V8 r.1.op,.string r.1.text,.slice Ym r.1.args.length Yl,.slice JA r.1.defs.length Jy,.slice Jz r.1.kids.length Jw],V8 r.2]/\Gb=[Yi wm (YB Zh) (Ym,Yl) r.1.args,Yi wm (YB Zc) (JA,Jy) r.1.defs,Yi wm (YB Zm) (Jz,Jw) r.1.kids]) [] h):=by
 refine bg Tryz.ntmps38 Zy Yp.nil ?_;intro T hT hS;unfold Znp at hL;refine r3 ?_;rintro _ h2 ⟨b1,eb1,rfl,hS⟩;refine r1 ?_;rintro _ h4 ⟨b3,eb3,rfl,hS⟩;refine r7 ?_;obtain⟨x5,hx5,hL⟩:=bS hL;refine WO.cp gN rfl (Yo.fn ZtN (Zb lk Zd)) (ZjI (hS.slu Zt) (hS.slu ZV) (hS.slu ZU) hx5)<|r9 ?_;refine cn hL ?_ ?_
 ·intro hc hL;refine r2 ?_;refine Vc (XL Zl9 Z5 rfl (cs':=[V8 0,.string (⟨#[]⟩:Y),V7,V7,V7]) rfl)<|r2 ?_;rintro h6 hS;refine r5 ?_;have hS:=hS.add (A:=Yi wm (YB Zh) (none,0) []) Sl.nil (fun _ z=>z);have hS:=hS.add (A:=Yi wm (YB Zc) (none,0) []) Sl.nil (fun _ z=>z);have hS:=hS.add (A:=Yi wm (YB Zm) (none,0) []) Sl.nil (fun _ z=>z);have hr:=Oi0 hL;subst hr;exact Y0.gen (vs:=[.agg #[V8 0,.string (⟨#[]⟩:Y),V7,V7,V7],V8 x5]) rfl (YP (YJ rfl (Zg rfl fh)) (Xc Qx Yd (hS.Jp k3) (j:=0) rfl rfl (ws:=[V8 0,.string (⟨#[]⟩:Y),V7,V7,V7]) rfl) (ZG lk Zk)) rfl ⟨_,⟨none,0,none,0,none,0,rfl,rfl⟩,hT▸hS.only (.c k2 (.c k1 (.c k0 .n)))⟩
 ·intro hc hL;refine r5 ?_;obtain⟨x7,hx7,hL⟩:=bS hL;refine Vd (Yo.fn ZLM (Zb lk Zd)) hS .n (fun g' hz hf hO=>ZH3 (hS.Vg hz) ((hS.sl Zt).mono hf) ((hS.sl ZV).mono hf) ((hS.sl ZU).mono hf) hx7) ?_;rintro _ h17 _ ⟨a8,c10,a11,c13,a14,c16,rfl,rfl⟩ hS;refine r1 ?_;rintro _ h20 ⟨b19,ZQ2,rfl,hS⟩;refine r1 ?_;rintro h21 hS;refine r6 ?_;obtain⟨KT,Zf5,hL⟩:=bS hL;refine WO.cp gN rfl (Yo.fn ZtN (Zb lk Zd)) (ZjI (hS.ZbE k1) (hS.ZbE k2) (hS.ZbE k3) Zf5)<|r3 ?_;refine cn hL ?_ ?_
  ·intro hc hL;refine r2 ?_;refine Vc (XL Zl9 Z5 rfl (cs':=[V8 0,.string (⟨#[]⟩:Y),V7,V7,V7]) rfl)<|r1 ?_;rintro h23 hS;refine r5 ?_;have hS:=hS.add (A:=Yi wm (YB Zh) (none,0) []) Sl.nil (fun _ z=>z);have hS:=hS.add (A:=Yi wm (YB Zc) (none,0) []) Sl.nil (fun _ z=>z);have hS:=hS.add (A:=Yi wm (YB Zm) (none,0) []) Sl.nil (fun _ z=>z);have hr:=Oi0 hL;subst hr;exact Y0.gen (vs:=[.agg #[V8 0,.string (⟨#[]⟩:Y),V7,V7,V7],V8 3]) rfl (YP (YJ rfl (YC rfl (Z8 rfl fh))) (Xc Qx Yd (hS.Jp k3) (j:=0) rfl rfl (ws:=[V8 0,.string (⟨#[]⟩:Y),V7,V7,V7]) rfl) (ZG lk Zk)) rfl ⟨_,⟨none,0,none,0,none,0,rfl,rfl⟩,hT▸hS.only (.c k2 (.c k1 (.c k0 .n)))⟩
  ·intro hc hL;refine r5 ?_;obtain⟨x24,hx24,hL⟩:=bS hL;refine Vd (Yo.fn ZFg (Zb lk Zd)) hS .n (fun g' hz hf hO=>Zzx (hS.Vg hz) ((hS.Uo k1).mono hf) ((hS.Uo k2).mono hf) ((hS.Uo k3).mono hf) hx24) ?_;rintro _ h34 _ ⟨a25,c27,a28,c30,a31,c33,rfl,rfl⟩ hS;refine r1 ?_;rintro h36 hS;refine r4 ?_;have hr:=Oi0 hL;subst hr;exact Y0.gen (vs:=[.agg #[V8 x24.op,.string x24.text,.slice a25 x24.args.length c27,.slice a28 x24.defs.length c30,.slice a31 x24.kids.length c33],V8 0]) rfl (YP (YJ rfl (YC rfl (Z8 rfl (Zg rfl fh)))) (Xc Qx Yd (hS.Jp k0) (j:=0) rfl rfl (ws:=[V8 x24.op,.string x24.text,.slice a25 x24.args.length c27,.slice a28 x24.defs.length c30,.slice a31 x24.kids.length c33]) rfl) (ZG lk Zk)) rfl ⟨_,⟨a25,c27,a28,c30,a31,c33,rfl,rfl⟩,hT▸hS.only (.c k1 (.c k1 (.c k1 .n)))⟩
end
section
def ZvI(F:Nat)(p0:Term):O Z:=
 (ZvJ F p0 (Term.mk 0 (⟨#[]⟩:Y) [] [] [])).bind fun x3=>some x3
end
section
def ZIf{F wm:Nat}{h:H}{p0:Term}{Zf:O Addr}{Ze:Nat}{ZA:O Addr}{Zz:Nat}{Zw:O Addr}{Zv:Nat}{r:Z}(Zy:wm<=h.size)(Zt:Sl Zh wm h Zf Ze p0.args)(ZV:Sl Zc wm h ZA Zz p0.defs)(ZU:Sl Zm wm h Zw Zv p0.kids)(hL:ZvI F p0=some r):
 WR XX 35 #[.agg #[V8 p0.op,.string p0.text,.slice Zf p0.args.length Ze,.slice ZA p0.defs.length Zz,.slice Zw p0.kids.length Zv]] wm h (CP (fun v (Gb:U (Ast wm))=>v=.bool r/\Gb=[]) [] h):=by
 refine WF.begin (args:=[_]) (fn:=Tryz.f35) Kq0 (by exact rfl) Tryz.ntmps35 (by simp) ?_;simp only[Zq,Zx,Nat.reduceAdd];obtain⟨T,hT,hS⟩:∃T,T=QF (wm:=wm) []/\Sp wm T h [] h:=⟨_,rfl,Sp.start Zy Yp.nil⟩
 unfold ZvI at hL;refine WC.seq<|WC.region<|Ve (ZgR hS (Zj fh rfl) (vs:=[V8 p0.op,.string p0.text,.slice Zf p0.args.length Ze,.slice ZA p0.defs.length Zz,.slice Zw p0.kids.length Zv]) rfl) ?_;rintro _ h2 ⟨b1,eb1,rfl,hS⟩;refine Vc (ZW (J2 rfl))<|WO.nil<|ZB.Yc<|WC.seq<|WC.region<|Vc (Yx Qx Yd (Zj (Zg rfl fh) rfl) (hS.Jp k0) (j:=0) rfl rfl (ws:=[V8 p0.op,.string p0.text,.slice Zf p0.args.length Ze,.slice ZA p0.defs.length Zz,.slice Zw p0.kids.length Zv]) rfl)<|Vc (XL Zl9 Z5 rfl (cs':=[V8 0,.string (⟨#[]⟩:Y),V7,V7,V7]) rfl) ?_;obtain⟨x3,hx3,hL⟩:=bS hL;refine WO.cp gN rfl (Yo.fn ZtM (Zb (Zj (Zg rfl fh) rfl) (Zb (Zj fh rfl) Zd))) (Zsh (p1:=(Term.mk 0 (⟨#[]⟩:Y) [] [] [])) (hS.slu Zt) (hS.slu ZV) (hS.slu ZU) Sl.nil Sl.nil Sl.nil hx3)<|Vc (ZW (Zj fh rfl))<|WO.nil<|ZB.Yc<|WC.ret ?_;have hr:=Oi0 hL;subst hr;exact Y0.Jb rfl (ZG (Zj fh rfl) Zk) ⟨_,⟨rfl,rfl⟩,hT▸hS.only .n⟩
def ZIg{F:Nat}{h:H}{p0:Term}{Zf:O Addr}{Ze:Nat}{ZA:O Addr}{Zz:Nat}{Zw:O Addr}{Zv:Nat}{r:Z}(Zt:Sl Zh h.size h Zf Ze p0.args)(ZV:Sl Zc h.size h ZA Zz p0.defs)(ZU:Sl Zm h.size h Zw Zv p0.kids)(hL:ZvI F p0=some r):Pure XX 35 #[.agg #[V8 p0.op,.string p0.text,.slice Zf p0.args.length Ze,.slice ZA p0.defs.length Zz,.slice Zw p0.kids.length Zv]] h (.bool r):=
 WR.ZeE rfl (ZIf Vb Zt ZV ZU hL)
end
section
def ZtV(F:Nat)(x51:((U Term)×Int))(x57:((U Term)×Int)):Int->(Int->O Z)->O Z:=fun v67 Zxv=>
 (bif decide (v67<(x51.1.length:Int)) then(ZN x51.1 v67).bind fun x70=>(Znp F x70).bind fun x79=>(gd (!(x79.2 !=0)) (ZN x57.1 v67) default).bind fun x94=>(gd (!(x79.2 !=0)) (ZvJ F x79.1 x94) default).bind fun x103=>(bif((x79.2 !=0)||(!x103)) then some false else Zxv (YX (v67+1))) else(ZIm).bind fun x104=>some x104)
def f8L(F:Nat)(p0:Term):O Z:=
 (Znp F p0).bind fun x3=>(bif(x3.2 !=0) then(ZvI F x3.1).bind fun x18=>(gd x18 (ZIm) default).bind fun x19=>some (x18&&x19) else(Znp F x3.1).bind fun x20=>(Zsi F p0).bind fun x35=>(Zsi F x3.1).bind fun x41=>(Zsk F p0).bind fun x47=>(Zsk F x3.1).bind fun x48=>(gd (!(((((x20.2 !=0)||(x35.2 !=0))||(x41.2 !=0))||(x47.2 !=0))||(x48.2 !=0))) (ZvJ F x3.1 x20.1) default).bind fun x49=>(gd (!((((((x20.2 !=0)||(x35.2 !=0))||(x41.2 !=0))||(x47.2 !=0))||(x48.2 !=0))||(!x49))) (ZkW F x35.1 x41.1) default).bind fun x50=>(bif((((((((x20.2 !=0)||(x35.2 !=0))||(x41.2 !=0))||(x47.2 !=0))||(x48.2 !=0))||(!x49))||(!x50))||(decide (x48.1>x47.1))) then some false else(ZvH F p0).bind fun x51=>(ZvH F x3.1).bind fun x57=>(bif(((x51.2 !=0)||(x57.2 !=0))||((x51.1.length:Int) !=(x57.1.length:Int))) then some false else loop F (ZtV F x51 x57) 0)))
end
section
def ZMV{F wm h}{p0:Term}{Zf Ze ZA Zz Zw Zv}{r}(Zy:wm<=h.size)(Zt:Sl Zh wm h Zf Ze p0.args)(ZV:Sl Zc wm h ZA Zz p0.defs)(ZU:Sl Zm wm h Zw Zv p0.kids)(hL:f8L F p0=some r):
 WR XX 8 #[.agg #[V8 p0.op,.string p0.text,.slice Zf p0.args.length Ze,.slice ZA p0.defs.length Zz,.slice Zw p0.kids.length Zv]] wm h (CP (fun v (Gb:U (Ast wm))=>v=.bool r/\Gb=[]) [] h):=by
 refine bg Tryz.ntmps8 Zy Yp.nil ?_;intro T hT hS;unfold f8L at hL;refine r3 ?_;rintro _ h2 ⟨b1,eb1,rfl,hS⟩;refine r6 ?_;obtain⟨x3,hx3,hL⟩:=bS hL;refine Vd (Yo.fn ZyD (Zb lk Zd)) hS .n (fun g' hz hf hO=>Zsg (hS.Vg hz) ((hS.sl Zt).mono hf) ((hS.sl ZV).mono hf) ((hS.sl ZU).mono hf) hx3) ?_;rintro _ h13 _ ⟨a4,c6,a7,c9,a10,c12,rfl,rfl⟩ hS;refine r4 ?_;rintro _ h16 ⟨b15,ZQ3,rfl,hS⟩;refine r1 ?_;rintro h17 hS;refine r10 ?_;refine cn hL ?_ ?_
 ·intro hc hL;refine r3 ?_;obtain⟨x18,Zb6,hL⟩:=bS hL;refine WO.cp gN rfl (Yo.fn ZLO (Zb lk Zd)) (ZIg (hS.ZbE k1) (hS.ZbE k2) (hS.ZbE k3) Zb6)<|r1 ?_;obtain⟨x19,ZG8,hL⟩:=UN hL;refine WO.gcp (Zn.yes rfl rfl rfl fh) rfl (fun hg=>(Yo.fn ZFo Zd)) (fun hg=>ZzL (ZG8 hg))<|r6 ?_;exact rt hL hT hS
 ·intro hc hL;refine r5 ?_;obtain⟨x20,ZPL,hL⟩:=bS hL;refine Vd (Yo.fn ZyD (Zb lk Zd)) hS .n (fun g' hz hf hO=>Zsg (hS.Vg hz) ((hS.Uo k1).mono hf) ((hS.Uo k2).mono hf) ((hS.Uo k3).mono hf) ZPL) ?_;rintro _ h30 _ ⟨a21,c23,a24,c26,a27,c29,rfl,rfl⟩ hS;refine r4 ?_;rintro _ h33 ⟨b32,ZV2,rfl,hS⟩;refine r1 ?_;rintro h34 hS;refine r6 ?_;obtain⟨x35,ZG6,hL⟩:=bS hL;refine Vd (Yo.fn ZFm (Zb lk Zd)) hS .n (fun g' hz hf hO=>ZzG (hS.Vg hz) ((hS.sl Zt).mono hf) ((hS.sl ZV).mono hf) ((hS.sl ZU).mono hf) ZG6) ?_;rintro _ h39 _ ⟨a36,n37,c38,rfl,rfl⟩ hS;obtain rfl:=hS.on k0;refine r10 ?_;obtain⟨x41,ZrU,hL⟩:=bS hL;refine Vd (Yo.fn ZFm (Zb lk Zd)) hS .n (fun g' hz hf hO=>ZzG (hS.Vg hz) ((hS.Uo k6).mono hf) ((hS.Uo k7).mono hf) ((hS.Uo k8).mono hf) ZrU) ?_;rintro _ h45 _ ⟨a42,n43,c44,rfl,rfl⟩ hS;obtain rfl:=hS.on k0;refine r10 ?_;obtain⟨x47,ZPJ,hL⟩:=bS hL;refine WO.cp gN rfl (Yo.fn ZFn (Zb lk Zd)) (ZzI (hS.slu Zt) (hS.slu ZV) (hS.slu ZU) ZPJ)<|r10 ?_;obtain⟨x48,ZCu,hL⟩:=bS hL;refine WO.cp gN rfl (Yo.fn ZFn (Zb lk Zd)) (ZzI (hS.ZbE k7) (hS.ZbE k8) (hS.ZbE k9) ZCu)<|r16 ?_;refine r15 ?_;obtain⟨x49,ZG5,hL⟩:=UN hL;refine WO.gcp (Zn.no rfl rfl rfl (Z8 rfl fh)) rfl (fun hg=>(Yo.fn ZtM (Zb (WG (Zg rfl fh) rfl hg) (Zb (WG fh rfl hg) Zd)))) (fun hg=>Zsh (hS.ZbE k7) (hS.ZbE k8) (hS.ZbE k9) (hS.ZbE k3) (hS.ZbE k4) (hS.ZbE k5) (ZG5 hg))<|r5 ?_;obtain⟨x50,ZCt,hL⟩:=UN hL;refine WO.gcp (Zn.no rfl rfl rfl (Z8 rfl fh)) rfl (fun hg=>(Yo.fn ZFl (Zb (WG (Zg rfl fh) rfl hg) (Zb (WG fh rfl hg) Zd)))) (fun hg=>ZzF (hS.ord k1) (hS.ord k0) (ZCt hg))<|r9 ?_;refine cn hL ?_ ?_
  ·intro hc hL;refine r7 ?_;exact rt hL hT hS
  ·intro hc hL;refine r5 ?_;obtain⟨x51,Zvp,hL⟩:=bS hL;refine Vd (Yo.fn ZFk (Zb lk Zd)) hS .n (fun g' hz hf hO=>ZzE (hS.Vg hz) ((hS.sl Zt).mono hf) ((hS.sl ZV).mono hf) ((hS.sl ZU).mono hf) Zvp) ?_;rintro _ h55 _ ⟨a52,c54,rfl,rfl⟩ hS;refine r10 ?_;obtain⟨x57,ZPG,hL⟩:=bS hL;refine Vd (Yo.fn ZFk (Zb lk Zd)) hS .n (fun g' hz hf hO=>ZzE (hS.Vg hz) ((hS.Uo k8).mono hf) ((hS.Uo k9).mono hf) ((hS.Uo k10).mono hf) ZPG) ?_;rintro _ h61 _ ⟨a58,c60,rfl,rfl⟩ hS;refine r16 ?_;refine r9 ?_;refine cn hL ?_ ?_
   ·intro hc hL;refine r7 ?_;exact rt hL hT hS
   ·intro hc hL;refine r9 ?_;refine WC.loop (WL.lift hL (fun v67 s=>∃Zy3 h63,s=⟨Zy3,[],h63,none⟩/\Sp wm T h [Yi wm (YB Zm) (a52,c54) x51.1,Yi wm (YB Zm) (a58,c60) x57.1] h63/\Zy3.at 15=.slice a52 x51.1.length c54/\Zy3.at 16=.slice a58 x57.1.length c60/\Zy3.at 17= V8 v67) ⟨_,_,rfl,hS.only (.c k1 (.c k0 .n)),QG⟩ ?_);rintro Zxv v67 s ZCA hL ⟨Zy3,h63,rfl,hS,e65,e66,e68⟩;refine r9 ?_;refine cn hL ?_ ?_
    ·intro hc hL;refine r8 ?_;obtain⟨x70,ZKJ,hL⟩:=bS hL;obtain⟨b71,o72,⟨⟨a73,c74⟩,⟨a75,c76⟩,⟨a77,c78⟩⟩,ZLQ,ZMw,ZSg,Zps⟩:=Sl.at_ (hS.Uo k0) ZKJ;replace Zps:=Xd.1 Zps;refine Vc (Yf Q9 Yd lk lk rfl ZLQ ZKJ) ?_;have hS:=hS.add (A:=Yi wm (YB Zh) (a73,c74) x70.args) Zps.1 (fun _ z=>z);have hS:=hS.add (A:=Yi wm (YB Zc) (a75,c76) x70.defs) Zps.2.1 (fun _ z=>z);have hS:=hS.add (A:=Yi wm (YB Zm) (a77,c78) x70.kids) Zps.2.2 (fun _ z=>z);refine Vc (Yx Qx Yd (Zj fh rfl) ZMw (j:=0) rfl rfl (ws:=[V8 x70.op,.string x70.text,.slice a73 x70.args.length c74,.slice a75 x70.defs.length c76,.slice a77 x70.kids.length c78]) rfl) ?_;obtain⟨x79,ZPD,hL⟩:=bS hL;refine Vd (Yo.fn ZyD (Zb lk Zd)) hS .n (fun g' hz hf hO=>Zsg (hS.Vg hz) ((hS.Uo k2).mono hf) ((hS.Uo k1).mono hf) ((hS.Uo k0).mono hf) ZPD) ?_;rintro _ h89 _ ⟨a80,c82,a83,c85,a86,c88,rfl,rfl⟩ hS;refine r4 ?_;rintro _ h92 ⟨b91,ZVP,rfl,hS⟩;refine r1 ?_;rintro h93 hS;refine r4 ?_;refine WC.Ub mixed Kq0<|r6 ?_;obtain⟨x94,ZKD,hL⟩:=UN hL;obtain⟨b95,o96,⟨⟨a97,c98⟩,⟨a99,ZIK⟩,⟨ZD5,ZDO⟩⟩,hQ⟩:=Sl.atG (fun hg=>(hS.Uo k8)) ZKD;have ZLP:=fun hg=>(hQ hg).1
     have ZMv:=fun hg=>(hQ hg).2.1
     have ZSf:=fun hg=>(hQ hg).2.2.1
     have Zpr:=fun hg=>(hQ hg).2.2.2
     replace Zpr:=fun hg=>Xd.1 (Zpr hg)
     refine WX.gv (Zn.no rfl rfl rfl (Z8 rfl (Zg rfl fh))) rfl (fun hg=>(Yf Q9 Yd (WG (Zg rfl fh) rfl hg) (WG fh rfl hg) rfl (ZLP hg) (ZKD hg))) ?_ rfl;have hS:=hS.add (A:=fzG wm (YB Zh) (!(x79.2 !=0)) (a97,c98) x94.args) (fun hg=>(Zpr hg).1) (fun _ z=>z);have hS:=hS.add (A:=fzG wm (YB Zc) (!(x79.2 !=0)) (a99,ZIK) x94.defs) (fun hg=>(Zpr hg).2.1) (fun _ z=>z);have hS:=hS.add (A:=fzG wm (YB Zm) (!(x79.2 !=0)) (ZD5,ZDO) x94.kids) (fun hg=>(Zpr hg).2.2) (fun _ z=>z);refine WX.gv (Zn.no rfl rfl rfl (YC rfl fh)) rfl (fun hg=>(Yx Qx Yd (WG fh rfl hg) (ZMv hg) (j:=0) rfl rfl (ws:=[V8 x94.op,.string x94.text,.slice a97 x94.args.length c98,.slice a99 x94.defs.length ZIK,.slice ZD5 x94.kids.length ZDO]) rfl)) ?_ rfl;obtain⟨x103,ZKW,hL⟩:=UN hL;refine WX.gcp (Zn.no rfl rfl rfl (YC rfl (Zg rfl fh))) rfl (fun hg=>(Yo.fn ZtM (Zb (WG (YC rfl fh) rfl hg) (Zb (WG fh rfl hg) Zd)))) (fun hg=>Zsh (hS.ZbE k4) (hS.ZbE k5) (hS.ZbE k6) ((hS.ZHZ k2) hg) ((hS.ZHZ k1) hg) ((hS.ZHZ k0) hg) (ZKW hg)) ?_ rfl rfl;refine r4 ?_;refine cn hL ?_ ?_
     ·intro hc hL;refine r11 ?_;exact rt hL hT hS
     ·intro hc hL;refine r8 ?_;exact Ya.Yc (ZCA _ _ hL ⟨_,_,rfl,hS.only (.c k10 (.c k10 .n)),QG⟩)
    ·intro hc hL;refine r7 ?_;obtain⟨x104,hx104,hL⟩:=bS hL;refine WO.cp gN rfl (Yo.fn ZFo Zd) (ZzL hx104)<|r4 ?_;exact rt hL hT hS
def ZMW{F h}{p0:Term}{Zf Ze ZA Zz Zw Zv}{r}(Zt:Sl Zh h.size h Zf Ze p0.args)(ZV:Sl Zc h.size h ZA Zz p0.defs)(ZU:Sl Zm h.size h Zw Zv p0.kids)(hL:f8L F p0=some r):Pure XX 8 #[.agg #[V8 p0.op,.string p0.text,.slice Zf p0.args.length Ze,.slice ZA p0.defs.length Zz,.slice Zw p0.kids.length Zv]] h (.bool r):=
 WR.ZeE rfl (ZMV Vb Zt ZV ZU hL)
end
end Go.Proofs.YtbnepjakjmnadaaGreat
end
end
section
namespace Go.Lf
def Zoh{k:Nat}(h:k<4611686018427387904):YX ((k:Int)+1)=((k+1:Nat):Int):=by
 rw[Zh3 Va Va];rfl
def QL{α:Type}{KX:Nat}{xs ys:U α}(h:xs.length+ys.length<=1000000)(hb:KX<=1000):app KX xs ys=some (xs++ys):=
 ZnX (KB (Nat.mul_le_mul (show 2*(xs.length+ys.length)+1000<=2001000 by omega) hb) (by decide))
def iter{α β σ:Type}(g:Nat->α->σ->(σ->O β)->O β)(d:σ->O β):Nat->U α->σ->O β
 | _,[],s=>d s
 | i,x::l,s=>g i x s (fun s'=>iter g d (i+1) l s')
def ZM{α β σ γ:Type}(l:U α)(mk:Int->σ->γ)(body:γ->(γ->O β)->O β)(g:Nat->α->σ->(σ->O β)->O β)(d:σ->O β)
 (hl:l.length<4611686018427387904)
 (hb:∀(k:Nat) x s next,l[k]? =some x->((k:Int)<(l.length:Int))->body (mk k s) next=g k x s (fun s'=>next (mk (YX (k+1)) s')))
 (he:∀s next,body (mk l.length s) next=d s) {F:Nat} (hF:l.length<F) (s:σ):loop F body (mk 0 s)=iter g d 0 l s:=by
 have key:∀(m k F:Nat) s,k+m=l.length->m<F->loop F body (mk k s)=iter g d k (l.drop k) s:=by
  intro m
  induction m with
  | zero=>
    intro k F s hk hF;obtain⟨F,rfl⟩:=Ne0 (n:=F) Va;have:k=l.length:=Va
    subst this;rw[ZH,he,List.drop_length];rfl
  | succ m ih=>
    intro k F s hk hF;obtain⟨F,rfl⟩:=Ne0 (n:=F) Va;have hlt:k<l.length:=Va
    rw[ZH,hb k l[k] s _ (by simp[hlt]) Va,List.drop_eq_getElem_cons hlt,iter];congr 1;funext s';rw[Zoh Va];exact ih (k+1) F s' Va Va
 have:=key l.length 0 F s Va Va
 simpa using this
end Go.Lf
end
section
noncomputable section
namespace Go.Proofs.YtbnepjakjmnadaaGreat
open Go.Lf
section
section
variable{β γ:Type}
def Zf2{body:γ->(γ->O β)->O β}{r:O β}(S:Nat->γ){n F:Nat}(hF:n<F)(hb:∀k,k<n->∀next,body (S k) next=next (S (k+1)))(he:∀next,body (S n) next=r):loop F body (S 0)=r:=by
 have:∀j F,j<=n->n-j<F->loop F body (S j)=r:=by
  intro j F hj hF;obtain⟨d,hd⟩:∃d,d=n-j:=⟨_,rfl⟩
  induction d generalizing j F with
  | zero=>
    have:j=n:=Va
    subst this;cases F with
    | zero=>omega
    | succ F=>rw[ZH];exact he _
  | succ d ih=>
    cases F with
    | zero=>omega
    | succ F=>rw[ZH,hb j Va];exact ih (j+1) F Va Va Va
 exact this 0 F (Gi _) Va
def Zb1{body:γ->(γ->O β)->O β}{r1 r2:O β}(S:Nat->γ)(c:Nat->Z){n F:Nat}(hF:n<F)(hb:∀k,k<n->∀next,body (S k) next=bif c k then r1 else next (S (k+1)))(he:∀next,body (S n) next=r2):loop F body (S 0)=bif(List.range n).any c then r1 else r2:=by
 cases h:(List.range n).any c with
 | false=>
   rw[List.any_eq_false]at h;refine Zf2 S hF (fun k hk next=>?_) he;have:=h k (GV.2 hk);rw[hb k hk,Gg.2 this];rfl
 | true=>
   have hex:∃k,k<n/\c k=true:=by
    obtain⟨k,h1,h2⟩:=GO.1 h;exact⟨k,GV.1 h1,h2⟩
   have hm:∃m,(m<n/\c m=true)/\∀k,k<m->c k=false:=by
    obtain⟨k,hk⟩:=hex
    induction k using Nat.strongRecOn with
    | _ k ih=>
      by_cases hz:∃j,j<k/\c j=true
      ·obtain⟨j,h1,h2⟩:=hz;exact ih j h1 ⟨by omega,h2⟩
      ·exact⟨k,hk,fun j hj=>Gg.2 fun q=>hz ⟨j,hj,q⟩⟩
   obtain⟨m,⟨h1,h2⟩,h3⟩:=hm;refine Zf2 S (n:=m) Va (fun k hk next=>?_) (fun next=>?_)
   ·rw[hb k Va,h3 k hk];rfl
   ·rw[hb m h1,h2];rfl
end
def Zh2{k:Nat}(h:k<4611686018427387904):YX ((k:Int)+1)=((k+1:Nat):Int):=Zoh h
def XQ{k:Nat}(h:k<9223372036854775807):YX ((k:Int)+1)=((k+1:Nat):Int):=by rw[Zh3 Va Va];omega
def ZC{k n:Nat}(h:k<n):decide ((k:Int)<(n:Int))=true:=decide_eq_true Va
def Zp(n:Nat):decide ((n:Int)<(n:Int))=false:=decide_eq_false Va
def Qq{α:Type}{l:U α}{k:Nat}(h:k<l.length):ZN l (k:Int)=some l[k]:=by rw[Ze0,Gl h]
def app1{α:Type}{b:Nat}{l:U α}{x:α}(h:l.length<=900000)(hb:b<=1000):app b l [x]=some (l++[x]):=QL (by simp;omega) hb
def Za6{α:Type}[BEq α][LawfulBEq α](a:α):(a !=a)=false:=by simp
end
section
instance:LawfulBEq ByteArray where
 eq_of_beq {a b} h:=by
  cases a with|mk a=>cases b with|mk b=>
  have h:(a==b)=true:=h;rw[eq_of_beq h]
 rfl {a}:=by
  cases a with|mk a=>
  show(a==a)=true;simp
def kws:U Y:=[(⟨#[97,110,100]⟩:Y),(⟨#[100,101,102]⟩:Y),(⟨#[101,108,115,101]⟩:Y),(⟨#[103,111]⟩:Y),(⟨#[105,102]⟩:Y),(⟨#[105,110]⟩:Y),(⟨#[112,108,97,99,101]⟩:Y),(⟨#[115,116,111,112]⟩:Y),(⟨#[116,104,101,110]⟩:Y),(⟨#[119,97,116,99,104]⟩:Y)]
def Zki(s:Y)(k:Nat):Z:=decide (((s.data.getD k 0).toNat:Int)<97)||decide (((s.data.getD k 0).toNat:Int)>122)
def Qh(s:Y):Z:=decide (0<s.size)&&decide (s.size<=8) && !((List.range s.size).any (Zki s)) && !decide (s∈kws)
def Ztb{s:Y}{k:Nat}(h:k<s.size):ZgK s (k:Int)=some ((s.data.getD k 0).toNat:Int):=by
 have hk:k<s.data.size:=h
 have e:s[((k:Int)).toNat]? =some (s.data[k]):=by
  rw[Int.toNat_natCast];show s.data[k]? =_;rw[Gz hk]
 unfold ZgK;rw[if_pos Va,e,Q3,Gz hk]
 rfl
def has_eq(F:Nat)(l:U Y)(s:Y)(h:l.length<F)(hl:l.length<4000000000000000000):ZkV F l s=some (decide (s∈l)):=by
 have:=Zb1 (body:=ZjF l s) (r1:=some true) (r2:=some false) (fun k:Nat=>(k:Int)) (fun k=>decide (l[k]? =some s)) (n:=l.length) h
  (fun k hk next=>by
    simp only[ZjF,ZC hk,Cq1,Qq hk,Bq0,Zh2 (show k<4611686018427387904 by omega)];rw[Gl hk];simp)
  (fun next=>by simp[ZjF])
 rw[show ZkV F l s=loop F (ZjF l s) 0 from rfl];rw[show(0:Int)=((0:Nat):Int) from rfl,this]
 have e:(List.range l.length).any (fun k=>decide (l[k]? =some s))=decide (s∈l):=by
  rw[GD,GO,decide_eq_true_iff]
  constructor
  ·rintro⟨k,_,hk⟩;rw[decide_eq_true_iff]at hk;exact GK hk
  ·intro hm;obtain⟨k,hk,hs⟩:=List.getElem_of_mem hm;exact⟨k,GV.2 hk,by rw[decide_eq_true_iff,Gl hk,hs]⟩
 rw[e];cases decide (s∈l)<;>rfl
def setOf(l:U Y):U (Y×Z):=l.foldl (fun m s=>Xw m s true) []
def ZuW(l:U Y)(s:Y):(ZR (setOf l) s).getD false=decide (s∈l):=by
 have gen:∀(l:U Y)(m:U (Y×Z)),(ZR (l.foldl (fun m s=>Xw m s true) m) s).getD false=(decide (s∈l)||(ZR m s).getD false):=by
  intro l
  induction l with
  | nil=>intro m;simp
  | cons x l ih=>
    intro m;rw[Gn,ih,Zc0];by_cases h:s=x
    ·subst h;simp
    ·rw[if_neg h];simp[h]
 have:=gen l [];unfold setOf;rw[this];simp[ZR,Yg]
def ZGW(s:Y):(ZzC.bind fun m=>(ZkM m s false).bind fun x=>some (!x))=some (!decide (s∈kws)):=by
 have e:ZzC=some (setOf kws):=rfl;rw[e];show some (!((ZR (setOf kws) s).getD false))=_;rw[ZuW]
def ZxH(F:Nat)(s:Y)(h:s.size<F)(hl:s.size<=9223372036854775807):ZjN F s=some (Qh s):=by
 have:=Zb1 (body:=Zgl s) (r1:=some false) (r2:=some (decide (0<s.size)&&decide (s.size<=8) && !decide (s∈kws))) (fun k:Nat=>(k:Int)) (Zki s) (n:=s.size) h
  (fun k hk next=>by
    simp only[Zgl,ZC hk,Cq1,Ztb hk,Bq0,XQ (show k<9223372036854775807 by omega)];unfold Zki;cases h1:decide (((s.data.getD k 0).toNat:Int)<97)<;>simp[gd])
  (fun next=>by
    simp only[Zgl,Zp,Cq0];rw[ZGW]
    have e1:decide ((s.size:Int)>0)=decide (0<s.size):=by
     by_cases hz:0<s.size
     ·rw[decide_eq_true hz,decide_eq_true Va]
     ·rw[decide_eq_false hz,decide_eq_false Va]
    have e2:decide ((s.size:Int)<=8)=decide (s.size<=8):=by
     by_cases hz:s.size<=8
     ·rw[decide_eq_true hz,decide_eq_true Va]
     ·rw[decide_eq_false hz,decide_eq_false Va]
    rw[e1,e2];cases (decide (0<s.size)&&decide (s.size<=8))<;>simp)
 show loop F (Zgl s) ((0:Nat):Int)=_;rw[this];unfold Qh;cases (List.range s.size).any (Zki s)<;>simp
def ZxF(F:Nat)(s:Y)(h:s.size<F)(h2:20<=F):ZvK F s=some (Qh s):=by
 unfold ZvK;by_cases hz:0<s.size/\s.size<=8
 ·obtain⟨z1,z2⟩:=hz;rw[decide_eq_false Va,decide_eq_false Va];simp only[Bool.or_false,Cq0]
  have:=Zb1 (body:=ZjL F s) (r1:=some false) (r2:=some (!decide (s∈kws))) (fun k:Nat=>(k:Int)) (Zki s) (n:=s.size) h
   (fun k hk next=>by
     simp only[ZjL,ZC hk,Cq1,Ztb hk,Bq0,Zh2 (show k<4611686018427387904 by omega)];unfold Zki;cases h1:decide (((s.data.getD k 0).toNat:Int)<97)<;>simp[gd])
   (fun next=>by
     simp only[ZjL,Zp,Cq0];have e:=has_eq F kws s (by show 10<F;omega) (by decide);unfold kws at e;rw[e];rfl)
  show loop F (ZjL F s) ((0:Nat):Int)=_;rw[this];unfold Qh;rw[decide_eq_true z1,decide_eq_true z2];cases (List.range s.size).any (Zki s)<;>simp
 ·have:Qh s=false:=by
   unfold Qh;by_cases z1:0<s.size
   ·rw[decide_eq_false (show ¬ s.size<=8 by omega)];simp
   ·rw[decide_eq_false z1];simp
  rw[this];by_cases z1:s.size<1
  ·rw[decide_eq_true Va];rfl
  ·rw[decide_eq_true (show(s.size:Int)>8 by omega)];simp
end
section
def ZE:Part->U Part
 | .pr t=>t.args.map .ex++t.defs.map .cl++t.kids.map .pr
 | .ex e=>e.kids.map .ex
 | .cl c=>c.defs.map .cl++c.kids.map .pr
def pz:Part->Nat
 | .pr t=>SizeOf.sizeOf t
 | .ex e=>SizeOf.sizeOf e
 | .cl c=>SizeOf.sizeOf c
def Zb4{k p:Part}(h:k∈ZE p):pz k<pz p:=by
 cases p with
 | pr t=>
   obtain⟨op,tx,ags,ds,ks⟩:=t;simp only[ZE,Q1,Jn]at h;rcases h with(⟨x,hx,rfl⟩|⟨x,hx,rfl⟩) | ⟨x,hx,rfl⟩<;>(have:=List.sizeOf_lt_of_mem hx;simp only[pz,Term.mk.sizeOf_spec];omega)
 | ex e=>
   obtain⟨op,n,tx,ks⟩:=e;simp only[ZE,Jn]at h;obtain⟨x,hx,rfl⟩:=h;have:=List.sizeOf_lt_of_mem hx;simp only[pz,Zi.mk.sizeOf_spec];omega
 | cl c=>
   obtain⟨fm,tx,js,ds,ks⟩:=c;simp only[ZE,Q1,Jn]at h;rcases h with⟨x,hx,rfl⟩|⟨x,hx,rfl⟩<;>(have:=List.sizeOf_lt_of_mem hx;simp only[pz,Za.mk.sizeOf_spec];omega)
def QI{P:Part->Prop}(h:∀p,(∀k∈ZE p,P k)->P p)(p:Part):P p:=by
 have:∀n p,pz p<n->P p:=by
  intro n
  induction n with
  | zero=>intro p hp;omega
  | succ n ih=>intro p hp;exact h p fun k hk=>ih k (by have:=Zb4 hk;omega)
 exact this _ p (Nat.lt_succ_self _)
def JM{α β:Type}(l:U α)(f:α->U β):(l.attach.flatMap fun k=>f k.1)=l.flatMap f:=by
 conv=>rhs;rw[<-List.attach_map_subtype_val l]
 rw[List.flatMap_map]
def attach_map{α β:Type}(l:U α)(f:α->β):(l.attach.map fun k=>f k.1)=l.map f:=by
 conv=>rhs;rw[<-List.attach_map_subtype_val l]
 rw[GE];rfl
def pre(p:Part):U Part:=p::(ZE p).attach.flatMap fun k=>pre k.1
termination_by pz p
decreasing_by exact Zb4 k.2
def pre_eq(p:Part):pre p=p::(ZE p).flatMap pre:=by rw[pre,JM (ZE p) pre]
def UX(l:U Nat):Nat:=l.foldr max 0
def dep(p:Part):Nat:=UX ((ZE p).attach.map fun k=>dep k.1)+1
termination_by pz p
decreasing_by exact Zb4 k.2
def Zj8(p:Part):dep p=UX ((ZE p).map dep)+1:=by rw[dep,attach_map (ZE p) dep]
def Je(x:Nat)(l:U Nat):UX (x::l)=max x (UX l):=rfl
def ZoX(l r:U Nat):UX (l++r)=max (UX l) (UX r):=by
 induction l with
 | nil=>simp[UX]
 | cons x l ih=>rw[GY,Je,Je,ih];omega
def Xe(p:Part):(pre p).length=((ZE p).flatMap pre).length+1:=by rw[pre_eq];rfl
def YQ(p:Part):1<=(pre p).length:=by rw[Xe];omega
def Ux{k:Part}{l:U Part}(h:k∈l):(pre k).length<=(l.flatMap pre).length:=by
 induction l with
 | nil=>cases h
 | cons x l ih=>
   rw[K2,K0];rcases Kx.1 h with rfl|h
   ·omega
   ·have:=ih h;omega
def ZX{k p:Part}(h:k∈ZE p):(pre k).length<(pre p).length:=by
 have:=Ux h;rw[Xe p];omega
def Uy(l:U Part):l.length<=(l.flatMap pre).length:=by
 induction l with
 | nil=>simp
 | cons x l ih=>rw[K2,K0,Kf];have:=YQ x;omega
def ZaJ(p:Part):(ZE p).length<(pre p).length:=by
 have:=Uy (ZE p);rw[Xe p];omega
def Zz7(p:Part):dep p<=(pre p).length:=by
 induction p using QI with
 | h p ih=>
   rw[Zj8,Xe]
   have:∀l:U Part,(∀k∈l,dep k<=(pre k).length)->UX (l.map dep)<=(l.flatMap pre).length:=by
    intro l
    induction l with
    | nil=>intro _;simp[UX]
    | cons x l ihl=>
      intro h;rw[G3,Je,K2,K0];have h1:=h x (by simp);have h2:=ihl fun k hk=>h k (Ks _ hk)
      omega
   have:=this _ ih;omega
def ZQ{x k p:Part}(hk:k∈ZE p)(hx:x∈pre k):x∈pre p:=by
 rw[pre_eq p];exact Ks _ (Q2.2 ⟨k,hk,hx⟩)
def Yh(p:Part):p∈pre p:=by rw[pre_eq];exact Gy
def ZM{α σ β γ:Type}{body:γ->(γ->O β)->O β}(st:Nat->σ->γ)(l:U α)(Pre:U α->σ->Prop)(run:U α->σ->O β)
 (h0:∀s nx,Pre [] s->body (st l.length s) nx=run [] s)
 (h1:∀(k:Nat) x rest s nx,x∈l->k<l.length->ZN l (k:Int)=some x->Pre (x::rest) s->(∀s',Pre rest s'->nx (st (k+1) s')=run rest s')->body (st k s) nx=run (x::rest) s) {F:Nat} (hF:l.length<F) (s:σ) (hp:Pre l s):loop F body (st 0 s)=run l s:=by
 have key:∀(d j F:Nat)(s:σ),j+d=l.length->d<F->Pre (l.drop j) s->loop F body (st j s)=run (l.drop j) s:=by
  intro d
  induction d with
  | zero=>
    intro j F s hj hF hp;obtain⟨F,rfl⟩:∃G,F=G+1:=⟨F-1,by omega⟩
    obtain rfl:j=l.length:=Va
    rw[List.drop_length]at hp ⊢;rw[ZH,h0 _ _ hp]
  | succ d ih=>
    intro j F s hj hF hp;obtain⟨F,rfl⟩:∃G,F=G+1:=⟨F-1,by omega⟩
    have hjl:j<l.length:=Va
    rw[List.drop_eq_getElem_cons hjl]at hp ⊢;rw[ZH];exact h1 j _ _ s _ (GN hjl) hjl (Qq hjl) hp fun s' hp'=>ih (j+1) F s' Va Va hp'
 have:=key l.length 0 F s Va hF (by simpa using hp)
 simpa using this
def K6{t k:Term}(h:k∈t.kids):SizeOf.sizeOf k<SizeOf.sizeOf t:=by
 obtain⟨op,tx,ags,ds,ks⟩:=t;have:=List.sizeOf_lt_of_mem h;simp only[Term.mk.sizeOf_spec];simp only at this;omega
def pts(t:Term):U Term:=bif t.op==1 then [] else bif t.op==3 then t.kids.attach.flatMap fun k=>pts k.1 else [t]
termination_by SizeOf.sizeOf t
decreasing_by exact K6 k.2
def JZ(t:Term):pts t=bif t.op==1 then [] else bif t.op==3 then t.kids.flatMap pts else [t]:=by rw[pts,JM t.kids pts]
def X0:U Term->Term
 | []=>.mk 1 (⟨#[]⟩:Y) [] [] []
 | [t]=>t
 | t::k::l=>.mk 3 (⟨#[]⟩:Y) [] [] [t,X0 (k::l)]
def ZH2{F:Nat}:∀(l:U Term)(Fr:Nat),l.length<Fr->loop Fr (ZpR F) l=some (X0 l):=by
 intro l
 induction l with
 | nil=>intro Fr h;obtain⟨n,rfl⟩:∃n,Fr=n+1:=⟨Fr-1,by omega⟩;rfl
 | cons t l ih=>
   intro Fr h;obtain⟨n,rfl⟩:∃n,Fr=n+1:=⟨Fr-1,by omega⟩
   simp only[Kf]at h;rw[ZH];cases l with
   | nil=>rfl
   | cons k l=>
     have e0:(((t::k::l).length:Int)==0)=false:=by rw[beq_eq_false_iff_ne];simp only[Kf];omega
     have e1:(((t::k::l).length:Int)==1)=false:=by rw[beq_eq_false_iff_ne];simp only[Kf];omega
     have g0:ZN (t::k::l) 0=some t:=rfl
     have s1:slL (t::k::l) 1 ((t::k::l).length:Int)=some (k::l):=by
      unfold slL;have a1:decide ((1:Int)<=((t::k::l).length:Int))=true:=decide_eq_true (by simp only[Kf];omega);have a2:decide (((t::k::l).length:Int)<=((t::k::l).length:Int))=true:=decide_eq_true (Int.le_refl _);rw[a1,a2];have a3:((t::k::l).length:Int).toNat=(t::k::l).length:=Int.toNat_natCast _;show some (((t::k::l).take ((t::k::l).length:Int).toNat).drop 1)=_;rw[a3,List.take_length];rfl
     have hi:=ih n (by simp only[Kf]at h ⊢;omega);dsimp only[ZpR];rw[e0,e1,g0,Cq0,Cq0,Bq0,s1,Bq0,hi,Bq0]
     rfl
def ZDa{F:Nat}{l:U Term}(h:l.length<F):Zzs F l=some (X0 l):=ZH2 l F h
def ZbO(t:Term):Z:=bif t.op==3 then t.kids.length==2&&t.kids.attach.all fun k=>ZbO k.1 else true
termination_by SizeOf.sizeOf t
decreasing_by exact K6 k.2
def ZcN(t:Term):ZbO t=bif t.op==3 then t.kids.length==2&&t.kids.all ZbO else true:=by
 rw[ZbO]
 have:(t.kids.attach.all fun k=>ZbO k.1)=t.kids.all ZbO:=by
  rw[GD,Kd,Kd];exact⟨fun h x hx=>h ⟨x,hx⟩ (List.mem_attach _ _),fun h x _=>h x.1 x.2⟩
 rw[this]
mutual
def lay:Term->Term
 | .mk op tx ar ds ks=>X0 (pts (.mk op tx ar (Zvf ds) (Zvd ks)))
def Zvd:U Term->U Term
 | []=>[]
 | t::l=>lay t::Zvd l
def XA:Za->Za
 | .mk f tx js ds ks=>.mk f tx js (Zvf ds) (Zvd ks)
def Zvf:U Za->U Za
 | []=>[]
 | c::l=>XA c::Zvf l
end
def Zo3(l:U Term):Zvd l=l.map lay:=by
 induction l with
 | nil=>rw[Zvd];rfl
 | cons t l ih=>rw[Zvd,ih];rfl
def Zo4(l:U Za):Zvf l=l.map XA:=by
 induction l with
 | nil=>rw[Zvf];rfl
 | cons t l ih=>rw[Zvf,ih];rfl
def KW(t:Term):Term:=.mk t.op t.text t.args (t.defs.map XA) (t.kids.map lay)
def ZmY(t:Term):lay t=X0 (pts (KW t)):=by
 obtain⟨op,tx,ags,ds,ks⟩:=t;rw[lay,Zo4,Zo3];rfl
def Kn(c:Za):XA c=.mk c.form c.text c.joins (c.defs.map XA) (c.kids.map lay):=by
 obtain⟨f,tx,js,ds,ks⟩:=c;rw[XA,Zo4,Zo3]
def solo(t:Term):Z:= !(t.op==1) && !(t.op==3)
def Zhp{t:Term}(h:solo t=true):(t.op==1)=false/\(t.op==3)=false:=by
 unfold solo at h;rw[Ba0,Bool.not_eq_true',Bool.not_eq_true']at h;exact h
def ZmE{t:Term}(h:solo t=true):pts t=[t]:=by
 rw[JZ,(Zhp h).1,(Zhp h).2];rfl
def Zxd:∀(n:Nat)(t:Term),SizeOf.sizeOf t<=n->∀x∈pts t,solo x=true:=by
 intro n
 induction n with
 | zero=>intro t hn;obtain⟨op,tx,ags,ds,ks⟩:=t;simp only[Term.mk.sizeOf_spec]at hn;omega
 | succ n ih=>
   intro t hn x hx;rw[JZ]at hx;cases h1:t.op==1 with
   | true=>rw[h1,Cq1]at hx;cases hx
   | false=>
     rw[h1,Cq0]at hx;cases h3:t.op==3 with
     | true=>
       rw[h3,Cq1,Q2]at hx;obtain⟨k,hk,hx⟩:=hx;exact ih k (by have:=K6 hk;omega) x hx
     | false=>
       rw[h3,Cq0,G7]at hx;subst hx;unfold solo;rw[h1,h3];rfl
def ZcT(t:Term):∀x∈pts t,solo x=true:=Zxd _ t Vb
def Zhs:∀(l:U Term),(∀x∈l,solo x=true)->pts (X0 l)=l:=by
 intro l
 induction l with
 | nil=>intro _;rw[X0,JZ];rfl
 | cons t l ih=>
   intro h;cases l with
   | nil=>rw[X0];exact ZmE (h t (by simp))
   | cons k l=>
     rw[X0,JZ];show([t,X0 (k::l)].flatMap pts)=_;rw[K2,K2,GH,Gk,ZmE (h t (by simp)),ih fun x hx=>h x (Ks _ hx)]
     rfl
def ZDQ{l m:U Term}(hl:∀x∈l,solo x=true)(hm:∀x∈m,solo x=true)(h:X0 l=X0 m):l=m:=by
 rw[<-Zhs l hl,<-Zhs m hm,h]
def Ztn(t:Term):pts (lay t)=pts (KW t):=by rw[ZmY];exact Zhs _ (ZcT _)
def KO{t:Term}(h:solo t=true):lay t=KW t:=by
 have h':solo (KW t)=true:=h;rw[ZmY,ZmE h'];rfl
def Zez{t:Term}(h:solo t=true):solo (lay t)=true:=by rw[KO h];exact h
def Zit:∀(n:Nat)(t:Term),SizeOf.sizeOf t<=n->pts (KW t)=(pts t).map lay:=by
 intro n
 induction n with
 | zero=>intro t hn;obtain⟨op,tx,ags,ds,ks⟩:=t;simp only[Term.mk.sizeOf_spec]at hn;omega
 | succ n ih=>
   intro t hn;rw[JZ,JZ t];show(bif t.op==1 then [] else bif t.op==3 then(t.kids.map lay).flatMap pts else [KW t])=_;cases h1:t.op==1 with
   | true=>rfl
   | false=>
     rw[Cq0,Cq0];cases h3:t.op==3 with
     | true=>
       rw[Cq1,Cq1,List.flatMap_map,List.map_flatMap];have:∀k∈t.kids,pts (lay k)=(pts k).map lay:=fun k hk=>by rw[Ztn];exact ih k (by have:=K6 hk;omega)
       generalize t.kids=l at this
       induction l with
       | nil=>rfl
       | cons k l ih2=>rw[K2,K2,this k (by simp),ih2 fun x hx=>this x (Ks _ hx)]
     | false=>
       have hs:solo t=true:=by unfold solo;rw[h1,h3];rfl
       rw[Cq0,Cq0,G3,List.map_nil,KO hs]
def Zis(t:Term):pts (lay t)=(pts t).map lay:=by rw[Ztn];exact Zit _ t Vb
def UK(t:Term):lay t=X0 ((pts t).map lay):=by rw[ZmY,Zit _ t Vb]
def Zo2:∀(l:U Term),(∀x∈l,solo x=true)->lay (X0 l)=X0 (l.map lay):=by
 intro l h;rw[UK,Zhs l h]
def ZPp:∀p:Part,match p with | .pr t=>lay (lay t)=lay t | .cl c=>XA (XA c)=XA c | .ex _=>True:=by
 refine QI fun p ih=>?_
 cases p with
 | ex e=>trivial
 | cl c=>
   show XA (XA c)=XA c;have h1:∀d∈c.defs,XA (XA d)=XA d:=fun d hd=>ih (.cl d) (by simp only[ZE,Q1,Jn];exact .inl ⟨d,hd,rfl⟩)
   have h2:∀k∈c.kids,lay (lay k)=lay k:=fun k hk=>ih (.pr k) (by simp only[ZE,Q1,Jn];exact .inr ⟨k,hk,rfl⟩)
   rw[Kn (XA c),Kn c];dsimp only;rw[GE,GE,GA (f:=XA∘XA) (g:=XA) fun d hd=>h1 d hd,GA (f:=lay∘lay) (g:=lay) fun k hk=>h2 k hk]
 | pr t=>
   show lay (lay t)=lay t;have h1:∀d∈t.defs,XA (XA d)=XA d:=fun d hd=>ih (.cl d) (by simp only[ZE,Q1,Jn];exact .inl (.inr ⟨d,hd,rfl⟩))
   have h2:∀k∈t.kids,lay (lay k)=lay k:=fun k hk=>ih (.pr k) (by simp only[ZE,Q1,Jn];exact .inr ⟨k,hk,rfl⟩)
   have hs:∀x∈(pts t).map lay,solo x=true:=fun x hx=>by
    obtain⟨y,hy,rfl⟩:=Jn.1 hx;exact Zez (ZcT t y hy)
   have key:∀x∈pts t,lay (lay x)=lay x:=by
    intro x hx;rw[JZ]at hx;cases e1:t.op==1 with
    | true=>rw[e1,Cq1]at hx;cases hx
    | false=>
      rw[e1,Cq0]at hx;cases e3:t.op==3 with
      | true=>
        rw[e3,Cq1,Q2]at hx;obtain⟨k,hk,hx⟩:=hx;have hk2:=h2 k hk
        have hsk:∀x∈(pts k).map lay,solo x=true:=fun x hx=>by
         obtain⟨y,hy,rfl⟩:=Jn.1 hx;exact Zez (ZcT k y hy)
        have ZPO:∀x∈((pts k).map lay).map lay,solo x=true:=fun x hx=>by
         obtain⟨y,hy,rfl⟩:=Jn.1 hx;exact Zez (hsk y hy)
        have e:((pts k).map lay).map lay=(pts k).map lay:=by
         apply ZDQ ZPO hsk;rw[<-Zo2 _ hsk,<-UK k];exact hk2
        rw[GE]at e;exact List.map_inj_left.1 e x hx
      | false=>
        rw[e3,Cq0,G7]at hx;subst hx;have hso:solo x=true:=by unfold solo;rw[e1,e3];rfl
        rw[KO hso];have ZPN:solo (KW x)=true:=hso;rw[KO ZPN];unfold KW;dsimp only;rw[GE,GE,GA (f:=XA∘XA) (g:=XA) fun d hd=>h1 d hd,GA (f:=lay∘lay) (g:=lay) fun k hk=>h2 k hk]
   have e:lay (lay t)=X0 (((pts t).map lay).map lay):=by
    conv=>lhs;rw[UK t]
    exact Zo2 _ hs
   rw[e,UK t,GE,GA (f:=lay∘lay) (g:=lay) fun x hx=>key x hx]
def ZCn(t:Term):lay (lay t)=lay t:=ZPp (.pr t)
end
section
abbrev E0:Y:=⟨#[]⟩
def BB:Nat:=9223372036854775807
def Zaj(e:Zi):Z:=
 bif e.op==1 then decide (e.n >=-1000000000)&&decide (e.n<=1000000000)&&decide (e.text=E0)&&(e.kids.length==0)
 else bif e.op==2 then Qh e.text&&(e.n==0)&&(e.kids.length==0)
 else decide (e.op >=3)&&decide (e.op<=7)&&decide (e.text=E0)&&(e.n==0)&&(e.kids.length==2)
def szs(t:Term)(a d k:Nat):Z:=(t.args.length==a)&&(t.defs.length==d)&&(t.kids.length==k)
def Zai(t:Term):Z:=
 (bif(t.op==1)||(t.op==7) then szs t 0 0 0
  else bif t.op==2 then decide (t.args.length<=3)&&szs t t.args.length 0 0
  else bif t.op==3 then szs t 0 0 2
  else bif t.op==4 then decide (0<t.defs.length)&&decide (t.defs.length<=5)&&szs t 0 t.defs.length 1
  else bif t.op==5 then szs t 1 0 2
  else((t.op==6)||(t.op==8))&&szs t 0 0 1) &&
 (bif((t.op==2)||(t.op==6))||(t.op==8) then Qh t.text else decide (t.text=E0))
def nWb(hn:Y->Z):U Y->Z
 | []=>true
 | x::xs=>(Qh x && !hn x)&&nWb (fun s=>hn s||decide (s=x)) xs
def jW(ht hn:Y->Z):U Yk->Z
 | []=>true
 | m::js=>(Qh m.text && !ht m.text&&decide (m.names.length<=3))&&(nWb hn m.names&&jW (fun s=>ht s||decide (s=m.text)) (fun s=>hn s||decide (s∈m.names)) js)
def Wp(c:Za):Z:=
 (c.kids.length==1)&&(bif c.form==2 then Qh c.text&&(c.joins.length==0)&&decide (c.defs.length<=5)
 else(c.form==1)&&decide (c.text=E0)&&(c.defs.length==0)&&decide (0<c.joins.length)&&decide (c.joins.length<=3)&&jW (fun _=>false) (fun _=>false) c.joins)
def U2:Part->Z
 | .pr t=>Zai t
 | .ex e=>Zaj e
 | .cl c=>Wp c
def Loc:Part->Prop
 | .pr t=>t.text.size<=BB/\t.args.length<=BB/\t.defs.length<=BB/\t.kids.length<=BB
 | .ex e=>e.text.size<=BB/\e.kids.length<=BB
 | .cl c=>c.text.size<=BB/\c.joins.length<=BB/\c.defs.length<=BB/\c.kids.length<=BB/\∀m∈c.joins,m.text.size<=BB/\m.names.length<=BB/\∀s∈m.names,s.size<=BB
def BS:Nat:=1048576
def Lo(p:Part):Prop:=∀x∈pre p,Loc x
def Sm(p:Part):Prop:=(pre p).length<=BS/\Lo p
def Lo.kid{k p:Part}(h:Lo p)(hk:k∈ZE p):Lo k:=fun x hx=>h x (ZQ hk hx)
def Lo.loc{p:Part}(h:Lo p):Loc p:=h p (Yh p)
def Sm.kid{k p:Part}(h:Sm p)(hk:k∈ZE p):Sm k:=⟨by have:=ZX hk;have:=h.1;omega,fun x hx=>h.2 x (ZQ hk hx)⟩
def Sm.loc{p:Part}(h:Sm p):Loc p:=h.2 p (Yh p)
def Jj(b:Z):JI b=some (bif b then .ok () else .Z9 2):=by cases b<;>rfl
def Uk(a b:Nat):((a:Int)==(b:Int))=(a==b):=by rw[GD,beq_iff_eq,beq_iff_eq];omega
def Zto{α β:Type}{e:Int}{p:Int->O β}{k:α->O β}:JS (.Z9 e) p k=p e:=rfl
def nameP{F:Nat}(hF:10000000000000000000<=F){s:Y}(h:s.size<=BB):ZjN F s=some (Qh s):=ZxH F s (by unfold BB at h;omega) (by unfold BB at h;omega)
def ZxG{F:Nat}(hF:10000000000000000000<=F){s:Y}(h:s.size<=BB):ZvK F s=some (Qh s):=ZxF F s (by unfold BB at h;omega) Va
def ZGE{F:Nat}(hF:10000000000000000000<=F){s:Y}(h:s.size<=BB)(b:Z):ZlZ F s b=some (bif b then Qh s else decide (s=E0)):=by
 unfold ZlZ;cases b
 ·simp[gd,E0]
 ·simp[gd,ZxG hF h]
def Zow{F:Nat}(hF:10000000000000000000<=F)(e:Zi)(h:Loc (.ex e)):ZlX F e=some (bif Zaj e then .ok () else .Z9 2):=by
 obtain⟨op,n,tx,ks⟩:=e;have hn:=nameP hF h.1;dsimp only at hn;have h2:((ks.length:Int)==2)=(ks.length==2):=Uk _ 2;have h0:((ks.length:Int)==0)=(ks.length==0):=Uk _ 0;have hc:op=1\/op=2\/op=3\/op=4\/op=5\/op=6\/op=7\/op<1\/7<op:=Va
 unfold ZlX Zaj;dsimp only
 have j:∀op:Int,Kq ⟨op,n,tx,ks⟩ true=some (bif decide (tx=E0)&&(n==0)&&(ks.length==2) then .ok () else .Z9 2):=fun op=>by
  simp only[Kq,Cq1,Jj,h2,Bq0];cases (decide (tx=E0)&&(n==0)&&(ks.length==2))<;>rfl
 rcases hc with rfl|rfl|rfl|rfl|rfl|rfl|rfl|hc
 ·simp only[Jj,h0,Bq0];cases (decide (n >=-1000000000)&&decide (n<=1000000000)&&decide (tx=E0)&&(ks.length==0))<;>rfl
 ·show(ZjN F tx).bind _=some (bif(Qh tx&&(n==0)&&(ks.length==0)) then _ else _);rw[hn];simp only[Jj,h0,Bq0];cases (Qh tx&&(n==0)&&(ks.length==0))<;>rfl
 ·exact j 3
 ·exact j 4
 ·exact j 5
 ·exact j 6
 ·exact j 7
 have e1:(op==1)=false:=by simp;omega
 have e2:(op==2)=false:=by simp;omega
 have e3:(op==3)=false:=by simp;omega
 have e4:(op==4)=false:=by simp;omega
 have e5:(op==5)=false:=by simp;omega
 have e6:(op==6)=false:=by simp;omega
 have e7:(op==7)=false:=by simp;omega
 have e8:(decide (op >=3)&&decide (op<=7))=false:=by
  rcases hc with hc|hc
  ·rw[decide_eq_false (show ¬ op >=3 by omega)];rfl
  ·rw[decide_eq_false (show ¬ op<=7 by omega)];simp
 rw[e1,e2,e3,e4,e5,e6,e7,e8]
 rfl
def Zax(t:Term)(a d k:Nat):Ke t (a:Int) (d:Int) (k:Int)=some (bif szs t a d k then .ok () else .Z9 2):=by
 unfold Ke szs;rw[Jj,Uk,Uk,Uk,Bq0];cases ((t.args.length==a)&&(t.defs.length==d)&&(t.kids.length==k))<;>rfl
def ZBK{F:Nat}(hF:10000000000000000000<=F)(t:Term)(h:t.text.size<=BB):(UO F t) ()=some (bif(bif((t.op==2)||(t.op==6))||(t.op==8) then Qh t.text else decide (t.text=E0)) then .ok () else .Z9 2):=by
 unfold UO Zda;rw[nameP hF h];simp only[Jj,Bq0,E0];cases t.op==2<;>cases t.op==6<;>cases t.op==8<;>cases Qh t.text<;>cases decide (t.text=(⟨#[]⟩:Y))<;>rfl
def seq2{a b:Z}:(JS (bif a then PR.ok () else PR.Z9 2) (fun e=>some (.Z9 e)) (fun _=>some (bif b then PR.ok () else PR.Z9 2)):O (PR Unit))=some (bif a&&b then .ok () else .Z9 2):=by cases a<;>rfl
def ZKa{a b:Z}:(JS (bif a then PR.ok () else PR.Z9 2) (fun _=>some (.Z9 2)) (fun _=>some (bif b then PR.ok () else PR.Z9 2)):O (PR Unit))=some (bif a&&b then .ok () else .Z9 2):=by cases a<;>rfl
def Zhe{F:Nat}(hF:10000000000000000000<=F)(t:Term)(h:Loc (.pr t)):ZlY F t=some (bif Zai t then .ok () else .Z9 2):=by
 have ht:=ZBK hF t h.1
 have hg:decide ((t.args.length:Int)<=3)=decide (t.args.length<=3):=by
  by_cases z:t.args.length<=3
  ·rw[decide_eq_true z,decide_eq_true Va]
  ·rw[decide_eq_false z,decide_eq_false Va]
 have hd1:decide ((t.defs.length:Int)>0)=decide (0<t.defs.length):=by
  by_cases z:0<t.defs.length
  ·rw[decide_eq_true z,decide_eq_true Va]
  ·rw[decide_eq_false z,decide_eq_false Va]
 have hd5:decide ((t.defs.length:Int)<=5)=decide (t.defs.length<=5):=by
  by_cases z:t.defs.length<=5
  ·rw[decide_eq_true z,decide_eq_true Va]
  ·rw[decide_eq_false z,decide_eq_false Va]
 have ZO6:Ke t 0 0 0=_:=Zax t 0 0 0;have ZO5:Ke t 0 0 1=_:=Zax t 0 0 1;have ZO4:Ke t 0 0 2=_:=Zax t 0 0 2;have ZO3:Ke t 1 0 2=_:=Zax t 1 0 2;have sa:Ke t t.args.length 0 0=_:=Zax t t.args.length 0 0;have sd:Ke t 0 t.defs.length 1=_:=Zax t 0 t.defs.length 1
 have j2:∀b,(Zc9 F t) b=some (bif(bif b then szs t 0 0 0
  else bif t.op==2 then decide (t.args.length<=3)&&szs t t.args.length 0 0
  else bif t.op==3 then szs t 0 0 2
  else bif t.op==4 then decide (0<t.defs.length)&&decide (t.defs.length<=5)&&szs t 0 t.defs.length 1
  else bif t.op==5 then szs t 1 0 2
  else((t.op==6)||(t.op==8))&&szs t 0 0 1) &&
 (bif((t.op==2)||(t.op==6))||(t.op==8) then Qh t.text else decide (t.text=E0)) then .ok () else .Z9 2):=by
   intro b;unfold Zc9 Zfd;simp only[Jj,ZO6,ZO5,ZO4,ZO3,sa,sd,Bq0,hg,hd1,hd5,ht,seq2,ZpV];cases b<;>cases t.op==2<;>cases t.op==3<;>cases t.op==4<;>cases t.op==5<;>cases t.op==6<;>cases t.op==8<;>simp only[Cq1,Cq0,Bool.true_or,Bool.or_true,Bool.or_false,Gm,Gd,Gq,Zto,seq2,ZKa,Bool.and_assoc]
 unfold ZlY Zai;rw[j2,j2];cases t.op==1<;>cases t.op==7<;>rfl
def has(m:U (Y×Z)):Y->Z:=fun s=>(ZR m s).getD false
def ZaL(m:U (Y×Z))(x:Y):has (Xw m x true)=fun s=>has m s||decide (s=x):=by
 funext s;unfold has;rw[Zc0];by_cases h:s=x
 ·subst h;simp
 ·rw[if_neg h];simp[h]
def WK(m:U (Y×Z))(l:U Y):U (Y×Z):=l.foldl (fun m s=>Xw m s true) m
def Zi8(l:U Y):∀m,has (WK m l)=fun s=>has m s||decide (s∈l):=by
 induction l with
 | nil=>intro m;funext s;simp[WK]
 | cons x l ih=>
   intro m;have:WK m (x::l)=WK (Xw m x true) l:=rfl;rw[this,ih,ZaL];funext s;by_cases h1:s=x<;>by_cases h2:s∈l<;>simp[h1,h2]
def Zna:has []=fun _=>false:=by funext s;rfl
def ZbW(m:U (Y×Z))(x:Y):ZkM m x false=some (has m x):=rfl
def ZeF{β:Type}{b:Z}{p:Int->O β}{k:Unit->O β}:JS (bif b then PR.ok () else PR.Z9 2) p k=bif b then k () else p 2:=by cases b<;>rfl
def le3(n:Nat):decide ((n:Int)<=3)=decide (n<=3):=by
 by_cases z:n<=3
 ·rw[decide_eq_true z,decide_eq_true Va]
 ·rw[decide_eq_false z,decide_eq_false Va]
def gt0(n:Nat):decide ((n:Int)>0)=decide (0<n):=by
 by_cases z:0<n
 ·rw[decide_eq_true z,decide_eq_true Va]
 ·rw[decide_eq_false z,decide_eq_false Va]
def le5(n:Nat):decide ((n:Int)<=5)=decide (n<=5):=by
 by_cases z:n<=5
 ·rw[decide_eq_true z,decide_eq_true Va]
 ·rw[decide_eq_false z,decide_eq_false Va]
def ZrE{F:Nat}(hF:10000000000000000000<=F)(k:Int)(m1:U (Y×Z))(nx:Int×(U (Y×Z))×(U (Y×Z))->O (PR Unit))(x:Yk)(hx:x.names.length<=BB)(hs:∀s∈x.names,s.size<=BB)(m:U (Y×Z)):
 loop F (Zfb F k m1 nx x) (0,m)=bif nWb (has m) x.names then nx (YX (k+1),Xw m1 x.text true,WK m x.names) else some (.Z9 2):=by
 refine ZM (fun(k:Nat)(m:U (Y×Z))=>((k:Int),m)) x.names (fun _ _=>True) (fun rest m=>bif nWb (has m) rest then nx (YX (k+1),Xw m1 x.text true,WK m rest) else some (.Z9 2)) ?_ ?_ (by unfold BB at hx;omega) m trivial
 ·intro s nx' _;simp only[Zfb,Zp,Cq0];rfl
 ·intro j y rest s nx' hy hj hg _ ih;simp only[Zfb,ZC hj,Cq1,hg,Bq0,nameP hF (hs y hy),Jj,ZeF,ZbW];rw[XQ (by unfold BB at hx;omega)];simp only[ih _ trivial,nWb,ZaL];cases hn:Qh y
  ·simp[gd]
  ·cases hh:has s y
   ·simp only[Zbd,Bq0,Ge,Gd,Cq1];rfl
   ·simp[gd]
  all_goals omega
def ZrP{F:Nat}(hF:10000000000000000000<=F)(c:Za)(h:Loc (.cl c)):(Zfa F c) ()=some (bif jW (fun _=>false) (fun _=>false) c.joins then .ok () else .Z9 2):=by
 obtain⟨h1,h2,h3,h4,h5⟩:=h;have:=ZM (body:=Zfc F c) (fun(k:Nat)(m:U (Y×Z)×U (Y×Z))=>((k:Int),m.1,m.2)) c.joins (fun _ _=>True) (fun rest m=>some (bif jW (has m.1) (has m.2) rest then PR.ok () else .Z9 2)) (F:=F) ?_ ?_ (by unfold BB at h2;omega) ([],[]) trivial
 ·rw[Zna]at this;exact this
 ·intro s nx' _;simp only[Zfc,Zp,Cq0];rfl
 ·intro j y rest s nx' hy hj hg _ ih;obtain⟨q1,q2,q3⟩:=h5 y hy;simp only[Zfc,ZC hj,Cq1,hg,Bq0,nameP hF q1,Jj,ZeF,ZbW,le3,ZrE hF _ _ _ y q2 q3];rw[XQ (by unfold BB at h2;omega)];have ih':=fun a b=>ih (a,b) trivial
  simp only at ih';simp only[ih',jW,ZaL,Zi8];cases hn:Qh y.text
  ·simp[gd]
  ·cases hh:has s.1 y.text
   ·simp only[Zbd,Bq0,Ge,Gd,Cq1];cases decide (y.names.length<=3)<;>cases nWb (has s.2) y.names<;>rfl
   ·simp[gd]
def Zig{F:Nat}(hF:10000000000000000000<=F)(c:Za)(h:Loc (.cl c)):ZlW F c=some (bif Wp c then .ok () else .Z9 2):=by
 have hj:=ZrP hF c h;obtain⟨h1,h2,h3,h4,h5⟩:=h;have e0:((c.joins.length:Int)==0)=(c.joins.length==0):=Uk _ 0;have e1:((c.kids.length:Int)==1)=(c.kids.length==1):=Uk _ 1;have e2:((c.defs.length:Int)==0)=(c.defs.length==0):=Uk _ 0;unfold ZlW Wp;simp only[Jj,Bq0,ZeF,hj,nameP hF h1,e0,e1,e2,le5,le3,gt0,ZpV,Zto];cases c.kids.length==1
 ·rfl
 ·by_cases f2:c.form=2
  ·rw[f2];simp only[Int.reduceBEq,Cq1,Gd];cases (Qh c.text&&(c.joins.length==0)&&decide (c.defs.length<=5))<;>rfl
  ·have:(c.form==2)=false:=by simpa using f2
   rw[this];cases c.form==1<;>cases (decide (c.text=E0))<;>cases (c.defs.length==0)<;>cases (decide (0<c.joins.length))<;>cases (decide (c.joins.length<=3))<;>cases (jW (fun _=>false) (fun _=>false) c.joins)<;>rfl
def Zw0{F:Nat}(hF:10000000000000000000<=F)(p:Part)(h:Loc p):Zp6 F p=some (bif U2 p then .ok () else .Z9 2):=by
 unfold Zp6;cases p with
 | pr t=>
   show(ZlY F t).bind _=_;rw[Zhe hF t h];show JS _ _ _=some (bif Zai t then _ else _);cases Zai t<;>rfl
 | ex e=>
   show(ZlX F e).bind _=_;rw[Zow hF e h];show JS _ _ _=some (bif Zaj e then _ else _);cases Zaj e<;>rfl
 | cl c=>
   show(ZlW F c).bind _=_;rw[Zig hF c h];show JS _ _ _=some (bif Wp c then _ else _);cases Wp c<;>rfl
def ZGT(ns:U Y)(x:Y):(fun s=>decide (s∈ns++[x]))=fun s=>decide (s∈ns)||decide (s=x):=by
 funext s;by_cases h1:s∈ns<;>by_cases h2:s=x<;>simp[h1,h2]
def ZPk(ns l:U Y):(fun s=>decide (s∈ns++l))=fun s=>decide (s∈ns)||decide (s∈l):=by
 funext s;by_cases h1:s∈ns<;>by_cases h2:s∈l<;>simp[h1,h2]
def Zu5{F:Nat}(hF:10000000000000000000<=F)(js:U Yk)(k:Nat)(y:Yk)(hg:ZN js (k:Int)=some y)(hx:y.names.length<=3)(hs:∀s∈y.names,s.size<=BB)(nx:(U Y)×(U Y)×Int->O Z)(z:U Y)(ns:U Y)(hns:ns.length<=100):
 loop F (ZhE F js (k:Int) nx z) (ns,0)=bif nWb (fun s=>decide (s∈ns)) y.names then nx (z,ns++y.names,YX ((k:Int)+1)) else some false:=by
 refine ZM (fun(k:Nat)(m:U Y)=>(m,(k:Int))) y.names (fun rest m=>m.length+rest.length<=200) (fun rest m=>bif nWb (fun s=>decide (s∈m)) rest then nx (z,m++rest,YX ((k:Int)+1)) else some false) ?_ ?_ Va ns Va
 ·intro s nx' _;simp only[ZhE,hg,Bq0,Zp,Cq0,Gk];rfl
 ·intro j x rest s nx' hy hj hgx hp ih;have hp':s.length+rest.length+1<=200:=by have:=hp;simp only[Kf]at this;omega
  simp only[ZhE,hg,ZC hj,Cq1,hgx,Bq0,ZxG hF (hs x hy)];rw[XQ Va,app1 Va Va];simp only[Bq0,nWb];cases hn:Qh x
  ·simp[gd]
  ·simp only[KK,Ge,gd,Cq1,Bq0,hgx];rw[has_eq F s x Va Va];by_cases hm:x∈s
   ·simp[hm]
   ·have e:decide (x∈s)=false:=decide_eq_false hm;simp only[gd,e,KK,Ge,Bool.or_false,Cq1,Cq0,Bq0,Bool.and_true,Gd];rw[ih (s++[x]) (by simp;omega),ZGT,Gf];rfl
def Zvk{F:Nat}(hF:10000000000000000000<=F)(js:U Yk)(h2:js.length<=BB)(h5:∀m∈js,m.text.size<=BB/\m.names.length<=BB/\∀s∈m.names,s.size<=BB):ZzO F js=some (decide (0<js.length)&&decide (js.length<=3)&&jW (fun _=>false) (fun _=>false) js):=by
 unfold ZzO;by_cases hl:0<js.length/\js.length<=3
 ·rw[decide_eq_false (show ¬ (js.length:Int)<1 by omega),decide_eq_false (show ¬ (js.length:Int)>3 by omega),decide_eq_true hl.1,decide_eq_true hl.2];simp only[Bool.or_false,Cq0,Gd];have:=ZM (body:=ZhF F js) (fun(k:Nat)(m:U Y×U Y)=>(m.1,m.2,(k:Int))) js (fun rest m=>m.1.length+rest.length<=3/\m.2.length+3*rest.length<=9) (fun rest m=>some (jW (fun s=>decide (s∈m.1)) (fun s=>decide (s∈m.2)) rest)) (F:=F) ?_ ?_ Va ([],[]) ⟨by simp;omega,by simp;omega⟩
  ·simpa using this
  ·intro s nx' _;simp only[ZhF,Zp,Cq0];rfl
  ·intro j y rest s nx' hy hj hg hp ih;obtain⟨q1,q2,q3⟩:=h5 y hy;obtain⟨p1,p2⟩:=hp;simp only[Kf]at p1 p2;simp only[ZhF,ZC hj,Cq1,hg,Bq0,ZxG hF q1];rw[app1 Va Va];simp only[Bq0,jW];cases hn:Qh y.text
   ·simp[gd]
   ·simp only[KK,Ge,gd,Cq1,Bq0,hg];rw[has_eq F s.1 y.text Va Va];by_cases hm:y.text∈s.1
    ·simp[hm]
    ·have e:decide (y.text∈s.1)=false:=decide_eq_false hm;simp only[gd,e,KK,Ge,Bool.or_false,Cq1,Cq0,Bq0,Bool.and_true,Gd,Gm];by_cases h3:y.names.length<=3
     ·rw[decide_eq_false (show ¬ (y.names.length:Int)>3 by omega),decide_eq_true h3,Cq0,Zu5 hF js j y hg h3 q3 nx' _ s.2 Va,XQ Va];have:=ih (s.1++[y.text],s.2++y.names) ⟨by simp;omega,by simp;omega⟩;simp only at this;rw[this,ZGT,ZPk];cases nWb (fun s_1=>decide (s_1∈s.2)) y.names<;>rfl
     ·rw[decide_eq_true (show(y.names.length:Int)>3 by omega),decide_eq_false h3];rfl
 ·have:(decide ((js.length:Int)<1)||decide ((js.length:Int)>3))=true:=by
   by_cases z:0<js.length
   ·rw[decide_eq_true (show(js.length:Int)>3 by omega)];simp
   ·rw[decide_eq_true (show(js.length:Int)<1 by omega)];rfl
  rw[this,Cq1];by_cases z:0<js.length
  ·rw[decide_eq_true z,decide_eq_false (show ¬ js.length<=3 by omega)];rfl
  ·rw[decide_eq_false z];rfl
abbrev NDB:=Nat×Nat×Z
def UF(s:Z×Nat×Nat)(r:NDB):Z×Nat×Nat:=(s.1&&r.2.2,s.2.1+r.1,max s.2.2 r.2.1)
def Zgf(s:Z×Nat×Nat):NDB:=(s.2.1,s.2.2+1,s.1)
def R(p:Part):NDB:=bif U2 p then Zgf (((ZE p).attach.map fun k=>R k.1).foldl UF (true,1,0)) else(1,1,false)
termination_by pz p
decreasing_by exact Zb4 k.2
def ZEb(p:Part):R p=bif U2 p then Zgf (((ZE p).map R).foldl UF (true,1,0)) else(1,1,false):=by rw[R,attach_map (ZE p) R]
def ZH0(l:U NDB):∀s,l.foldl UF s=(s.1&&l.all (·.2.2),s.2.1+(l.map (·.1)).sum,max s.2.2 (UX (l.map (·.2.1)))):=by
 induction l with
 | nil=>intro s;simp[UX]
 | cons x l ih=>
   intro s;rw[Gn,ih];simp only[UF,List.all_cons,G3,List.sum_cons,Je,Bool.and_assoc,GF,Nat.max_assoc]
def ZA4(p:Part):(R p).2.2=(pre p).all U2/\((pre p).all U2=true->(R p).1=(pre p).length/\(R p).2.1=dep p)/\(R p).1<=(pre p).length/\(R p).2.1<=(pre p).length:=by
 induction p using QI with
 | h p ih=>
   have key:∀l:U Part,(∀k∈l,(R k).2.2=(pre k).all U2/\((pre k).all U2=true->(R k).1=(pre k).length/\(R k).2.1=dep k)/\(R k).1<=(pre k).length/\(R k).2.1<=(pre k).length) ->
    (l.map R).all (·.2.2)=(l.flatMap pre).all U2/\((l.flatMap pre).all U2=true->((l.map R).map (·.1)).sum=(l.flatMap pre).length/\UX ((l.map R).map (·.2.1))=UX (l.map dep))/\((l.map R).map (·.1)).sum<=(l.flatMap pre).length/\UX ((l.map R).map (·.2.1))<=(l.flatMap pre).length:=by
    intro l
    induction l with
    | nil=>intro _;simp[UX]
    | cons x l ihl=>
      intro h;obtain⟨a1,a2,a3,a4⟩:=h x (by simp);obtain⟨b1,b2,b3,b4⟩:=ihl fun k hk=>h k (Ks _ hk)
      simp only[G3,List.all_cons,K2,List.all_append,List.sum_cons,Je,K0,a1,b1];refine⟨trivial,fun hh=>?_,by omega,by omega⟩;rw[Ba0]at hh;obtain⟨c1,c2⟩:=a2 hh.1;obtain⟨d1,d2⟩:=b2 hh.2;exact⟨by rw[c1,d1],by rw[c2,d2]⟩
   obtain⟨k1,k2,k3,k4⟩:=key (ZE p) ih;rw[ZEb,ZH0,pre_eq p];simp only[List.all_cons,Kf];cases hs:U2 p
   ·simp
   ·simp only[Cq1,Zgf,Gd,k1,Nat.zero_max];refine⟨trivial,fun hh=>?_,by omega,by omega⟩;obtain⟨c1,c2⟩:=k2 hh;exact⟨by rw[c1];omega,by rw[c2,Zj8]⟩
def XV{x p:Part}(h:x∈pre p):(pre x).length<=(pre p).length:=by
 induction p using QI with
 | h p ih=>
   rw[pre_eq p]at h;rcases Kx.1 h with rfl|h
   ·exact K1 _
   ·obtain⟨k,hk,hx⟩:=Q2.1 h;have:=ih k hk hx;have:=ZX hk;omega
def XR{x y p:Part}(h:x∈pre y)(hy:y∈pre p):x∈pre p:=by
 induction p using QI with
 | h p ih=>
   rw[pre_eq p]at hy;rcases Kx.1 hy with rfl|hy
   ·exact h
   ·obtain⟨k,hk,hyk⟩:=Q2.1 hy;exact ZQ hk (ih k hk hyk)
def Sm.mem{x p:Part}(h:Sm p)(hx:x∈pre p):Sm x:=⟨by have:=XV hx;have:=h.1;omega,fun y hy=>h.2 y (XR hy hx)⟩
def out(r:NDB):Int×Int×Z:=((r.1:Int),(r.2.1:Int),r.2.2)
def ZmV(a b:Nat){i:Decidable ((b:Int)>(a:Int))}:@ite Int ((b:Int)>(a:Int)) i (b:Int) (a:Int)=((max a b:Nat):Int):=by
 by_cases h:b>a
 ·rw[if_pos Va,Nat.max_eq_right Va]
 ·rw[if_neg Va,Nat.max_eq_left Va]
def ZOQ{n:Nat}(h:n<=4000000000000000000):YX (n:Int)=(n:Int):=Zh3 Va Va
def Zwy{a b:Nat}(h:a+b<=4000000000000000000):YX ((a:Int)+(b:Int))=((a+b:Nat):Int):=by rw[<-ZOQ h,Int.natCast_add]
def ZNW{α:Type}(c:α->Part)(B0:Nat)(rest:U α)(s:Z×Nat×Nat):Prop:=s.2.1+((rest.map c).flatMap pre).length<=B0/\s.2.2<=1000000000
def ZiT{α:Type}{body:Z×Int×Int×Int->(Z×Int×Int×Int->O (Int×Int×Z))->O (Int×Int×Z)}(l:U α)(c:α->Part)(g:α->O (Int×Int×Z))(fin:Z×Nat×Nat->O (Int×Int×Z))(hl:l.length<=BB){B0:Nat}(hB:B0<=1000000000)
 (hg:∀x∈l,g x=some (out (R (c x))))
 (hb:∀b (n d i:Int) nx,body (b,n,d,i) nx=bif decide (i<(l.length:Int)) then(ZN l i).bind fun x=>(g x).bind fun y=>nx ((b&&y.2.2),YX (n+y.1),(if y.2.1>d then y.2.1 else d),YX (i+1)) else body (b,n,d,(l.length:Int)) nx)
 (he:∀s nx,s.2.1<=B0->s.2.2<=1000000000->body (s.1,(s.2.1:Int),(s.2.2:Int),(l.length:Int)) nx=fin s) {F:Nat} (hF:10000000000000000000<=F) (s:Z×Nat×Nat) (hp:ZNW c B0 l s) (hp2:∀x∈l,(pre (c x)).length<=BS):loop F body (s.1,(s.2.1:Int),(s.2.2:Int),0)=fin ((l.map fun x=>R (c x)).foldl UF s):=by
 refine ZM (fun(k:Nat)(s:Z×Nat×Nat)=>(s.1,(s.2.1:Int),(s.2.2:Int),(k:Int))) l (ZNW c B0) (fun rest s=>fin ((rest.map fun x=>R (c x)).foldl UF s)) ?_ ?_ (by unfold BB at hl;omega) s hp
 ·intro s nx hp;exact he s nx (by have:=hp.1;omega) hp.2
 ·intro k x rest s nx hx hk hgi hp ih;obtain⟨p1,p2⟩:=hp;simp only[G3,K2,K0]at p1;obtain⟨_,_,r1,r2⟩:=ZA4 (c x);have h2:=hp2 x hx;unfold BS at h2;unfold BB at hl;show body (s.1,(s.2.1:Int),(s.2.2:Int),(k:Int)) nx=_;rw[hb,ZC hk,Cq1,hgi,Bq0,hg x hx,Bq0];show nx (s.1&&(R (c x)).2.2,YX ((s.2.1:Int)+((R (c x)).1:Int)),(if((R (c x)).2.1:Int)>(s.2.2:Int) then((R (c x)).2.1:Int) else(s.2.2:Int)),YX ((k:Int)+1))=_;rw[Zwy Va,ZmV,XQ Va];have:=ih (UF s (R (c x))) ⟨by simp only[UF];omega,by simp only[UF];omega⟩;simp only[UF]at this;rw[this]
  rfl
def Zqy(a:Nat):((a:Int)==0)=(a==0):=Uk a 0
def Zqx(a:Nat):((a:Int)==1)=(a==1):=Uk a 1
def ZAs(a:Nat):((a:Int)==2)=(a==2):=Uk a 2
def ZDR(a:Nat):((a:Int)==-1)=false:=by rw[beq_eq_false_iff_ne];omega
def nmW(g b:Z)(s:Y):Z:=g&&(bif b then Qh s else decide (s=E0))
def Zr7{F:Nat}(hF:10000000000000000000<=F){s:Y}(h:s.size<=BB)(g b:Z):gd g (ZlZ F s b) default=some (nmW g b s):=by
 rw[ZGE hF h];cases g<;>rfl
def ZIn(e:Zi)(v:Nat)(hv:v=(if 3<=e.op/\e.op<=7 then 2 else 0)):(((((((decide (e.op >=1))&&(decide (e.op<=7)))&&nmW ((decide (e.op >=1))&&(decide (e.op<=7))) (e.op==2) e.text)&&((e.kids.length:Int)==(v:Int)))&&((e.op==1)||(e.n==0)))&&(decide (e.n >=(-1000000000))))&&(decide (e.n<=1000000000)))=Zaj e:=by
 obtain⟨op,n,tx,ks⟩:=e;dsimp only at hv ⊢;rw[Uk];have hc:op=1\/op=2\/op=3\/op=4\/op=5\/op=6\/op=7\/op<1\/7<op:=Va
 have hz:∀X:Z,((X&&(n==0))&&decide (n >=-1000000000)&&decide (n<=1000000000))=(X&&(n==0)):=fun X=>by
  by_cases h:n=0
  ·subst h;simp
  ·have:(n==0)=false:=by simpa using h
   rw[this];simp
 rcases hc with rfl|rfl|rfl|rfl|rfl|rfl|rfl|hc
 ·rw[if_neg Va]at hv;subst hv;unfold Zaj nmW;simp only[Int.reduceBEq,Cq1,Cq0,Bool.true_or,Bool.and_true];have a1:(decide ((1:Int) >=1)&&decide ((1:Int)<=7))=true:=by decide
  rw[a1];cases decide (n >=-1000000000)<;>cases decide (n<=1000000000)<;>cases decide (tx=E0)<;>cases ks.length==0<;>rfl
 ·rw[if_neg Va]at hv;subst hv;unfold Zaj nmW;simp only[Int.reduceBEq,Cq1,Cq0,Gm];have a1:(decide ((2:Int) >=1)&&decide ((2:Int)<=7))=true:=by decide
  rw[a1,hz];cases Qh tx<;>cases n==0<;>cases ks.length==0<;>rfl
 all_goals first
  | (rw[if_pos Va]at hv;subst hv
     unfold Zaj nmW;simp only[Int.reduceBEq,Cq1,Cq0,Gm];rw[hz];simp only[ge_iff_le,Int.reduceLE,decide_true,Bool.and_self,Gd];cases decide (tx=E0)<;>cases n==0<;>cases ks.length==2<;>rfl)
  | (have q:(decide (op >=1)&&decide (op<=7))=false:=by
      rcases hc with hc|hc
      ·rw[decide_eq_false (show ¬ op >=1 by omega)];rfl
      ·rw[decide_eq_false (show ¬ op<=7 by omega)];simp
     have q1:(op==1)=false:=by simp;omega
     have q2:(op==2)=false:=by simp;omega
     have q3:(decide (op >=3)&&decide (op<=7))=false:=by
      rcases hc with hc|hc
      ·rw[decide_eq_false (show ¬ op >=3 by omega)];rfl
      ·rw[decide_eq_false (show ¬ op<=7 by omega)];simp
     unfold Zaj;rw[q,q1,q2,q3];rfl)
def XY{e x:Zi}(h:x∈e.kids):Part.ex x∈ZE (.ex e):=Gj h
def JG{t:Term}{x:Zi}(h:x∈t.args):Part.ex x∈ZE (.pr t):=List.mem_append_left _ (List.mem_append_left _ (Gj h))
def Y4{t:Term}{x:Za}(h:x∈t.defs):Part.cl x∈ZE (.pr t):=List.mem_append_left _ (GM _ (Gj h))
def XF{t x:Term}(h:x∈t.kids):Part.pr x∈ZE (.pr t):=GM _ (Gj h)
def YK{c x:Za}(h:x∈c.defs):Part.cl x∈ZE (.cl c):=List.mem_append_left _ (Gj h)
def X5{c:Za}{x:Term}(h:x∈c.kids):Part.pr x∈ZE (.cl c):=GM _ (Gj h)
def ZtU(s:Z×Nat×Nat)(h:s.2.2<=1000000000):(some ((s.2.1:Int),YX ((s.2.2:Int)+1),s.1):O (Int×Int×Z))=some (out (Zgf s)):=by
 rw[XQ Va];rfl
def ZDw{F:Nat}(hF:10000000000000000000<=F):∀n e,Sm (.ex e)->(pre (.ex e)).length<=n->∀Fr,n<=Fr->loop Fr (Zjv F) e=some (out (R (.ex e))):=by
 intro n
 induction n with
 | zero=>intro e hs hn;have:=YQ (.ex e);omega
 | succ n ih=>
   intro e hs hn Fr hFr;obtain⟨G,rfl⟩:∃G,Fr=G+1:=⟨Fr-1,by omega⟩
   rw[ZH];have hl:=hs.loc;have hlen:=Xe (.ex e);have hBB:=hs.1
   have j:∀v:Nat,v=(if 3<=e.op/\e.op<=7 then 2 else 0)->(Znj F e (loop G (Zjv F))) (v:Int)=some (out (R (.ex e))):=by
    intro v hv;unfold Znj;rw[Zr7 hF hl.1,Bq0,ZIn e v hv,ZEb];show _=some (out (bif Zaj e then _ else _));cases hsh:Zaj e
    ·rfl
    ·simp only[KK,Cq0,Cq1]
     have:=ZiT (body:=Zjw e (loop G (Zjv F))) e.kids .ex (loop G (Zjv F)) (fun s=>some (out (Zgf s))) hl.2 Vb (fun x hx=>ih x (hs.kid (XY hx)) (by have:=ZX (XY hx);omega) G Va)
      (fun b n d i nx=>by simp only[Zjw,Zp,Cq0]) (fun s nx _ h2=>by simp only[Zjw,Zp,Cq0];exact ZtU s h2) hF (true,1,0) ⟨by show 1+((ZE (.ex e)).flatMap pre).length<=_;unfold BS at hBB;omega,Gi _⟩ (fun x hx=>(hs.kid (XY hx)).1)
     show loop F (Zjw e (loop G (Zjv F))) (true,((1:Nat):Int),((0:Nat):Int),0)=_;rw[this];show some (out (Zgf ((e.kids.map fun x=>R (.ex x)).foldl UF (true,1,0))))=some (out (Zgf (((e.kids.map .ex).map R).foldl UF (true,1,0))));rw[GE];rfl
   unfold Zjv;by_cases h:3<=e.op/\e.op<=7
   ·rw[decide_eq_true (show e.op >=3 from h.1),decide_eq_true h.2];exact j 2 (by rw[if_pos h])
   ·have:(decide (e.op >=3)&&decide (e.op<=7))=false:=by
     rw[Gg,Ne,Ba0,decide_eq_true_iff,decide_eq_true_iff];exact h
    rw[this];exact j 0 (by rw[if_neg h])
def ZvR(c:Za)(x5:Z)(h5:c.form=1->x5=(decide (0<c.joins.length)&&decide (c.joins.length<=3)&&jW (fun _=>false) (fun _=>false) c.joins)\/((((((((c.form==1)||(c.form==2))&&nmW ((c.form==1)||(c.form==2)) (!(c.form==1)) c.text)&&((c.kids.length:Int)==1))&&(decide ((c.defs.length:Int)<=5)))&&(!(!(c.form==1))))&&((c.defs.length:Int)==0))=false)):
 (((((((c.form==1)||(c.form==2))&&nmW ((c.form==1)||(c.form==2)) (!(c.form==1)) c.text)&&((c.kids.length:Int)==1))&&(decide ((c.defs.length:Int)<=5)))&&((!(c.form==1))||(((c.defs.length:Int)==0)&&x5)))&&((c.form==1)||((c.joins.length:Int)==0)))=Wp c:=by
 unfold Wp nmW;simp only[Zqx,Zqy,le5]at h5 ⊢;by_cases f1:c.form=1
 ·have h5:=h5 f1;rw[f1]at h5 ⊢;simp only[Int.reduceBEq,Bool.true_or,KK,Gm,Cq1,Cq0,Gd,Bool.and_true,nmW,Ge]at h5 ⊢;rcases h5 with rfl|h5
  ·cases decide (c.text=E0)<;>cases c.kids.length==1<;>cases hd:(c.defs.length==0)<;>simp
   intro _;have:c.defs.length=0:=by simpa using hd
   omega
  ·cases hk:(c.kids.length==1)<;>cases ht:decide (c.text=E0)<;>cases hd:(c.defs.length==0)<;>rw[hk,ht,hd]at h5<;>simp at h5 ⊢
   have:c.defs.length=0:=by simpa using hd
   omega
 ·have e1:(c.form==1)=false:=by simpa using f1
  by_cases f2:c.form=2
  ·rw[f2];simp only[Int.reduceBEq,Gm,Ge,Bool.true_or,Cq1,Gd,Bool.and_true];cases Qh c.text<;>cases c.kids.length==1<;>cases decide (c.defs.length<=5)<;>cases c.joins.length==0<;>rfl
  ·have e2:(c.form==2)=false:=by simpa using f2
   rw[e1,e2];cases c.kids.length==1<;>rfl
def ZbJ(op:Int):Int×Int×Int:=
 bif op==2 then(-1,0,0) else bif op==3 then(0,2,0) else bif op==4 then(0,1,-1) else bif op==5 then(1,2,0) else bif(op==6)||(op==8) then(0,1,0) else(0,0,0)
def ZBL(t:Term):((((((decide (t.op >=1))&&(decide (t.op<=8)))&&nmW ((decide (t.op >=1))&&(decide (t.op<=8))) (((t.op==2)||(t.op==6))||(t.op==8)) t.text)&&((t.kids.length:Int)==(ZbJ t.op).2.1))&&(((decide ((ZbJ t.op).1<0))&&(decide ((t.args.length:Int)<=3)))||((t.args.length:Int)==(ZbJ t.op).1)))&&((((decide ((ZbJ t.op).2.2<0))&&(decide ((t.defs.length:Int)>0)))&&(decide ((t.defs.length:Int)<=5)))||((t.defs.length:Int)==(ZbJ t.op).2.2)))=Zai t:=by
 have hc:t.op=1\/t.op=2\/t.op=3\/t.op=4\/t.op=5\/t.op=6\/t.op=7\/t.op=8\/t.op<1\/8<t.op:=Va
 unfold Zai szs nmW;rcases hc with h|h|h|h|h|h|h|h|h
 case inr.inr.inr.inr.inr.inr.inr.inr=>
  have q:(decide (t.op >=1)&&decide (t.op<=8))=false:=by
   rcases h with h|h
   ·rw[decide_eq_false (show ¬ t.op >=1 by omega)];rfl
   ·rw[decide_eq_false (show ¬ t.op<=8 by omega)];simp
  have e1:(t.op==1)=false:=by simp;omega
  have e2:(t.op==2)=false:=by simp;omega
  have e3:(t.op==3)=false:=by simp;omega
  have e4:(t.op==4)=false:=by simp;omega
  have e5:(t.op==5)=false:=by simp;omega
  have e6:(t.op==6)=false:=by simp;omega
  have e7:(t.op==7)=false:=by simp;omega
  have e8:(t.op==8)=false:=by simp;omega
  rw[q,e1,e2,e3,e4,e5,e6,e7,e8];rfl
 all_goals
  rw[h];simp only[ZbJ,Int.reduceBEq,Cq1,Cq0,Bool.true_or,Bool.or_true,Gm,Bool.or_false,ge_iff_le,Int.reduceLE,Int.reduceLT,decide_true,decide_false,Gd,Gq,Bool.and_true,Zqy,Zqx,ZAs,ZDR,le3,le5,gt0,beq_self_eq_true,Int.reduceNeg]
  ac_rfl
def Zuu{α:Type}(c:α->Part)(l:U α):(l.map fun x=>R (c x))=(l.map c).map R:=by rw[GE];rfl
def Zwx(F:Nat)(t:Term)(nx:Term->O (Int×Int×Z)):ZpZ F t nx=(Zcl F t nx) (ZbJ t.op):=by
 unfold ZpZ Zsf ZbJ;cases t.op==2<;>cases t.op==3<;>cases t.op==4<;>cases t.op==5<;>cases t.op==6<;>cases t.op==8<;>rfl
def CT(F n:Nat):Prop:=∀t,Sm (.pr t)->(pre (.pr t)).length<=n->∀Fr,n<=Fr->loop Fr (ZpZ F) t=some (out (R (.pr t)))
def CC(F n:Nat):Prop:=∀c next,Sm (.cl c)->(pre (.cl c)).length<=n->(∀t,Part.pr t∈pre (.cl c)->next t=some (out (R (.pr t))))->∀Fr,n<=Fr->loop Fr (Zj1 F next) c=some (out (R (.cl c)))
def c0W(c:Za):Z:=((((((((c.form==1)||(c.form==2))&&nmW ((c.form==1)||(c.form==2)) (!(c.form==1)) c.text)&&((c.kids.length:Int)==1))&&(decide ((c.defs.length:Int)<=5)))&&(!(!(c.form==1))))&&((c.defs.length:Int)==0)))
def ZEm{F n:Nat}(hF:10000000000000000000<=F)(ih:CC F n):CC F (n+1):=by
 intro c next hs hn hnext Fr hFr;obtain⟨G,rfl⟩:∃G,Fr=G+1:=⟨Fr-1,by omega⟩
 rw[ZH];obtain⟨l1,l2,l3,l4,l5⟩:=hs.loc;have hlen:=Xe (.cl c);have hBB:=hs.1;have hih:∀x∈c.defs,loop G (Zj1 F next) x=some (out (R (.cl x))):=fun x hx=>ih x next (hs.kid (YK hx)) (by have:=ZX (YK hx);omega) (fun t ht=>hnext t (ZQ (YK hx) ht)) G Va
 generalize loop G (Zj1 F next)=nx1 at hih;unfold Zj1;rw[Zr7 hF l1,Bq0,Zvk hF c.joins l2 l5];have hgd:∀(b:Z)(x:Z),gd b (some x) default=some (b&&x):=fun b x=>by cases b<;>rfl
 rw[hgd,Bq0]
 have h5:=ZvR c (c0W c&&(decide (0<c.joins.length)&&decide (c.joins.length<=3)&&jW (fun _=>false) (fun _=>false) c.joins)) (fun _=>by
  cases hc:c0W c
  ·exact .inr hc
  ·exact .inl rfl)
 unfold c0W at h5;rw[h5,ZEb];show _=some (out (bif Wp c then _ else _));cases hsh:Wp c
 ·rfl
 ·simp only[KK,Cq0,Cq1]
  obtain⟨k0,hk0⟩:∃k0,c.kids=[k0]:=by
   unfold Wp at hsh;rw[Ba0]at hsh;have:=hsh.1;rw[beq_iff_eq]at this
   match hk:c.kids,this with
   | [k0],_=>exact⟨k0,rfl⟩
  have ZP9:Part.pr k0∈ZE (.cl c):=X5 (by rw[hk0];simp);have hkp:ZE (.cl c)=c.defs.map .cl++[.pr k0]:=by show c.defs.map Part.cl++c.kids.map Part.pr=_;rw[hk0];rfl
  have hfl:(pre (.cl c)).length=((c.defs.map Part.cl).flatMap pre).length+(pre (.pr k0)).length+1:=by rw[hlen,hkp,J1];simp
  obtain⟨_,_,r1,r2⟩:=ZA4 (.pr k0)
  have:=ZiT (body:=Zfl c next nx1) c.defs .cl nx1 (fun s=>some (out (Zgf (UF s (R (.pr k0)))))) l3 (B0:=1+((c.defs.map Part.cl).flatMap pre).length) (by unfold BS at hBB;omega)
   hih
   (fun b n d i nx=>by simp only[Zfl,Zp,Cq0])
   (fun s nx h1 h2=>by
     simp only[Zfl,Zp,Cq0];have hg0:ZN c.kids 0=some k0:=by rw[hk0];rfl
     rw[hg0,Bq0,hnext k0 (ZQ ZP9 (Yh _)),Bq0];unfold BS at hBB;show some (YX ((s.2.1:Int)+((R (.pr k0)).1:Int)),YX ((if((R (.pr k0)).2.1:Int)>(s.2.2:Int) then((R (.pr k0)).2.1:Int) else(s.2.2:Int))+1),(s.1&&(R (.pr k0)).2.2))=_;rw[Zwy Va,ZmV,XQ Va];rfl)
   hF (true,1,0) ⟨K1 _,Gi _⟩ (fun x hx=>(hs.kid (YK hx)).1)
  show loop F (Zfl c next nx1) (true,((1:Nat):Int),((0:Nat):Int),0)=_;rw[this,hkp,GC,GJ,Zuu];rfl
def ZEl{F n:Nat}(hF:10000000000000000000<=F)(hnF:n<=F)(ih:CT F n)(ihc:CC F n):CT F (n+1):=by
 intro t hs hn Fr hFr;obtain⟨G,rfl⟩:∃G,Fr=G+1:=⟨Fr-1,by omega⟩
 rw[ZH,Zwx];obtain⟨l1,l2,l3,l4⟩:=hs.loc;have hlen:=Xe (.pr t);have hBB:=hs.1;have hkp:ZE (.pr t)=t.args.map .ex++t.defs.map .cl++t.kids.map .pr:=rfl;have hfl:(pre (.pr t)).length=((t.args.map Part.ex).flatMap pre).length+((t.defs.map Part.cl).flatMap pre).length+((t.kids.map Part.pr).flatMap pre).length+1:=by rw[hlen,hkp,J1,J1,K0,K0]
 unfold Zcl;dsimp only;rw[Zr7 hF l1,Bq0];rw[ZBL t,ZEb];show _=some (out (bif Zai t then _ else _));cases hsh:Zai t
 ·rfl
 ·simp only[KK,Cq0,Cq1];generalize hnx:loop G (ZpZ F)=next;have hnext:∀x,Part.pr x∈pre (.pr t)->(pre (.pr x)).length<=n->next x=some (out (R (.pr x))):=fun x hx hl=>by rw[<-hnx];exact ih x (hs.mem hx) hl G Va
  unfold BS at hBB
  have hk:∀s:Z×Nat×Nat,s.2.1+((t.kids.map Part.pr).flatMap pre).length<=1000000000->s.2.2<=1000000000->loop F (ZjC t next) (s.1,(s.2.1:Int),(s.2.2:Int),0)=some (out (Zgf (((t.kids.map .pr).map R).foldl UF s))):=by
   intro s h1 h2
   have:=ZiT (body:=ZjC t next) t.kids .pr next (fun s=>some (out (Zgf s))) l4 Vb (fun x hx=>hnext x (ZQ (XF hx) (Yh _)) (by have:=ZX (XF hx);omega))
    (fun b n d i nx=>by simp only[ZjC,Zp,Cq0]) (fun s nx _ h2=>by simp only[ZjC,Zp,Cq0];exact ZtU s h2) hF s ⟨h1,h2⟩ (fun x hx=>(hs.kid (XF hx)).1)
   rw[this,Zuu]
  have hd:∀s:Z×Nat×Nat,s.2.1+((t.defs.map Part.cl).flatMap pre).length+((t.kids.map Part.pr).flatMap pre).length<=1000000000->s.2.2<=1000000000->loop F (ZjD F t next) (s.1,(s.2.1:Int),(s.2.2:Int),0)=some (out (Zgf (((t.kids.map .pr).map R).foldl UF (((t.defs.map .cl).map R).foldl UF s)))):=by
   intro s h1 h2
   have:=ZiT (body:=ZjD F t next) t.defs .cl (fun x=>ZFz F next x) (fun s=>some (out (Zgf (((t.kids.map .pr).map R).foldl UF s)))) l3 (B0:=s.2.1+((t.defs.map Part.cl).flatMap pre).length) Va
    (fun x hx=>ihc x next (hs.kid (Y4 hx)) (by have:=ZX (Y4 hx);omega) (fun y hy=>hnext y (ZQ (Y4 hx) hy) (by have:=XV hy;have:=ZX (Y4 hx);omega)) F hnF)
    (fun b n d i nx=>by simp only[ZjD,Zp,Cq0]) (fun s' nx h3 h4=>by simp only[ZjD,Zp,Cq0];exact hk s' Va h4) hF s ⟨K1 _,h2⟩ (fun x hx=>(hs.kid (Y4 hx)).1)
   rw[this,Zuu]
  have:=ZiT (body:=ZjE F t next) t.args .ex (fun x=>ZMY F x) (fun s=>some (out (Zgf (((t.kids.map .pr).map R).foldl UF (((t.defs.map .cl).map R).foldl UF s))))) l2 (B0:=1+((t.args.map Part.ex).flatMap pre).length) Va
   (fun x hx=>ZDw hF _ x (hs.kid (JG hx)) Vb F (by have:=(hs.kid (JG hx)).1;unfold BS at this;omega))
   (fun b n d i nx=>by simp only[ZjE,Zp,Cq0]) (fun s' nx h3 h4=>by simp only[ZjE,Zp,Cq0];exact hd s' Va h4) hF (true,1,0) ⟨K1 _,Gi _⟩ (fun x hx=>(hs.kid (JG hx)).1)
  show loop F (ZjE F t next) (true,((1:Nat):Int),((0:Nat):Int),0)=_;rw[this,hkp,GC,GC,GJ,GJ,Zuu]
def CTC{F:Nat}(hF:10000000000000000000<=F):∀n,n<=F->CT F n/\CC F n:=by
 intro n
 induction n with
 | zero=>intro _;exact⟨fun t hs hn=>by have:=YQ (.pr t);omega,fun c nx hs hn=>by have:=YQ (.cl c);omega⟩
 | succ n ih=>intro hn;obtain⟨a,b⟩:=ih Va;exact⟨ZEl hF Va a b,ZEm hF b⟩
def ZwN{F:Nat}(hF:10000000000000000000<=F)(t:Term)(hs:Sm (.pr t)):ZM2 F t=some (out (R (.pr t))):=
 (CTC hF _ (by have:=hs.1;unfold BS at this;omega)).1 t hs Vb F (by have:=hs.1;unfold BS at this;omega)
def ZIZ{α:Type}{b:Nat}{l:U α}{x:α}(h:l.length<=4000000)(hb:b<=1000):app b l [x]=some (l++[x]):=by
 refine ZnX ?_;have:(2*(l.length + [x].length)+1000)*b<=8001002*1000:=Nat.mul_le_mul (by simp;omega) hb;have e:(2:Nat) ^ 47=140737488355328:=by decide
 rw[e];omega
def ZeQ{α γ:Type}{body:U γ×Int->(U γ×Int->O (U γ))->O (U γ)}(l:U α)(c:α->γ)(fin:U γ->O (U γ))(hl:l.length<=BS)(b:Nat)(hb:b<=1000)
 (h:∀s (k:Int) nx,body (s,k) nx=bif decide (k<(l.length:Int)) then(ZN l k).bind fun x=>(app b s [c x]).bind fun z=>nx (z,YX (k+1)) else fin s) {F:Nat} (hF:10000000000000000000<=F) (s:U γ) (hs:s.length<=2500000):loop F body (s,0)=fin (s++l.map c):=by
 unfold BS at hl;refine ZM (fun(k:Nat)(s:U γ)=>(s,(k:Int))) l (fun rest s=>s.length+rest.length<=3600000) (fun rest s=>fin (s++rest.map c)) ?_ ?_ Va s Va
 ·intro s nx _;rw[h,Zp,Cq0];simp
 ·intro k x rest s nx hx hk hg hp ih;have hp':s.length+rest.length+1<=3600000:=by have:=hp;simp only[Kf]at this;omega
  show body (s,(k:Int)) nx=_;rw[h,ZC hk,Cq1,hg,Bq0,ZIZ Va hb,Bq0,XQ Va,ih _ (by simp;omega)];simp
def Zma{F:Nat}(hF:10000000000000000000<=F)(s:U Part)(hs:s.length<=2500000)(l:U Za)(hl:l.length<=BS):ZlS F s l=some (s++l.map .cl):=
 ZeQ (body:=Znr l) l .cl some hl 16 Va (fun s k nx=>rfl) hF s hs
def Zqz{F:Nat}(hF:10000000000000000000<=F)(s:U Part)(hs:s.length<=2500000)(l:U Term)(hl:l.length<=BS):ZlT F s l=some (s++l.map .pr):=
 ZeQ (body:=Zns l) l .pr some hl 16 Va (fun s k nx=>rfl) hF s hs
def parts_eq{F:Nat}(hF:10000000000000000000<=F)(p:Part)(h:(ZE p).length<=BS):ZbX F p=some (ZE p):=by
 unfold ZbX;cases p with
 | pr t=>
   simp only[ZE,K0,JT]at h;have l2:t.args.length<=BS:=Va
   have l3:t.defs.length<=BS:=Va
   have l4:t.kids.length<=BS:=Va
   have e1:=Zma hF (t.args.map Part.ex) (by unfold BS at l2;simp;omega) t.defs l3;have e2:=Zqz hF (t.args.map Part.ex++t.defs.map Part.cl) (by unfold BS at l2 l3;simp;omega) t.kids l4;have:=ZeQ (body:=Znt F ⟨t⟩) t.args .ex (fun s=>(ZlS F s t.defs).bind fun x=>(ZlT F x t.kids).bind fun y=>some y) l2 16 Va (fun s k nx=>rfl) hF [] (by simp);show Zp3 F ⟨t⟩=_;unfold Zp3;rw[this,G5,e1,Bq0,e2];rfl
 | ex e=>
   exact ZeQ (body:=Znq ⟨e⟩) e.kids .ex some (by simpa[ZE]using h) 16 Va (fun s k nx=>rfl) hF [] (by simp)
 | cl c=>
   simp only[ZE,K0,JT]at h;have l3:c.defs.length<=BS:=Va
   have l4:c.kids.length<=BS:=Va
   have e1:=Zma hF [] (by simp) c.defs l3;have e2:=Zqz hF ([]++c.defs.map Part.cl) (by unfold BS at l3;simp;omega) c.kids l4;show Zp2 F ⟨c⟩=_;unfold Zp2;rw[e1,Bq0,e2];rfl
def ZmZ{p:Part}(hs:Sm p):(ZE p).length<=BS:=by have:=ZaJ p;have:=hs.1;omega
def ZwX{p:Part}(h:U2 p=true)(hl:Loc p):(ZE p).length<=100:=by
 cases p with
 | pr t=>
   have h:Zai t=true:=h;have e:(ZE (.pr t)).length=t.args.length+t.defs.length+t.kids.length:=by simp[ZE,GF]
   rw[e];unfold Zai at h;rw[Ba0]at h;replace h:=h.1
   have sz:∀{a d k:Nat},szs t a d k=true->t.args.length=a/\t.defs.length=d/\t.kids.length=k:=fun h=>by
    unfold szs at h;simp only[Ba0,beq_iff_eq]at h;exact⟨h.1.1,h.1.2,h.2⟩
   cases c1:(t.op==1||t.op==7)<;>rw[c1]at h
   case true=>have:=sz h;omega
   cases c2:t.op==2<;>rw[c2]at h
   case true=>simp only[Cq1,Cq0,Ba0,decide_eq_true_eq]at h;have:=sz h.2;omega
   cases c3:t.op==3<;>rw[c3]at h
   case true=>have:=sz h;omega
   cases c4:t.op==4<;>rw[c4]at h
   case true=>simp only[Cq1,Cq0,Ba0,decide_eq_true_eq]at h;have:=sz h.2;omega
   cases c5:t.op==5<;>rw[c5]at h
   case true=>have:=sz h;omega
   simp only[Cq0,Ba0]at h;have:=sz h.2;omega
 | ex e=>
   have h:Zaj e=true:=h;have el:(ZE (.ex e)).length=e.kids.length:=by simp[ZE]
   rw[el];unfold Zaj at h;cases c1:e.op==1<;>rw[c1]at h
   case true=>simp only[Cq1,Ba0,beq_iff_eq]at h;omega
   cases c2:e.op==2<;>rw[c2]at h
   case true=>simp only[Cq1,Cq0,Ba0,beq_iff_eq]at h;omega
   simp only[Cq0,Ba0,beq_iff_eq]at h;omega
 | cl c=>
   have h:Wp c=true:=h;have el:(ZE (.cl c)).length=c.defs.length+c.kids.length:=by simp[ZE]
   rw[el];unfold Wp at h;rw[Ba0,beq_iff_eq]at h;obtain⟨h1,h⟩:=h;cases c1:c.form==2<;>rw[c1]at h
   ·simp only[Cq0,Ba0,beq_iff_eq,decide_eq_true_eq]at h;omega
   ·simp only[Cq1,Ba0,beq_iff_eq,decide_eq_true_eq]at h;omega
def ZDH{F:Nat}(hF:10000000000000000000<=F):∀n p,Sm p->(pre p).length<=n->∀Fr,n<=Fr->loop Fr (ZjA F) p=some (dep p:Int):=by
 intro n
 induction n with
 | zero=>intro p hs hn;have:=YQ p;omega
 | succ n ih=>
   intro p hs hn Fr hFr;obtain⟨G,rfl⟩:∃G,Fr=G+1:=⟨Fr-1,by omega⟩
   rw[ZH];have hK:=ZmZ hs;have hih:∀k∈ZE p,loop G (ZjA F) k=some (dep k:Int):=fun k hk=>ih k (hs.kid hk) (by have:=ZX hk;omega) G Va
   generalize loop G (ZjA F)=nx1 at hih;unfold ZjA;rw[parts_eq hF p hK,Bq0];unfold BS at hK;have:=ZM (body:=ZjB nx1 (ZE p)) (fun(k:Nat)(s:Nat)=>((s:Int),(k:Int))) (ZE p) (fun _ s=>s<=BS) (fun rest s=>some (((max s (UX (rest.map dep))+1:Nat)):Int)) (F:=F) ?_ ?_ Va 0 (Gi _)
   ·rw[Zj8];rw[Nat.zero_max]at this;exact this
   ·intro s nx hs';unfold BS at hs';simp only[ZjB,Zp,Cq0];rw[XQ Va];simp[UX]
   ·intro k x rest s nx hx hk hg hs' ih;unfold BS at hs';simp only[ZjB,ZC hk,Cq1,hg,Bq0,hih x hx];rw[ZmV,XQ Va];have hd:=Zz7 x;have hx2:=(hs.kid hx).1;have:=ih (max s (dep x)) (by unfold BS at hx2 ⊢;omega);rw[this,G3,Je,Nat.max_assoc]
def V1(m:Nat)(l:U Part):PR (Z×Int):=bif decide (m+l.length<=60)&&l.all U2 then .ok (true,((m+l.length:Nat):Int)) else .Z9 2
def ZPl(n:Nat):decide ((n:Int)<=60)=decide (n<=60):=by
 by_cases z:n<=60
 ·rw[decide_eq_true z,decide_eq_true Va]
 ·rw[decide_eq_false z,decide_eq_false Va]
def ZKl{F:Nat}(hF:10000000000000000000<=F):∀n p,Lo p->(pre p).length<=n->∀Fr,n<=Fr->∀m:Nat,m<=60->loop Fr (Zck F) (p,(m:Int))=some (V1 m (pre p)):=by
 intro n
 induction n with
 | zero=>intro p hs hn;have:=YQ p;omega
 | succ n ih=>
   intro p hs hn Fr hFr m hm;obtain⟨G,rfl⟩:∃G,Fr=G+1:=⟨Fr-1,by omega⟩
   rw[ZH];have hih:∀k∈ZE p,∀m:Nat,m<=60->loop G (Zck F) (k,(m:Int))=some (V1 m (pre k)):=fun k hk=>ih k (hs.kid hk) (by have:=ZX hk;omega) G Va
   generalize loop G (Zck F)=nx1 at hih;unfold Zck;dsimp only;rw[XQ Va,ZPl,Jj,Bq0,ZeF,Zw0 hF p hs.loc,Bq0,ZeF];by_cases h60:m+1<=60
   ·rw[decide_eq_true h60,Cq1];cases hsh:U2 p
    ·show some (PR.Z9 2)=_;rw[pre_eq];unfold V1;simp[hsh]
    ·simp only[Cq1,KK,Cq0];have hK:=ZwX hsh hs.loc;rw[parts_eq hF p (by unfold BS;omega),Bq0];have:=ZM (body:=Zjy nx1 (ZE p)) (fun(k:Nat)(s:Nat)=>((k:Int),(s:Int))) (ZE p) (fun _ s=>s<=60) (fun rest s=>some (V1 s (rest.flatMap pre))) (F:=F) ?_ ?_ Va (m+1) h60
     ·have e:V1 (m+1) ((ZE p).flatMap pre)=V1 m (pre p):=by
       rw[pre_eq p];unfold V1;simp only[Kf,List.all_cons,hsh,Gd];rw[show m+1+((ZE p).flatMap pre).length=m+(((ZE p).flatMap pre).length+1) by omega]
      rw[<-e];exact this
     ·intro s nx hs';simp only[Zjy,Zp,Cq0];unfold V1;rw[decide_eq_true (show s+(([]:U Part).flatMap pre).length<=60 by simpa using hs')];simp
     ·intro k x rest s nx hx hk hg hs' ih;simp only[Zjy,ZC hk,Cq1,hg,Bq0,hih x hx s hs'];rw[XQ Va,K2];by_cases hb:s+(pre x).length<=60
      ·cases ha:(pre x).all U2
       ·have e1:V1 s (pre x)=.Z9 2:=by unfold V1;rw[ha,Bool.and_false];rfl
        have e2:V1 s (pre x++rest.flatMap pre)=.Z9 2:=by unfold V1;rw[List.all_append,ha,Gq,Bool.and_false];rfl
        rw[e1,e2,Zto]
       ·have e1:V1 s (pre x)=.ok (true,((s+(pre x).length:Nat):Int)):=by unfold V1;rw[ha,decide_eq_true hb];rfl
        rw[e1];show nx (((k+1:Nat):Int),((s+(pre x).length:Nat):Int))=_;rw[ih (s+(pre x).length) hb];unfold V1;rw[List.all_append,ha,K0,Gd,GF]
      ·have e1:V1 s (pre x)=.Z9 2:=by unfold V1;rw[decide_eq_false hb];rfl
       have e2:V1 s (pre x++rest.flatMap pre)=.Z9 2:=by unfold V1;rw[K0,decide_eq_false Va];rfl
       rw[e1,e2,Zto]
   ·rw[decide_eq_false h60,Cq0,pre_eq];unfold V1;rw[Kf,decide_eq_false Va];rfl
def Ud(A:U Za->Z):Part->Z
 | .pr t=>!(t.op==4)||A t.defs
 | _=>true
def ZKk{F:Nat}(hF:10000000000000000000<=F)(A:U Za->Z):∀n p,Sm p->(∀t,Part.pr t∈pre p->t.op=4->ZdL F t.defs=some (bif A t.defs then .ok () else .Z9 2))->(pre p).length<=n->∀Fr,n<=Fr->loop Fr (Zea F) p=some (bif(pre p).all (Ud A) then .ok true else .Z9 2):=by
 intro n
 induction n with
 | zero=>intro p hs hA hn;have:=YQ p;omega
 | succ n ih=>
   intro p hs hA hn Fr hFr;obtain⟨G,rfl⟩:∃G,Fr=G+1:=⟨Fr-1,by omega⟩
   rw[ZH];have hK:=ZmZ hs;have hih:∀k∈ZE p,loop G (Zea F) k=some (bif(pre k).all (Ud A) then .ok true else .Z9 2):=fun k hk=>ih k (hs.kid hk) (fun t ht=>hA t (ZQ hk ht)) (by have:=ZX hk;omega) G Va
   generalize loop G (Zea F)=nx1 at hih
   have j2:(KQ F p nx1) ()=some (bif((ZE p).flatMap pre).all (Ud A) then .ok true else .Z9 2):=by
    unfold KQ;simp only[KK,Cq0];rw[parts_eq hF p hK,Bq0];unfold BS at hK;refine ZM (body:=Zjz nx1 (ZE p)) (fun(k:Nat)(_:Unit)=>(k:Int)) (ZE p) (fun _ _=>True) (fun rest _=>some (bif(rest.flatMap pre).all (Ud A) then .ok true else .Z9 2)) (F:=F) ?_ ?_ Va () trivial
    ·intro s nx _;simp only[Zjz,Zp,Cq0];rfl
    ·intro k x rest s nx hx hk hg _ ih;simp only[Zjz,ZC hk,Cq1,hg,Bq0,hih x hx];rw[XQ Va,K2,List.all_append];cases (pre x).all (Ud A)
     ·rfl
     ·exact ih () trivial
   rw[pre_eq p,List.all_cons];unfold Zea;cases p with
   | pr t=>
     show(bif(true&&(t.op==4)) then _ else _)=_;rw[Gd];by_cases h4:t.op=4
     ·rw[hA t (Yh _) h4,h4];simp only[Int.reduceBEq,Cq1,Bq0,Ud,h4,KK,Gm];cases A t.defs
      ·rfl
      ·show(KQ F (.pr t) nx1) ()=_;rw[j2];rfl
     ·have:(t.op==4)=false:=by simpa using h4
      simp only[this,Cq0,Ud,Ge,Bool.true_or,Gd];exact j2
   | ex e=>exact j2
   | cl c=>exact j2
def Qy(A:U Za->Z)(p:Part):Z:=decide ((pre p).length<=60)&&(pre p).all U2&&decide (dep p<=12)&&(pre p).all (Ud A)
def ZPo(n:Nat):decide ((n:Int)<=12)=decide (n<=12):=by
 by_cases z:n<=12
 ·rw[decide_eq_true z,decide_eq_true Va]
 ·rw[decide_eq_false z,decide_eq_false Va]
def ZvD{F:Nat}(hF:10000000000000000000<=F)(A:U Za->Z)(p:Part)(hs:Lo p)(hFp:(pre p).length<=F)(hA:(pre p).length<=60->(pre p).all U2=true->∀t,Part.pr t∈pre p->t.op=4->ZdL F t.defs=some (bif A t.defs then .ok () else .Z9 2)):ZzB F p=some (bif Qy A p then .ok () else .Z9 2):=by
 unfold ZzB Qy;have h1:=ZKl hF _ p hs Vb F Va 0 Va;have h1':loop F (Zck F) (p,0)=some (V1 0 (pre p)):=h1;rw[h1',Bq0];unfold V1;rw[G0];by_cases hl:(pre p).length<=60
 ·cases ha:(pre p).all U2
  ·rw[Bool.and_false];simp[JS]
  ·rw[decide_eq_true hl];have hs:Sm p:=⟨by unfold BS;omega,hs⟩
   show(Zjx F p) ((pre p).length:Int)=_;unfold Zjx;rw[show ZDl F p=some (dep p:Int) from ZDH hF _ p hs Vb F Va,Bq0,ZPo,Jj,Bq0,ZeF,ZKk hF A _ p hs (hA hl ha) Vb F Va,Bq0];cases decide (dep p<=12)<;>cases (pre p).all (Ud A)<;>rfl
 ·rw[decide_eq_false hl];simp[JS]
def Zsx{F:Nat}(hF:10000000000000000000<=F)(A:U Za->Z)(t:Term)(hs:Lo (.pr t))(hFp:(pre (.pr t)).length<=F)(hA:(pre (.pr t)).length<=60->(pre (.pr t)).all U2=true->∀x,Part.pr x∈pre (.pr t)->x.op=4->ZdL F x.defs=some (bif A x.defs then .ok () else .Z9 2)):ZjJ F t=some (bif Qy A (.pr t) then 0 else 2):=by
 unfold ZjJ;rw[ZvD hF A _ hs hFp hA,Bq0];cases Qy A (.pr t)<;>rfl
def count_eq{F:Nat}(hF:10000000000000000000<=F):∀n p,Sm p->(pre p).length<=n->∀Fr,n<=Fr->∀m:Nat,m+(pre p).length<=1000000000->loop Fr (Zbg F) (p,(m:Int))=some (true,((m+(pre p).length:Nat):Int)):=by
 intro n
 induction n with
 | zero=>intro p hs hn;have:=YQ p;omega
 | succ n ih=>
   intro p hs hn Fr hFr m hm;obtain⟨G,rfl⟩:∃G,Fr=G+1:=⟨Fr-1,by omega⟩
   rw[ZH];have hK:=ZmZ hs;have hlen:=Xe p;have hih:∀k∈ZE p,∀m:Nat,m+(pre k).length<=1000000000->loop G (Zbg F) (k,(m:Int))=some (true,((m+(pre k).length:Nat):Int)):=fun k hk=>ih k (hs.kid hk) (by have:=ZX hk;omega) G Va
   generalize loop G (Zbg F)=nx1 at hih;unfold Zbg;simp only[KK,Cq0];rw[XQ Va,parts_eq hF p hK,Bq0];unfold BS at hK;have:=ZM (body:=ZjK nx1 (ZE p)) (fun(k:Nat)(s:Nat)=>((k:Int),(s:Int))) (ZE p) (fun rest s=>s+(rest.flatMap pre).length<=1000000000) (fun rest s=>some (true,((s+(rest.flatMap pre).length:Nat):Int))) (F:=F) ?_ ?_ Va (m+1) Va
   ·rw[show m+(pre p).length=m+1+((ZE p).flatMap pre).length by omega];exact this
   ·intro s nx hs';simp only[ZjK,Zp,Cq0];simp
   ·intro k x rest s nx hx hk hg hs' ih;simp only[K2,K0]at hs';simp only[ZjK,ZC hk,Cq1,hg,Bq0,hih x hx s Va,KK,Cq0];rw[XQ Va];have:=ih (s+(pre x).length) Va;rw[this,K2,K0,GF]
def UD:O Nat->Int
 | some a=>a
 | none=>-1
def dec(o:O Nat)(n:Nat):O Nat:=match o with
 | some a=>if n<=a then some (a-n) else none
 | none=>none
def ZAa(o:O Nat):dec o 0=o:=by cases o<;>simp[dec]
def Zbj(o:O Nat)(a b:Nat):dec (dec o a) b=dec o (a+b):=by
 cases o with
 | none=>rfl
 | some x=>
   show dec (if a<=x then some (x-a) else none) b=(if a+b<=x then some (x-(a+b)) else none);by_cases h:a<=x
   ·rw[if_pos h];show(if b<=x-a then some (x-a-b) else none)=_;by_cases h2:b<=x-a
    ·rw[if_pos h2,if_pos Va,Nat.sub_sub]
    ·rw[if_neg h2,if_neg Va]
   ·rw[if_neg h,if_neg Va];rfl
def Zts(o:O Nat):decide (UD o >=0)=o.isSome:=by
 cases o with
 | none=>rfl
 | some a=>exact decide_eq_true (by show(a:Int) >=0;omega)
def ZIz(a:Nat)(h:a<=1000):YX ((a:Int)-1)=UD (dec (some a) 1):=by
 by_cases h0:1<=a
 ·rw[Zh3 Va Va];simp only[dec,if_pos h0,UD];omega
 ·obtain rfl:a=0:=Va
  rw[Zh3 Va Va];rfl
def Zef{o:O Nat}{n a:Nat}(h:dec o n=some a){b:Nat}(hb:∀x,o=some x->x<=b):a<=b:=by
 cases o with
 | none=>cases h
 | some x=>
   have h':(if n<=x then some (x-n) else none)=some a:=h;have:=hb x rfl;by_cases hn:n<=x
   ·rw[if_pos hn]at h';cases h';omega
   ·rw[if_neg hn]at h';cases h'
def ZaG{α β:Type}{body:Int×Int->(Int×Int->O β)->O β}(l:U α)(c:α->Part)(g:α->Int->O Int)(fin:O Nat->O β)(hl:l.length<=BB)
 (hg:∀x∈l,∀a:Nat,a<=1000->g x (a:Int)=some (UD (dec (some a) (pre (c x)).length)))
 (hb:∀(i v:Int) nx,body (i,v) nx=bif(decide (i<(l.length:Int))&&decide (v >=0)) then(ZN l i).bind fun x=>(g x v).bind fun y=>nx (YX (i+1),y) else body ((l.length:Int),v) nx)
 (he:∀o nx,body ((l.length:Int),UD o) nx=fin o) {F:Nat} (hF:10000000000000000000<=F) (o:O Nat) (ho:∀x,o=some x->x<=1000):loop F body (0,UD o)=fin (dec o ((l.map c).flatMap pre).length):=by
 unfold BB at hl;refine ZM (fun(k:Nat)(o:O Nat)=>((k:Int),UD o)) l (fun _ o=>∀x,o=some x->x<=1000) (fun rest o=>fin (dec o ((rest.map c).flatMap pre).length)) ?_ ?_ Va o ho
 ·intro s nx _;rw[he];simp[ZAa]
 ·intro k x rest s nx hx hk hgi hs ih;show body ((k:Int),UD s) nx=_;rw[hb,ZC hk,Zts,Gd];cases s with
  | none=>
    show body ((l.length:Int),UD none) nx=_;rw[he];rfl
  | some a=>
    show((ZN l (k:Int)).bind fun x=>_)=_;rw[hgi,Bq0];show(g x (a:Int)).bind _=_;rw[hg x hx a (hs a rfl),Bq0,XQ Va,ih _ (fun y hy=>Zef hy hs),Zbj];simp
def ZiQ{α β γ:Type}{body:U γ×Int->(U γ×Int->O β)->O β}(l:U α)(c:α->γ)(fin:U γ->O β)(hl:l.length<=BS)
 (h0:∀s nx,body (s,(l.length:Int)) nx=fin s)
 (h1:∀s (k:Nat) x nx,k<l.length->ZN l (k:Int)=some x->s.length<=3600000->body (s,(k:Int)) nx=nx (s++[c x],((k+1:Nat):Int))) {F:Nat} (hF:10000000000000000000<=F) (s:U γ) (hs:s.length<=2500000):loop F body (s,0)=fin (s++l.map c):=by
 unfold BS at hl;refine ZM (fun(k:Nat)(s:U γ)=>(s,(k:Int))) l (fun rest s=>s.length+rest.length<=3600000) (fun rest s=>fin (s++rest.map c)) ?_ ?_ Va s Va
 ·intro s nx _;show body (s,(l.length:Int)) nx=_;rw[h0];simp
 ·intro k x rest s nx hx hk hg hp ih;have hp':s.length+rest.length+1<=3600000:=by have:=hp;simp only[Kf]at this;omega
  show body (s,(k:Int)) nx=_;rw[h1 s k x nx hk hg Va,ih _ (by simp;omega)];simp
def okL:Part->Prop
 | .pr t=>t.kids.length<=BS/\t.defs.length<=BS/\((t.op==3)=true->t.kids.length=2)/\(pts t).length<=BS
 | .cl c=>c.kids.length=1/\c.defs.length<=BS
 | .ex _=>True
def okN(p:Part):Prop:=∀q∈pre p,okL q
def ZaC{p:Part}(h:okN p):okL p:=h p (by rw[pre_eq];exact Gy)
def Wm{p k:Part}(h:okN p)(hk:k∈ZE p):okN k:=fun q hq=>h q (by rw[pre_eq];exact Ks _ (Q2.2 ⟨k,hk,hq⟩))
def Zbb{c d:Za}(h:d∈c.defs):Part.cl d∈ZE (.cl c):=by simp only[ZE,Q1,Jn];exact .inl ⟨d,h,rfl⟩
def Zb5{c:Za}{k:Term}(h:k∈c.kids):Part.pr k∈ZE (.cl c):=by simp only[ZE,Q1,Jn];exact .inr ⟨k,h,rfl⟩
def Zb3{t:Term}{d:Za}(h:d∈t.defs):Part.cl d∈ZE (.pr t):=by simp only[ZE,Q1,Jn];exact .inl (.inr ⟨d,h,rfl⟩)
def UL{t k:Term}(h:k∈t.kids):Part.pr k∈ZE (.pr t):=by simp only[ZE,Q1,Jn];exact .inr ⟨k,h,rfl⟩
def ZDv{F:Nat}(hF:10000000000000000000<=F)(nx:Term->O Term)(B:Nat)(hnx:∀k:Term,(pre (.pr k)).length<B->okN (.pr k)->nx k=some (lay k)):∀(n:Nat)(ds:U Za),n<=B->ds.length<=BS->(∀d∈ds,(pre (.cl d)).length<n/\okN (.cl d))->∀Fr,n<Fr->loop Fr (Zcn F nx) ds=some (ds.map XA):=by
 intro n
 induction n with
 | zero=>
   intro ds hB hl hd Fr hf;obtain⟨m,rfl⟩:∃m,Fr=m+1:=⟨Fr-1,by omega⟩
   have:ds=[]:=List.eq_nil_iff_forall_not_mem.2 fun d h=>by have:=(hd d h).1;omega
   subst this;rw[ZH];unfold Zcn;have:=ZiQ (body:=Zdb [] nx (loop m (Zcn F nx))) (α:=Za) [] XA some (by simp) (fun s nx=>rfl) (fun s k x nx hk=>absurd hk (Nat.not_lt_zero _)) hF [] (by simp);exact this
 | succ n ih=>
   intro ds hB hl hd Fr hf;obtain⟨m,rfl⟩:∃m,Fr=m+1:=⟨Fr-1,by omega⟩
   rw[ZH];unfold Zcn
   have:=ZiQ (body:=Zdb ds nx (loop m (Zcn F nx))) ds XA some hl (fun s nx=>by unfold Zdb;dsimp only;rw[Zp,Cq0]) (fun s k x nx' hk hg hs=>by
    unfold Zdb;dsimp only;have hx:x∈ds:=by rw[Ze0]at hg;exact GK hg
    obtain⟨h1,h2⟩:=hd x hx;obtain⟨o1,o2⟩:=ZaC h2;have e1:=ih x.defs Va o2 (fun d hdx=>⟨by have:=ZX (Zbb hdx);omega,Wm h2 (Zbb hdx)⟩) m Va
    obtain⟨a,ea⟩:∃a,x.kids=[a]:=by
     match x.kids,o1 with
     | [a],_=>exact⟨a,rfl⟩
    have ha:a∈x.kids:=by rw[ea];exact Gy
    have e2:=hnx a (by have:=ZX (Zb5 ha);omega) (Wm h2 (Zb5 ha));have g0:ZN x.kids 0=some a:=by rw[ea];rfl
    rw[ZC hk,Cq1,hg,Bq0,e1,Bq0,g0,Bq0,e2,Bq0,ZIZ Va Va,Bq0,XQ (by unfold BS at hl;omega),Kn x,ea]
    rfl) hF [] (by simp)
   exact this
def ZiM{x:Nat}{l:U Nat}(h:x∈l):x<=UX l:=by
 induction l with
 | nil=>cases h
 | cons y l ih=>
   rw[Je];rcases Kx.1 h with rfl|h
   ·exact Nat.le_max_left _ _
   ·exact KB (ih h) (Nat.le_max_right _ _)
def pd(t:Term):Nat:=bif t.op==3 then UX (t.kids.attach.map fun k=>pd k.1)+1 else 0
termination_by SizeOf.sizeOf t
decreasing_by exact K6 k.2
def Ziu(t:Term):pd t=bif t.op==3 then UX (t.kids.map pd)+1 else 0:=by rw[pd,attach_map t.kids pd]
def Zzu{F:Nat}:∀(n:Nat)(t:Term)(acc:U Term),pd t<=n->ZbO t=true->acc.length+(pts t).length<=10 ^ 9->∀Fr,n<Fr->loop Fr (ZlQ F) (acc,t)=some (acc++pts t):=by
 intro n
 induction n with
 | zero=>
   intro t acc hn h2 hl Fr hF;obtain⟨m,rfl⟩:∃m,Fr=m+1:=⟨Fr-1,by omega⟩
   rw[ZH];rw[JZ]at hl ⊢;rw[Ziu]at hn;dsimp only[ZlQ];cases h1:t.op==1 with
   | true=>simp only[Cq1,Gk]
   | false=>
     rw[h1]at hl;simp only[Cq0]at hl ⊢;cases h3:t.op==3 with
     | true=>rw[h3]at hn;simp only[Cq1]at hn;omega
     | false=>
       rw[h3]at hl;simp only[Cq0,Kf,Gx]at hl ⊢;rw[ZnX (by simp only[Kf,Gx];omega)]
       rfl
 | succ n ih=>
   intro t acc hn h2 hl Fr hF;obtain⟨m,rfl⟩:∃m,Fr=m+1:=⟨Fr-1,by omega⟩
   rw[ZH];rw[JZ]at hl ⊢;rw[ZcN]at h2;rw[Ziu]at hn;dsimp only[ZlQ];cases h1:t.op==1 with
   | true=>simp only[Cq1,Gk]
   | false=>
     rw[h1]at hl;simp only[Cq0]at hl ⊢;cases h3:t.op==3 with
     | true=>
       rw[h3]at h2 hl hn;simp only[Cq1,Ba0,Kd]at h2 hl hn ⊢;obtain⟨hk,ha⟩:=h2;have hk:t.kids.length=2:=by simpa using hk
       obtain⟨a,b,e⟩:∃a b,t.kids=[a,b]:=by
        match t.kids,hk with
        | [a,b],_=>exact⟨a,b,rfl⟩
       rw[e]at hl ha hn ⊢;have la:pd a<=n:=by have:=ZiM (x:=pd a) (l:=[a,b].map pd) (by simp);omega
       have lb:pd b<=n:=by have:=ZiM (x:=pd b) (l:=[a,b].map pd) (by simp);omega
       simp only[K2,GH,Gk,K0]at hl ⊢;have g0:ZN [a,b] 0=some a:=rfl;have g1:ZN [a,b] 1=some b:=rfl;rw[g0,Bq0,ih a acc la (ha a (by simp)) Va m Va,Bq0,g1,Bq0,ih b _ lb (ha b (by simp)) (by rw[K0];omega) m Va,Bq0,Gf]
     | false=>
       rw[h3]at hl;simp only[Cq0,Kf,Gx]at hl ⊢;rw[ZnX (by simp only[Kf,Gx];omega)]
       rfl
def Ztq{t:Term}(h:solo t=true):pd t=0:=by rw[Ziu,(Zhp h).2];rfl
def Zlh{t:Term}(h:solo t=true):ZbO t=true:=by rw[ZcN,(Zhp h).2];rfl
def ZIQ:∀(l:U Term),(∀x∈l,solo x=true)->pd (X0 l)<=l.length/\ZbO (X0 l)=true:=by
 intro l
 induction l with
 | nil=>intro _;rw[X0,Ziu,ZcN];exact⟨K1 _,rfl⟩
 | cons t l ih=>
   intro h;have ht:=h t (by simp);cases l with
   | nil=>rw[X0,Ztq ht];exact⟨Gi _,Zlh ht⟩
   | cons k l=>
     obtain⟨i1,i2⟩:=ih fun x hx=>h x (Ks _ hx)
     rw[X0,Ziu,ZcN]
     constructor
     ·show UX ([t,X0 (k::l)].map pd)+1<=_;simp only[G3,List.map_nil,Je,Ztq ht];have:UX []=0:=rfl;simp only[Kf]at i1 ⊢;omega
     ·show([t,X0 (k::l)].length==2&&[t,X0 (k::l)].all ZbO)=true;simp only[List.all_cons,List.all_nil,Zlh ht,i2];rfl
def ZxT(t:Term):pd (lay t)<=(pts t).length/\ZbO (lay t)=true:=by
 rw[UK];have:=ZIQ ((pts t).map lay) fun x hx=>by obtain⟨y,hy,rfl⟩:=Jn.1 hx;exact Zez (ZcT t y hy)
 rw[JT]at this;exact this
def ZCo{t:Term}(h:(t.op==3)=true->t.kids.length=2){N':Nat}(hN:∀k∈t.kids,(pts k).length<=N'):pd (KW t)<=N'+1/\ZbO (KW t)=true:=by
 rw[Ziu,ZcN];show(bif t.op==3 then UX ((t.kids.map lay).map pd)+1 else 0)<=N'+1/\(bif t.op==3 then(t.kids.map lay).length==2&&(t.kids.map lay).all ZbO else true)=true;cases h3:t.op==3 with
 | false=>exact⟨Gi _,rfl⟩
 | true=>
   rw[Cq1,Cq1,JT,h h3]
   constructor
   ·have:∀l:U Term,(∀k∈l,(pts k).length<=N')->UX ((l.map lay).map pd)<=N':=by
     intro l
     induction l with
     | nil=>intro _;exact Gi _
     | cons k l ih=>
       intro hl;simp only[G3,Je];have h1:=(ZxT k).1;have h2:=hl k (by simp);have h3:=ih fun x hx=>hl x (Ks _ hx)
       omega
    have:=this t.kids hN;omega
   ·have:(t.kids.map lay).all ZbO=true:=Kd.2 fun x hx=>by obtain⟨y,hy,rfl⟩:=Jn.1 hx;exact(ZxT y).2
    rw[this];rfl
def ZH4{F:Nat}(hF:10000000000000000000<=F):∀(n:Nat)(t:Term),(pre (.pr t)).length<n->n<=F->okN (.pr t)->∀Fr,n<=Fr->loop Fr (Ze6 F) t=some (lay t):=by
 intro n
 induction n with
 | zero=>intro t hn;omega
 | succ n ih=>
   intro t hn hnF hok Fr hFr;obtain⟨m,rfl⟩:∃m,Fr=m+1:=⟨Fr-1,by omega⟩
   rw[ZH];dsimp only[Ze6];obtain⟨o1,o2,o3,o4⟩:=ZaC hok;have hk:∀k:Term,(pre (.pr k)).length<n->okN (.pr k)->loop m (Ze6 F) k=some (lay k):=fun k h1 h2=>ih k h1 Va h2 m Va
   have e1:Zt6 F (loop m (Ze6 F)) t.defs=some (t.defs.map XA):=by
    unfold Zt6;exact ZDv hF (loop m (Ze6 F)) n hk n t.defs Vb o2 (fun d hd=>⟨by have:=ZX (Zb3 hd);omega,Wm hok (Zb3 hd)⟩) F Va
   rw[e1,Bq0]
   have hl:=ZiQ (body:=Zjl F t (loop m (Ze6 F)) (t.defs.map XA)) t.kids lay (fun v=>(Zng F [] (Term.mk t.op t.text t.args (t.defs.map XA) v)).bind fun x58=>(Zzs F x58).bind fun x66=>some x66) o1 (fun s nx=>by unfold Zjl;dsimp only;rw[Zp,Cq0]) (fun s k x nx' hk' hg hs=>by
    unfold Zjl;dsimp only;have hx:x∈t.kids:=by rw[Ze0]at hg;exact GK hg
    have e2:=hk x (by have:=ZX (UL hx);omega) (Wm hok (UL hx));rw[ZC hk',Cq1,hg,Bq0,e2,Bq0,ZIZ Va Va,Bq0,XQ (by unfold BS at o1;omega)]) hF [] (by simp)
   rw[hl,G5];show((Zng F [] (KW t)).bind fun x58=>(Zzs F x58).bind fun x66=>some x66)=some (lay t);have hlen:(pts (KW t)).length<=BS:=by rw[Zit _ t Vb,JT];exact o4
   obtain⟨p1,p2⟩:=ZCo o3 (N':=BS) fun k hkk=>(ZaC (Wm hok (UL hkk))).2.2.2
   have e3:Zng F [] (KW t)=some ([]++pts (KW t)):=by
    unfold Zng;exact Zzu (BS+1) (KW t) [] p1 p2 (by unfold BS at hlen;simp only[Gx];omega) F (by unfold BS;omega)
   rw[e3,Bq0,G5,ZDa (by unfold BS at hlen;omega),Bq0,ZmY]
def ZDe{F:Nat}{t:Term}(hF:10000000000000000000<=F)(hs:(pre (.pr t)).length<F)(hok:okN (.pr t)):ZH5 F t=some (lay t):=ZH4 hF ((pre (.pr t)).length+1) t (Nat.lt_succ_self _) hs hok F hs
def ZGz:∀p:Part,match p with | .pr t=>pd t<=dep (.pr t) | _=>True:=by
 refine QI fun p ih=>?_
 cases p with
 | ex e=>trivial
 | cl c=>trivial
 | pr t=>
   show pd t<=dep (.pr t);rw[Ziu,Zj8];cases t.op==3 with
   | false=>exact Gi _
   | true=>
     rw[Cq1]
     have:∀l:U Term,(∀k∈l,pd k<=dep (.pr k))->UX (l.map pd)<=UX ((l.map Part.pr).map dep):=by
      intro l
      induction l with
      | nil=>intro _;exact K1 _
      | cons k l ihl=>
        intro h;simp only[G3,Je];have h1:=h k (by simp);have h2:=ihl fun x hx=>h x (Ks _ hx)
        omega
     have h1:=this t.kids fun k hk=>ih (.pr k) (UL hk)
     show _<=UX ((t.args.map Part.ex++t.defs.map Part.cl++t.kids.map Part.pr).map dep)+1;rw[GC,ZoX];omega
def ZDc{F:Nat}{t:Term}{acc:U Term}(h2:ZbO t=true)(hl:acc.length+(pts t).length<=10 ^ 9)(hF:(pre (.pr t)).length<F):Zng F acc t=some (acc++pts t):=
 Zzu (pre (.pr t)).length t acc (KB (ZGz (.pr t)) (Zz7 _)) h2 hl F hF
def cnt(p:Part):Nat:=(pre p).length
def Zct(p:Part):cnt p=((ZE p).map cnt).sum+1:=by
 unfold cnt;rw[pre_eq,Kf,List.length_flatMap]
def ZDI(p:Part):1<=cnt p:=by rw[Zct];omega
def ZnL(a b:Term):cnt (.pr (.mk 3 (⟨#[]⟩:Y) [] [] [a,b]))=cnt (.pr a)+cnt (.pr b)+1:=by
 rw[Zct];show([Part.pr a,Part.pr b].map cnt).sum+1=_;simp
def Zqm:∀(l m:U Term),cnt (.pr (X0 (l++m)))<=cnt (.pr (X0 l))+cnt (.pr (X0 m))+1:=by
 intro l
 induction l with
 | nil=>intro m;rw[G5];omega
 | cons t l ih=>
   intro m;cases l with
   | nil=>
     cases m with
     | nil=>show cnt (.pr (X0 [t]))<=_;omega
     | cons k m=>
       show cnt (.pr (X0 (t::k::m)))<=cnt (.pr (X0 [t]))+_+1;rw[show X0 (t::k::m)=.mk 3 (⟨#[]⟩:Y) [] [] [t,X0 (k::m)] by rw[X0],ZnL,show X0 [t]=t by rw[X0]];omega
   | cons k l=>
     have hi:=ih m;show cnt (.pr (X0 (t::k::(l++m))))<=_;rw[show X0 (t::k::(l++m))=.mk 3 (⟨#[]⟩:Y) [] [] [t,X0 (k::(l++m))] by rw[X0],ZnL,show X0 (t::k::l)=.mk 3 (⟨#[]⟩:Y) [] [] [t,X0 (k::l)] by rw[X0],ZnL];have:k::l++m=k::(l++m):=rfl;rw[this]at hi;omega
def Zh7{α:Type}{l:U α}{f g:α->Nat}(h:∀x∈l,f x<=g x):(l.map f).sum<=(l.map g).sum:=by
 induction l with
 | nil=>exact K1 _
 | cons x l ih=>
   have h1:=h x (by simp);have h2:=ih fun y hy=>h y (Ks _ hy)
   simp only[G3,List.sum_cons];omega
def ZAf:∀p:Part,okN p->match p with | .pr t=>cnt (.pr (lay t))<=cnt (.pr t) | .cl c=>cnt (.cl (XA c))<=cnt (.cl c) | .ex _=>True:=by
 refine QI fun p ih=>?_
 intro hok;cases p with
 | ex e=>trivial
 | cl c=>
   show cnt (.cl (XA c))<=cnt (.cl c);have h1:∀d∈c.defs,cnt (.cl (XA d))<=cnt (.cl d):=fun d hd=>ih (.cl d) (Zbb hd) (Wm hok (Zbb hd))
   have h2:∀k∈c.kids,cnt (.pr (lay k))<=cnt (.pr k):=fun k hk=>ih (.pr k) (Zb5 hk) (Wm hok (Zb5 hk))
   rw[Zct,Zct (.cl c),Kn];simp only[ZE,GC,GE,List.sum_append];have s1:=Zh7 (l:=c.defs) (f:=fun d=>cnt (.cl (XA d))) (g:=fun d=>cnt (.cl d)) h1;have s2:=Zh7 (l:=c.kids) (f:=fun d=>cnt (.pr (lay d))) (g:=fun d=>cnt (.pr d)) h2;have e1:(c.defs.map (cnt∘Part.cl∘XA)).sum<=(c.defs.map (cnt∘Part.cl)).sum:=s1;have e2:(c.kids.map (cnt∘Part.pr∘lay)).sum<=(c.kids.map (cnt∘Part.pr)).sum:=s2;exact Nat.succ_le_succ (Nat.add_le_add e1 e2)
 | pr t=>
   show cnt (.pr (lay t))<=cnt (.pr t);have h1:∀d∈t.defs,cnt (.cl (XA d))<=cnt (.cl d):=fun d hd=>ih (.cl d) (Zb3 hd) (Wm hok (Zb3 hd))
   have h2:∀k∈t.kids,cnt (.pr (lay k))<=cnt (.pr k):=fun k hk=>ih (.pr k) (UL hk) (Wm hok (UL hk))
   cases e1:t.op==1 with
   | true=>
     rw[UK,JZ,e1,Cq1]
     have:cnt (.pr (X0 (([]:U Term).map lay)))=1:=by
      rw[List.map_nil,X0,Zct];rfl
     rw[this];exact ZDI _
   | false=>
     cases e3:t.op==3 with
     | true=>
       obtain⟨a,b,e⟩:∃a b,t.kids=[a,b]:=by
        have:=(ZaC hok).2.2.1 e3
        match t.kids,this with
        | [a,b],_=>exact⟨a,b,rfl⟩
       rw[UK,JZ,e1,Cq0,e3,Cq1,e];simp only[K2,GH,Gk,GC];have q:=Zqm ((pts a).map lay) ((pts b).map lay);rw[<-UK,<-UK]at q;have q1:=h2 a (by rw[e];simp);have q2:=h2 b (by rw[e];simp)
       have q3:cnt (.pr a)+cnt (.pr b)+1<=cnt (.pr t):=by
        rw[Zct (.pr t)];simp only[ZE,GC,List.sum_append,e,G3,List.map_nil,List.sum_cons,List.sum_nil];omega
       omega
     | false=>
       have hs:solo t=true:=by unfold solo;rw[e1,e3];rfl
       rw[KO hs,Zct,Zct (.pr t)];unfold KW;simp only[ZE,GC,GE,List.sum_append];have s1:(t.defs.map (cnt∘Part.cl∘XA)).sum<=(t.defs.map (cnt∘Part.cl)).sum:=Zh7 h1;have s2:(t.kids.map (cnt∘Part.pr∘lay)).sum<=(t.kids.map (cnt∘Part.pr)).sum:=Zh7 h2;exact Nat.succ_le_succ (Nat.add_le_add (Nat.add_le_add Vb s1) s2)
def ZlF{t:Term}(h:okN (.pr t)):(pre (.pr (lay t))).length<=(pre (.pr t)).length:=ZAf (.pr t) h
def Lo.mem{x p:Part}(h:Lo p)(hx:x∈pre p):Lo x:=fun y hy=>h y (XR hy hx)
def Zou{F:Nat}(hF:10000000000000000000<=F):∀n e,Lo (.ex e)->(pre (.ex e)).length<=n->∀Fr,n<=Fr->∀a:Nat,a<=1000->loop Fr (ZpX F) (e,(a:Int))=some (UD (dec (some a) (pre (.ex e)).length)):=by
 intro n
 induction n with
 | zero=>intro e hs hn;have:=YQ (.ex e);omega
 | succ n ih=>
   intro e hs hn Fr hFr a ha;obtain⟨G,rfl⟩:∃G,Fr=G+1:=⟨Fr-1,by omega⟩
   rw[ZH];have hih:∀x∈e.kids,∀a:Nat,a<=1000->(fun x v=>loop G (ZpX F) (x,v)) x (a:Int)=some (UD (dec (some a) (pre (.ex x)).length)):=fun x hx a ha=>ih x (hs.kid (XY hx)) (by have:=ZX (XY hx);omega) G Va a ha
   generalize loop G (ZpX F)=nx1 at hih;unfold ZpX;dsimp only
   rw[ZIz a ha,ZaG (body:=Znk e nx1) e.kids .ex (fun x v=>nx1 (x,v)) (fun o=>some (UD o)) hs.loc.2 hih
    (fun i v nx=>by simp only[Znk,Zp,Gq,Cq0]) (fun o nx=>by simp only[Znk,Zp,Gq,Cq0]) hF _ (fun x hx=>Zef hx (fun y hy=>by cases hy;exact ha)),Zbj]
   rw[Xe];show some (UD (dec (some a) (1+((ZE (.ex e)).flatMap pre).length)))=_;rw[Nat.add_comm]
def ST(F n:Nat):Prop:=∀t,Lo (.pr t)->(pre (.pr t)).length<=n->∀Fr,n<=Fr->∀a:Nat,a<=1000->loop Fr (ZlR F) (t,(a:Int))=some (UD (dec (some a) (pre (.pr t)).length),(dec (some a) (pre (.pr t)).length).isSome)
def SC(F n:Nat):Prop:=∀c next,Lo (.cl c)->(pre (.cl c)).length<=n->(∀t,Part.pr t∈pre (.cl c)->∀a:Nat,a<=1000->next (t,(a:Int))=some (UD (dec (some a) (pre (.pr t)).length),(dec (some a) (pre (.pr t)).length).isSome))->∀Fr,n<=Fr->∀a:Nat,a<=1000->loop Fr (Zj0 F next) (c,(a:Int))=some (UD (dec (some a) (pre (.cl c)).length))
def ZEa{F n:Nat}(hF:10000000000000000000<=F)(ih:SC F n):SC F (n+1):=by
 intro c next hs hn hnext Fr hFr a ha;obtain⟨G,rfl⟩:∃G,Fr=G+1:=⟨Fr-1,by omega⟩
 rw[ZH];obtain⟨l1,l2,l3,l4,l5⟩:=hs.loc;have hih:∀x∈c.defs,∀a:Nat,a<=1000->(fun x v=>loop G (Zj0 F next) (x,v)) x (a:Int)=some (UD (dec (some a) (pre (.cl x)).length)):=fun x hx a ha=>ih x next (hs.kid (YK hx)) (by have:=ZX (YK hx);omega) (fun t ht=>hnext t (ZQ (YK hx) ht)) G Va a ha
 generalize loop G (Zj0 F next)=nx1 at hih;unfold Zj0;dsimp only
 have hk:∀o:O Nat,(∀x,o=some x->x<=1000)->loop F (Zdd c next) (0,UD o)=some (UD (dec o ((c.kids.map Part.pr).flatMap pre).length)):=fun o ho=>
  ZaG (body:=Zdd c next) c.kids .pr (fun x v=>(next (x,v)).bind fun y=>some y.1) (fun o=>some (UD o)) l4 (fun x hx a ha=>by
   show(next (x,(a:Int))).bind _=_;rw[hnext x (ZQ (X5 hx) (Yh _)) a ha];rfl)
   (fun i v nx=>by
     simp only[Zdd,Zp,Gq,Cq0];cases ZN c.kids i with
     | none=>rfl
     | some x=>dsimp only[Bq0];cases next (x,v)<;>rfl) (fun o nx=>by simp only[Zdd,Zp,Gq,Cq0]) hF o ho
 have ho1:∀x,dec (some a) 1=some x->x<=1000:=fun x hx=>Zef hx (fun y hy=>by cases hy;exact ha)
 rw[ZIz a ha]
 have:=ZaG (body:=ZhN F c next nx1) c.defs .cl (fun x v=>nx1 (x,v)) (fun o=>loop F (Zdd c next) (0,UD o)) l3 hih
  (fun i v nx=>by simp only[ZhN,Zp,Gq,Cq0]) (fun o nx=>by simp only[ZhN,Zp,Gq,Cq0]) hF _ ho1
 rw[this,hk _ (fun x hx=>Zef hx ho1),Zbj,Zbj]
 have e:(pre (.cl c)).length=1+(((c.defs.map Part.cl).flatMap pre).length+((c.kids.map Part.pr).flatMap pre).length):=by
  rw[Xe];show((c.defs.map Part.cl++c.kids.map Part.pr).flatMap pre).length+1=_;rw[J1,K0];omega
 rw[e]
def ZD9{F n:Nat}(hF:10000000000000000000<=F)(hnF:n+1<=F)(ih:ST F n)(ihc:SC F n):ST F (n+1):=by
 intro t hs hn Fr hFr a ha;obtain⟨G,rfl⟩:∃G,Fr=G+1:=⟨Fr-1,by omega⟩
 rw[ZH];obtain⟨l1,l2,l3,l4⟩:=hs.loc;have hnext:∀x,Part.pr x∈pre (.pr t)->(pre (.pr x)).length<=n->∀a:Nat,a<=1000->loop G (ZlR F) (x,(a:Int))=some (UD (dec (some a) (pre (.pr x)).length),(dec (some a) (pre (.pr x)).length).isSome):=fun x hx hl a ha=>ih x (Lo.mem hs hx) hl G Va a ha
 generalize loop G (ZlR F)=nx1 at hnext;unfold ZlR;dsimp only
 have hk:∀o:O Nat,(∀x,o=some x->x<=1000)->loop F (Zgj t nx1) (0,UD o)=some (UD (dec o ((t.kids.map Part.pr).flatMap pre).length),(dec o ((t.kids.map Part.pr).flatMap pre).length).isSome):=fun o ho=>
  ZaG (body:=Zgj t nx1) t.kids .pr (fun x v=>(nx1 (x,v)).bind fun y=>some y.1) (fun o=>some (UD o,o.isSome)) l4 (fun x hx a ha=>by
   show(nx1 (x,(a:Int))).bind _=_;rw[hnext x (ZQ (XF hx) (Yh _)) (by have:=ZX (XF hx);omega) a ha];rfl)
   (fun i v nx=>by
     simp only[Zgj,Zp,Gq,Cq0];cases ZN t.kids i with
     | none=>rfl
     | some x=>dsimp only[Bq0];cases nx1 (x,v)<;>rfl) (fun o nx=>by simp only[Zgj,Zp,Gq,Cq0,Zts]) hF o ho
 have hd:∀o:O Nat,(∀x,o=some x->x<=1000)->loop F (Zgk F t nx1) (0,UD o)=some (UD (dec (dec o ((t.defs.map Part.cl).flatMap pre).length) ((t.kids.map Part.pr).flatMap pre).length),(dec (dec o ((t.defs.map Part.cl).flatMap pre).length) ((t.kids.map Part.pr).flatMap pre).length).isSome):=fun o ho=>by
  rw[ZaG (body:=Zgk F t nx1) t.defs .cl (fun x v=>ZFy F nx1 x v) (fun o=>loop F (Zgj t nx1) (0,UD o)) l3 (fun x hx a ha=>ihc x nx1 (hs.kid (Y4 hx)) (by have:=ZX (Y4 hx);omega) (fun y hy a ha=>hnext y (ZQ (Y4 hx) hy) (by have:=XV hy;have:=ZX (Y4 hx);omega) a ha) F Va a ha)
   (fun i v nx=>by simp only[Zgk,Zp,Gq,Cq0]) (fun o nx=>by simp only[Zgk,Zp,Gq,Cq0]) hF o ho,hk _ (fun x hx=>Zef hx ho)]
 have ho1:∀x,dec (some a) 1=some x->x<=1000:=fun x hx=>Zef hx (fun y hy=>by cases hy;exact ha)
 rw[ZIz a ha,ZaG (body:=Znn F t nx1) t.args .ex (fun x v=>ZMZ F x v) (fun o=>loop F (Zgk F t nx1) (0,UD o)) l2 (fun x hx a ha=>Zou hF _ x (hs.kid (JG hx)) Vb F (by have:=ZX (JG hx);omega) a ha)
     (fun i v nx=>by simp only[Znn,Zp,Gq,Cq0]) (fun o nx=>by simp only[Znn,Zp,Gq,Cq0]) hF _ ho1,hd _ (fun x hx=>Zef hx ho1),Zbj,Zbj,Zbj]
 have e:(pre (.pr t)).length=1+(((t.args.map Part.ex).flatMap pre).length+(((t.defs.map Part.cl).flatMap pre).length+((t.kids.map Part.pr).flatMap pre).length)):=by
  rw[Xe];show((t.args.map Part.ex++t.defs.map Part.cl++t.kids.map Part.pr).flatMap pre).length+1=_;rw[J1,J1,K0,K0];omega
 rw[e]
def STC{F:Nat}(hF:10000000000000000000<=F):∀n,n<=F->ST F n/\SC F n:=by
 intro n
 induction n with
 | zero=>intro _;exact⟨fun t hs hn=>by have:=YQ (.pr t);omega,fun c nx hs hn=>by have:=YQ (.cl c);omega⟩
 | succ n ih=>intro hn;obtain⟨a,b⟩:=ih Va;exact⟨ZD9 hF Va a b,ZEa hF b⟩
def ZwU{F:Nat}(hF:10000000000000000000<=F)(t:Term)(hs:Lo (.pr t))(hFp:(pre (.pr t)).length<=F):ZM1 F t 60=some (UD (dec (some 60) (pre (.pr t)).length),decide ((pre (.pr t)).length<=60)):=by
 have:=(STC hF _ hFp).1 t hs Vb F hFp 60 Va;show loop F (ZlR F) (t,((60:Nat):Int))=_;rw[this];congr 2;unfold dec;by_cases h:(pre (.pr t)).length<=60
 ·show(if _ then _ else _:O Nat).isSome=_;rw[if_pos h,decide_eq_true h];rfl
 ·show(if _ then _ else _:O Nat).isSome=_;rw[if_neg h,decide_eq_false h];rfl
def DT(F:Nat)(A:U Za->Z)(n:Nat):Prop:=∀t,Sm (.pr t)->(pre (.pr t)).all U2=true->(∀x,Part.pr x∈pre (.pr t)->x.op=4->∃s,ZpW F x.defs=some (s,A x.defs))->(pre (.pr t)).length<=n->∀Fr,n<=Fr->loop Fr (ZpY F) t=some ((pre (.pr t)).all (Ud A))
def DC(F:Nat)(A:U Za->Z)(n:Nat):Prop:=∀(l:U Za) next,l.length<=BB->(∀c∈l,Sm (.cl c)/\(pre (.cl c)).all U2=true)->((l.map Part.cl).flatMap pre).length<=n->(∀t,Part.pr t∈(l.map Part.cl).flatMap pre->next t=some ((pre (.pr t)).all (Ud A)))->∀Fr,n<Fr->loop Fr (ZjZ F next) l=some (((l.map Part.cl).flatMap pre).all (Ud A))
def ZEk{F:Nat}(hF:10000000000000000000<=F)(A:U Za->Z){n:Nat}(ih:∀m,m<n->DC F A m):DC F A n:=by
 intro l next hl hc hn hnext Fr hFr;obtain⟨G,rfl⟩:∃G,Fr=G+1:=⟨Fr-1,by omega⟩
 rw[ZH]
 have hmem:∀c∈l,(pre (.cl c)).length<=n/\∀x∈pre (.cl c),x∈(l.map Part.cl).flatMap pre:=fun c hcl=>
  ⟨KB (Ux (Gj hcl)) hn,fun x hx=>Q2.2 ⟨_,Gj hcl,hx⟩⟩
 have hih:∀c∈l,loop G (ZjZ F next) c.defs=some (((c.defs.map Part.cl).flatMap pre).all (Ud A)):=fun c hcl=>by
  obtain⟨h1,h2⟩:=hmem c hcl;obtain⟨hsm,hsh⟩:=hc c hcl
  have hd:((c.defs.map Part.cl).flatMap pre).length<(pre (.cl c)).length:=by
   rw[Xe];show _<((c.defs.map Part.cl++c.kids.map Part.pr).flatMap pre).length+1;rw[J1,K0];omega
  refine ih (n-1) Va c.defs next hsm.loc.2.2.1 (fun x hx=>⟨hsm.kid (YK hx),?_⟩) Va (fun t ht=>hnext t (h2 _ ?_)) G Va
  ·rw[Kd]at hsh ⊢;exact fun y hy=>hsh y (ZQ (YK hx) hy)
  ·obtain⟨y,hy,ht⟩:=Q2.1 ht;obtain⟨x,hx,rfl⟩:=Jn.1 hy;exact ZQ (YK hx) ht
 generalize loop G (ZjZ F next)=nx1 at hih;unfold ZjZ;unfold BB at hl;refine ZM (body:=ZhM l next nx1) (fun(k:Nat)(_:Unit)=>(k:Int)) l (fun _ _=>True) (fun rest _=>some (((rest.map Part.cl).flatMap pre).all (Ud A))) (F:=F) ?_ ?_ Va () trivial
 ·intro s nx _;simp only[ZhM,Zp,Cq0];rfl
 ·intro k c rest s nx hx hk hg _ ihl;obtain⟨hsm,hsh⟩:=hc c hx;have hsc:Wp c=true:=by rw[Kd]at hsh;exact hsh _ (Yh _)
  obtain⟨k0,hk0⟩:∃k0,c.kids=[k0]:=by
   unfold Wp at hsc;rw[Ba0]at hsc;have:=hsc.1;rw[beq_iff_eq]at this
   match hk:c.kids,this with
   | [k0],_=>exact⟨k0,rfl⟩
  have hkm:Part.pr k0∈pre (.cl c):=ZQ (X5 (by rw[hk0];simp)) (Yh _)
  have e:(pre (.cl c)).all (Ud A)=(((c.defs.map Part.cl).flatMap pre).all (Ud A)&&(pre (.pr k0)).all (Ud A)):=by
   rw[pre_eq,List.all_cons];show(true&&((c.defs.map Part.cl++c.kids.map Part.pr).flatMap pre).all (Ud A))=_;rw[hk0,J1,List.all_append];simp
  have hg0:ZN c.kids 0=some k0:=by rw[hk0];rfl
  simp only[ZhM,ZC hk,Cq1,hg,Bq0,hih c hx,G3,K2,List.all_append];rw[XQ Va,e];cases ((c.defs.map Part.cl).flatMap pre).all (Ud A)
  ·rfl
  ·simp only[KK,Ge,gd,Cq1,Bq0,hg0,hnext k0 ((hmem c hx).2 _ hkm),Gd];cases (pre (.pr k0)).all (Ud A)
   ·rfl
   ·exact ihl () trivial
def ZEj{F:Nat}(hF:10000000000000000000<=F)(A:U Za->Z){n:Nat}(hnF:n<F)(ih:DT F A n)(ihc:DC F A n):DT F A (n+1):=by
 intro t hs hsh hA hn Fr hFr;obtain⟨G,rfl⟩:∃G,Fr=G+1:=⟨Fr-1,by omega⟩
 rw[ZH];obtain⟨l1,l2,l3,l4⟩:=hs.loc;have hall:∀{x y},x∈pre (.pr t)->y∈pre x->y∈pre (.pr t):=fun hx hy=>XR hy hx
 have ZKZ:∀x,x∈pre (.pr t)->(pre x).all U2=true:=fun x hx=>by
  rw[Kd]at hsh ⊢;exact fun y hy=>hsh y (hall hx hy)
 have hnext:∀x,Part.pr x∈pre (.pr t)->(pre (.pr x)).length<=n->loop G (ZpY F) x=some ((pre (.pr x)).all (Ud A)):=fun x hx hl=>ih x (hs.mem hx) (ZKZ _ hx) (fun y hy=>hA y (hall hx hy)) hl G Va
 generalize loop G (ZpY F)=nx1 at hnext;unfold BB at l4
 have j:(Znl F t nx1) ()=some (((t.kids.map Part.pr).flatMap pre).all (Ud A)):=by
  unfold Znl;refine ZM (body:=Znm t nx1) (fun(k:Nat)(_:Unit)=>(k:Int)) t.kids (fun _ _=>True) (fun rest _=>some (((rest.map Part.pr).flatMap pre).all (Ud A))) (F:=F) ?_ ?_ Va () trivial
  ·intro s nx _;simp only[Znm,Zp,Cq0];rfl
  ·intro k x rest s nx hx hk hg _ ihl;simp only[Znm,ZC hk,Cq1,hg,Bq0,hnext x (ZQ (XF hx) (Yh _)) (by have:=ZX (XF hx);omega),G3,K2,List.all_append];rw[XQ Va];cases (pre (.pr x)).all (Ud A)
   ·rfl
   ·exact ihl () trivial
 have hex:∀l:U Zi,((l.map Part.ex).flatMap pre).all (Ud A)=true:=by
  have:∀p:Part,∀e,p=.ex e->(pre p).all (Ud A)=true:=by
   intro p
   induction p using QI with
   | h p ihp=>
     rintro e rfl;rw[pre_eq,List.all_cons,Ba0];refine⟨rfl,?_⟩;rw[Kd];intro y hy;obtain⟨k,hk,hy⟩:=Q2.1 hy;obtain⟨x,hx,rfl⟩:=Jn.1 hk;exact Kd.1 (ihp _ hk x rfl) y hy
  intro l;rw[Kd];intro y hy;obtain⟨k,hk,hy⟩:=Q2.1 hy;obtain⟨x,hx,rfl⟩:=Jn.1 hk;exact Kd.1 (this _ x rfl) y hy
 have e:(pre (.pr t)).all (Ud A)=((!(t.op==4)||A t.defs)&&(((t.defs.map Part.cl).flatMap pre).all (Ud A)&&((t.kids.map Part.pr).flatMap pre).all (Ud A))):=by
  rw[pre_eq,List.all_cons];show((!(t.op==4)||A t.defs)&&((t.args.map Part.ex++t.defs.map Part.cl++t.kids.map Part.pr).flatMap pre).all (Ud A))=_;rw[J1,J1,List.all_append,List.all_append,hex,Gd]
 unfold ZpY;rw[j,e];by_cases h4:t.op=4
 ·obtain⟨s,ZPU⟩:=hA t (Yh _) h4
  have hlt:((t.defs.map Part.cl).flatMap pre).length<(pre (.pr t)).length:=by
   rw[Xe];show _<((t.args.map Part.ex++t.defs.map Part.cl++t.kids.map Part.pr).flatMap pre).length+1;rw[J1,J1,K0,K0];omega
  have hw:=ihc t.defs nx1 l3 (fun c hc=>⟨hs.kid (Y4 hc),ZKZ _ (ZQ (Y4 hc) (Yh _))⟩) Va (fun x hx=>by
   obtain⟨k,hk,hx⟩:=Q2.1 hx;obtain⟨c,hc,rfl⟩:=Jn.1 hk;exact hnext x (ZQ (Y4 hc) hx) (by have:=XV hx;have:=ZX (Y4 hc);omega)) F hnF
  rw[h4,ZPU];simp only[Int.reduceBEq,Cq1,Bq0,KK,Gm];cases A t.defs
  ·rfl
  ·show(ZzT F nx1 t.defs).bind _=_;rw[show ZzT F nx1 t.defs=_ from hw,Bq0];cases ((t.defs.map Part.cl).flatMap pre).all (Ud A)<;>rfl
 ·have h4':(t.op==4)=false:=by simpa using h4
  have hd:t.defs=[]:=by
   have:=Kd.1 hsh _ (Yh _);have hsT:Zai t=true:=this;unfold Zai szs at hsT;rw[h4']at hsT
   have:t.defs.length=0:=by
    revert hsT
    cases t.op==1<;>cases t.op==7<;>cases t.op==2<;>cases t.op==3<;>cases t.op==5<;>cases hd:t.defs.length==0<;>simp_all
   exact Q4 this
  rw[h4',hd];simp
def DTC{F:Nat}(hF:10000000000000000000<=F)(A:U Za->Z):∀n,n<=F->DT F A n:=by
 have hc:∀n,DC F A n:=fun n=>by
  induction n using Nat.strongRecOn with
  | _ n ih=>exact ZEk hF A ih
 intro n
 induction n with
 | zero=>intro _ t hs _ _ hn;have:=YQ (.pr t);omega
 | succ n ih=>intro hn;exact ZEj hF A Va (ih Va) (hc n)
def ZQL(n:Nat):decide ((n:Int)>12)= !decide (n<=12):=by
 by_cases z:n<=12
 ·rw[decide_eq_true z,decide_eq_false Va];rfl
 ·rw[decide_eq_false z,decide_eq_true Va];rfl
def ZvS{F:Nat}(hF:10000000000000000000<=F)(A:U Za->Z)(t:Term)(hs:Lo (.pr t))(hFp:(pre (.pr t)).length<=F)(hA:(pre (.pr t)).length<=60->(pre (.pr t)).all U2=true->∀x,Part.pr x∈pre (.pr t)->x.op=4->∃s,ZpW F x.defs=some (s,A x.defs)):ZDo F t=some (bif Qy A (.pr t) then 0 else 2):=by
 unfold ZDo;rw[ZwU hF t hs hFp,Bq0];unfold Qy;by_cases hl:(pre (.pr t)).length<=60
 ·rw[decide_eq_true hl];have hs:Sm (.pr t):=⟨by unfold BS;omega,hs⟩
  simp only[KK,Cq0,Gd];rw[ZwN hF t hs,Bq0];obtain⟨r1,r2,_,_⟩:=ZA4 (.pr t);simp only[out,r1];cases ha:(pre (.pr t)).all U2
  ·rfl
  ·obtain⟨_,r3⟩:=r2 ha;rw[r3,ZQL];simp only[KK,Gm,Gd,Bool.not_not];cases decide (dep (.pr t)<=12)
   ·rfl
   ·simp only[gd,Cq1,Gd];rw[show ZM0 F t=_ from DTC hF A _ Va t hs ha (hA hl ha) Vb F Va,Bq0];cases (pre (.pr t)).all (Ud A)<;>rfl
 ·rw[decide_eq_false hl];rfl
abbrev Spt:=Y×U Za
def YT(c:Za):U Spt:=bif c.form==2 then(c.text,c.defs)::c.defs.attach.flatMap (fun d=>YT d.1) else []
termination_by SizeOf.sizeOf c
decreasing_by
 obtain⟨fm,tx,js,ds,ks⟩:=c;have:=List.sizeOf_lt_of_mem d.2;simp only[Za.mk.sizeOf_spec]at this ⊢;omega
def JB(c:Za):YT c=bif c.form==2 then(c.text,c.defs)::c.defs.flatMap YT else []:=by rw[YT,JM c.defs YT]
def Y3(l:U Za):U Y:=(l.flatMap YT).map (·.1)
def ev(a:Nat)(m:Yk):Y×ZI:=(m.text,ZI.mk (a:Int) (m.names.length:Int))
def WT(l:U Za):U Yk:=l.flatMap (·.joins)
def evJ:Nat->U Spt->U (Y×ZI)
 | _,[]=>[]
 | a,sp::r=>(WT sp.2).map (ev a)++evJ (a+1) r
def upd(f:Y->O ZI)(e:Y×ZI):Y->O ZI:=fun x=>if x=e.1 then some e.2 else f x
def okE(f:Y->O ZI)(e:Y×ZI):Z:= !(f e.1).isSome||Ua ((f e.1).getD ⟨0,0⟩) e.2
def JW(f:Y->O ZI):U (Y×ZI)->Z
 | []=>true
 | e::r=>okE f e&&JW (upd f e) r
def WM(h:Y->Z):U Y->Z
 | []=>true
 | x::xs=>!h x&&WM (fun s=>h s||decide (s=x)) xs
def Zmf(a b:U (Y×ZI)):∀f,JW f (a++b)=(JW f a&&JW (a.foldl upd f) b):=by
 induction a with
 | nil=>intro f;simp[JW]
 | cons e a ih=>intro f;simp only[GY,JW,ih,Gn,Bool.and_assoc]
def ZoO(a b:U Y):∀h,WM h (a++b)=(WM h a&&WM (fun s=>h s||decide (s∈a)) b):=by
 induction a with
 | nil=>intro f;simp[WM]
 | cons e a ih=>
   intro h;simp only[GY,WM,ih,Bool.and_assoc];congr 2
   have:(fun s=>(h s||decide (s=e))||decide (s∈a))=fun s=>h s||decide (s∈e::a):=by
    funext s;by_cases h1:s=e<;>by_cases h2:s∈a<;>simp[h1,h2]
   rw[this]
def eqS(x y:ZI):Ua x y=true↔x=y:=by
 obtain⟨a,b⟩:=x;obtain⟨c,d⟩:=y;simp[Ua]
def AgW(l:U Za):Z:=WM (fun _=>false) (Y3 l)&&JW (fun _=>none) (evJ 0 ((E0,l)::l.flatMap YT)) && !((evJ 0 ((E0,l)::l.flatMap YT)).any fun e=>decide (e.1∈Y3 l))
def OkC(c:Za):Prop:=c.joins.length<=3/\(c.form=1\/c.form=2/\c.joins=[])
def OkS(sp:Spt):Prop:=sp.2.length<=60/\∀c∈sp.2,OkC c
def ZdY{c:Za}(h:Wp c=true):OkC c:=by
 unfold Wp at h;rw[Ba0]at h;obtain⟨_,h⟩:=h;by_cases f2:c.form=2
 ·rw[f2]at h;simp only[Int.reduceBEq,Cq1,Ba0,beq_iff_eq,decide_eq_true_eq]at h;have:c.joins=[]:=Q4 h.1.2;exact⟨by rw[this];simp,.inr ⟨f2,this⟩⟩
 ·have:(c.form==2)=false:=by simpa using f2
  rw[this]at h;simp only[Cq0,Ba0,beq_iff_eq,decide_eq_true_eq]at h;exact⟨h.1.2,.inl h.1.1.1.1.1⟩
def ZB3:∀n (c:Za),(pre (.cl c)).length<=n->(YT c).length<=(pre (.cl c)).length:=by
 intro n
 induction n with
 | zero=>intro c h;have:=YQ (.cl c);omega
 | succ n ih=>
   intro c hn;rw[JB];have h0:=Xe (.cl c)
   have h1:((ZE (.cl c)).flatMap pre).length=((c.defs.map Part.cl).flatMap pre).length+((c.kids.map Part.pr).flatMap pre).length:=by
    show((c.defs.map Part.cl++c.kids.map Part.pr).flatMap pre).length=_;rw[J1,K0]
   have:∀l:U Za,(∀d∈l,(YT d).length<=(pre (.cl d)).length)->(l.flatMap YT).length<=((l.map Part.cl).flatMap pre).length:=by
    intro l
    induction l with
    | nil=>simp
    | cons d l ihl=>
      intro h;have a:=h d (by simp);have b:=ihl fun x hx=>h x (Ks _ hx)
      simp only[K2,G3,K0];omega
   have h2:=this c.defs fun d hd=>ih d (by have:=ZX (YK hd);omega)
   cases c.form==2
   ·show 0<=_;omega
   ·show(c.defs.flatMap YT).length+1<=_;omega
def Zxg(l:U Za):(l.flatMap YT).length<=((l.map Part.cl).flatMap pre).length:=by
 induction l with
 | nil=>simp
 | cons d l ihl=>simp only[K2,G3,K0];have:=ZB3 _ d Vb;omega
def Za3{c:Za}{l:U Za}(h:c∈l):(YT c).length<=(l.flatMap YT).length:=by
 induction l with
 | nil=>cases h
 | cons x l ih=>
   rw[K2,K0];rcases Kx.1 h with rfl|h
   ·omega
   ·have:=ih h;omega
def Zae(l:U Za):l.length<=((l.map Part.cl).flatMap pre).length:=by
 have:=Uy (l.map Part.cl)
 simpa using this
def ZB8:∀n (c:Za),(pre (.cl c)).length<=n->n<=60->(pre (.cl c)).all U2=true->∀sp∈YT c,OkS sp:=by
 intro n
 induction n with
 | zero=>intro c h;have:=YQ (.cl c);omega
 | succ n ih=>
   intro c hn h60 hs sp hsp;rw[JB]at hsp;cases hf:c.form==2
   ·rw[hf]at hsp;cases hsp
   rw[hf]at hsp;simp only[Cq1]at hsp
   have hd:∀d∈c.defs,(pre (.cl d)).all U2=true:=fun d hd=>by
    rw[Kd]at hs ⊢;exact fun y hy=>hs y (ZQ (YK hd) hy)
   rcases Kx.1 hsp with rfl|hsp
   ·refine⟨?_,fun d hdm=>ZdY ?_⟩
    ·have:=ZaJ (.cl c);simp only[ZE,K0,JT]at this;show c.defs.length<=60;omega
    ·exact Kd.1 (hd d hdm) _ (Yh _)
   ·obtain⟨d,hdm,hsp⟩:=Q2.1 hsp;exact ih d (by have:=ZX (YK hdm);omega) Va (hd d hdm) sp hsp
def ZiS{α σ β γ:Type}{body:γ->(γ->O β)->O β}(st:Nat->σ->γ)(l:U α)(Pre:Nat->U α->σ->Prop)(run:Nat->U α->σ->O β)
 (h0:∀s nx,Pre l.length [] s->body (st l.length s) nx=run l.length [] s)
 (h1:∀(k:Nat) x rest s nx,x∈l->k<l.length->ZN l (k:Int)=some x->Pre k (x::rest) s->(∀s',Pre (k+1) rest s'->nx (st (k+1) s')=run (k+1) rest s')->body (st k s) nx=run k (x::rest) s) {F:Nat} (hF:l.length<F) (s:σ) (hp:Pre 0 l s):loop F body (st 0 s)=run 0 l s:=by
 have key:∀(d j F:Nat)(s:σ),j+d=l.length->d<F->Pre j (l.drop j) s->loop F body (st j s)=run j (l.drop j) s:=by
  intro d
  induction d with
  | zero=>
    intro j F s hj hF hp;obtain⟨F,rfl⟩:∃G,F=G+1:=⟨F-1,by omega⟩
    obtain rfl:j=l.length:=Va
    rw[List.drop_length]at hp ⊢;rw[ZH,h0 _ _ hp]
  | succ d ih=>
    intro j F s hj hF hp;obtain⟨F,rfl⟩:∃G,F=G+1:=⟨F-1,by omega⟩
    have hjl:j<l.length:=Va
    rw[List.drop_eq_getElem_cons hjl]at hp ⊢;rw[ZH];exact h1 j _ _ s _ (GN hjl) hjl (Qq hjl) hp fun s' hp'=>ih (j+1) F s' Va Va hp'
 have:=key l.length 0 F s Va hF (by simpa using hp)
 simpa using this
abbrev MM:=U (Y×ZI)
abbrev MN:=U (Y×Z)
abbrev SS:=Nat×MM×MN
def ZbD:MM->U (Y×ZI)->O MM
 | m,[]=>some m
 | m,e::r=>bif okE (ZR m) e then ZbD (Xw m e.1 e.2) r else none
def Zo8(a b:U (Y×ZI)):∀m,ZbD m (a++b)=(ZbD m a).bind fun x=>ZbD x b:=by
 induction a with
 | nil=>intro m;rfl
 | cons e a ih=>
   intro m;simp only[GY,ZbD];cases okE (ZR m) e
   ·rfl
   ·exact ih _
def Zdz(s:SS)(sp:Spt):O SS:=bif decide (0<s.1)&&has s.2.2 sp.1 then none else(ZbD s.2.1 ((WT sp.2).map (ev s.1))).map fun m=>(s.1+1,m,bif decide (0<s.1) then Xw s.2.2 sp.1 true else s.2.2)
def ZdV:SS->U Spt->O SS
 | s,[]=>some s
 | s,x::r=>(Zdz s x).bind fun s=>ZdV s r
def Zoz(a b:U Spt):∀s,ZdV s (a++b)=(ZdV s a).bind fun x=>ZdV x b:=by
 induction a with
 | nil=>intro m;rfl
 | cons e a ih=>
   intro s;simp only[GY,ZdV];cases Zdz s e with
   | none=>rfl
   | some s'=>exact ih _
def ZwP{s s':SS}{x:Spt}(h:Zdz s x=some s'):s'.1=s.1+1:=by
 unfold Zdz at h;cases hb:(decide (0<s.1)&&has s.2.2 x.1) with
 | true=>rw[hb]at h;cases h
 | false=>
   rw[hb]at h;simp only[Cq0,Option.map_eq_some_iff]at h;obtain⟨m,_,rfl⟩:=h;rfl
def Ztj:∀{l:U Spt}{s s':SS},ZdV s l=some s'->s'.1=s.1+l.length
 | [],s,s',h=>by cases h;rfl
 | x::r,s,s',h=>by
   obtain⟨s1,h1,h2⟩:=bS (by exact h);have:=ZwP h1;have:=Ztj h2;simp only[Kf];omega
def ZsW:O SS->PR (Z×Int×MM×MN)
 | some s=>.ok (true,(s.1:Int),s.2.1,s.2.2)
 | none=>.Z9 2
def ZrQ{F:Nat}(hF:10000000000000000000<=F)(a:Nat)(i:Int)(nx:Int×MM->O (PR (Z×Int×MM×MN)))(x:Za)(hx:x.joins.length<=BB)(m:MM):
 loop F (Zfi (a:Int) i nx x) (0,m)=opt (ZbD m (x.joins.map (ev a))) (some (.Z9 2)) fun m=>nx (YX (i+1),m):=by
 unfold BB at hx;refine ZM (fun(k:Nat)(m:MM)=>((k:Int),m)) x.joins (fun _ _=>True) (fun rest m=>opt (ZbD m (rest.map (ev a))) (some (.Z9 2)) fun m=>nx (YX (i+1),m)) ?_ ?_ Va m trivial
 ·intro s nx' _;simp only[Zfi,Zp,Cq0];rfl
 ·intro j y rest s nx' hy hj hg _ ih;simp only[Zfi,ZC hj,Cq1,hg,Bq0,Zxk,Jj,ZeF];rw[XQ Va];simp only[ih _ trivial,G3,ZbD,okE,ev];cases (!(ZR s y.text).isSome||Ua ((ZR s y.text).getD ⟨0,0⟩) ⟨(a:Int),(y.names.length:Int)⟩)<;>rfl
def Zrm{F:Nat}(hF:10000000000000000000<=F)(l rules:U Za)(a:Nat)(ha:a<=2000)(n1:Y×(U Za)×Int×MM×MN->O (PR (Z×Int×MM×MN)))(ns:MN)(hr:rules.length<=BB)(hx:∀x∈rules,x.joins.length<=BB)(m:MM):
 loop F (Zfj F l (a:Int) n1 rules ns) (0,m)=opt (ZbD m ((WT rules).map (ev a))) (some (.Z9 2)) fun m=>loop F (Zbi l n1) (0,((a+1:Nat):Int),m,ns):=by
 unfold BB at hr;refine ZM (fun(k:Nat)(m:MM)=>((k:Int),m)) rules (fun _ _=>True) (fun rest m=>opt (ZbD m ((WT rest).map (ev a))) (some (.Z9 2)) fun m=>loop F (Zbi l n1) (0,((a+1:Nat):Int),m,ns)) ?_ ?_ Va m trivial
 ·intro s nx' _;simp only[Zfj,Zp,Cq0,KK];rw[XQ Va];rfl
 ·intro j y rest s nx' hy hj hg _ ih;simp only[Zfj,ZC hj,Cq1,hg,Bq0,ZrQ hF a _ _ y (hx y hy)];rw[XQ Va];simp only[ih _ trivial,WT,K2,GC,Zo8];cases ZbD s (y.joins.map (ev a))<;>rfl
def ZiY{l:U Za}(h:∀c∈l,OkC c):WT (l.filter fun c=>c.form==1)=WT l:=by
 induction l with
 | nil=>rfl
 | cons c l ih=>
   have i:=ih fun d hd=>h d (Ks _ hd)
   obtain⟨_,h1|⟨h2,h3⟩⟩:=h c (by simp)
   ·rw[List.filter_cons_of_pos (by simp[h1])];unfold WT at i ⊢;rw[K2,K2,i]
   ·rw[List.filter_cons_of_neg (by simp[h2]),i];unfold WT;rw[K2,h3,G5]
def Zv8{F:Nat}(hF:10000000000000000000<=F):∀n (nm:Y) (l:U Za) (s:SS),(l.flatMap YT).length<=n->OkS (nm,l)->(∀sp∈l.flatMap YT,OkS sp)->s.1+(l.flatMap YT).length<=1000->∀Fr,n<Fr ->
 loop Fr (Zab F) (nm,l,(s.1:Int),s.2.1,s.2.2)=some (ZsW (ZdV s ((nm,l)::l.flatMap YT))):=by
 intro n
 induction n using Nat.strongRecOn with
 | _ n ih=>
   intro nm l s hn hok Zpe hs1 Fr hFr;obtain⟨G,rfl⟩:∃G,Fr=G+1:=⟨Fr-1,by omega⟩
   rw[ZH]
   have hih:∀c∈l,c.form=2->∀s:SS,s.1+(YT c).length<=1001->loop G (Zab F) (c.text,c.defs,(s.1:Int),s.2.1,s.2.2)=some (ZsW (ZdV s (YT c))):=fun c hc hf s hs=>by
    have e:YT c=(c.text,c.defs)::c.defs.flatMap YT:=by rw[JB,hf];rfl
    have hle:(YT c).length<=(l.flatMap YT).length:=Za3 hc;have hm:∀sp∈YT c,OkS sp:=fun sp hsp=>Zpe sp (Q2.2 ⟨c,hc,hsp⟩)
    rw[e]at hle hm hs ⊢;simp only[Kf]at hle hs;exact ih (n-1) Va c.text c.defs s Va (hm _ (by simp)) (fun sp hsp=>hm sp (by simp[hsp])) Va G Va
   generalize loop G (Zab F)=n1 at hih;obtain⟨hl,hoc⟩:=hok;dsimp only at hl hoc
   have hb3:∀s:SS,s.1+(l.flatMap YT).length<=1001->0<s.1->loop F (Zbi l n1) (0,(s.1:Int),s.2.1,s.2.2)=some (ZsW (ZdV s (l.flatMap YT))):=fun s hs h0=>by
    refine ZM (fun(k:Nat)(s:SS)=>((k:Int),(s.1:Int),s.2.1,s.2.2)) l (fun rest s=>s.1+(rest.flatMap YT).length<=1001) (fun rest s=>some (ZsW (ZdV s (rest.flatMap YT)))) ?_ ?_ Va s hs
    ·intro s nx _;simp only[Zbi,Zp,Cq0];rfl
    ·intro k c rest s nx hc hk hg hp ihl;simp only[Zbi,ZC hk,Cq1,hg,Bq0];rw[XQ Va];rw[K2,K0]at hp;rw[K2,Zoz];rcases(hoc c hc).2 with h1|⟨h2,_⟩
     ·rw[h1];have e:YT c=[]:=by rw[JB,h1];rfl
      rw[e]at hp ⊢;exact ihl s (by simpa using hp)
     ·rw[h2];have hpos:1<=(YT c).length:=by rw[JB,h2];simp
      simp only[Int.reduceBEq,Cq1];rw[hih c hc h2 s Va,Bq0];cases hr:ZdV s (YT c) with
      | none=>rfl
      | some s'=>
        have:=Ztj hr;exact ihl s' Va
   have hj2:∀ns,(Zac F l (s.1:Int) s.2.1 n1 (l.filter fun c=>c.form==1)) ns=some (ZsW ((ZbD s.2.1 ((WT l).map (ev s.1))).bind fun m=>ZdV (s.1+1,m,ns) (l.flatMap YT))):=fun ns=>by
    unfold Zac;have hfl:(l.filter fun c=>c.form==1).length<=l.length:=List.length_filter_le _ _;rw[Zrm hF l _ s.1 Va n1 ns (by unfold BB;omega) (fun x hx=>by have:=(hoc x (GX.1 hx).1).1;unfold BB;omega) s.2.1,ZiY hoc];cases ZbD s.2.1 ((WT l).map (ev s.1)) with
    | none=>rfl
    | some m=>exact hb3 (s.1+1,m,ns) (by show s.1+1+_<=1001;omega) (Nat.succ_pos _)
   unfold Zab;dsimp only;have:=ZM (body:=Zfk F nm l (s.1:Int) s.2.1 s.2.2 n1) (fun(k:Nat)(a:U Za)=>((k:Int),a)) l (fun rest a=>a.length+rest.length<=60) (fun rest a=>(bif decide ((s.1:Int)>0) then(ZkM s.2.2 nm false).bind fun Zwu=>(JI (!Zwu)).bind fun Zwt=>JS Zwt (fun e267=>some (.Z9 2)) (fun ZJV=>(Zac F l (s.1:Int) s.2.1 n1 (a++rest.filter fun c=>c.form==1)) (Xw s.2.2 nm true)) else(Zac F l (s.1:Int) s.2.1 n1 (a++rest.filter fun c=>c.form==1)) s.2.2)) (F:=F) ?_ ?_ Va [] (by simpa using hl)
   ·refine this.trans ?_;simp only[G5,ZbW,Bq0,Jj,ZeF,hj2,gt0];show _=some (ZsW ((Zdz s (nm,l)).bind fun s=>ZdV s (l.flatMap YT)));unfold Zdz;cases decide (0<s.1)
    ·simp only[Cq0,Gq];cases ZbD s.2.1 ((WT l).map (ev s.1))<;>rfl
    ·simp only[Cq1,Gd];cases has s.2.2 nm
     ·simp only[Ge,Cq1,Cq0];cases ZbD s.2.1 ((WT l).map (ev s.1))<;>rfl
     ·rfl
   ·intro a nx _;simp only[Zfk,Zp,Cq0,List.filter_nil,Gk]
   ·intro k c rest a nx hc hk hg hp ihl;simp only[Kf]at hp;simp only[Zfk,ZC hk,Cq1,hg,Bq0,Zfh];rw[XQ Va];cases hf:c.form==1
    ·rw[List.filter_cons_of_neg (by simp[hf])];exact ihl a Va
    ·rw[List.filter_cons_of_pos (p:=fun c:Za=>c.form==1) hf];simp only[Cq1];rw[app1 Va Va,Bq0,ihl _ (by simp;omega),Gf];rfl
def ZkH(m:MM)(l:U (Y×ZI)):MM:=l.foldl (fun m e=>Xw m e.1 e.2) m
def ZdE(m:MM)(e:Y×ZI):ZR (Xw m e.1 e.2)=upd (ZR m) e:=by
 funext x;rw[Zc0];rfl
def Zf1(l:U (Y×ZI)):∀m,ZR (ZkH m l)=l.foldl upd (ZR m):=by
 induction l with
 | nil=>intro m;rfl
 | cons e l ih=>
   intro m;show ZR (ZkH (Xw m e.1 e.2) l)=_;rw[ih,ZdE];rfl
def ZtG(l:U (Y×ZI)):∀m,ZbD m l=bif JW (ZR m) l then some (ZkH m l) else none:=by
 induction l with
 | nil=>intro m;rfl
 | cons e l ih=>
   intro m;simp only[ZbD,JW,ih,ZdE];cases okE (ZR m) e<;>rfl
def ZgO(a b:U (Y×ZI))(m:MM):ZkH m (a++b)=ZkH (ZkH m a) b:=GJ
def ZBX(l:U Spt):∀a,0<a->∀m ns,ZdV (a,m,ns) l=bif WM (has ns) (l.map (·.1))&&JW (ZR m) (evJ a l) then some (a+l.length,ZkH m (evJ a l),WK ns (l.map (·.1))) else none:=by
 induction l with
 | nil=>intro a ha m ns;rfl
 | cons x l ih=>
   intro a ha m ns;show(Zdz (a,m,ns) x).bind _=_;unfold Zdz;simp only[decide_eq_true ha,Gd,G3,WM,evJ,Zmf,ZtG,<-Zf1,Cq1];cases has ns x.1
   ·simp only[Cq0,Ge,Gd];cases JW (ZR m) ((WT x.2).map (ev a))
    ·simp
    ·simp only[Cq1,Option.map_some,Bq0,Gd];rw[ih (a+1) Va,ZaL,ZgO];have:WK ns (x.1::l.map (·.1))=WK (Xw ns x.1 true) (l.map (·.1)):=rfl;rw[this,Kf,show a+1+l.length=a+(l.length+1) by omega]
   ·rfl
def Zun{ν:Type}(m:U (Y×ν))(g:Y->Z):(m.any fun e=>g e.1)=true↔∃k,(ZR m k).isSome=true/\g k=true:=by
 rw[GO]
 constructor
 ·rintro⟨e,he,hg⟩;refine⟨e.1,?_,hg⟩;cases h:ZR m e.1 with
  | some v=>rfl
  | none=>
    unfold ZR at h
    have:Yg m e.1=none:=by cases h':Yg m e.1 with
     | none=>rfl
     | some q=>rw[h']at h;cases h
    exact absurd rfl (ZdZ.1 this e he)
 ·rintro⟨k,hk,hg⟩;cases h:Yg m k with
  | none=>unfold ZR at hk;rw[h]at hk;cases hk
  | some q=>exact⟨(k,q.2),GK (Za7 h),hg⟩
def ZwF(l:U (Y×ZI)):∀f x,(l.foldl upd f x).isSome=((f x).isSome||l.any fun e=>decide (x=e.1)):=by
 induction l with
 | nil=>intro f x;simp
 | cons e l ih=>
   intro f x;rw[Gn,ih,List.any_cons];unfold upd;by_cases h:x=e.1
   ·simp[h]
   ·simp[h]
def ZAD(l:U (Y×ZI))(g:Y->Z):((ZkH [] l).any fun e=>g e.1)=l.any fun e=>g e.1:=by
 rw[GD,Zun];simp only[Zf1,ZwF];rw[GO]
 constructor
 ·rintro⟨k,h,hg⟩;have:(l.any fun e=>decide (k=e.1))=true:=by simpa[ZR,Yg]using h
  obtain⟨e,he,hk⟩:=GO.1 this;rw[decide_eq_true_eq]at hk;exact⟨e,he,by rw[<-hk];exact hg⟩
 ·rintro⟨e,he,hg⟩;refine⟨e.1,?_,hg⟩;rw[Gt];right;exact GO.2 ⟨e,he,by simp⟩
def Zu7{ν:Type}(b:Y->ν->O Z)(g:Y->Z)(h:∀k v,b k v=some (g k))(l:U (Y×ν)):Zlx b l=some (l.any fun e=>g e.1):=by
 induction l with
 | nil=>rfl
 | cons e l ih=>simp only[Zlx,h,ih,Bq0,List.any_cons]
def ZsL{F:Nat}(hF:10000000000000000000<=F)(l:U Za)(hl:OkS (E0,l))(hs:∀sp∈l.flatMap YT,OkS sp)(hn:(l.flatMap YT).length<=60):ZdL F l=some (bif AgW l then .ok () else .Z9 2):=by
 unfold ZdL;have:=Zv8 hF _ E0 l (0,[],[]) Vb hl hs (by show 0+_<=1000;omega) F Va;have e:loop F (Zab F) (E0,l,0,[],[])=_:=this;rw[e,Bq0]
 have e2:ZdV (0,[],[]) ((E0,l)::l.flatMap YT)=bif JW (fun _=>none) (evJ 0 ((E0,l)::l.flatMap YT))&&WM (fun _=>false) (Y3 l) then some (1+(l.flatMap YT).length,ZkH [] (evJ 0 ((E0,l)::l.flatMap YT)),WK [] (Y3 l)) else none:=by
  show(Zdz (0,[],[]) (E0,l)).bind _=_;unfold Zdz;have h0:(ZR ([]:MM))=fun _=>none:=by funext x;rfl
  simp only[Nat.lt_irrefl,decide_false,Gq,Cq0,evJ,Zmf,ZtG,h0];have hm:JW ((List.map (ev 0) (WT l)).foldl upd fun _=>none) (evJ (0+1) (l.flatMap YT))=JW (ZR (ZkH [] ((WT l).map (ev 0)))) (evJ (0+1) (l.flatMap YT)):=by rw[Zf1,h0]
  rw[hm];cases JW (fun _=>none) ((WT l).map (ev 0))
  ·simp
  ·simp only[Cq1,Option.map_some,Bq0,Gd];rw[ZBX _ (0+1) Va,Zna,ZgO,Bool.and_comm];rfl
 rw[e2];unfold AgW;rw[Bool.and_comm (JW _ _)];cases WM (fun _=>false) (Y3 l)&&JW (fun _=>none) (evJ 0 ((E0,l)::l.flatMap YT))
 ·rfl
 ·simp only[Cq1,Gd,ZsW,JS];unfold ZhO;dsimp only
  rw[Zu7 _ (has (WK [] (Y3 l))) (fun k v=>by
   simp only[Znx,ZbW,Bq0,Jj,ZeF];cases has (WK [] (Y3 l)) k<;>rfl),Bq0,ZAD,Zi8,Zna]
  simp only[Gm];cases ((evJ 0 ((E0,l)::l.flatMap YT)).any fun e=>decide (e.1∈Y3 l))<;>rfl
end
end Go.Proofs.YtbnepjakjmnadaaGreat
end
end
