/- Part 18. -/
import Derived.WalkKit
import Derived.OpenShut
import Derived.Carry
import Derived.Test.YtbnepjakjmnadaaGreatFp17
set_option linter.all false
set_option maxHeartbeats 2000000
section
noncomputable section
namespace Go.ZF
open Go.Lf
variable{P:V7}
def UA(P:V7){α:Type}(e:UD α)(V:α->Prop)(t:J):Prop:=P.cellsOf t=e.sz/\∀{E:Type}{h:H}{cs:U N}{d:DataW E},AR P h t cs d->∃p x,cs=e.sh p x/\V x/\∀wm,e.F wm h p x
def UA.int{t:J}{k:IntKind}(hu:P.underlying t=some (.int k))(hc:P.cellsOf t=1):UA P (Zi7 k) (fun n=>(Lit.int k n).wf=true) t:=⟨hc,fun a=>by
 cases a with
 | int hu' wf=>rw[hu]at hu';cases hu';exact⟨(),_,rfl,wf,fun _=>trivial⟩
 | bool hu'=>rw[hu]at hu';cases hu'
 | string hu' _=>rw[hu]at hu';cases hu'
 | nil hu'=>rw[hu]at hu';cases hu'
 | empty hu'=>rw[hu]at hu';cases hu'
 | slice hu'=>rw[hu]at hu';cases hu'
 | struct hu'=>rw[hu]at hu';cases hu'⟩
def UA.str{t:J}(hu:P.underlying t=some .string)(hc:P.cellsOf t=1):UA P ZW (fun s=>s.size<=maxLen) t:=⟨hc,fun a=>by
 cases a with
 | string hu' hs=>exact⟨(),_,rfl,hs,fun _=>trivial⟩
 | bool hu'=>rw[hu]at hu';cases hu'
 | int hu' _=>rw[hu]at hu';cases hu'
 | nil hu'=>rw[hu]at hu';cases hu'
 | empty hu'=>rw[hu]at hu';cases hu'
 | slice hu'=>rw[hu]at hu';cases hu'
 | struct hu'=>rw[hu]at hu';cases hu'⟩
def ZcM{α:Type}{e:UD α}{V:α->Prop}{h:H}{β:Type}:∀(els:U (U N×β)),(∀x∈els,∃p y,x.1=e.sh p y/\V y/\∀wm,e.F wm h p y) ->
 ∃ys:U α,ys.length=els.length/\(∀y∈ys,V y)/\∀(k:Nat)(y:α),ys[k]? =some y->∃x p,els[k]? =some x/\x.1=e.sh p y/\∀wm,e.F wm h p y
 | [],_=>⟨[],rfl,by simp,fun k y hk=>by simp at hk⟩
 | x::els,hx=>by
   obtain⟨ys,h1,hv,h2⟩:=ZcM els (fun z hz=>hx z (by simp[hz]));obtain⟨p,y,h3,hvy,h4⟩:=hx x (by simp);refine⟨y::ys,by simp[h1],fun z hz=>?_,fun k z hk=>?_⟩
   ·rcases Kd.1 hz with q|q
    ·rw[q];exact hvy
    ·exact hv z q
   ·cases k with
    | zero=>simp at hk;subst hk;exact⟨x,p,rfl,h3,h4⟩
    | succ k=>
      obtain⟨x',p',q1,q2⟩:=h2 k z (by simpa using hk);exact⟨x',p',by simpa using q1,q2⟩
def Zex{α β:Type}{f:α->U β}{sz:Nat}(l:U α)(hl:∀x∈l,(f x).length=sz){k:Nat}{x:α}(hk:l[k]? =some x):((l.flatMap f).drop (k*sz)).take sz=f x:=by
 have hfx:(f x).length=sz:=hl x (GZ hk);refine GO fun j=>?_
 by_cases hj:j<sz
 ·rw[GD hj,GB,flat_get l hl k j hj,hk];rfl
 ·rw[Jx (by rw[Gj];omega),Jx Vg]
def UA.slice{α:Type}{e:UD α}{V:α->Prop}{t el:J}(hu:P.underlying t=some (.slice el))(hc:P.cellsOf t=1)(he:UA P e V el):UA P (Yy e) (fun l=>∀x∈l,V x) t:=⟨hc,fun a=>by
 cases a with
 | bool hu'=>rw[hu]at hu';cases hu'
 | int hu' _=>rw[hu]at hu';cases hu'
 | string hu' _=>rw[hu]at hu';cases hu'
 | nil hu'=>exact⟨(none,0),[],rfl,by simp,fun _=>Sl.nil⟩
 | empty hu'=>exact⟨(some ⟨0,0,some 0⟩,0),[],rfl,by simp,fun _=>⟨by simp,by simp,.inr (.inl ⟨rfl,rfl⟩),.inl rfl⟩⟩
 | @slice t' e' els rest i cap hu' hl hcap hat hsz hel=>
   rw[hu]at hu';cases hu';obtain⟨ys,h1,hv,h2⟩:=ZcM (e:=e) els (fun x hx=>he.2 (hel x hx));have hsz':∀x∈els,x.1.length=e.sz:=fun x hx=>(hsz x hx).trans he.1
   refine⟨(some ⟨i,0,none⟩,2*cap),ys,by show [Value.slice _ _ _]=[Value.slice _ _ _];rw[h1],hv,fun wm=>⟨?_,?_,.inr (.inr ⟨_,_,rfl⟩),.inr ⟨i,0,_,false,0,rfl,hat,.inr rfl,?_,fun k y hk=>?_⟩⟩⟩
   ·rw[h1];exact KB (KB hl hcap) (by decide)
   ·rw[h1];omega
   ·rw[h1,G4,ZfE els hsz'];exact K1 _
   ·obtain⟨x,p,q1,q2,q3⟩:=h2 k y hk;refine⟨p,?_,q3 wm⟩;rw[G4,Zex els hsz' q1,q2]
 | struct hu'=>rw[hu]at hu';cases hu'⟩
def AR.ZvS{E:Type}{h:H}{t:J}{cs:U N}{d:DataW E}{fs:Va Field}(hu:P.underlying t=some (.struct fs))(a:AR P h t cs d):
 ∃els:U (U N×DataW E),cs=els.flatMap (·.1)/\els.length=fs.toList.length/\∀(i:Nat)(x:U N×DataW E)(f:Field),els[i]? =some x->fs.toList[i]? =some f->AR P h f.type x.1 x.2:=by
 cases a with
 | bool hu'=>rw[hu]at hu';cases hu'
 | int hu' _=>rw[hu]at hu';cases hu'
 | string hu' _=>rw[hu]at hu';cases hu'
 | nil hu'=>rw[hu]at hu';cases hu'
 | empty hu'=>rw[hu]at hu';cases hu'
 | slice hu'=>rw[hu]at hu';cases hu'
 | struct hu' hl hsz hel=>rw[hu]at hu';cases hu';exact⟨_,rfl,hl,hel⟩
def ZGV{ρ:Ren}{acs cs:U N}(h:LR ρ acs cs):VR ρ (.agg acs.toArray) (.agg cs.toArray):=
 .agg _ _ (by simpa using h.1) (fun i v v' e1 e2=>h.2 i v v' (by simpa using e1) (by simpa using e2))
def Zt0{ρ:Ren}{acs:U N}{cs:Va N}(h:LR ρ acs (Value.agg cs).cells.toList):VR ρ (.agg acs.toArray) (.agg cs):=by
 have:=ZGV h
 rwa[Array.toArray_toList]at this
def ZGU{ρ:Ren}{a v:N}(h:LR ρ [a] [v]):VR ρ a v:=h.2 0 a v rfl rfl
def Zq1:Ren:=⟨fun _=>none,fun _=>(0,0)⟩
def Zsr:Zgj ⟨.nil,0⟩:=fun i=>by
 have:(⟨.nil,0⟩:H).at i=.dead:=H.Za8 (Gv _);rw[this];rfl
def Zyi(w:V9):Rel Zq1 ⟨.nil,0⟩ w:=⟨fun _ _ _ e=>(by cases e),fun _ _ _ e=>(by cases e),fun _ _ _ _ _ e=>(by cases e)⟩
def ZEB{E:Type}{W:V9}(l:U (J×U N×DataW E))(hl:∀x∈l,ZmT P W x.1 x.2.1 x.2.2):
 ∃(ρ:Ren) (h:H) (els:U (U N×DataW E)),Rel ρ h W/\Zgj h/\els.length=l.length/\
   ∀(i:Nat)(x:U N×DataW E)(y:J×U N×DataW E),els[i]? =some x->l[i]? =some y->LR ρ x.1 y.2.1/\AR P h y.1 x.1 x.2:=by
 obtain⟨ρ,h,els,q1,q2,q3,q4,q5,q6,q7⟩:=Zol l hl Zq1 ⟨.nil,0⟩ (Zyi W) Zsr;exact⟨ρ,h,els,q3,q4,q6,q7⟩
end Go.ZF
end
end
section
set_option maxRecDepth 20000
noncomputable section
namespace Go.Proofs.YtbnepjakjmnadaaGreat
open Go.ZF Go.Lf
section
open Go.ZF Go.RowKit Go.Maps Go.Sort Go.Shelf Go.Lf
def ZiT(l:U (Y×Z)):(Zbg l).length=l.length:=by unfold Zbg;rw[Gf,ZiU]
def Zx2(l:U (Y×Z)):(ZhX l).map encStr=(Zbg l).map Value.string:=by
 unfold Zbg;rw[Gt];exact List.map_congr_left fun k _=>rfl
def ZK6{wm m:Nat}{h h0:H}{T:Nat->Prop}{G Gr:U (Ast wm)}{l:U (Y×Z)}(hS:Sp wm T h0 G h)(pk:Pk G (mp wm Value.string Value.bool (some m) l) Gr)(hk:(l.map (·.1)).Nodup)(hs:∀p∈l,p.1.size<=1000000)(hl:l.length<=1000000):
 ∃v h2,Yq XX (.call 66 #[.func (.func 111) #[] #[(Vf h.size)]] wm (h.push (.box m))) (.fin (.ret v) h2)/\∃a c,v=.slice a (Zbg l).length c/\Sp wm T h0 (ow wm ZW a (Zbg l).length c (Zbg l)::G) h2:=by
 have hS1:Sp wm T h0 G (h.push (.box m)):=hS.up (Up.push wm h _);have hi:(h.push (.box m)).at h.size=.box m:=QV _ _
 obtain⟨i,bs,Y6,e,hat,hbl,hbn,hbc⟩:∃i bs Y6,some m=some i/\h.at i=.map (Xc Value.string Value.bool l bs) Y6/\bs.length=l.length/\bs.Nodup/\∀b∈bs,b<Y6:=by
  rcases(hS.get pk).at_.mem with⟨q,_⟩|q
  ·cases q
  ·exact q
 cases e;have ZMU:(h.push (.box m)).at m=.map (Xc Value.string Value.bool l bs) Y6:=by rw[WQ (YH hat rfl)];exact hat
 have c1:Xq Y6 (Xc Value.string Value.bool l bs)=true:=ZkF (by rw[ZgE l bs hbl];exact hbn) (by rw[ZgE l bs hbl];exact hbc);have c2:(Xc Value.string Value.bool l bs).length<=1000000:=by unfold Xc;rw[List.length_zipWith,hbl];omega
 have c3:=ZpS (vv:=Value.bool) l bs hbl hs
 have c4:nodupB (kbs l)=true:=Zl0 (by
  unfold kbs;rw[show(fun p:Y×Z=>p.1.data.toList)=(fun s:Y=>s.data.toList)∘(·.1) from rfl,<-Gt];exact List.Pairwise.map _ (fun a b hab e=>hab (by cases a;cases b;exact congrArg _ (GX.1 e))) hk)
 have hsz:Maps.size (Jq (kbs l))<=1000000:=by rw[ZsA];simpa[kbs]using hl
 by_cases hn:l=[]
 ·subst hn;have e:Zbg []=[]:=G7 (ZiT []);refine⟨Vd,_,ZAL hi ZMU c1 c2 c3 c4 hsz rfl,none,0,by rw[e];rfl,?_⟩;rw[e];exact hS1.nil
 ·have h1:ZhX l≠[]:=fun e=>hn (G7 (by rw[<-ZiU l,e];rfl))
  have hlen:(ZhX l).length=(Zbg l).length:=by rw[ZiU,ZiT]
  refine⟨_,_,ZAK hi ZMU c1 c2 c3 c4 hsz h1 (Zpi l) (ZvX l),some ⟨(h.push (.box m)).size,0,none⟩,2*(Zbg l).length+1,by rw[hlen],?_⟩;refine hS1.new (Up.push wm _ _) ⟨rfl,?_,.inr ⟨_,0,(ZhX l).map encStr,rfl,hS1.hw,QV _ _,by omega,?_,?_⟩⟩ (fun i hi=>?_)
  ·rw[ZiT];omega
  ·rw[Gf,hlen];show 0+_*1<=_;omega
  ·rw[Zx2,List.map_eq_flatMap];refine⟨by rw[<-List.map_eq_flatMap,Gf];show 0+_*1<=_;omega,fun k x hk=>⟨(),?_,trivial⟩⟩;rw[G4];exact Zex (Zbg l) (f:=fun x=>[Value.string x]) (sz:=1) (fun _ _=>rfl) hk
  ·obtain⟨o,ho⟩:=hi;cases ho;exact K1 _
end
section
def ZL5:(XX.fns.get 67).isSome=true:=Kq0
def ZL6:(XX.fns.get 66).isSome=true:=Kq0
def ZH1:(XX.fns.get 23).isSome=true:=Kq0
def ZgL(m:MB):Z:=decide ((m.map (·.1)).Nodup)&&m.all (fun p=>decide (p.1.size<=1000000))&&decide (m.length<=1000000)
def ZwL(F:Nat)(t:Term):O (U Y×Int):=(Zlo F t).bind fun e=>bif e !=0 then some ([],e) else(Zbu F t).bind fun m=>bif ZgL m then some (Zbg m,0) else none
def ZAQ{F wm:Nat}{h:H}{t:Term}{pA pD pK:O Addr}{cA cD cK:Nat}{r:U Y×Int}(Zt:wm<=h.size)(hsA:Sl Zh wm h pA cA t.args)(hsD:Sl Zc wm h pD cD t.qK)(hsK:Sl Zu wm h pK cK t.qQ)(hL:ZwL F t=some r):
 WR XX 27 #[.agg (q1W t pA cA pD cD pK cK).toArray] wm h (CP (fun v (Gb:U (Ast wm))=>∃(Y3:O Addr) (XU:Nat) (Y2:Nat),v=.tuple #[.slice Y3 XU Y2,Ve r.2]/\Gb=[ow wm ZW Y3 XU Y2 r.1]) [] h):=by
 unfold ZwL at hL;refine bg Tryz.ntmps27 Zt Z7.nil ?_;intro T hT hS;refine r3 ?_;rintro _ h3 ⟨b1,eb1,rfl,hS⟩;refine r8 ?_;obtain⟨e,he,hL⟩:=bS hL;refine WO.cp gN rfl (Yh.fn ZH1 (Zb lk Zd)) (Zs2 (hS.slu hsA) (hS.slu hsD) (hS.slu hsK) he)<|r8 ?_;refine r1 ?_;refine cn hL ?_ ?_
 ·intro hc hL;refine r8 ?_;refine r1 ?_;have hS:=hS.nil (e:=ZW);have hr:=Oi0 hL;subst hr;exact YK.gen (vs:=[Vd,Ve e]) rfl (Zx lk (Zx lk Zj)) rfl ⟨_,⟨none,0,0,rfl,rfl⟩,hT▸hS.only (.c k0 .n)⟩
 ·intro hc hL;refine r4 ?_;refine r1 ?_;obtain⟨m,hm,hL⟩:=bS hL;refine Vj (Yh.fn ZuH (Zb lk Zd)) hS .n (fun g' hz hf hO=>ZnZ (hS.Vm hz) ((hS.sl hsA).mono hf) ((hS.sl hsD).mono hf) ((hS.sl hsK).mono hf) hm) ?_;rintro _ h8 _ ⟨cf,rfl,rfl⟩ hS;cases hko:ZgL m
  ·rw[hko]at hL;cases hL
  rw[hko]at hL
  have ZHU:((m.map (·.1)).Nodup/\∀p∈m,p.1.size<=1000000)/\m.length<=1000000:=by
   unfold ZgL at hko
   simpa only[Ba0,decide_eq_true_eq,Kx]using hko
  obtain⟨v,h9,hj,a,cc,rfl,hS2⟩:=ZK6 hS k0 ZHU.1.1 ZHU.1.2 ZHU.2;refine WO.en gN rfl (Yh.fn ZL5 (Zb lk Zd)) ZEe<|WO.en gN rfl (Yh.fn ZL6 (Zb lk Zd)) hj<|r4 ?_;refine r1 ?_;have hr:=Oi0 hL;subst hr;exact YK.gen (vs:=[.slice a (Zbg m).length cc,Ve 0]) rfl (Zx lk (Zx lk Zj)) rfl ⟨_,⟨a,_,cc,rfl,rfl⟩,hT▸hS2.only (.c k0 .n)⟩
end
section
def ZLY:(XX.fns.get 78).isSome=true:=Kq0
def ZL7:(XX.fns.get 54).isSome=true:=Kq0
def ZAD(F:Nat)(taken:MB):O (MB×Y):=(ZAM F taken).bind fun s=>some (Yk taken s true,s)
def ZIZ{F wm w cf cm:Nat}{fv:FV wm}{taken:MB}{h:H}{r:MB×Y}(Zt:wm<=h.size)(hO:Z7 [wbA wm w cf (some cm) fv,tkA wm (some cm) taken] h)(hL:ZAD F taken=some r):
 WR XX 78 #[pV w] wm h (CP (fun v (Gb:U (Ast wm))=>v=.string r.2/\Gb=[wbA wm w cf (some cm) fv,tkA wm (some cm) r.1]) [wbA wm w cf (some cm) fv,tkA wm (some cm) taken] h):=by
 refine WF.begin (args:=[_]) (fn:=Tryz.f78) Kq0 (by exact rfl) Tryz.ntmps78 (by simp) ?_;simp only[Zl,Zn,Nat.reduceAdd];obtain⟨T,hT,hS⟩:∃T,T=Qm [wbA wm w cf (some cm) fv,tkA wm (some cm) taken]/\Sp wm T h [wbA wm w cf (some cm) fv,tkA wm (some cm) taken] h:=⟨_,rfl,Sp.start Zt hO⟩
 unfold ZAD at hL;refine WC.seq<|WC.region<|Vi (YO (U6 rfl))<|WO.nil<|Yl.YG<|WC.seq<|WC.region<|Vi (Z0 lk)<|Vi (ZcI lk)<|Vi (Xf Zj1 lk)<|Vi (ZY Zgd lk (ZeX hS k0) (j:=1) rfl (v:=.map (some cm)) rfl) ?_;obtain⟨s,hs,hL⟩:=bS hL;refine WO.cp gN rfl (Yh.fn ZL7 (Zb lk Zd)) (ZEh (hS.get k1).1 hs)<|Vi (YO lk)<|WO.nil<|Yl.YG<|WC.seq<|WC.region<|Vi (Z0 lk)<|Vi (ZcI lk)<|Vi (Xf Zj1 lk)<|Vi (ZY Zgd lk (ZeX hS k0) (j:=1) rfl (v:=.map (some cm)) rfl)<|Vi (Z0 lk)<|WO.hu gN (ZHf (v:=true) hS k1 Zk4 XP lk lk (U6 rfl)) ?_;rintro h10 hS;refine WO.nil<|Yl.YG<|WC.seq<|WC.region<|Vi (Z0 lk)<|Vi (YO lk)<|WO.nil<|Yl.YG<|WC.ret ?_;have hr:=Oi0 hL;subst hr;exact YK.XY rfl (Zx lk Zj) ⟨_,⟨rfl,rfl⟩,hT▸hS.only (.c k1 (.c k0 .n))⟩
end
end Go.Proofs.YtbnepjakjmnadaaGreat
end
end
section
set_option maxRecDepth 20000
noncomputable section
namespace Go.ZF
open Go.Lf
variable{P:V7}
def Zxg{t:J}{x:V6}{a b c}{f:Fn}{fs cs:Va N}(hu:P.underlying t=some (.func a b c)):XT P .neq t x (.const .nilFunc) (.func f fs cs) .nilFunc=some (.val (.bool true),.none):=by
 have hp:(plain (.func f fs cs)&&plain .nilFunc)=false:=rfl;unfold XT;rw[hp,Cq0];have:K5 P t (.func f fs cs) .nilFunc=some false:=by unfold K5;rw[hu]
 rw[this];rfl
def Zb4{α:Type}:∀(Ga:U α),Sel Ga Ga []
 | []=>.n
 | _::Ga=>.c .z (Zb4 Ga)
def Zyq{α:Type}(A:α)(Gw:U α):∀Gr:U α,Pk (Gr++A::Gw) A (Gr++Gw)
 | []=>.z
 | _::Gr=>.s (Zyq A Gw Gr)
def Zgw{α:Type}(Gr:U α):∀Gw:U α,Sel (Gr++Gw) Gw Gr
 | []=>by rw[Gn];exact .n
 | A::Gw=>.c (Zyq A Gw Gr) (Zgw Gr Gw)
end Go.ZF
end
end
section
set_option maxRecDepth 20000
noncomputable section
namespace Go.Proofs.YtbnepjakjmnadaaGreat
open Go.ZF Go.Lf
section
abbrev ChL:=MB->U NM->U Y->O MB->O (MB×U Y)
def ZKo(wm w cf:Nat)(ct:O Nat)(fv:FV wm)(fid:V8)(caps:U N)(WIN:Zh8 wm)(chL:ChL):Prop:=
 ∀{h:H}{S:U SE}{b:Nat}{c:U NM}{names:U Y}{pa:O Addr}{pc:Nat}{wv:N}{Gw:U (Ast wm)}{wi:O MB}{free taken:MB}{r:MB×U Y},wm<=h.size->Rd S (some b) c->Sl ZW wm h pa pc names->WIN wv Gw wi->chL taken c names wi=some r->Z7 (JP wm w cf ct fv free taken S++Gw) h ->
   WR XX fid ([pV b,.slice pa names.length pc,wv]++caps).toArray wm h (CP (fun v (Gb:U (Ast wm))=>∃(a:O Addr) (cc:Nat),v=.slice a r.2.length cc/\Gb=Ye wm (Yy ZW) (a,cc) r.2::(JP wm w cf ct fv free r.1 S++Gw)) (JP wm w cf ct fv free taken S++Gw) h)
def Za7(F:Nat)(chL:ChL):UZ:=fun tk c names wi=>(chL tk c names wi).bind fun y=>(loop F (Zad names y.2) (0,[])).bind fun m=>some (y.1,m)
def ZAS{F wm w cf:Nat}{ct:O Nat}{fv:FV wm}{fid:V8}{caps:U N}{WIN:Zh8 wm}{chL:ChL}(hfv:fv.v=.func (.func fid) #[] caps.toArray)(hid:(XX.fns.get fid).isSome=true)(hA:∀wv Gw wi,WIN wv Gw wi->Xt wv=false)(hC:ZKo wm w cf ct fv fid caps WIN chL)
 {h:H} {S:U SE} {b:Nat} {c:U NM} {names:U Y} {pa:O Addr} {pc:Nat} {wv:N} {Gw:U (Ast wm)} {wi:O MB} {free taken:MB} {r:MB×NM} (Zt:wm<=h.size) (hr:Rd S (some b) c) (hsp:Sl ZW wm h pa pc names) (hW:WIN wv Gw wi) (hL:Za7 F chL taken c names wi=some r) (hO:Z7 (JP wm w cf ct fv free taken S++Gw) h):
  WR XX 150 #[pV b,.slice pa names.length pc,wv] wm h (CP (fun v (Gb:U (Ast wm))=>∃(S':U SE) (b':Nat),(∀e∈S,e∈S')/\v=Uf (some b')/\Rd S' (some b') (r.2::c)/\Gb=JP wm w cf ct fv free r.1 S'++Gw) (JP wm w cf ct fv free taken S++Gw) h):=by
 refine WF.begin (args:=[_,_,_]) (fn:=Tryz.f150) Kq0 (by exact rfl) Tryz.ntmps150 (by simp) ?_;simp only[Zl,Zn,Nat.reduceAdd];obtain⟨T,hT,hS⟩:∃T,T=Qm (JP wm w cf ct fv free taken S++Gw)/\Sp wm T h (JP wm w cf ct fv free taken S++Gw) h:=⟨_,rfl,Sp.start Zt hO⟩
 unfold Za7 at hL;have hwv:=hA _ _ _ hW
 obtain⟨e,he,hbe⟩:∃e,e∈S/\e.b=b:=by
  cases hr with
  | @cons e c' he hr=>exact⟨e,he,rfl⟩
 subst hbe;refine r16 ?_;refine r1 ?_;refine Vi (ZY ZaN lk (ZaQ hS k3 he) (j:=0) rfl (v:=pV w) rfl)<|r2 ?_;refine Vi (ZY ZoM lk (ZeX hS k0) (j:=2) rfl (v:=fv.v) rfl) ?_;rw[hfv];obtain⟨ua,ub,uc,hu⟩:=ZxR;refine Vi (YZ lk (U6 rfl) (Zxg hu))<|r2 ?_;refine WC.Uu lk (fun hc=>?_) (fun hc=>?_)
 ·refine r4 ?_;refine Vi (ZY ZaN lk (ZaQ hS k3 he) (j:=0) rfl (v:=pV w) rfl)<|r2 ?_;refine Vi (ZY ZoM lk (ZeX hS k0) (j:=2) rfl (v:=fv.v) rfl) ?_;rw[hfv];refine r3 ?_;obtain⟨y,hy,hL⟩:=bS hL;refine Vj (Yh.clo (first:=[]) (cap:=caps) lk hid (Zb lk (Zb lk (Zb lk Zd))) rfl) hS (.c k0 (.c k0 (.c k0 (.c k0 (Zb4 _))))) (fun g' hz hf hO=>hC (hS.Vm hz) hr (hsp.mono hf) hW hy hO) ?_;rintro _ h1 _ ⟨ya,yc,rfl,rfl⟩ hS;have hS:=hS.only (.c k0 (.c k0 (.c k0 (.c k0 (.c k0 (Zni Gw []))))));refine Vi (YO lk)<|WO.nil<|r6 ?_;refine Vi (ZY ZaN lk (ZaQ hS k4 he) (j:=0) rfl (v:=pV w) rfl)<|r1 ?_;refine Vk (ZbG Value.string vvE hS) ?_;rintro _ h2 ⟨bm,ebm,rfl,hS⟩;refine Vi (XC Zov (ZE lk (ZE lk (ZE lk ZV))) rfl (cs':=[pV w,pV e.b,.map (some bm)]) rfl)<|r1 ?_;rintro _ h3 ⟨bs,ebs,rfl,hS⟩;refine r12 ?_;have hS:=hS.add (A:=esA wm []) (fun x hx=>by cases hx) (fun _ z=>z);obtain⟨m,hm,hL⟩:=bS hL;refine WC.loop (WL.lift hm (fun(p:Int×NM)(s:Fs)=>match p with | (i,m)=>∃(X8:Fr) (h9:H) (es:U (Y×EV)),s=⟨X8,[],h9,none⟩/\Sp wm T h (bx wm bs [pV w,pV e.b,.map (some bm)]::mp wm Value.string vvE (some bm) es::esA wm es::Ye wm (Yy ZW) (ya,yc) y.2::(JP wm w cf ct fv free y.1 S++Gw)) h9/\Znw es=m/\X8.at 7=.slice ya y.2.length yc/\X8.at 8=(Vf bs)/\X8.at 39=.slice pa names.length pc/\X8.at 40= Ve (names.length:Int)/\X8.at 41= Ve i) ⟨_,_,[],rfl,hS.only (.c k1 (.c k1 (.c k0 (.c k0 (.c k0 (.c k0 (.c k0 (.c k0 (Zb4 _))))))))),rfl,Y1⟩ ?_);clear hm hS;rintro Zcg ⟨i,m'⟩ s Jr hm ⟨X8,h9,es,rfl,hS,rfl,e7,e8,e39,e40,e41⟩;dsimp only[Zad]at hm;refine r6 ?_;refine cn hm ?_ ?_
  ·intro hc hm;refine r6 ?_;refine r1 ?_;obtain⟨x22,Zbr,hm⟩:=bS hm;obtain⟨b23,o24,_,JE,JG,JF,QM⟩:=Sl.at_ hsp Zbr;refine Vi (ZQ Qe Qo (Zm (Yb rfl e39) rfl) (Zm (Yb rfl e41) rfl) rfl JE Zbr)<|Vi (ZY U3 (Zm fh rfl) (At.fz hS.fz JF JG) (j:=0) rfl (v:=.string x22) rfl)<|r4 ?_;refine WC.JR mixed Kq0<|r6 ?_;refine r1 ?_;obtain⟨x25,hx25,hm⟩:=bS hm;obtain⟨b26,o27,_,Zqc,Zqp,ZuS,Zqk⟩:=Sl.at_ (hS.fsl k3) hx25;refine Vl (ZQ Qe Qo (Zm (Zi rfl fh) rfl) (Zm fh rfl) rfl Zqc hx25)<|Vl (ZY U3 (Zm fh rfl) Zqp (j:=0) rfl (v:=.string x25) rfl) ?_;obtain⟨z,hz,hm⟩:=bS hm;refine WX.cl0 gN rfl (Yh.fn ZuP (Zb (Zm fh rfl) Zd)) hS .n (fun g' hz' hf hO=>Zu3 (by rw[hz'];exact hS.hw) hz) ?_ rfl rfl;rintro _ h34 _ ⟨a31,c33,rfl,rfl⟩ hS;refine WX.hu gN (Kj (kv:=Value.string) (vv:=vvE) (k:=x22) (v:=((a31,c33),z)) hS k2 QZ ZiQ (Zm (YC rfl (Yb rfl fh)) rfl) (Zm (YC rfl (Zi rfl fh)) rfl) (Zm fh rfl)) ?_ rfl Kq0 [] Kq0 XI.e;rintro h35 hS
   have hS:=hS.add (A:=esA wm (Yk es x22 ((a31,c33),z))) (fun x hx=>by
    rcases Zjn hx with q|q
    ·exact hS.get k3 x q
    ·rw[q];exact YB.2 (hS.fsl k1)) (fun _ z=>z)
   refine r6 ?_;refine r1 ?_;exact ZM.YG (Jr _ _ hm ⟨_,_,Yk es x22 ((a31,c33),z),rfl,hS.only (.c k3 (.c k1 (.c k0 (.c k2 (.c k2 (.c k2 (.c k2 (.c k2 (Zgw [_,_] Gw))))))))),Zl2 (fun q:EV=>q.2) es x22 ((a31,c33),z),Y1⟩)
  ·intro hc hm;refine r12 ?_;have hm':=Oi0 hm;subst hm';have hr':=Oi0 hL;subst hr';have hS:=Zna (S:=S) (b:=bs) (ar:=some e.b) (m:=some bm) (es:=es) (hS.only (.c k0 (.c k0 (.c k0 (.c k4 (.c k1 (.c k1 (.c k1 (Zgw [_] Gw)))))))));exact YK.XY rfl (Zx (Zm fh rfl) Zj) ⟨_,⟨⟨bs,some e.b,some bm,es⟩::S,bs,fun x hx=>Kf _ hx,rfl,Rd.cons (e:=⟨bs,some e.b,some bm,es⟩) Gm (hr.mono fun x hx=>Kf _ hx),rfl⟩,hT▸hS.only (.c k1 (.c k1 (.c k1 (.c k0 (Zb4 _)))))⟩
 ·cases hc
def Zvm{F wm w cf:Nat}{ct:O Nat}{fv:FV wm}{fid:V8}{caps:U N}{WIN:Zh8 wm}{chL:ChL}(hfv:fv.v=.func (.func fid) #[] caps.toArray)(hid:(XX.fns.get fid).isSome=true)(hA:∀wv Gw wi,WIN wv Gw wi->Xt wv=false)(hC:ZKo wm w cf ct fv fid caps WIN chL):Zhq wm w cf ct fv WIN (Za7 F chL):=by
 intro h S b c names pa pc wv Gw wi free taken r Zt hr hsp hW hL hO;obtain⟨e,h',⟨v,rfl,Gb,⟨S',b',h1,h2,h3,rfl⟩,hS⟩,hj⟩:=ZAS (F:=F) hfv hid hA @hC Zt hr hsp hW hL (hO.perm List.perm_append_comm);refine⟨_,h',⟨v,rfl,_,⟨S',b',h1,h2,h3,rfl⟩,?_⟩,hj⟩;have s1:Sp wm (Qm (Gw++JP wm w cf ct fv free taken S)) h (JP wm w cf ct fv free taken S++Gw) h:=(Sp.start Zt hO).perm List.perm_append_comm;have s2:=s1.call (Zb4 _) hS;rw[Gn]at s2;exact s2.perm List.perm_append_comm
end
section
def ZCn:YF XX.P 107=some (.pointer none):=Kq0
instance:UW XX.P 107 (.pointer none):=⟨ZCn⟩
def ZCK:Yu XX.P 107=some 1:=Kq0
instance:SzF XX.P 107 1:=⟨ZCK⟩
def ZCJ:Yu XX.P 108=some 1:=Kq0
instance:SzF XX.P 108 1:=⟨ZCJ⟩
end
section
def ZAE(p0:(U Y)):O (U Y):=
 (app 16 ([]:U Y) p0).bind fun z3=>some z3
end
section
def ZI1{wm h}{p0:(U Y)}{Zg Zf}{r}(Zt:wm<=h.size)(Zw:Sl ZW wm h Zg Zf p0)(hL:ZAE p0=some r):
 WR XX 77 #[.slice Zg p0.length Zf] wm h (CP (fun v (Gb:U (Ast wm))=>∃Y3 XU Y2,v=.slice Y3 XU Y2/\Gb=[ow wm ZW Y3 XU Y2 r]) [] h):=by
 refine bg Tryz.ntmps77 Zt Z7.nil ?_;intro T hT hS;unfold ZAE at hL;refine r8 ?_;rcases Sl.cases Zw with⟨rfl,rfl,rfl⟩|⟨qa,rfl⟩
 ·
  refine r1 ?_;refine Vi (YZ (Zm fh rfl) (U6 rfl) (Zxd Qe))<|r2 ?_;refine WC.Zbz lk rfl ?_;rw[ZJ3 _ (by decide)]at hL;replace hL:some []=some r:=hL;refine r7 ?_;have hS:=hS.nil (e:=ZW);have hr:=Oi0 hL;subst hr;exact YK.XY rfl (Zx lk Zj) ⟨_,⟨none,0,0,rfl,rfl⟩,hT▸hS.only (.c k0 .n)⟩
 ·
  refine r1 ?_;refine Vi (YZ (Zm fh rfl) (U6 rfl) (Zxe Qe))<|r2 ?_;refine WC.Zaf lk rfl<|r4 ?_;refine Vk (Zal (e:=ZW) hS Qe Qo ZiH rfl rfl rfl ZV rfl [] rfl (xs:=([]:U Y)) rfl (by intro q hq;cases hq) rfl) ?_;rintro _ h2 ⟨b1,eb1,rfl,hS⟩;refine r1 ?_;obtain⟨z3,hz3,hL⟩:=bS hL;refine WO.hv gN rfl (KX (e:=ZW) hS k0 UR lk lk (Sl.src (hS.sl Zw)) rfl hz3) ?_;rintro _ h6 ⟨a4,c5,rfl,hS⟩;refine r4 ?_;have hr:=Oi0 hL;subst hr;exact YK.XY rfl (Zx lk Zj) ⟨_,⟨a4,z3.length,c5,rfl,rfl⟩,hT▸hS.only (.c k0 .n)⟩
end
section
def ZsX:(U (Y×Z))->O (U (Y×Z)):=fun v17=>
 some v17
def Zcs(Ug:(Part×(U (Y×Z))->O (Z×(U (Y×Z)))))(x53:(U Part)):Int×(U (Y×Z))->(Int×(U (Y×Z))->O (Z×(U (Y×Z))))->O (Z×(U (Y×Z))):=fun(v62,v64) ZyC=>
 (bif decide (v62<(x53.length:Int)) then(YA x53 v62).bind fun x66=>(Ug (x66,v64)).bind fun(v72,v73)=>(bif(!v72) then some (false,v73) else ZyC (XO (v62+1),v73)) else some (true,v64))
def ZAH(Ug:(Part×(U (Y×Z))->O (Z×(U (Y×Z)))))(x89:(U Part)):Int×(U (Y×Z))->(Int×(U (Y×Z))->O (Z×(U (Y×Z))))->O (Z×(U (Y×Z))):=fun(KF,Zbf) QY=>
 (bif decide (KF<(x89.length:Int)) then(YA x89 KF).bind fun x102=>(Ug (x102,Zbf)).bind fun(ZCu,v109)=>(bif(!ZCu) then some (false,v109) else QY (XO (KF+1),v109)) else some (true,Zbf))
def Zj8(Zm5:Int)(Zij:(Int×(U (Y×Z))->O (Z×(U (Y×Z)))))(Zgr:YJ):Int×(U (Y×Z))->(Int×(U (Y×Z))->O (Z×(U (Y×Z))))->O (Z×(U (Y×Z))):=fun(ZdH,v152) Zum=>
 (bif decide (ZdH<(Zgr.names.length:Int)) then(YA Zgr.names ZdH).bind fun ZCr=>Zum (XO (ZdH+1),Yk v152 ZCr true) else Zij (XO (Zm5+1),v152))
def ZAF(Ug:(Part×(U (Y×Z))->O (Z×(U (Y×Z)))))(x159:(U Part)):Int×(U (Y×Z))->(Int×(U (Y×Z))->O (Z×(U (Y×Z))))->O (Z×(U (Y×Z))):=fun(v168,Zeg) Zul=>
 (bif decide (v168<(x159.length:Int)) then(YA x159 v168).bind fun ZCq=>(Ug (ZCq,Zeg)).bind fun(ZKZ,Zb0)=>(bif(!ZKZ) then some (false,Zb0) else Zul (XO (v168+1),Zb0)) else some (true,Zeg))
def ZgX(F:Nat)(Ug:(Part×(U (Y×Z))->O (Z×(U (Y×Z)))))(v39:Za):Int×(U (Y×Z))->(Int×(U (Y×Z))->O (Z×(U (Y×Z))))->O (Z×(U (Y×Z))):=fun(Zm5,v131) Zij=>
 (bif decide (Zm5<(v39.qG.length:Int)) then(YA v39.qG Zm5).bind fun Zgr=>loop F (Zj8 Zm5 Zij Zgr) (0,Yk v131 Zgr.qJ true) else(bif(!true) then some (false,v131) else(W9 F (Part.cl v39)).bind fun x159=>loop F (ZAF Ug x159) (0,v131)))
def ZgW(F:Nat):Part×(U (Y×Z))->(Part×(U (Y×Z))->O (Z×(U (Y×Z))))->O (Z×(U (Y×Z))):=fun(v27,v29) Ug=>
 Zjf v27 (fun v37=>(bif(!true) then some (false,Yk v29 v37.qJ true) else(W9 F (Part.pr v37)).bind fun x53=>loop F (Zcs Ug x53) (0,Yk v29 v37.qJ true))) (fun v38=>(bif(!true) then some (false,Yk v29 v38.qJ true) else(W9 F (Part.ex v38)).bind fun x89=>loop F (ZAH Ug x89) (0,Yk v29 v38.qJ true))) (fun v39=>loop F (ZgX F Ug v39) (0,Yk v29 v39.qJ true))
def ZAI(F:Nat)(p0:Term):O (U (Y×Z)):=
 (loop F (ZgW F) ((Part.pr p0),[])).bind fun(ZP3,ZKY)=>(ZsX) ZKY
end
section
def ZI5{F wm:Nat}{h:H}{p0:Term}{Zg:O Addr}{Zf:Nat}{ZB:O Addr}{ZA:Nat}{Zz:O Addr}{Zy:Nat}{r:(U (Y×Z))}(Zt:wm<=h.size)(Zw:Sl Zh wm h Zg Zf p0.args)(Yd:Sl Zc wm h ZB ZA p0.qK)(Yc:Sl Zu wm h Zz Zy p0.qQ)(hL:ZAI F p0=some r):
 WR XX 74 #[.agg (q1W p0 Zg Zf ZB ZA Zz Zy).toArray] wm h (CP (fun(v:N)(Gb:U (Ast wm))=>∃(Zpq:Nat),v=.map (some Zpq)/\Gb=[mp wm Value.string Value.bool (some Zpq) r]) [] h):=by
 refine WF.Qb (args:=[_]) (fn:=Tryz.f74) Kq0 (by exact rfl) Tryz.ntmps74 (by simp) ?_;simp only[Zl,Zn,Nat.reduceAdd];obtain⟨T,hT,hS⟩:∃T,T=Qm (wm:=wm) []/\Sp wm T h [] h:=⟨_,rfl,Sp.start Zt Z7.nil⟩
 unfold ZAI at hL;refine r3 ?_;rintro _ h2 ⟨b1,eb1,rfl,hS⟩;refine r4 ?_;refine r1 ?_;refine Vk (ZbG Value.string Value.bool hS) ?_;rintro _ h3 ⟨b4,eb4,rfl,hS⟩;refine r1 ?_;rintro _ h6 ⟨b5,eb5,rfl,hS⟩;refine r1 ?_;rintro h7 hS;refine r6 ?_;refine Vi (XC ZBi (ZE lk ZV) rfl (cs':=(q1W p0 Zg Zf ZB ZA Zz Zy)) rfl) ?_;refine Vi (ZcJ lk Kq0) ?_;refine WO.inl gN rfl (Yh.fn ZzH (Zb lk Zd)) (WF.begin (args:=[_]) (fn:=Tryz.f57) Kq0 (by exact rfl) Tryz.ntmps57 (by simp) ?_);simp only[Zl,Zn,Nat.reduceAdd];refine r3 ?_;rintro _ h9 ⟨b8,eb8,rfl,hS⟩;refine r4 ?_;refine r1 ?_;refine Vi (Wq (Zb lk Zd)) ?_;refine r4 ?_;refine YK.XY rfl (Zx lk Zj) ?_;refine r3 ?_;refine WC.Zyk (first:=[]) (cap:=[.pointer (some ⟨b8,0,none⟩)]) hS lk ZsL ?_;intro h10 l11 Zkz ZkY Zmg hS;refine WR.ZHE (r:=r) (fun(v17:(U (Y×Z)))(v:N)(h15:H)=>v=.tuple #[]/\Sp wm T h [bx wm b1 (q1W p0 Zg Zf ZB ZA Zz Zy),bx wm b5 [.map (some b4)],bx wm b8 [.iface 78 (.agg (q1W p0 Zg Zf ZB ZA Zz Zy).toArray)],mp wm Value.string Value.bool (some b4) v17,ob wm l11 ZkY,ob wm Zkz .deferred] h15) (ZsX) ?_ (WF.begin (args:=[_,_]) (fn:=Tryz.f100) Kq0 (by exact rfl) Tryz.ntmps100 (by simp) ?_)
 ·clear hL hS;rintro v17 v h15 hL ⟨rfl,hS⟩;dsimp only[ZsX]at hL;refine RgE.sp Zmg hS k4 ?_;rintro h18 hS;refine r6 ?_;refine r1 ?_;refine r2 ?_;refine ZI.Zf5 hS k4 ?_;rintro h19 hS;have hr:=Oi0 hL;subst hr;exact ZI.gen rfl (Zx lk Zj) rfl ⟨_,⟨b4,rfl,rfl⟩,hT▸hS.only (.c k3 .n)⟩
 ·skip;simp only[Zl,Zn,Nat.reduceAdd];refine r3 ?_;rintro _ h21 ⟨b20,ZSk,rfl,hS⟩;refine r4 ?_;refine r1 ?_;rintro _ h23 ⟨b22,ZOb,rfl,hS⟩;refine r4 ?_;refine Vi (Wq (Zb lk (Zb lk Zd))) ?_;refine r1 ?_;rintro h24 hS;refine r4 ?_;refine r1 ?_;have hS:=hS.add (A:=Ye wm (Yy Zh) (Zg,Zf) p0.args) (hS.sl Zw) (fun _ z=>z);have hS:=hS.add (A:=Ye wm (Yy Zc) (ZB,ZA) p0.qK) (hS.sl Yd) (fun _ z=>z);have hS:=hS.add (A:=Ye wm (Yy Zu) (Zz,Zy) p0.qQ) (hS.sl Yc) (fun _ z=>z)
  have ZHP:∀(Fr:Nat)(x:Part×(U (Y×Z)))(r:Z×(U (Y×Z))),loop Fr (ZgW F) x=some r->match x with | (v27,v29)=>∀{h:H}(q28:PtP),wm<=h.size->Z7 (wm:=wm) [Ye wm ZL q28 v27,bx wm b1 (q1W p0 Zg Zf ZB ZA Zz Zy),bx wm b5 [.map (some b4)],bx wm b8 [.iface 78 (.agg (q1W p0 Zg Zf ZB ZA Zz Zy).toArray)],bx wm b20 [.func (.yield l11) #[] #[]],bx wm b22 [.func (.func 101) #[] #[.pointer (some ⟨b20,0,none⟩),.pointer (some ⟨b22,0,none⟩)]],Ye wm (Yy Zh) (Zg,Zf) p0.args,Ye wm (Yy Zc) (ZB,ZA) p0.qK,Ye wm (Yy Zu) (Zz,Zy) p0.qQ,mp wm Value.string Value.bool (some b4) v29,ob wm l11 ZkY,ob wm Zkz .deferred] h->WR XX 101 #[ifV q28 v27,.pointer (some ⟨b20,0,none⟩),.pointer (some ⟨b22,0,none⟩)] wm h (CP (fun(v:N)(Gb:U (Ast wm))=>match r with | (v34,v35)=>v=.bool v34/\Gb=[bx wm b1 (q1W p0 Zg Zf ZB ZA Zz Zy),bx wm b5 [.map (some b4)],bx wm b8 [.iface 78 (.agg (q1W p0 Zg Zf ZB ZA Zz Zy).toArray)],bx wm b20 [.func (.yield l11) #[] #[]],bx wm b22 [.func (.func 101) #[] #[.pointer (some ⟨b20,0,none⟩),.pointer (some ⟨b22,0,none⟩)]],Ye wm (Yy Zh) (Zg,Zf) p0.args,Ye wm (Yy Zc) (ZB,ZA) p0.qK,Ye wm (Yy Zu) (Zz,Zy) p0.qQ,mp wm Value.string Value.bool (some b4) v35,ob wm l11 ZkY,ob wm Zkz .deferred]) [Ye wm ZL q28 v27,bx wm b1 (q1W p0 Zg Zf ZB ZA Zz Zy),bx wm b5 [.map (some b4)],bx wm b8 [.iface 78 (.agg (q1W p0 Zg Zf ZB ZA Zz Zy).toArray)],bx wm b20 [.func (.yield l11) #[] #[]],bx wm b22 [.func (.func 101) #[] #[.pointer (some ⟨b20,0,none⟩),.pointer (some ⟨b22,0,none⟩)]],Ye wm (Yy Zh) (Zg,Zf) p0.args,Ye wm (Yy Zc) (ZB,ZA) p0.qK,Ye wm (Yy Zu) (Zz,Zy) p0.qQ,mp wm Value.string Value.bool (some b4) v29,ob wm l11 ZkY,ob wm Zkz .deferred] h):=by
   clear hL hS;refine Qt _ ?_;rintro Ug Zfo ⟨v27,v29⟩ r hL h q28 Zt hO;dsimp only[ZgW]at hL;obtain⟨T,hT,hS⟩:∃T,T=Qm (wm:=wm) [Ye wm ZL q28 v27,bx wm b1 (q1W p0 Zg Zf ZB ZA Zz Zy),bx wm b5 [.map (some b4)],bx wm b8 [.iface 78 (.agg (q1W p0 Zg Zf ZB ZA Zz Zy).toArray)],bx wm b20 [.func (.yield l11) #[] #[]],bx wm b22 [.func (.func 101) #[] #[.pointer (some ⟨b20,0,none⟩),.pointer (some ⟨b22,0,none⟩)]],Ye wm (Yy Zh) (Zg,Zf) p0.args,Ye wm (Yy Zc) (ZB,ZA) p0.qK,Ye wm (Yy Zu) (Zz,Zy) p0.qQ,mp wm Value.string Value.bool (some b4) v29,ob wm l11 ZkY,ob wm Zkz .deferred]/\Sp wm T h [Ye wm ZL q28 v27,bx wm b1 (q1W p0 Zg Zf ZB ZA Zz Zy),bx wm b5 [.map (some b4)],bx wm b8 [.iface 78 (.agg (q1W p0 Zg Zf ZB ZA Zz Zy).toArray)],bx wm b20 [.func (.yield l11) #[] #[]],bx wm b22 [.func (.func 101) #[] #[.pointer (some ⟨b20,0,none⟩),.pointer (some ⟨b22,0,none⟩)]],Ye wm (Yy Zh) (Zg,Zf) p0.args,Ye wm (Yy Zc) (ZB,ZA) p0.qK,Ye wm (Yy Zu) (Zz,Zy) p0.qQ,mp wm Value.string Value.bool (some b4) v29,ob wm l11 ZkY,ob wm Zkz .deferred] h:=⟨_,rfl,Sp.start Zt hO⟩
   refine WF.begin (args:=[_,_,_]) (fn:=Tryz.f101) Kq0 (by exact rfl) Tryz.ntmps101 (by simp) ?_;simp only[Zl,Zn,Nat.reduceAdd];refine r8 ?_;refine r1 ?_;refine Vi (Z0 (Zm (YC rfl fh) ZK)) ?_;refine WO.ZKO gN rfl lk (Zb (Zm fh ZK) Zd) hS k10 Zmg rfl rfl ?_;refine r1 ?_;refine Vi (YO (Zm fh ZK)) ?_;refine r1 ?_;refine AsK.sp Zmg hS k10 ?_;rintro h36 hS;refine r2 ?_;refine r1 ?_;refine Vi (Z0 (Zm fh ZK)) ?_;refine r4 ?_;refine r1 ?_;rcases v27 with v37|v38|v39
   ·replace hL:=Ze7 hL;obtain⟨⟨⟨a40,c41⟩,⟨a42,c43⟩,⟨a44,c45⟩⟩,⟨a46,c47⟩⟩:=q28;have hS:=hS.add (A:=Ye wm (Yy Zh) (a40,c41) v37.args) (Zap (hS.get k1)).1 (fun _ z=>z);have hS:=hS.add (A:=Ye wm (Yy Zc) (a42,c43) v37.qK) (Zap (hS.get k2)).2.1 (fun _ z=>z);have hS:=hS.add (A:=Ye wm (Yy Zu) (a44,c45) v37.qQ) (Zap (hS.get k3)).2.2 (fun _ z=>z);refine Vi (Zah Tryz.underlying78 rfl (Zm fh rfl)) ?_;refine r4 ?_;refine WC.Zbz (Zm (Zi rfl fh) rfl) rfl ?_;refine r3 ?_;rintro _ h49 ⟨b48,ZXs,rfl,hS⟩;refine r1 ?_;rintro h50 hS;refine r4 ?_;refine r1 ?_;refine r2 ?_;refine WO.hu gN (Kj (kv:=Value.string) (vv:=Value.bool) (k:=v37.qJ) (v:=true) hS k14 QZ XP (Zm (Yb rfl (Zi rfl fh)) rfl) (Zm fh rfl) (U6 rfl)) ?_;rintro h51 hS;refine r3 ?_;refine BdK.sp Zmg hS k5 ?_;rintro h52 hS;refine r3 ?_;refine cn hL ?_ ?_
    ·intro hc hL;refine r6 ?_;refine r1 ?_;have hr:=Oi0 hL;subst hr;exact YK.XY rfl (Zx lk Zj) ⟨_,⟨rfl,rfl⟩,hT▸hS.only (.c k7 (.c k7 (.c k7 (.c k7 (.c k7 (.c k7 (.c k7 (.c k7 (.c k1 (.c k0 (.c k5 .n)))))))))))⟩
    ·intro hc hL;refine r4 ?_;refine r1 ?_;refine Vi (Z0 (Zm (YC rfl (Yb rfl (Zi rfl fh))) ZK)) ?_;obtain⟨x53,ZHJ,hL⟩:=bS hL;refine WO.KJ gN rfl (Zm fh ZK) hS (hS.get k6) ZHJ ?_;rintro h56 a54 c55 hS;refine r4 ?_;refine r1 ?_;refine WC.loop (WL.lift hL (fun(p:Int×(U (Y×Z)))(s:Fs)=>match p with | (v62,v64)=>∃(Zwz:Fr) (h57:H),s=⟨Zwz,[],h57,none⟩/\Sp wm T h [bx wm b22 [.func (.func 101) #[] #[.pointer (some ⟨b20,0,none⟩),.pointer (some ⟨b22,0,none⟩)]],bx wm b20 [.func (.yield l11) #[] #[]],bx wm b1 (q1W p0 Zg Zf ZB ZA Zz Zy),bx wm b5 [.map (some b4)],bx wm b8 [.iface 78 (.agg (q1W p0 Zg Zf ZB ZA Zz Zy).toArray)],ow wm ZL a54 x53.length c55 x53,Ye wm (Yy Zh) (Zg,Zf) p0.args,Ye wm (Yy Zc) (ZB,ZA) p0.qK,Ye wm (Yy Zu) (Zz,Zy) p0.qQ,mp wm Value.string Value.bool (some b4) v64,ob wm l11 ZkY,ob wm Zkz .deferred] h57/\Zwz.at 2=.pointer (some ⟨b22,0,none⟩)/\Zwz.at 12=.slice a54 x53.length c55/\Zwz.at 13=.int .i64 (x53.length:Int)/\Zwz.at 14=.int .i64 v62) ⟨_,_,rfl,hS.only (.c k12 (.c k11 (.c k8 (.c k8 (.c k8 (.c k0 (.c k7 (.c k7 (.c k7 (.c k1 (.c k0 (.c k5 .n)))))))))))),Y1⟩ ?_);clear hL hS;rintro ZyC ⟨v62,v64⟩ s ZDr hL ⟨Zwz,h57,rfl,hS,e59,e60,e61,e63⟩;dsimp only[Zcs]at hL;refine r6 ?_;refine WC.Uu lk (fun hc=>?_) (fun hc=>?_)
     ·replace hL:=XQ hc hL;refine r6 ?_;obtain⟨x66,Zza,hL⟩:=bS hL;obtain⟨b67,o68,q69,ZM7,ZNL,ZNq⟩:=Src.at_ (hS.Jk k5) Zza;refine Vi (ZQ KT UF lk lk rfl ZM7 Zza) ?_;have hS:=hS.add (A:=Ye wm ZL q69 x66) ZNq (fun _ z=>z);refine Vi (ZY ZeL (Zm fh rfl) ZNL (j:=0) rfl (v:=ifV q69 x66) rfl) ?_;refine Vi (YO (Zm fh ZK)) ?_;refine r4 ?_;refine r1 ?_;refine Vi (Z0 (Zm (Zi rfl fh) ZK)) ?_;obtain⟨⟨v72,v73⟩,Zy9,hL⟩:=bS hL;dsimp only at hL;refine Vj (Yh.clo (first:=[]) (cap:=[.pointer (some ⟨b20,0,none⟩),.pointer (some ⟨b22,0,none⟩)]) lk Ke (Zb (Zm fh ZK) Zd) rfl) hS (.c k0 (.c k2 (.c k2 (.c k2 (.c k1 (.c k0 (.c k1 (.c k1 (.c k1 (.c k1 (.c k1 (.c k1 .n)))))))))))) (fun g' hz hf hO=>Zfo _ _ Zy9 q69 (hS.Vm hz) hO) ?_;rintro _ h74 _ ⟨rfl,rfl⟩ hS;refine r3 ?_;refine WC.Uu lk (fun hc=>?_) (fun hc=>?_)
      ·replace hL:=XQ hc hL;refine r8 ?_;refine r3 ?_;have hr:=Oi0 hL;subst hr;exact YK.XY rfl (Zx (Zm fh rfl) Zj) ⟨_,⟨rfl,rfl⟩,hT▸hS.only (.c k0 (.c k0 (.c k0 (.c k0 (.c k0 (.c k0 (.c k0 (.c k0 (.c k0 (.c k0 (.c k0 .n)))))))))))⟩
      ·replace hL:=XR hc hL;refine r6 ?_;refine r1 ?_;exact ZM.YG (ZDr _ _ hL ⟨_,_,rfl,hS.only (.c k4 (.c k3 (.c k0 (.c k0 (.c k0 (.c k6 (.c k0 (.c k0 (.c k0 (.c k0 (.c k0 (.c k0 .n)))))))))))),(Xb rfl (Yb rfl e59)),(Xb rfl (Yb rfl e60)),(Xb rfl (Yb rfl e61)),fh⟩)
     ·replace hL:=XR hc hL;refine r8 ?_;refine r3 ?_;have hr:=Oi0 hL;subst hr;exact YK.XY rfl (Zx (Zm fh rfl) Zj) ⟨_,⟨rfl,rfl⟩,hT▸hS.only (.c k2 (.c k2 (.c k2 (.c k1 (.c k0 (.c k1 (.c k1 (.c k1 (.c k1 (.c k1 (.c k1 .n)))))))))))⟩
   ·replace hL:=Ze8 hL;obtain⟨⟨⟨a76,c77⟩,⟨a78,c79⟩,⟨a80,c81⟩⟩,⟨a82,c83⟩⟩:=q28;have hS:=hS.add (A:=Ye wm (Yy Zh) (a82,c83) v38.qQ) (Zie (hS.get k1)) (fun _ z=>z);refine Vi (ZcH Tryz.underlying78 rfl ZbV Kq0 (Zm fh rfl)) ?_;refine r4 ?_;refine WC.Zaf (Zm (Zi rfl fh) rfl) rfl ?_;refine r2 ?_;refine Vi (Zah Tryz.underlying88 rfl (Zm (Yb rfl (Zi rfl fh)) rfl)) ?_;refine r4 ?_;refine WC.Zbz (Zm (Zi rfl fh) rfl) rfl ?_;refine r3 ?_;rintro _ h85 ⟨b84,ZSd,rfl,hS⟩;refine r1 ?_;rintro h86 hS;refine r6 ?_;refine r1 ?_;refine WO.hu gN (Kj (kv:=Value.string) (vv:=Value.bool) (k:=v38.qJ) (v:=true) hS k12 QZ XP (Zm (Yb rfl (Zi rfl fh)) rfl) (Zm fh rfl) (U6 rfl)) ?_;rintro h87 hS;refine r2 ?_;refine r1 ?_;refine BdK.sp Zmg hS k3 ?_;rintro h88 hS;refine r3 ?_;refine cn hL ?_ ?_
    ·intro hc hL;refine r6 ?_;refine r1 ?_;have hr:=Oi0 hL;subst hr;exact YK.XY rfl (Zx lk Zj) ⟨_,⟨rfl,rfl⟩,hT▸hS.only (.c k5 (.c k5 (.c k5 (.c k5 (.c k5 (.c k5 (.c k5 (.c k5 (.c k1 (.c k0 (.c k3 .n)))))))))))⟩
    ·intro hc hL;refine r4 ?_;refine r1 ?_;refine Vi (Z0 (Zm (YC rfl (Yb rfl (Zi rfl fh))) ZK)) ?_;obtain⟨x89,ZDh,hL⟩:=bS hL;refine WO.KJ gN rfl (Zm fh ZK) hS (hS.get k4) ZDh ?_;rintro h92 a90 c91 hS;refine r2 ?_;refine r3 ?_;refine WC.loop (WL.lift hL (fun(p:Int×(U (Y×Z)))(s:Fs)=>match p with | (KF,Zbf)=>∃(Zcp:Fr) (h93:H),s=⟨Zcp,[],h93,none⟩/\Sp wm T h [bx wm b22 [.func (.func 101) #[] #[.pointer (some ⟨b20,0,none⟩),.pointer (some ⟨b22,0,none⟩)]],bx wm b20 [.func (.yield l11) #[] #[]],bx wm b1 (q1W p0 Zg Zf ZB ZA Zz Zy),bx wm b5 [.map (some b4)],bx wm b8 [.iface 78 (.agg (q1W p0 Zg Zf ZB ZA Zz Zy).toArray)],ow wm ZL a90 x89.length c91 x89,Ye wm (Yy Zh) (Zg,Zf) p0.args,Ye wm (Yy Zc) (ZB,ZA) p0.qK,Ye wm (Yy Zu) (Zz,Zy) p0.qQ,mp wm Value.string Value.bool (some b4) Zbf,ob wm l11 ZkY,ob wm Zkz .deferred] h93/\Zcp.at 2=.pointer (some ⟨b22,0,none⟩)/\Zcp.at 12=.slice a90 x89.length c91/\Zcp.at 13=.int .i64 (x89.length:Int)/\Zcp.at 14=.int .i64 KF) ⟨_,_,rfl,hS.only (.c k10 (.c k9 (.c k6 (.c k6 (.c k6 (.c k0 (.c k5 (.c k5 (.c k5 (.c k1 (.c k0 (.c k3 .n)))))))))))),Y1⟩ ?_);clear hL hS;rintro QY ⟨KF,Zbf⟩ s Zfp hL ⟨Zcp,h93,rfl,hS,e95,e96,e97,e99⟩;dsimp only[ZAH]at hL;refine r6 ?_;refine WC.Uu lk (fun hc=>?_) (fun hc=>?_)
     ·replace hL:=XQ hc hL;refine r6 ?_;obtain⟨x102,hx102,hL⟩:=bS hL;obtain⟨ZST,ZVF,ZHo,ZIi,ZID,ZIq⟩:=Src.at_ (hS.Jk k5) hx102;refine Vi (ZQ KT UF lk lk rfl ZIi hx102) ?_;have hS:=hS.add (A:=Ye wm ZL ZHo x102) ZIq (fun _ z=>z);refine Vi (ZY ZeL (Zm fh rfl) ZID (j:=0) rfl (v:=ifV ZHo x102) rfl) ?_;refine Vi (YO (Zm fh ZK)) ?_;refine r3 ?_;refine r2 ?_;refine Vi (Z0 (Zm (Zi rfl fh) ZK)) ?_;obtain⟨⟨ZCu,v109⟩,ZLV,hL⟩:=bS hL;dsimp only at hL;refine Vj (Yh.clo (first:=[]) (cap:=[.pointer (some ⟨b20,0,none⟩),.pointer (some ⟨b22,0,none⟩)]) lk Ke (Zb (Zm fh ZK) Zd) rfl) hS (.c k0 (.c k2 (.c k2 (.c k2 (.c k1 (.c k0 (.c k1 (.c k1 (.c k1 (.c k1 (.c k1 (.c k1 .n)))))))))))) (fun g' hz hf hO=>Zfo _ _ ZLV ZHo (hS.Vm hz) hO) ?_;rintro _ ZR2 _ ⟨rfl,rfl⟩ hS;refine r3 ?_;refine cn hL ?_ ?_
      ·intro hc hL;refine r8 ?_;refine r3 ?_;have hr:=Oi0 hL;subst hr;exact YK.XY rfl (Zx lk Zj) ⟨_,⟨rfl,rfl⟩,hT▸hS.only (.c k0 (.c k0 (.c k0 (.c k0 (.c k0 (.c k0 (.c k0 (.c k0 (.c k0 (.c k0 (.c k0 .n)))))))))))⟩
      ·intro hc hL;refine r3 ?_;refine r4 ?_;exact ZM.YG (Zfp _ _ hL ⟨_,_,rfl,hS.only (.c k4 (.c k3 (.c k0 (.c k0 (.c k0 (.c k6 (.c k0 (.c k0 (.c k0 (.c k0 (.c k0 (.c k0 .n)))))))))))),(Xb rfl (Yb rfl e95)),(Xb rfl (Yb rfl e96)),(Xb rfl (Yb rfl e97)),fh⟩)
     ·replace hL:=XR hc hL;refine r8 ?_;refine r3 ?_;have hr:=Oi0 hL;subst hr;exact YK.XY rfl (Zx (Zm fh rfl) Zj) ⟨_,⟨rfl,rfl⟩,hT▸hS.only (.c k2 (.c k2 (.c k2 (.c k1 (.c k0 (.c k1 (.c k1 (.c k1 (.c k1 (.c k1 (.c k1 .n)))))))))))⟩
   ·replace hL:=Ze9 hL;obtain⟨⟨⟨Zh7,Zh4⟩,⟨ZlH,ZlA⟩,⟨a116,c117⟩⟩,⟨ZS1,c119⟩⟩:=q28;have hS:=hS.add (A:=Ye wm (Yy Yg) (Zh7,Zh4) v39.qG) (Zaq (hS.get k1)).1 (fun _ z=>z);have hS:=hS.add (A:=Ye wm (Yy Zc) (ZlH,ZlA) v39.qK) (Zaq (hS.get k2)).2.1 (fun _ z=>z);have hS:=hS.add (A:=Ye wm (Yy Zu) (a116,c117) v39.qQ) (Zaq (hS.get k3)).2.2 (fun _ z=>z);refine Vi (ZcH Tryz.underlying78 rfl ZbV Kq0 (Zm fh rfl)) ?_;refine r4 ?_;refine WC.Zaf (Zm (Zi rfl fh) rfl) rfl ?_;refine r2 ?_;refine Vi (ZcH Tryz.underlying88 rfl ZmV Kq0 (Zm (Yb rfl (Zi rfl fh)) rfl)) ?_;refine r4 ?_;refine WC.Zaf (Zm (Zi rfl fh) rfl) rfl ?_;refine r2 ?_;refine Vi (Zah Tryz.underlying166 rfl (Zm (YC rfl (Yb rfl fh)) rfl)) ?_;refine r4 ?_;refine WC.Zbz (Zm (Zi rfl fh) rfl) rfl ?_;refine r3 ?_;rintro _ ZR0 ⟨ZSS,ZOd,rfl,hS⟩;refine r1 ?_;rintro h122 hS;refine r6 ?_;refine r1 ?_;refine r1 ?_;refine WO.hu gN (Kj (kv:=Value.string) (vv:=Value.bool) (k:=v39.qJ) (v:=true) hS k14 QZ XP (Zm (Yb rfl (Zi rfl fh)) rfl) (Zm fh rfl) (U6 rfl)) ?_;rintro ZW6 hS;refine r12 ?_;refine WC.loop (WL.lift hL (fun(p:Int×(U (Y×Z)))(s:Fs)=>match p with | (Zm5,v131)=>∃(Zmm:Fr) (ZDS:H),s=⟨Zmm,[],ZDS,none⟩/\Sp wm T h [bx wm b5 [.map (some b4)],bx wm b1 (q1W p0 Zg Zf ZB ZA Zz Zy),bx wm b8 [.iface 78 (.agg (q1W p0 Zg Zf ZB ZA Zz Zy).toArray)],bx wm b20 [.func (.yield l11) #[] #[]],bx wm b22 [.func (.func 101) #[] #[.pointer (some ⟨b20,0,none⟩),.pointer (some ⟨b22,0,none⟩)]],Ye wm (Yy Yg) (Zh7,Zh4) v39.qG,mp wm Value.string Value.bool (some b4) v131,Ye wm (Yy Zh) (Zg,Zf) p0.args,Ye wm (Yy Zc) (ZB,ZA) p0.qK,Ye wm (Yy Zu) (Zz,Zy) p0.qQ,Ye wm (Yy Zc) (ZlH,ZlA) v39.qK,Ye wm (Yy Zu) (a116,c117) v39.qQ,ob wm l11 (bsy ZkY),ob wm Zkz .deferred] ZDS/\Zmm.at 3=.pointer (some ⟨b5,0,none⟩)/\Zmm.at 42=.slice Zh7 v39.qG.length Zh4/\Zmm.at 43=.int .i64 (v39.qG.length:Int)/\Zmm.at 44=.int .i64 Zm5) ⟨_,_,rfl,hS.only (.c k8 (.c k7 (.c k7 (.c k7 (.c k7 (.c k4 (.c k0 (.c k5 (.c k5 (.c k5 (.c k2 (.c k1 (.c k1 (.c k2 .n)))))))))))))),Y1⟩ ?_);clear hL hS;rintro Zij ⟨Zm5,v131⟩ s Zzv hL ⟨Zmm,ZDS,rfl,hS,e126,e127,e128,ZJx⟩;dsimp only[ZgX]at hL;refine r6 ?_;refine WC.Uu lk (fun hc=>?_) (fun hc=>?_)
    ·replace hL:=XQ hc hL;refine r3 ?_;refine r3 ?_;obtain⟨Zgr,ZFY,hL⟩:=bS hL;obtain⟨ZYL,ZVD,⟨ZdT,ZdS⟩,ZIg,ZIB,ZRH,ZIp⟩:=Sl.at_ (hS.fsl k5) ZFY;refine Vi (ZQ U9 XD lk lk rfl ZIg ZFY) ?_;have hS:=hS.add (A:=Ye wm (Yy ZW) (ZdT,ZdS) Zgr.names) ZIp (fun _ z=>z);refine Vi (YN ZcO XD (Zm fh rfl) ZIB (j:=0) rfl rfl (ws:=[.string Zgr.qJ,.slice ZdT Zgr.names.length ZdS]) rfl) ?_;refine r1 ?_;rintro _ Zz1 ⟨ZYK,ZUf,rfl,hS⟩;refine r1 ?_;rintro ZRZ hS;refine r6 ?_;refine r1 ?_;refine WO.hu gN (Kj (kv:=Value.string) (vv:=Value.bool) (k:=Zgr.qJ) (v:=true) hS k8 QZ XP (Zm (Yb rfl fh) rfl) (Zm fh rfl) (U6 rfl)) ?_;rintro ZWZ hS;refine r8 ?_;refine r1 ?_;refine r2 ?_;refine WC.loop (WL.lift hL (fun(p:Int×(U (Y×Z)))(s:Fs)=>match p with | (ZdH,v152)=>∃(Zfy:Fr) (ZDQ:H),s=⟨Zfy,[],ZDQ,none⟩/\Sp wm T h [bx wm b5 [.map (some b4)],bx wm b1 (q1W p0 Zg Zf ZB ZA Zz Zy),bx wm b8 [.iface 78 (.agg (q1W p0 Zg Zf ZB ZA Zz Zy).toArray)],bx wm b20 [.func (.yield l11) #[] #[]],bx wm b22 [.func (.func 101) #[] #[.pointer (some ⟨b20,0,none⟩),.pointer (some ⟨b22,0,none⟩)]],Ye wm (Yy Yg) (Zh7,Zh4) v39.qG,Ye wm (Yy ZW) (ZdT,ZdS) Zgr.names,mp wm Value.string Value.bool (some b4) v152,Ye wm (Yy Zh) (Zg,Zf) p0.args,Ye wm (Yy Zc) (ZB,ZA) p0.qK,Ye wm (Yy Zu) (Zz,Zy) p0.qQ,Ye wm (Yy Zc) (ZlH,ZlA) v39.qK,Ye wm (Yy Zu) (a116,c117) v39.qQ,ob wm l11 (bsy ZkY),ob wm Zkz .deferred] ZDQ/\Zfy.at 3=.pointer (some ⟨b5,0,none⟩)/\Zfy.at 42=.slice Zh7 v39.qG.length Zh4/\Zfy.at 43=.int .i64 (v39.qG.length:Int)/\Zfy.at 44=.int .i64 Zm5/\Zfy.at 52=.slice ZdT Zgr.names.length ZdS/\Zfy.at 53=.int .i64 (Zgr.names.length:Int)/\Zfy.at 54=.int .i64 ZdH) ⟨_,_,rfl,hS.only (.c k3 (.c k3 (.c k3 (.c k3 (.c k3 (.c k3 (.c k2 (.c k0 (.c k1 (.c k1 (.c k1 (.c k1 (.c k1 (.c k1 (.c k1 .n))))))))))))))),Y1⟩ ?_);clear hL hS;rintro Zum ⟨ZdH,v152⟩ s Zzt hL ⟨Zfy,ZDQ,rfl,hS,ZSu,ZX3,ZSt,ZX2,ZX1,ZX0,ZXZ⟩;dsimp only[Zj8]at hL;refine r6 ?_;refine WC.Uu lk (fun hc=>?_) (fun hc=>?_)
     ·replace hL:=XQ hc hL;refine r6 ?_;obtain⟨ZCr,ZFW,hL⟩:=bS hL;obtain⟨ZSR,ZVA,_,ZId,ZIy,ZRF,ZRz⟩:=Sl.at_ (hS.fsl k6) ZFW;refine Vi (ZQ Qe Qo lk lk rfl ZId ZFW) ?_;refine Vi (ZY U3 (Zm fh rfl) ZIy (j:=0) rfl (v:=.string ZCr) rfl) ?_;refine r6 ?_;refine WO.hu gN (Kj (kv:=Value.string) (vv:=Value.bool) (k:=ZCr) (v:=true) hS k7 QZ XP (Zm (Zi rfl fh) rfl) (Zm fh rfl) (U6 rfl)) ?_;rintro ZRY hS;refine r6 ?_;refine r1 ?_;exact ZM.YG (Zzt _ _ hL ⟨_,_,rfl,hS.only (.c k1 (.c k1 (.c k1 (.c k1 (.c k1 (.c k1 (.c k1 (.c k0 (.c k0 (.c k0 (.c k0 (.c k0 (.c k0 (.c k0 (.c k0 .n))))))))))))))),Y1⟩)
     ·replace hL:=XR hc hL;refine r8 ?_;refine r2 ?_;exact ZM.YG (Zzv _ _ hL ⟨_,_,rfl,hS.only (.c k0 (.c k0 (.c k0 (.c k0 (.c k0 (.c k0 (.c k1 (.c k1 (.c k1 (.c k1 (.c k1 (.c k1 (.c k1 (.c k1 .n)))))))))))))),Y1⟩)
    ·replace hL:=XR hc hL;refine r6 ?_;refine BdK.sp Zmg hS k12 ?_;rintro ZRX hS;refine r3 ?_;refine cn hL ?_ ?_
     ·intro hc hL;refine r6 ?_;refine r1 ?_;have hr:=Oi0 hL;subst hr;exact YK.XY rfl (Zx (Zm fh rfl) Zj) ⟨_,⟨rfl,rfl⟩,hT▸hS.only (.c k2 (.c k1 (.c k1 (.c k1 (.c k1 (.c k3 (.c k3 (.c k3 (.c k2 (.c k0 (.c k3 .n)))))))))))⟩
     ·intro hc hL;refine r6 ?_;obtain⟨x159,hx159,hL⟩:=bS hL;refine WO.KJ (p:=(Part.cl v39)) (q:=(((Zh7,Zh4),(ZlH,ZlA),(a116,c117)),(none,0))) gN rfl (Zm fh rfl) hS (ZFF (hS.fsl k6) (hS.fsl k11) (hS.fsl k12)) hx159 ?_;rintro ZRW a160 ZBg hS;refine r4 ?_;refine r1 ?_;refine WC.loop (WL.lift hL (fun(p:Int×(U (Y×Z)))(s:Fs)=>match p with | (v168,Zeg)=>∃(Zml:Fr) (Zz0:H),s=⟨Zml,[],Zz0,none⟩/\Sp wm T h [bx wm b22 [.func (.func 101) #[] #[.pointer (some ⟨b20,0,none⟩),.pointer (some ⟨b22,0,none⟩)]],bx wm b20 [.func (.yield l11) #[] #[]],bx wm b1 (q1W p0 Zg Zf ZB ZA Zz Zy),bx wm b5 [.map (some b4)],bx wm b8 [.iface 78 (.agg (q1W p0 Zg Zf ZB ZA Zz Zy).toArray)],ow wm ZL a160 x159.length ZBg x159,Ye wm (Yy Zh) (Zg,Zf) p0.args,Ye wm (Yy Zc) (ZB,ZA) p0.qK,Ye wm (Yy Zu) (Zz,Zy) p0.qQ,mp wm Value.string Value.bool (some b4) Zeg,ob wm l11 ZkY,ob wm Zkz .deferred] Zz0/\Zml.at 2=.pointer (some ⟨b22,0,none⟩)/\Zml.at 12=.slice a160 x159.length ZBg/\Zml.at 13=.int .i64 (x159.length:Int)/\Zml.at 14=.int .i64 v168) ⟨_,_,rfl,hS.only (.c k6 (.c k5 (.c k3 (.c k2 (.c k2 (.c k0 (.c k3 (.c k3 (.c k3 (.c k2 (.c k0 (.c k3 .n)))))))))))),Y1⟩ ?_);clear hL hS;rintro Zul ⟨v168,Zeg⟩ s Zzs hL ⟨Zml,Zz0,rfl,hS,e165,e166,e167,e169⟩;dsimp only[ZAF]at hL;refine r6 ?_;refine WC.Uu lk (fun hc=>?_) (fun hc=>?_)
      ·replace hL:=XQ hc hL;refine r6 ?_;obtain⟨ZCq,ZFU,hL⟩:=bS hL;obtain⟨ZYG,ZVy,ZHn,ZIc,ZIx,ZIo⟩:=Src.at_ (hS.Jk k5) ZFU;refine Vi (ZQ KT UF lk lk rfl ZIc ZFU) ?_;have hS:=hS.add (A:=Ye wm ZL ZHn ZCq) ZIo (fun _ z=>z);refine Vi (ZY ZeL (Zm fh rfl) ZIx (j:=0) rfl (v:=ifV ZHn ZCq) rfl) ?_;refine Vi (YO (Zm fh ZK)) ?_;refine r4 ?_;refine r1 ?_;refine Vi (Z0 (Zm (Zi rfl fh) ZK)) ?_;obtain⟨⟨ZKZ,Zb0⟩,ZuE,hL⟩:=bS hL;dsimp only at hL;refine Vj (Yh.clo (first:=[]) (cap:=[.pointer (some ⟨b20,0,none⟩),.pointer (some ⟨b22,0,none⟩)]) lk Ke (Zb (Zm fh ZK) Zd) rfl) hS (.c k0 (.c k2 (.c k2 (.c k2 (.c k1 (.c k0 (.c k1 (.c k1 (.c k1 (.c k1 (.c k1 (.c k1 .n)))))))))))) (fun g' hz hf hO=>Zfo _ _ ZuE ZHn (hS.Vm hz) hO) ?_;rintro _ ZWO _ ⟨rfl,rfl⟩ hS;refine r3 ?_;refine cn hL ?_ ?_
       ·intro hc hL;refine r8 ?_;refine r3 ?_;have hr:=Oi0 hL;subst hr;exact YK.XY rfl (Zx lk Zj) ⟨_,⟨rfl,rfl⟩,hT▸hS.only (.c k0 (.c k0 (.c k0 (.c k0 (.c k0 (.c k0 (.c k0 (.c k0 (.c k0 (.c k0 (.c k0 .n)))))))))))⟩
       ·intro hc hL;refine r4 ?_;refine r1 ?_;refine r2 ?_;exact ZM.YG (Zzs _ _ hL ⟨_,_,rfl,hS.only (.c k4 (.c k3 (.c k0 (.c k0 (.c k0 (.c k6 (.c k0 (.c k0 (.c k0 (.c k0 (.c k0 (.c k0 .n)))))))))))),Y1⟩)
      ·replace hL:=XR hc hL;refine r8 ?_;refine r3 ?_;have hr:=Oi0 hL;subst hr;exact YK.XY rfl (Zx lk Zj) ⟨_,⟨rfl,rfl⟩,hT▸hS.only (.c k2 (.c k2 (.c k2 (.c k1 (.c k0 (.c k1 (.c k1 (.c k1 (.c k1 (.c k1 (.c k1 .n)))))))))))⟩
  have hS:=hS.add (A:=Ye wm ZL (((Zg,Zf),(ZB,ZA),(Zz,Zy)),(none,0)) (Part.pr p0)) (Zuo (hS.fsl k2) (hS.fsl k1) (hS.fsl k0)) (fun _ z=>z);obtain⟨⟨ZP3,ZKY⟩,ZLS,hL⟩:=bS hL;dsimp only at hL;refine Vj (Yh.clo (first:=[]) (cap:=[.pointer (some ⟨b20,0,none⟩),.pointer (some ⟨b22,0,none⟩)]) lk Ke lks rfl) hS (.c k0 (.c k10 (.c k8 (.c k7 (.c k4 (.c k3 (.c k2 (.c k1 (.c k0 (.c k2 (.c k0 (.c k0 .n)))))))))))) (fun g' hz hf hO=>ZHP _ _ _ ZLS (((Zg,Zf),(ZB,ZA),(Zz,Zy)),(none,0)) (hS.Vm hz) hO) ?_;rintro _ ZWN _ ⟨rfl,rfl⟩ hS;refine r1 ?_;refine YK.YG ?_;exact YK.gen (vs:=[]) rfl Zj rfl ⟨_,hL,⟨rfl,hS.only (.c k0 (.c k0 (.c k0 (.c k5 (.c k5 (.c k5 .n))))))⟩⟩
end
end Go.Proofs.YtbnepjakjmnadaaGreat
end
end
section
set_option maxRecDepth 20000
noncomputable section
namespace Go.ZF
open Go.Lf
variable{P:V7}
def ZBN{t e:J}{x:V6}{o:O Nat}(hu:P.underlying t=some (.pointer e)):XT P .eql t x (.const (.pointer none)) (Uf o) (.pointer none)=some (.val (.bool o.isNone),.none):=by
 cases o with
 | some b=>
   have hp:(plain (Uf (some b))&&plain (.pointer none))=false:=rfl;unfold XT;rw[hp,Cq0];have:K5 P t (Uf (some b)) (.pointer none)=some false:=by unfold K5;rw[hu];rfl
   rw[this];rfl
 | none=>
   unfold XT;rw[show(plain (Uf none)&&plain (.pointer none))=true from rfl,Cq1];unfold U0
   have h1:Zr P (eqGuard .eql t x (.const (.pointer none)) (Uf none) (.pointer none))=some (.ok ()):=by
    cases x<;>rfl
   rw[prb h1]
   have h2:Zr P (Op.equal t (Uf none) (.pointer none))=some (.ok true):=by
    show Zr P (Op.equalIn (9999+1) t (.pointer none) (.pointer none))=_;unfold Op.equalIn;rw[prb (Yx hu)];rfl
   have:Zr P (binOp .eql t (Uf none) (.pointer none))=some (.ok (.bool true)):=by
    show Zr P (do pure (Value.bool (<-Op.equal t (Uf none) (.pointer none))):Sem N)=_;rw[prb h2];rfl
   rw[this];rfl
end Go.ZF
end
end
section
set_option maxRecDepth 20000
noncomputable section
namespace Go.Proofs.YtbnepjakjmnadaaGreat
open Go.ZF Go.Lf
section
def ZqE(x:Y):U NM->(U NM->O Z)->O Z:=fun c next=>match c with
 | []=>some false
 | m::r=>bif(Zq m x).isSome then some r.isEmpty else next r
def ZwF(F:Nat)(c:U NM)(x:Y):O Z:=loop F (ZqE x) c
def ZL0:(XX.fns.get 76).isSome=true:=Kq0
def ZL2:(XX.fns.get 73).isSome=true:=Kq0
def Rd.end{S:U SE}{o:O Nat}{c:U NM}(r:Rd S o c):o.isNone=c.isEmpty:=by cases r<;>rfl
def ZI2{F wm w:Nat}{S:U SE}{h:H}{o:O Nat}{c:U NM}{x:Y}{r:Z}(Zt:wm<=h.size)(hr:Rd S o c)(hO:Z7 (wm:=wm) [stA wm w S] h)(hL:ZwF F c x=some r):
 WR XX 76 #[Uf o,.string x] wm h (CP (fun(v:N)(Gb:U (Ast wm))=>v=.bool r/\Gb=[stA wm w S]) [stA wm w S] h):=by
 refine WF.begin (args:=[_,_]) (fn:=Tryz.f76) Kq0 (by exact rfl) Tryz.ntmps76 (by simp) ?_;simp only[Zl,Zn,Nat.reduceAdd];obtain⟨T,hT,hS⟩:∃T,T=Qm (wm:=wm) [stA wm w S]/\Sp wm T h [stA wm w S] h:=⟨_,rfl,Sp.start Zt hO⟩
 unfold ZwF at hL
 repeat refine r1 ?_
 refine WC.loop (WL.lift hL (fun(c:U NM)(s:Fs)=>∃(fr6:Fr) (h5:H) (o:O Nat),s=⟨fr6,[],h5,none⟩/\Sp wm T h [stA wm w S] h5/\Rd S o c/\fr6.at 1=.string x/\fr6.at 5=Uf o) ⟨_,_,o,rfl,hS,hr,Y1⟩ ?_);clear hL hS;rintro Ym c s XB hL ⟨fr6,h5,o,rfl,hS,hr,e1,e5⟩
 repeat refine r1 ?_
 refine Vi (YZ (Zm fh rfl) (U6 rfl) (ZrA Zr4)) ?_
 repeat refine r1 ?_
 refine WC.Uu (Zm fh rfl) (fun hc=>?_) (fun hc=>?_)
 ·cases hr with
  | nil=>cases hc
  | @cons e c he hr=>
  dsimp only[ZqE]at hL;rw[show Zq (Znw e.es) x=(Zq e.es x).map (·.2) from Zl4 (fun q:EV=>q.2) e.es x]at hL
  repeat refine r1 ?_
  refine Vi (ZcI (Zm fh rfl)) ?_;refine Vi (Xf Zj0 (Zm fh rfl)) ?_;refine Vi (ZY ZtA (Zm fh rfl) (ZaQ hS k0 he) (j:=2) rfl (v:=.map e.m) rfl) ?_
  repeat refine r1 ?_
  refine Vi (ZoC QZ ZiQ ZtR lk lk (Zyc hS k0 he)) ?_;generalize hq:(Zq e.es x).getD ev0=q
  repeat refine r1 ?_
  rintro _ h8 ⟨b7,eb7,rfl,hS⟩
  repeat refine r1 ?_
  rintro h9 hS
  repeat refine r1 ?_
  rw[show((Zq e.es x).map (·.2)).isSome=(Zq e.es x).isSome by cases Zq e.es x<;>rfl]at hL;refine WC.Uu lk (fun hc=>?_) (fun hc=>?_)
  ·replace hL:=XQ hc hL
   repeat refine r1 ?_
   refine Vi (ZcI (Zm fh rfl)) ?_;refine Vi (Xf ZfB (Zm fh rfl)) ?_;refine Vi (ZY ZoL (Zm fh rfl) (ZaQ hS k1 he) (j:=1) rfl (v:=Uf e.ar) rfl) ?_;refine Vi (YZ (Zm fh rfl) (U6 rfl) (ZBN Zr4)) ?_
   repeat refine r1 ?_
   have hr2:=Oi0 hL;subst hr2;exact YK.XY rfl (Zx lk Zj) ⟨_,⟨by rw[hr.end],rfl⟩,hT▸hS.only (.c k1 .n)⟩
  ·replace hL:=XR hc hL
   repeat refine r1 ?_
   refine Vi (ZcI (Zm fh rfl)) ?_;refine Vi (Xf ZfB (Zm fh rfl)) ?_;refine Vi (ZY ZoL (Zm fh rfl) (ZaQ hS k1 he) (j:=1) rfl (v:=Uf e.ar) rfl) ?_
   repeat refine r1 ?_
   exact ZM.YG (XB _ _ hL ⟨_,_,e.ar,rfl,hS.only (.c k1 .n),hr,Y1⟩)
 ·cases hr with
  | cons he hr=>cases hc
  | nil=>
  dsimp only[ZqE]at hL
  repeat refine r1 ?_
  have hr:=Oi0 hL;subst hr;exact YK.XY rfl (Zx lk Zj) ⟨_,⟨rfl,rfl⟩,hT▸hS⟩
def ZAJ(F:Nat)(e:Ze):O MB:=(Zva F [[]] [] e).map (·.1)
def ZI7{F wm:Nat}{h:H}{e:Ze}{pa:O Addr}{pc:Nat}{r:MB}(Zt:wm<=h.size)(hs:Sl Zh wm h pa pc e.qQ)(hL:ZAJ F e=some r):
 WR XX 73 #[.agg (q2W e pa pc).toArray] wm h (CP (fun v (Gb:U (Ast wm))=>∃(cf:Nat),v=.map (some cf)/\Gb=[mp wm Value.string Value.bool (some cf) r]) [] h):=by
 unfold ZAJ at hL;obtain⟨y,hy,rfl⟩:=Option.map_eq_some_iff.1 hL;refine WF.begin (args:=[_]) (fn:=Tryz.f73) Kq0 (by exact rfl) Tryz.ntmps73 (by simp) ?_;simp only[Zl,Zn,Nat.reduceAdd];obtain⟨T,hT,hS⟩:∃T,T=Qm (wm:=wm) []/\Sp wm T h [] h:=⟨_,rfl,Sp.start Zt Z7.nil⟩
 repeat refine r1 ?_
 rintro _ h2 ⟨b1,eb1,rfl,hS⟩
 repeat refine r1 ?_
 refine Vk (ZbG Value.string Value.bool hS) ?_;rintro _ h3 ⟨cf,ecf,rfl,hS⟩;refine Vi (XC Zow (ZE lk ZV) rfl (cs':=[.map (some cf),.map none,.nilFunc]) rfl)<|Vk (Zi4 hS (Zm fh rfl) (vs:=[.map (some cf),.map none,.nilFunc]) rfl) ?_;rintro _ h4 ⟨w,ew,rfl,hS⟩;refine Vi (XC Zov (ZE lk ZV) rfl (cs':=[pV w,Uf none,.map none]) rfl)<|Vk (Zi4 hS (Zm fh rfl) (vs:=[pV w,Uf none,.map none]) rfl) ?_;rintro _ h5 ⟨bs,ebs,rfl,hS⟩;have hS:=hS.add (A:=noA wm) trivial (fun i z=>z);have hS:=ZxH (fv:=FV0) (ct:=none) (cf:=cf) (w:=w) (hS.only (.c k2 (.c k0 (.c k0 (.c k0 (.c k0 .n))))));have hS:=hS.add (A:=stA wm w []) (fun x hx=>by cases hx) (fun i z=>by obtain⟨x,hx,_⟩:=z;cases hx);have hS:=hS.add (A:=esA wm []) (fun x hx=>by cases hx) (fun _ z=>z);have hS:=hS.add (A:=mp wm Value.string vvE none []) ZcX.nil (fun i z=>by cases z);have hS:=Zna (S:=[]) (b:=bs) (ar:=none) (m:=none) (es:=[]) (hS.only (.c k4 (.c k0 (.c k0 (.c k0 (.c k0 (.c k0 (.c k0 .n))))))));have hS:=hS.add (A:=tkA wm none []) ZcX.nil (fun i z=>by cases z)
 repeat refine r1 ?_
 refine Vj (Yh.fn ZsI (Zb lk (Zb lk Zd))) hS (.c k2 (.c k2 (.c k0 (.c k0 .n)))) (fun g' hz hf hO=>ZqN (cf:=cf) (ct:=none) (fv:=FV0) (taken:=[]) (Rd.cons (e:=⟨bs,none,none,[]⟩) Gm Rd.nil) F ([],e) y hy (hS.Vm hz) ((hS.sl hs).mono hf) hO) ?_;rintro _ h6 _ ⟨ra,rc,rfl,rfl⟩ hS
 repeat refine r1 ?_
 refine Vi (ZY ZaN lk (ZaQ hS k4 (e:=⟨bs,none,none,[]⟩) Gm) (j:=0) rfl (v:=pV w) rfl) ?_
 repeat refine r1 ?_
 refine Vi (ZY Zgd lk (ZeX hS k1) (j:=0) rfl (v:=.map (some cf)) rfl) ?_
 repeat refine r1 ?_
 exact YK.XY rfl (Zx lk Zj) ⟨_,⟨cf,rfl,rfl⟩,hT▸hS.only (.c k2 .n)⟩
end
section
def ZwJ(F:Nat)(p0:Term):O Z:=
 (ZEk F p0 (Term.mk 0 (⟨#[]⟩:Y) [] [] [])).bind fun x3=>some x3
end
section
def ZJf{F wm:Nat}{h:H}{p0:Term}{Zg:O Addr}{Zf:Nat}{ZB:O Addr}{ZA:Nat}{Zz:O Addr}{Zy:Nat}{r:Z}(Zt:wm<=h.size)(Zw:Sl Zh wm h Zg Zf p0.args)(Yd:Sl Zc wm h ZB ZA p0.qK)(Yc:Sl Zu wm h Zz Zy p0.qQ)(hL:ZwJ F p0=some r):
 WR XX 35 #[.agg (q1W p0 Zg Zf ZB ZA Zz Zy).toArray] wm h (CP (fun v (Gb:U (Ast wm))=>v=.bool r/\Gb=[]) [] h):=by
 refine WF.begin (args:=[_]) (fn:=Tryz.f35) Kq0 (by exact rfl) Tryz.ntmps35 (by simp) ?_;simp only[Zl,Zn,Nat.reduceAdd];obtain⟨T,hT,hS⟩:∃T,T=Qm (wm:=wm) []/\Sp wm T h [] h:=⟨_,rfl,Sp.start Zt Z7.nil⟩
 unfold ZwJ at hL;refine WC.seq<|WC.region<|Vk (Zi4 hS (Zm fh rfl) (vs:=(q1W p0 Zg Zf ZB ZA Zz Zy)) rfl) ?_;rintro _ h2 ⟨b1,eb1,rfl,hS⟩;refine Vi (YO (U6 rfl))<|WO.nil<|Yl.YG<|WC.seq<|WC.region<|Vi (YN UU Xu (Zm (Zi rfl fh) rfl) (hS.UC k0) (j:=0) rfl rfl (ws:=(q1W p0 Zg Zf ZB ZA Zz Zy)) rfl)<|Vi (XC ZGv ZV rfl (cs':=[Ve 0,.string (⟨#[]⟩:Y),Vd,Vd,Vd]) rfl) ?_;obtain⟨x3,hx3,hL⟩:=bS hL;refine WO.cp gN rfl (Yh.fn ZGe (Zb (Zm (Zi rfl fh) rfl) (Zb (Zm fh rfl) Zd))) (ZJi (p1:=(Term.mk 0 (⟨#[]⟩:Y) [] [] [])) (hS.slu Zw) (hS.slu Yd) (hS.slu Yc) Sl.nil Sl.nil Sl.nil hx3)<|Vi (YO (Zm fh rfl))<|WO.nil<|Yl.YG<|WC.ret ?_;have hr:=Oi0 hL;subst hr;exact YK.XY rfl (Zx (Zm fh rfl) Zj) ⟨_,⟨rfl,rfl⟩,hT▸hS.only .n⟩
def ZJg{F:Nat}{h:H}{p0:Term}{Zg:O Addr}{Zf:Nat}{ZB:O Addr}{ZA:Nat}{Zz:O Addr}{Zy:Nat}{r:Z}(Zw:Sl Zh h.size h Zg Zf p0.args)(Yd:Sl Zc h.size h ZB ZA p0.qK)(Yc:Sl Zu h.size h Zz Zy p0.qQ)(hL:ZwJ F p0=some r):Pure XX 35 #[.agg (q1W p0 Zg Zf ZB ZA Zz Zy).toArray] h (.bool r):=
 WR.Zcb rfl (ZJf Vh Zw Yd Yc hL)
end
end Go.Proofs.YtbnepjakjmnadaaGreat
end
end
section
noncomputable section
namespace Go.ZF
open Go.Lf
variable{X:Ctx}
end Go.ZF
end
end
section
noncomputable section
namespace Go.Proofs.YtbnepjakjmnadaaGreat
open Go.ZF Go.Lf
end Go.Proofs.YtbnepjakjmnadaaGreat
end
end
section
noncomputable section
namespace Go.ZF
open Go.Lf
end Go.ZF
end
end
section
set_option maxRecDepth 20000
noncomputable section
namespace Go.Proofs.YtbnepjakjmnadaaGreat
open Go.ZF Go.Lf
section
def ZEr{F wm b:Nat}{h:H}{t:Term}{p:TmP}{r:MB}(Zt:wm<=h.size)(ha:At h b 0 (Qi p t))(hb:Stb wm h b)(hF:Zu.F wm h p t)(hL:Zbu F t=some r):
 WR XX 151 #[pV b] wm h (CP (fun v (Gb:U (Ast wm))=>∃(cf:Nat),v=.map (some cf)/\Gb=[mp wm Value.string Value.bool (some cf) r]) [] h):=by
 obtain⟨⟨pA,cA⟩,⟨pD,cD⟩,⟨pK,cK⟩⟩:=p;obtain⟨hsA,hsD,hsK⟩:=Qu.1 hF;dsimp only at hsA hsD hsK;refine WF.begin (args:=[_]) (fn:=Tryz.f151) Kq0 (by exact rfl) Tryz.ntmps151 (by simp) ?_;simp only[Zl,Zn,Nat.reduceAdd];obtain⟨T,hT,hS⟩:∃T,T=Qm (wm:=wm) []/\Sp wm T h [] h:=⟨_,rfl,Sp.start Zt Z7.nil⟩
 repeat refine r1 ?_
 refine Vi (YN UU Xu lk ha (j:=0) rfl rfl (ws:=(q1W t pA cA pD cD pK cK)) rfl)<|Vj (Yh.fn ZuH (Zb lk Zd)) hS .n (fun g' hz hf hO=>ZnZ (hS.Vm hz) (hsA.mono hf) (hsD.mono hf) (hsK.mono hf) hL) ?_;rintro _ h5 _ ⟨cm,rfl,rfl⟩ hS
 repeat refine r1 ?_
 exact YK.XY rfl (Zx lk Zj) ⟨_,⟨cm,rfl,rfl⟩,hT▸hS.only (.c k0 .n)⟩
def ZeB(names:U Y):Int×MB->(Int×MB->O MB)->O MB:=fun(i,m) next=>bif decide (i<(names.length:Int)) then(YA names i).bind fun x=>next (XO (i+1),Zer m x) else some m
def ZbM(F:Nat)(p:Za)(names:U Y):O MB:=(YA p.qQ 0).bind fun k=>(Zbu F k).bind fun m=>loop F (ZeB names) (0,m)
def ZEp{F wm b b2:Nat}{h:H}{t:Za}{p:TmP}{names:U Y}{a:O Addr}{cc:Nat}{r:MB}(Zt:wm<=h.size)(ha:At h b 0 (UG p t))(hb:Stb wm h b)(hF:Zc.F wm h p t)(ha2:At h b2 0 [.slice a names.length cc])(hb2:Stb wm h b2)(hs:Sl ZW wm h a cc names)(hL:ZbM F t names=some r):
 WR XX 180 #[pV b,pV b2] wm h (CP (fun v (Gb:U (Ast wm))=>∃(cf:Nat),v=.map (some cf)/\Gb=[mp wm Value.string Value.bool (some cf) r]) [] h):=by
 obtain⟨⟨pj,cj⟩,⟨pd,cd⟩,⟨pk,ck⟩⟩:=p;obtain⟨hsj,hsd,hsk⟩:=Z5.1 hF;dsimp only at hsj hsd hsk;refine WF.begin (args:=[_,_]) (fn:=Tryz.f180) Kq0 (by exact rfl) Tryz.ntmps180 (by simp) ?_;simp only[Zl,Zn,Nat.reduceAdd];obtain⟨T,hT,hS⟩:∃T,T=Qm (wm:=wm) []/\Sp wm T h [] h:=⟨_,rfl,Sp.start Zt Z7.nil⟩
 unfold ZbM at hL
 repeat refine r1 ?_
 obtain⟨kd,hkd,hL⟩:=bS hL;obtain⟨b33,o34,⟨⟨q1,c1⟩,⟨q2,c2⟩,⟨q3,c3⟩⟩,Zqb,Zqo,ZuR,Zqi⟩:=Sl.at_ hsk hkd;obtain⟨hs1,hs2,hs3⟩:=Qu.1 Zqi;dsimp only at hs1 hs2 hs3;refine Vi (ZQ Zb2 Xu (Zm fh rfl) (U6 rfl) rfl Zqb hkd)<|Vi (YN UU Xu (Zm fh rfl) Zqo (j:=0) rfl rfl (ws:=(q1W kd q1 c1 q2 c2 q3 c3)) rfl) ?_;obtain⟨m,hm,hL⟩:=bS hL;refine Vj (Yh.fn ZuH (Zb lk Zd)) hS .n (fun g' hz hf hO=>ZnZ (hS.Vm hz) (hs1.mono hf) (hs2.mono hf) (hs3.mono hf) hm) ?_;rintro _ h5 _ ⟨cm,rfl,rfl⟩ hS
 repeat refine r1 ?_
 repeat refine r1 ?_
 refine WC.loop (WL.lift hL (fun(q:Int×MB)(s:Fs)=>match q with | (i,m)=>∃(fr6:Fr) (h5:H),s=⟨fr6,[],h5,none⟩/\Sp wm T h [mp wm Value.string Value.bool (some cm) m] h5/\fr6.at 3=.map (some cm)/\fr6.at 11=.slice a names.length cc/\fr6.at 12= Ve (names.length:Int)/\fr6.at 13= Ve i) ⟨_,_,rfl,hS.only (.c k0 .n),Y1⟩ ?_);rintro Ym ⟨i,m⟩ s XB hL ⟨fr6,h5,rfl,hS,e3,e11,e12,e13⟩;dsimp only[ZeB]at hL
 repeat refine r1 ?_
 refine cn hL ?_ ?_
 ·intro hc hL
  repeat refine r1 ?_
  obtain⟨x22,Zbr,hL⟩:=bS hL;obtain⟨b23,o24,_,JE,JG,JF,QM⟩:=Sl.at_ hs Zbr;refine Vi (ZQ Qe Qo (Zm Y1 rfl) (Zm Y1 rfl) rfl JE Zbr)<|Vi (ZY U3 (Zm fh rfl) (At.fz hS.fz JF JG) (j:=0) rfl (v:=.string x22) rfl) ?_
  repeat refine r1 ?_
  refine WO.hw gN (ZHg hS k0 QZ rfl XP lk lk) ?_;rintro h9 hS
  repeat refine r1 ?_
  exact ZM.YG (XB _ _ hL ⟨_,_,rfl,hS.only (.c k0 .n),Y1⟩)
 ·intro hc hL
  repeat refine r1 ?_
  have hr:=Oi0 hL;subst hr;exact YK.XY rfl (Zx lk Zj) ⟨_,⟨cm,rfl,rfl⟩,hT▸hS.only (.c k0 .n)⟩
end
end Go.Proofs.YtbnepjakjmnadaaGreat
end
end
section
set_option maxRecDepth 20000
noncomputable section
namespace Go.ZF
open Go.Lf
def jA{wm:Nat}(G:U (Ast wm)):Ast wm where
 P:=fun h=>Z7 G h
 fp:=Qm G
 loc:=fun f k s=>⟨fun A m=>A.loc f (fun i hi=>k i ⟨A,m,hi⟩) (s.all A m),s.dis⟩
 own:=fun s hi=>s.own hi
end Go.ZF
end
end
section
set_option maxRecDepth 20000
noncomputable section
namespace Go.Proofs.YtbnepjakjmnadaaGreat
open Go.ZF Go.Lf
def Zxl{wm:Nat}:Zh8 wm:=fun wv Gw wi=>Xt wv=false/\∃(fid:V8) (caps:U N),wv=.func (.func fid) #[] caps.toArray/\(XX.fns.get fid).isSome=true/\Ze0 wv=true/\∀{h:H}{m:MB},wi=some m->Z7 Gw h ->
 WR XX fid caps.toArray h.size h (CP (fun(v:N)(Gb:U (Ast h.size))=>∃cf:Nat,v=.map (some cf)/\Gb=[mp h.size Value.string Value.bool (some cf) m]) [] h)
def Zmp(F:Nat)(names:U Y)(mine:MB):Int×MB×U Y->(Int×MB×U Y->O (MB×U Y))->O (MB×U Y):=fun(i,tk,to) next=>
 bif decide (i<(names.length:Int)) then(YA names i).bind fun n=>bif(Zq mine n).getD false then(ZAD F tk).bind fun y=>(YA to i).bind fun _=>next (XO (i+1),y.1,Znh to i y.2) else next (XO (i+1),tk,to) else some (tk,to)
def ZfF(F:Nat)(x:Y)(mine:MB):ChL:=fun tk c names wi=>
 (ZwF F c x).bind fun o=>bif !o then some (tk,names) else wi.bind fun m=>bif !((Zq m x).getD false) then some (tk,names) else(ZAE names).bind fun to=>loop F (Zmp F names mine) (0,tk,to)
def fvP(wm w b4 b8 b9 cm:Nat)(x:Y)(mine:MB):FV wm:=⟨.func (.func 75) #[] #[pV b4,pV b8,pV b9],jA [bx wm b4 [.string x],bx wm b8 [.map (some cm)],bx wm b9 [pV w],mp wm Value.string Value.bool (some cm) mine]⟩
def ZLZ:(XX.fns.get 77).isSome=true:=Kq0
def ZF3:(XX.fns.get 75).isSome=true:=Kq0
def ZI3{F wm w cf ct cm b4 b8 b9 b:Nat}{x:Y}{mine taken free:MB}{S:U SE}{h:H}{c:U NM}{wi:O MB}{names:U Y}{pa:O Addr}{pc:Nat}{wv:N}{Gw:U (Ast wm)}{r:MB×U Y}(Zt:wm<=h.size)(hr:Rd S (some b) c)(hsp:Sl ZW wm h pa pc names)(hW:Zxl wv Gw wi)(hL:ZfF F x mine taken c names wi=some r)(hO:Z7 (JP wm w cf (some ct) (fvP wm w b4 b8 b9 cm x mine) free taken S++Gw) h):
 WR XX 75 #[pV b,.slice pa names.length pc,wv,pV b4,pV b8,pV b9] wm h (CP (fun v (Gb:U (Ast wm))=>∃(a:O Addr) (cc:Nat),v=.slice a r.2.length cc/\Gb=Ye wm (Yy ZW) (a,cc) r.2::(JP wm w cf (some ct) (fvP wm w b4 b8 b9 cm x mine) free r.1 S++Gw)) (JP wm w cf (some ct) (fvP wm w b4 b8 b9 cm x mine) free taken S++Gw) h):=by
 refine WF.begin (args:=[_,_,_,_,_,_]) (fn:=Tryz.f75) Kq0 (by exact rfl) Tryz.ntmps75 (by simp) ?_;simp only[Zl,Zn,Nat.reduceAdd];obtain⟨T,hT,hS⟩:∃T,T=Qm (JP wm w cf (some ct) (fvP wm w b4 b8 b9 cm x mine) free taken S++Gw)/\Sp wm T h (JP wm w cf (some ct) (fvP wm w b4 b8 b9 cm x mine) free taken S++Gw) h:=⟨_,rfl,Sp.start Zt hO⟩
 unfold ZfF at hL;obtain⟨hwv,fid,caps,rfl,hid,hsk,hWc⟩:=hW;have ZMS:∀{h:H},(fvP wm w b4 b8 b9 cm x mine).A.P h->At h b4 0 [.string x]:=fun s=>At.box (s.all (bx wm b4 [.string x]) (by simp)).1
 have ZRs:∀{h:H},(fvP wm w b4 b8 b9 cm x mine).A.P h->At h b8 0 [.map (some cm)]:=fun s=>At.box (s.all (bx wm b8 [.map (some cm)]) (by simp)).1
 have ZRr:∀{h:H},(fvP wm w b4 b8 b9 cm x mine).A.P h->At h b9 0 [pV w]:=fun s=>At.box (s.all (bx wm b9 [pV w]) (by simp)).1
 have ZzF:∀{h:H},(fvP wm w b4 b8 b9 cm x mine).A.P h->MapAt Value.string Value.bool h (some cm) mine:=fun s=>(s.all (mp wm Value.string Value.bool (some cm) mine) (by simp)).at_
 repeat refine r1 ?_
 refine WC.JR mixed Kq0 ?_
 repeat refine r1 ?_
 refine Vl (ZY U3 lk (ZMS (hS.get k0).2) (j:=0) rfl (v:=.string x) rfl) ?_;obtain⟨o,ho,hL⟩:=bS hL;refine WX.cl gN rfl (Yh.fn ZL0 (Zb (Zm (Zi rfl fh) rfl) (Zb (Zm fh rfl) Zd))) hS (.c k3 .n) (fun g' hz hf hO=>ZI2 (o:=some b) (hS.Vm hz) hr hO ho) ?_ rfl rfl [] Kq0 XI.e;rintro _ h1 _ ⟨rfl,rfl⟩ hS;have hS:=hS.only (.c k1 (.c k1 (.c k1 (.c k0 (Zb4 Gw)))));refine WX.w gN rfl (ZeI (Zm fh rfl)) ?_ Kq0;refine WX.w gN rfl (Z0 (Zm fh rfl)) ?_ Kq0;refine WX.ZjU (Zk.no rfl rfl rfl fh) (fun hk=>?_) (fun hk=>?_)
 ·have hk2:(!o)=false:=by cases o<;>simp_all
  replace hL:=XR hk2 hL;obtain⟨m,hm,hL⟩:=bS hL;refine WX.w (Zk.on (Zk.no rfl rfl rfl fh) hk) rfl (Z0 (Zm (Xb rfl Y1) rfl)) ?_ Kq0;refine WX.clR (Zk.on (Zk.noC rfl rfl rfl (Zi rfl fh) (Ze1 rfl (Ze2 fh hsk))) hk) rfl (Yh.clo (first:=[]) (cap:=caps) (Zm fh rfl) hid Zd rfl) hS.hw (hWc hm (hS.Zbs (Ga:=Gw) (Zgw [_,_,_,_] Gw))) ?_ rfl Kq0;rintro _ h2 _ ⟨cf2,rfl,rfl⟩ hC;have hS:=hS.clR hC (.c (cvM hS.hw) .n);refine WX.w (Zk.on (Zk.no rfl rfl rfl (Yb rfl fh)) hk) rfl (ZY U3 (Zm Y1 rfl) (ZMS (hS.get k1).2) (j:=0) rfl (v:=.string x) rfl) ?_ Kq0;refine WX.w (Zk.on (Zk.no rfl rfl rfl (Yb rfl (Zi rfl fh))) hk) rfl (KA (kv:=Value.string) (vv:=Value.bool) (k:=x) (z:=false) QZ XP ZbW (Zm (Zi rfl fh) rfl) (Zm fh rfl) (hS.get k0).at_ (show ZdL m x false=some ((Zq m x).getD false) from rfl) (w:=.bool ((Zq m x).getD false)) rfl) ?_ Kq0;refine WX.w (Zk.on (Zk.no rfl rfl rfl (YC rfl fh)) hk) rfl (ZeI (Zm fh rfl)) ?_ Kq0;refine WX.w gN rfl (ZoB (Zm (YC rfl (Zi rfl fh)) rfl) hk2 (Zm fh rfl)) ?_ Kq0
  repeat refine r1 ?_
  refine cn hL ?_ ?_
  ·intro hc hL
   repeat refine r1 ?_
   have hS:=hS.add (A:=Ye wm (Yy ZW) (pa,pc) names) (hS.sl hsp) (fun _ z=>z);have hr':=Oi0 hL;subst hr';exact YK.XY rfl (Zx lk Zj) ⟨_,⟨pa,pc,rfl,rfl⟩,hT▸hS.only (.c k0 (.c k1 (.c k1 (.c k1 (.c k1 (Zgw [_] Gw))))))⟩
  ·intro hc hL
   repeat refine r1 ?_
   obtain⟨to,hto,hL⟩:=bS hL;refine Vj (Yh.fn ZLZ (Zb lk Zd)) hS .n (fun g' hz hf hO=>ZI1 (hS.Vm hz) ((hS.sl hsp).mono hf) hto) ?_;rintro _ h3 _ ⟨ra,rn,rc,rfl,rfl⟩ hS
   repeat refine r1 ?_
   refine WC.loop (WL.lift hL (fun(q:Int×MB×U Y)(s:Fs)=>match q with | (i,tk,to)=>∃(fr6:Fr) (h5:H),s=⟨fr6,[],h5,none⟩/\Sp wm T h (ow wm ZW ra rn rc to::(JP wm w cf (some ct) (fvP wm w b4 b8 b9 cm x mine) free tk S++Gw)) h5/\fr6.at 4=pV b8/\fr6.at 5=pV b9/\fr6.at 10=.slice ra rn rc/\fr6.at 27=.slice pa names.length pc/\fr6.at 28= Ve (names.length:Int)/\fr6.at 29= Ve i) ⟨_,_,rfl,hS.only (.c k0 (.c k1 (.c k1 (.c k1 (.c k1 (Zgw [_] Gw)))))),Y1⟩ ?_);rintro Ym ⟨i,tk,to2⟩ s XB hL ⟨fr6,h5,rfl,hS,e4,e5,e10,e27,e28,e29⟩;dsimp only[Zmp]at hL
   repeat refine r1 ?_
   refine cn hL ?_ ?_
   ·intro hc hL
    repeat refine r1 ?_
    obtain⟨x22,Zbr,hL⟩:=bS hL;obtain⟨b23,o24,_,JE,JG,JF,QM⟩:=Sl.at_ hsp Zbr;refine Vi (ZQ Qe Qo (Zm Y1 rfl) (Zm Y1 rfl) rfl JE Zbr)<|Vi (ZY U3 (Zm fh rfl) (At.fz hS.fz JF JG) (j:=0) rfl (v:=.string x22) rfl) ?_
    repeat refine r1 ?_
    refine Vi (ZY Zgd (Zm Y1 rfl) (ZRs (hS.get k1).2) (j:=0) rfl (v:=.map (some cm)) rfl) ?_
    repeat refine r1 ?_
    refine Vi (KA (kv:=Value.string) (vv:=Value.bool) (k:=x22) (z:=false) QZ XP ZbW lk lk (ZzF (hS.get k1).2) (show ZdL mine x22 false=some ((Zq mine x22).getD false) from rfl) (w:=.bool ((Zq mine x22).getD false)) rfl) ?_
    repeat refine r1 ?_
    refine cn hL ?_ ?_
    ·intro hc2 hL
     repeat refine r1 ?_
     refine Vi (ZY ZaN (Zm Y1 rfl) (ZRr (hS.get k1).2) (j:=0) rfl (v:=pV w) rfl) ?_;obtain⟨y,hy,hL⟩:=bS hL;refine Vj (Yh.fn ZLY (Zb lk Zd)) hS (.c k1 (.c k2 .n)) (fun g' hz hf hO=>ZIZ (hS.Vm hz) hO hy) ?_;rintro _ h7 _ ⟨rfl,rfl⟩ hS;obtain⟨x0,hx0,hL⟩:=bS hL;obtain⟨b40,o40,_,ZGi,ZNT,ZTO⟩:=Src.at_ (hS.Jk k2) hx0;refine Vi (ZQ Qe Qo (Zm Y1 rfl) (Zm Y1 rfl) (hS.on k2) ZGi hx0)<|WO.hu gN (ZLa (e:=ZW) y.2 () hS k2 Qo (Zm fh rfl) (Zm Y1 rfl) ZGi hx0 ZNT (j:=0) rfl (vs:=[.string y.2]) rfl rfl rfl rfl rfl (cs':=[.string y.2]) rfl rfl trivial) ?_;rintro h8 ⟨hS,hA8⟩
     repeat refine r1 ?_
     exact ZM.YG (XB _ _ hL ⟨_,_,rfl,hS.only (.c k0 (.c k0 (.c k1 (.c k0 (.c k0 (Zb4 Gw)))))),Y1⟩)
    ·intro hc2 hL
     repeat refine r1 ?_
     exact ZM.YG (XB _ _ hL ⟨_,_,rfl,hS,Y1⟩)
   ·intro hc hL;refine WC.exit<|Yl.exit<|ZM.exit<|YW.here<|Yl.YG<|WC.fzn hS k0 ?_;rintro h9 ⟨hn,hS2⟩;subst hn
    repeat refine r1 ?_
    have hr':=Oi0 hL;subst hr';exact YK.XY rfl (Zx lk Zj) ⟨_,⟨ra,rc,rfl,rfl⟩,hT▸hS2⟩
 ·have hk2:(!o)=true:=by cases o<;>simp_all
  replace hL:=XQ hk2 hL;refine WX.Zen (Zk.no rfl rfl rfl fh) hk rfl ?_ Kq0;refine WX.Zen (Zk.noC rfl rfl rfl (Zi rfl fh) (Ze1 rfl (Ze2 fh rfl))) hk rfl ?_ Kq0;refine WX.Zen (Zk.no rfl rfl rfl (Yb rfl fh)) hk rfl ?_ Kq0;refine WX.Zen (Zk.no rfl rfl rfl (Yb rfl (Zi rfl fh))) hk rfl ?_ Kq0;refine WX.Zen (Zk.no rfl rfl rfl (YC rfl fh)) hk rfl ?_ Kq0;refine WX.w gN rfl (ZoA (Zm (YC rfl (Zi rfl fh)) rfl) hk2 (U6 rfl)) ?_ Kq0
  repeat refine r1 ?_
  refine WC.Uu lk (fun hc=>?_) (fun hc=>?_)
  ·repeat refine r1 ?_
   have hS:=hS.add (A:=Ye wm (Yy ZW) (pa,pc) names) (hS.sl hsp) (fun _ z=>z);have hr':=Oi0 hL;subst hr';exact YK.XY rfl (Zx lk Zj) ⟨_,⟨pa,pc,rfl,rfl⟩,hT▸hS.only (.c k0 (.c k0 (.c k0 (.c k0 (.c k0 (Zb4 Gw))))))⟩
  ·cases hc
end Go.Proofs.YtbnepjakjmnadaaGreat
end
end
section
set_option maxRecDepth 20000
noncomputable section
namespace Go.ZF
open Go.Lf
section
variable{X:Ctx}{n wm:Nat}{rd:O Nat}{ops:Va Oper}{l:U Oper}{rest:Code}
def Zil{ρ:Ren}(seen:Va Nat){es:U Vb}{es':Va Vb}(e:EL ρ es es'.toList):(leftOf es' seen).size=(es.filter fun x=>!seen.contains x.born).length:=by
 unfold leftOf;rw[<-G3,Array.toList_filter];generalize es'.toList=l at e
 induction e with
 | nil=>rfl
 | cons _ _ hb _ _ ih=>
   rw[List.filter_cons,List.filter_cons,hb];split
   ·simpa using ih
   ·exact ih
def Zwf{s:Fs}{id:Nat}{o:Oper}{t it m Y6 clock d k:Nat}{es:U Vb}{T:U Nat}{e:XX}{s2:Fs}(fv:(Nat->Z)->Y->O Z)
 (hops:ops.toList=o::l) (hop:o.op=.next (.tmp t) false) (hgu:o.guard=none) (hfr:s.fr.at t=(Vf it)) (hit:s.h.at it=.iter m clock Y6 none) (hm:s.h.at m=.map es clock) (hck:clock<=Y6) (hborn:Xq clock es=true) (ZnL:wm<=it) (htT:t∉T) (hd:o.dst=some d) (hdn:d<n) (hdT:d∈T)
 (hk:s.h.at k=.Xr (fv fun _=>false)) (hwk:wm<=k) (hfv:∀V V':Nat->Z,(∀x∈es,V x.born=V' x.born)->fv V=fv V')
 (Zcn:∀(V:Nat->Z),∀x∈es,∃s3,(s3.ds=s.ds/\(∀t,t∉T->s3.fr.at t=s.fr.at t)/\s3.h.size=s.h.size/\∀j,s3.h.at j=((s.h.put k (.Xr (fv fun b=>V b||b==x.born))).put it (.UL m clock clock x.born)).at j)/\
   ∀{ρ:Ren}{F:Fence}{a:Act}{w:V9},Inv ρ n {fr:=QI (ZU T s.fr) o.dst (.tuple #[.bool true,x.key,x.val]),ds:=s.ds,h:=(s.h.put k (.Xr (fv V))).put it (.UL m clock clock x.born),wr:=s.wr} a w->wm<=s.h.size->KO ρ rd F->∀Q':Exit->Act->V9->Prop,
   (∀e' a' w',Xj wm n ρ ((s.h.put k (.Xr (fv V))).put it (.UL m clock clock x.born)) w .normal s3 e' a' w'->Q' e' a' w')->wpListIn F 0 X.P ops (Exit.then (rest.wpIn F 0 X.P Q') Q') l a w)
 (hover:e≠.normal/\∀{ρ:Ren}{F:Fence}{a:Act}{w:V9},Inv ρ n {s with fr:=QI (ZU T s.fr) o.dst QT,h:=(s.h.put k (.Xr (fv fun _=>true))).put it .dead} a w->wm<=s.h.size->KO ρ rd F->∀Q':Exit->Act->V9->Prop,
   (∀e' a' w',Xj wm n ρ ((s.h.put k (.Xr (fv fun _=>true))).put it .dead) w e s2 e' a' w'->Q' e' a' w')->wpListIn F 0 X.P ops (Exit.then (rest.wpIn F 0 X.P Q') Q') l a w):Yq X (.loop (.seq (.region id ops false) rest) n wm rd s) (.code e s2):=by
 refine K7.2 ⟨e,s2,rfl,fun ρ0 a0 w0 F Zt hi0 hF=>?_⟩;have ZjJ:=hi0.fr.val t (by rw[hfr];rfl);rw[hfr]at ZjJ;generalize hpx:a0.tmps.getD t undef=px at ZjJ;cases ZjJ with
 | @ptr _ bi di _ ZpX=>
 have hoi:=hi0.rel.obj _ _ _ ZpX;rw[hit]at hoi;obtain⟨rfl,bm,ZFq,ZFL,Zp9,_,K9⟩:=hoi;have K9:=K9 rfl;subst K9;have ZHV:it<s.h.size:=YH hit rfl;have ZMG:k<s.h.size:=YH hk rfl;have hmi:m≠it:=fun z=>by rw[z,hit]at hm;cases hm
 have hki:k≠it:=fun z=>by rw[z,hit]at hk;cases hk
 have hmk:m≠k:=fun z=>by rw[z,hk]at hm;cases hm
 have hat:∀(V:Nat->Z)(A:YD) j,((s.h.put k (.Xr (fv V))).put it A).at j=if j=it then A else if j=k then .Xr (fv V) else s.h.at j:=fun V A j=>by
  rw[JN (h:=s.h.put k _) ZHV,JN ZMG]
 have ZhH:∀j b d,ρ0 j=some (b,d)->b=bi->j≠it->((s.h.at j).live=true->False):=by
  intro j b d hj hbb hne' hl;subst hbb;exact hne' (hi0.rel.inj it j b 0 d ZpX hj (by rw[hit];rfl) hl).symm
 have Zck:∀{a:Act}{w:V9}{K:Act->V9->Prop}{Q:Exit->Act->V9->Prop}{v:N}{w1:V9},a.tmps.getD t undef=(Vf bi)->(Instr.next ((Vf bi)) false o.type).run X.P w=.ok v w1 ->
  K (a.put o.dst v) w1->(if Region.wanted o (yielded ops a.tmps) then o.wpIn F 0 X.P a w K Q else(∀f,o.about X.P w a.eval=some f->F.fn f)/\K (a.put o.dst undef) w):=by
  intro a w K Q v w1 ht hrun hK;have hw:Region.wanted o (yielded ops a.tmps)=true:=by unfold Region.wanted;rw[hgu]
  rw[if_pos hw];refine⟨fun f hab=>(by unfold Oper.about at hab;rw[hop]at hab;cases hab),?_⟩;have ZjH:o.semAt F.round a.eval=execOp a.eval o:=Oper.semAt_eq _ _ _ fun c hc=>by rw[hop]at hc;cases hc
  have he:a.eval (.tmp t)=(Vf bi):=ht
  have hx:(execOp a.eval o).run X.P w=.ok (.value v) w1:=by
   unfold execOp;rw[hop];simp[he,hrun]
  rw[ZjH,hx];exact hK
 have ZhF:∀{ρ:Ren}(a:Act)(w:V9){h:H},ρ it=some (bi,0)->Inv ρ n {s with fr:=ZU T s.fr,h:=h} a w->a.tmps.getD t undef=(Vf bi):=by
  intro ρ a w h K8 hi;have h0:VR ρ ((ZU T s.fr).at t) (a.tmps.getD t undef):=hi.fr.val t (by show Xt ((ZU T s.fr).at t)=false;rw[YV,if_neg htT,hfr];rfl);rw[YV,if_neg htT,hfr]at h0;generalize a.tmps.getD t undef=y at h0;cases h0 with
  | ptr _ h1=>rw[K8]at h1;cases h1;rfl
 have Zp1:∀(ρ:Ren)(V:Nat->Z),(∀x∈es,V x.born=true)->∀(a:Act)(w:V9),KO ρ rd F->Inv ρ n {s with fr:=ZU T s.fr,h:=(s.h.put k (.Xr (fv V))).put it .dead} a w->Stp wm ρ0 s.h w0 ρ ((s.h.put k (.Xr (fv V))).put it .dead) w->a.tmps.getD t undef=(Vf bi) ->
  (Instr.next ((Vf bi)) false o.type).run X.P w=.ok QT w->LoopIn F 0 X.P (.seq (.region id ops false) rest) (Xj wm n ρ0 s.h w0 e s2) a w:=by
  intro ρ V hall a w hF hi hst ht hrun;rw[hfv V (fun _=>true) hall]at hi hst;obtain⟨hne,hover⟩:=hover;refine Xo (wpIn_seq (wpIn_region_list ?_));rw[hops];refine Zck ht hrun ?_
  have hio:Inv ρ n {s with fr:=QI (ZU T s.fr) o.dst QT,h:=(s.h.put k (.Xr (fv fun _=>true))).put it .dead} (a.put o.dst QT) w:=by
   refine⟨hi.rel,?_,?_⟩
   ·rw[hd];exact hi.fr.set hdn (VR.ZC rfl)
   ·rw[hd];exact hi.ds
  refine hover hio Zt hF _ fun e3 a3 w3 hp=>?_
  have hp2:=Xj.trans hi0.rel.lt hst hp;obtain⟨ρ3,hx3,hi3,XV⟩:=hp2;cases hx3 with
  | normal=>exact(hne rfl).elim
  | exit id=>exact⟨ρ3,.exit id,hi3,XV⟩
  | goto id=>exact⟨ρ3,.goto id,hi3,XV⟩
  | ret=>exact⟨ρ3,.ret,hi3,XV⟩
  | panic hv=>exact⟨ρ3,.panic hv,hi3,XV⟩
 have head:∀(q:Nat)(ρ:Ren)(seen:Va Nat)(last:Nat)(a:Act)(w:V9),(∀i p,ρ i=some p->ρ0 i=some p)->ρ0.le ρ->(es.filter fun x=>!seen.contains x.born).length<=q->clock<=last->w.heap[bi]? =some (.mapIter (some bm) clock seen last) ->
  Inv ρ n {s with fr:=ZU T s.fr,h:=(s.h.put k (.Xr (fv fun b=>seen.contains b))).put it .dead} a w ->
  Stp wm ρ0 s.h w0 ρ ((s.h.put k (.Xr (fv fun b=>seen.contains b))).put it .dead) w->LoopIn F 0 X.P (.seq (.region id ops false) rest) (Xj wm n ρ0 s.h w0 e s2) a w:=by
  intro q
  induction q with
  | zero=>
    intro ρ seen last a w hback hle hq hlast hblk hi hst;have K8:=(hle _ _ ZpX).1;have ZdN:=(hle _ _ ZFL).1;have ht:=ZhF a w K8 hi;have hom:=hi.rel.obj _ _ _ ZdN;rw[hat,if_neg hmi,if_neg hmk,hm]at hom;obtain⟨_,es',Za1,hes⟩:=hom;have hl0:(leftOf es' seen).size=0:=by rw[Zil seen hes];omega
    have hold:∀x∈es'.toList,x.born<clock:=by
     intro x hx;obtain⟨y,hy,_,_,hyb,_⟩:=hes.mem hx;rw[hyb];exact Zag hborn y hy
    rcases Zde (P:=X.P) o.type hblk Za1 hold hlast with⟨_,hrun⟩|⟨e',he',_⟩
    ·refine Zp1 ρ _ (fun x hx=>?_) a w (hF.mono hle) hi hst ht hrun;have:es.filter (fun x=>!seen.contains x.born)=[]:=G7 Vg;have:=List.filter_eq_nil_iff.1 this x hx
     simpa using this
    ·have:=G3▸List.length_pos_of_mem he';omega
  | succ q ihq=>
    intro ρ seen last a w hback hle hq hlast hblk hi hst;have K8:=(hle _ _ ZpX).1;have ZdN:=(hle _ _ ZFL).1;have ht:=ZhF a w K8 hi;have hom:=hi.rel.obj _ _ _ ZdN;rw[hat,if_neg hmi,if_neg hmk,hm]at hom;obtain⟨_,es',Za1,hes⟩:=hom
    have hold:∀x∈es'.toList,x.born<clock:=by
     intro x hx;obtain⟨y,hy,_,_,hyb,_⟩:=hes.mem hx;rw[hyb];exact Zag hborn y hy
    rcases Zde (P:=X.P) o.type hblk Za1 hold hlast with⟨h00,hrun⟩|⟨e',he',w1,hw1,hsame,hrun⟩
    ·refine Zp1 ρ _ (fun x hx=>?_) a w (hF.mono hle) hi hst ht hrun;rw[Zil seen hes]at h00;have:=List.filter_eq_nil_iff.1 (G7 h00) x hx
     simpa using this
    ·obtain⟨hmem,hns⟩:=mem_left he';obtain⟨x,hx,hkey,hkp,hbn,hval⟩:=hes.mem hmem;obtain⟨s3,⟨ZzB,hwr,ZHM,ZzG⟩,hbody⟩:=Zcn (fun b=>seen.contains b) x hx;have Zmd:bi<w.heap.size:=(hi.rel.dom _ _ _ K8).2;obtain⟨w2,hw2⟩:∃w2,w2=w1.putObj bi (.mapIter (some bm) clock (seen.push e'.born) clock):=⟨_,rfl⟩
     rw[<-hw2]at hrun;have hsz2:w2.heap.size=w.heap.size:=by rw[hw2,World.putObj_size,hw1]
     have hother:∀k,k≠bi->w2.heap[k]? =w.heap[k]?:=fun k hk=>by rw[hw2,World.putObj_heap_other hk,hw1]
     have Zqa:w2.heap[bi]? =some (.mapIter (some bm) clock (seen.push e'.born) clock):=by rw[hw2];exact World.putObj_heap_same (by rw[hw1];exact Zmd)
     have Zaa:Same w w2:=by rw[hw2];exact⟨hsame.os,hsame.tape,hsame.output⟩
     have hex:∀j b' d,ρ j=some (b',d)->b'=bi->j≠it->((s.h.put k (.Xr (fv fun b=>seen.contains b))).at j).live=true->False:=fun j b' d hj hb hne hl=>by
      refine ZhH j b' d (hback _ _ hj) hb hne ?_;rw[JN ZMG]at hl;split at hl
      ·rename_i z;subst z;rw[hk];rfl
      ·exact hl
     have hrel:Rel ρ ((s.h.put k (.Xr (fv fun b=>seen.contains b))).put it (.UL m clock clock x.born)) w2:=by
      refine Zem hi.rel K8 hex hother hsz2 ⟨rfl,bm,seen.push e'.born,ZdN,Zqa,?_⟩;rw[<-hbn];simp
     have hie:Inv ρ n {fr:=QI (ZU T s.fr) o.dst (.tuple #[.bool true,x.key,x.val]),ds:=s.ds,h:=(s.h.put k (.Xr (fv fun b=>seen.contains b))).put it (.UL m clock clock x.born),wr:=s.wr} (a.put o.dst (.tuple #[.bool true,e'.key,e'.val])) w2:=by
      refine⟨hrel,?_,?_⟩
      ·rw[hd];refine hi.fr.set hdn (.tuple _ _ rfl fun j y y' p q=>?_)
       match j,p,q with
       | 0,p,q=>simp at p q;subst p q;exact .bool true
       | 1,p,q=>simp at p q;subst p q;rw[hkey];exact VR.ZC hkp
       | 2,p,q=>simp at p q;subst p q;exact hval
       | j+3,p,q=>simp at p
      ·rw[hd];exact hi.ds
     refine Xo (wpIn_seq (wpIn_region_list ?_));rw[hops];refine Zck ht hrun<|hbody hie Zt (hF.mono hle) _ fun e3 a3 w3 hp=>?_
     obtain⟨ρ3,hx3,hi3,XV⟩:=hp;cases hx3
     have hpush:(fun b=>seen.contains b||b==x.born)=fun b=>(seen.push e'.born).contains b:=by
      funext b;rw[contains_push,hbn]
     have ZMT:∀j,s3.h.at j=((s.h.put k (.Xr (fv fun b=>(seen.push e'.born).contains b))).put it (.UL m clock clock x.born)).at j:=by rw[<-hpush];exact ZzG
     have ZzD:∀i p,ρ3 i=some p->ρ0 i=some p:=fun i p hp=>by
      refine hback i p ?_;cases hc:ρ i with
      | some p'=>have:=(XV.ext _ _ hc).1;rw[hp]at this;exact this.symm
      | none=>
        have h1:=(XV.Jv i p.1 p.2 hc hp).1;have h2:=(hi3.rel.dom i p.1 p.2 hp).1;rw[ZHM]at h2;exact absurd h2 (Nat.not_lt.2 h1)
     have hle3:ρ0.le ρ3:=Ren.le_trans hle XV.ext
     have Zlj:∀b,b<w.heap.size->(∀i d,wm<=i->ρ0 i=some (b,d)->(s.h.at i).own=true->i=it)->w3.heap[b]? =w2.heap[b]?:=fun b hb hno=>by
      refine XV.frame b (by rw[hsz2];exact hb) fun i d hwi hi' hown=>?_
      rw[hat]at hown;by_cases h1:i=it
      ·rw[if_pos h1]at hown;cases hown
      ·rw[if_neg h1]at hown;refine h1 (hno i d hwi (hback _ _ hi') ?_);split at hown
       ·rename_i z;subst z;rw[hk];rfl
       ·exact hown
     have ZRo:w3.heap[bi]? =some (.mapIter (some bm) clock (seen.push e'.born) clock):=by
      rw[Zlj bi Zmd fun i d _ h1 h2=>Decidable.byContradiction fun h3=>ZhH i bi d h1 rfl h3 (J4 h2),Zqa]
     have hinv:Inv ρ3 n {s with fr:=ZU T s.fr,h:=(s.h.put k (.Xr (fv fun b=>(seen.push e'.born).contains b))).put it .dead} a3 w3:=by
      refine⟨?_,⟨hi3.fr.size,fun t hany=>?_⟩,?_⟩
      ·refine(KY (i:=it) hi3.rel).congr (by simp[ZHM]) fun i=>?_
       rw[hat,JN (by rw[ZHM];exact ZHV)];split
       ·rfl
       ·rename_i z;rw[ZMT,hat,if_neg z]
      ·change Xt ((ZU T s.fr).at t)=false at hany
       show VR ρ3 ((ZU T s.fr).at t) _;rw[YV]at hany ⊢;by_cases Zam:t∈T
       ·rw[if_pos Zam]at hany;cases hany
       ·rw[if_neg Zam]at hany ⊢;have h1:=hi3.fr.val t (by rw[hwr t Zam];exact hany);rw[hwr t Zam]at h1;exact h1
      ·have h1:=hi3.ds;rw[ZzB]at h1;exact h1
     have hlive:∀(i:Nat),(((s.h.put k (.Xr (fv fun b=>(seen.push e'.born).contains b))).put it .dead).at i).own=true->(s.h.at i).own=true:=fun i hx=>by
      rw[hat]at hx;split at hx
      ·cases hx
      ·split at hx
       ·rename_i z;subst z;rw[hk];rfl
       ·exact hx
     have ZHS:∀(i:Nat),(((s.h.put k (.Xr (fv fun b=>(seen.push e'.born).contains b))).put it .dead).at i).live=true->(s.h.at i).live=true:=fun i hx=>by
      rw[hat]at hx;split at hx
      ·cases hx
      ·split at hx
       ·rename_i z;subst z;rw[hk];rfl
       ·exact hx
     have hstp:Stp wm ρ0 s.h w0 ρ3 ((s.h.put k (.Xr (fv fun b=>(seen.push e'.born).contains b))).put it .dead) w3:=by
      refine⟨hle3,K1 _,fun i hi=>?_,fun i _=>hlive i,fun i _=>ZHS i,XV.os.trans (Zaa.os.trans hst.os),XV.tape.trans (Zaa.tape.trans hst.tape),XV.output.trans (Zaa.output.trans hst.output),
       KB hst.Y8 (by rw[<-hsz2];exact XV.Y8),fun b hb hno=>?_,fun i b d p q=>by rw[ZzD _ _ q]at p;cases p⟩
      ·rw[hat,if_neg Vg,if_neg Vg]
      ·have hbb:b≠bi:=fun z=>by subst z;exact hno it 0 ZnL ZpX (by rw[hit];rfl)
       have:=hst.Y8;rw[Zlj b Vg fun i d h1 h2 h3=>(hno i d h1 h2 h3).elim,hother b hbb,hst.frame b hb hno]
     show LoopIn F 0 X.P _ _ a3 w3;refine ihq ρ3 (seen.push e'.born) clock a3 w3 ZzD hle3 ?_ Vh ZRo hinv hstp;have h1:=left_shrinks es' seen e' he';rw[Zil _ hes,Zil _ hes]at h1;omega
 have ZnM:Stp wm ρ0 s.h w0 ρ0 ((s.h.put k (.Xr (fv fun _=>false))).put it .dead) w0:=by
  have hown:∀(f:YD->Z),f .dead=false->∀i,f (((s.h.put k (.Xr (fv fun _=>false))).put it .dead).at i)=true->f (s.h.at i)=true:=fun f hf i hx=>by
   rw[hat]at hx;split at hx
   ·rw[hf]at hx;cases hx
   ·split at hx
    ·rename_i z;subst z;rw[hk];exact hx
    ·exact hx
  refine⟨Ren.le_refl _,K1 _,fun i hi=>?_,fun i _=>hown YD.own rfl i,fun i _=>hown YD.live rfl i,rfl,rfl,rfl,K1 _,fun _ _ _=>rfl,fun i b d e e'=>by rw[e]at e';cases e'⟩;rw[hat,if_neg Vg,if_neg Vg]
 refine head _ ρ0 #[] Y6 a0 w0 (fun _ _ h=>h) (Ren.le_refl _) Vh hck Zp9 ?_ ?_
 ·have e0:(fun b=>(#[]:Va Nat).contains b)=fun _=>false:=by funext b;simp
  rw[e0];refine⟨(KY (i:=it) hi0.rel).congr rfl fun i=>?_,⟨hi0.fr.size,fun t hany=>?_⟩,hi0.ds⟩
  ·rw[hat,JN ZHV];split
   ·rfl
   ·split
    ·rename_i z;rw[z,hk]
    ·rfl
  ·change Xt ((ZU T s.fr).at t)=false at hany
   show VR ρ0 ((ZU T s.fr).at t) _;rw[YV]at hany ⊢;by_cases ht:t∈T
   ·rw[if_pos ht]at hany;cases hany
   ·rw[if_neg ht]at hany ⊢;exact hi0.fr.val t hany
 ·have e0:(fun b=>(#[]:Va Nat).contains b)=fun _=>false:=by funext b;simp
  rw[e0];exact ZnM
end
section
variable{X:Ctx}{n wm:Nat}{rd:O Nat}{ops:Va Oper}{l:U Oper}{rest:Code}{fr:Fr}{ds:U Vc}{h h1 h2 h0:H}{ty:J}{p:String}{af:Va Edge}{g:O (Nat×Z)}{T0:Nat->Prop}{G G1 Gr:U (Ast wm)}{d k:Nat}
def ZlG(tk ll:U (Y×Z)):U (Y×Z):=ll.foldl (fun m e=>Yk m e.1 true) tk
def Zwe(ll:U (Y×Z))(t:Y):∀tk,Zq (ZlG tk ll) t=if ll.any (fun e=>decide (e.1=t)) then some true else Zq tk t:=by
 induction ll with
 | nil=>intro tk;rfl
 | cons e ll ih=>
   intro tk;show Zq (ZlG (Yk tk e.1 true) ll) t=_;rw[ih,Wi];by_cases h1:e.1=t
   ·subst h1;simp
   ·rw[List.any_cons,decide_eq_false h1,Bool.false_or,if_neg (c:=t=e.1) fun z=>h1 z.symm]
structure ZS7(T:List Nat)(fr:Fr)(ds:List Deferred)(h:H)(e:XX)(s:Fs):Prop where
 YG:e=.normal
 ds_:s.ds=ds
 fr_:MFr T fr s.fr
 h_:s.h=h
def ZHe{t kt vt:J}{x y z:V6}{s:Y}{v:Z}{f:Y->O Z}(hw:wm<=k)(hi:h.at k=.Xr f)(hk:X.P.underlying kt=some .string)(hu:X.P.underlying t=some (.map kt vt))(hx:Yo fr x=some (.map (some k)))(hy:Yo fr y=some (.string s))(hz:Yo fr z=some (.bool v)):
 HU X wm ⟨none,.mapUpdate t x y z,ty,p,af,g⟩ fr h (fun j=>j=k) (fun h'=>h'=h.put k (.Xr fun t=>bif t==s then some v else f t)):=by
 refine⟨.upd k (.Xr fun t=>bif t==s then some v else f t),h.put k (.Xr fun t=>bif t==s then some v else f t),?_,?_,fun x0 e=>by cases e;rfl,K1 _,rfl⟩
 ·show(match Yo fr x,Yo fr y,Yo fr z with|some m,some k,some x=>sE (Xd X.P h t m k x) | _,_,_=>none)=_;rw[hx,hy,hz];dsimp only;have K:=ZcY.str hk;have h1:ZbQ h (.map (some k))=none:=by unfold ZbQ;dsimp only;rw[hi]
  have h2:XA X.P h t (.map (some k)) (.string s) (.bool v)=none:=by
   unfold XA;rw[h1];split<;>first|rfl|contradiction
  have h3:aks X.P h t (.map (some k)) (.string s)=some (vt,k,f,s):=by
   unfold aks;rw[hu];dsimp only;rw[hi,hk];dsimp only;rw[K.ok true s,K.ok false s];rfl
  have:Xd X.P h t (.map (some k)) (.string s) (.bool v)=some (.upd k (.Xr fun t=>bif t==s then some v else f t)):=by
   unfold Xd;rw[h2,h3]
  rw[this];rfl
 ·show(bif Nat.ble wm k&&(h.at k).own then some (h.put k _) else none)=_;rw[hi,Nm0 hw];rfl
def WL.ZQv{Q:XX->Fs->Prop}{id:Nat}{o:Oper}{t it m Y6:Nat}{bs:U Nat}{ll tk:U (Y×Z)}(T:U Nat)(hS:Sp wm T0 h0 G h)(pi:Pk G (ob wm it (.iter m Y6 Y6 none)) G1)(pk:Pk G1 (ks wm k tk) Gr)(hat:fr.at t=(Vf it))(hm:h.at m=.map (Xc Value.string Value.bool ll bs) Y6)(hb:bs.length=ll.length/\bs.Nodup/\∀x∈bs,x<Y6)
 (hops:ops.toList=o::l) (hop:o.op=.next (.tmp t) false) (hgu:o.guard=none) (hd:o.dst=some d) (hdn:Nat.blt d n=true) (hT:T.contains t=false) (hdT:T.contains d=true)
 (body:∀(x:Y×Z) f h2 fr',Agr T fr fr'->Sp wm T0 h0 (ob wm k (.Xr f)::Gr) h2->ZtP Value.string Value.bool h2 it x->WO X n wm rd ops l ⟨Tr.set fr' d (.tuple #[.bool true,.string x.1,.bool x.2]),ds,h2,none⟩ (Yl X n wm rd rest (ZS7 T fr' ds (h2.put k (.Xr fun t=>bif t==x.1 then some true else f t)))))
 (over:∀h' fr',Agr T fr fr'->Sp wm T0 h0 (ks wm k (ZlG tk ll)::Gr) h'->WO X n wm rd ops l ⟨Tr.set fr' d (.tuple #[.bool false]),ds,h',none⟩ (Yl X n wm rd rest (Zxn Q))):WL X n wm rd (.seq (.region id ops false) rest) ⟨fr,ds,h,none⟩ Q:=by
 obtain⟨hb1,hb2,hb3⟩:=hb;obtain⟨o1,o2,_⟩:=hS.get pi;obtain⟨u1,u2,_⟩:=(hS.drop pi).get pk
 have Zwt:Agr T fr (ZU T fr):=fun t' v' ht' hv'=>by
  rw[YV,if_neg (fun z=>by rw[<-Gs]at z;rw[z]at ht';cases ht'),hv']
 have htT:t∉T:=fun z=>by rw[<-Gs]at z;rw[z]at hT;cases hT
 have ZHY:d∈T:=Gs.1 hdT;have hil:it<h.size:=YH o1 rfl;have hkl:k<h.size:=YH u1 rfl;have hmi:m≠it:=fun z=>by rw[z,o1]at hm;cases hm
 have hki:k≠it:=fun z=>by rw[z,o1]at u1;cases u1
 have hmk:m≠k:=fun z=>by rw[z,u1]at hm;cases hm
 let fv:(Nat->Z)->Y->O Z:=fun V t=>if(ll.zip bs).any (fun e=>V e.2&&decide (e.1.1=t)) then some true else Zq tk t
 have ZGB:∀{e:(Y×Z)×Nat},e∈ll.zip bs->∃j,ll[j]? =some e.1/\bs[j]? =some e.2:=fun{e} he=>by
  obtain⟨j,hj⟩:=Gp.1 he;rw[List.getElem?_zip_eq_some]at hj;exact⟨j,hj⟩
 have zof:∀{j:Nat}{y:Y×Z}{b:Nat},ll[j]? =some y->bs[j]? =some b->(y,b)∈ll.zip bs:=fun{j y b} h1 h2=>Gp.2 ⟨j,List.getElem?_zip_eq_some.2 ⟨h1,h2⟩⟩
 have ZRj:fv (fun _=>false)=Zq tk:=by
  funext t;show(if _ then _ else _)=_;rw[if_neg (by simp)]
 have ZRi:fv (fun _=>true)=Zq (ZlG tk ll):=by
  funext t;show(if _ then _ else _)=_;rw[Zwe]
  have:((ll.zip bs).any fun e=>true&&decide (e.1.1=t))=ll.any fun e=>decide (e.1=t):=by
   rw[GM,GF,GF]
   constructor
   ·rintro⟨e,he,hx⟩;obtain⟨j,h1,_⟩:=ZGB he;exact⟨e.1,Gp.2 ⟨j,h1⟩,by simpa using hx⟩
   ·rintro⟨y,hy,hx⟩;obtain⟨j,hj⟩:=Gp.1 hy;have hjl:=(Li0 hj).1;exact⟨(y,bs[j]'Vg),zof hj (J0 _),by simpa using hx⟩
  rw[this]
 have ZRh:∀V V':Nat->Z,(∀x∈Xc Value.string Value.bool ll bs,V x.born=V' x.born)->fv V=fv V':=fun V V' hV=>by
  funext t
  have:((ll.zip bs).any fun e=>V e.2&&decide (e.1.1=t))=(ll.zip bs).any fun e=>V' e.2&&decide (e.1.1=t):=by
   rw[GM,GF,GF]
   have key:∀e∈ll.zip bs,V e.2=V' e.2:=fun e he=>by
    obtain⟨j,h1,h2⟩:=ZGB he;exact hV _ (Zuq h1 h2)
   constructor
   ·rintro⟨e,he,hx⟩;exact⟨e,he,by rw[<-key e he];exact hx⟩
   ·rintro⟨e,he,hx⟩;exact⟨e,he,by rw[key e he];exact hx⟩
  show(if _ then _ else _)=if _ then _ else _
  rw[this]
 have ZRg:∀(V:Nat->Z){j:Nat}{y:Y×Z}{b:Nat},ll[j]? =some y->bs[j]? =some b->(fv fun c=>V c||c==b)=fun t=>bif t==y.1 then some true else fv V t:=fun V {j y b} h1 h2=>by
  funext t;rw[Zh5];show(if _ then _ else _)=bif _ then _ else if _ then _ else _
  by_cases ht:t=y.1
  ·rw[decide_eq_true ht,Cq1,if_pos];rw[GF];exact⟨(y,b),zof h1 h2,by simp[ht]⟩
  ·rw[decide_eq_false ht,Cq0]
   have:((ll.zip bs).any fun e=>(V e.2||e.2==b)&&decide (e.1.1=t))=(ll.zip bs).any fun e=>V e.2&&decide (e.1.1=t):=by
    rw[GM,GF,GF]
    constructor
    ·rintro⟨e,he,hx⟩;refine⟨e,he,?_⟩;rw[Ba0]at hx ⊢;refine⟨?_,hx.2⟩;rcases Bool.or_eq_true_iff.1 hx.1 with z|z
     ·exact z
     ·exfalso;obtain⟨j',q1,q2⟩:=ZGB he;have z:e.2=b:=by simpa using z
      rw[z]at q2;obtain⟨l1,e1⟩:=Li0 q2;obtain⟨l2,e2⟩:=Li0 h2;have hj:j'=j:=(List.getElem_inj hb2).1 (e1.trans e2.symm);subst hj;rw[h1]at q1;exact ht ((of_decide_eq_true hx.2).symm.trans (congrArg Prod.fst (Oi0 q1)).symm)
    ·rintro⟨e,he,hx⟩;refine⟨e,he,?_⟩;rw[Ba0]at hx ⊢;exact⟨by rw[hx.1];rfl,hx.2⟩
   rw[this]
 have Zh2:∀(f:Y->O Z)(A:YD) j,((h.put k (.Xr f)).put it A).at j=if j=it then A else if j=k then .Xr f else h.at j:=fun f A j=>by
  rw[JN (h:=h.put k _) hil,JN hkl]
 have hsp:∀(f:Y->O Z)(A:YD),Sp wm T0 h0 (ob wm k (.Xr f)::Gr) ((h.put k (.Xr f)).put it A):=fun f A=>by
  refine Sp.step (Ga:=[ob wm it (.iter m Y6 Y6 none),ks wm k tk]) (Gb:=[ob wm k (.Xr f)]) (t:=fun j=>j=it\/j=k) (hS.perm (pi.perm.trans (List.Perm.cons _ pk.perm))) ⟨K1 _,fun j _ hn=>?_,fun j hj=>?_⟩ (fun i hi=>?_) (Z7.one ⟨?_,u2,rfl⟩) fun i ⟨A,mm,f⟩=>?_
  ·rw[Zh2,if_neg (fun z=>hn (.inl z)),if_neg (fun z=>hn (.inr z))]
  ·rcases hj with rfl|rfl
   ·exact⟨o2,by rw[o1];rfl⟩
   ·exact⟨u2,by rw[u1];rfl⟩
  ·rcases hi with rfl|rfl
   ·exact⟨_,Gm,rfl⟩
   ·exact⟨ks wm i tk,by simp,rfl⟩
  ·rw[Zh2,if_neg hki,if_pos rfl]
  ·rw[Q2.1 mm]at f;exact .inl ⟨ks wm k tk,by simp,f⟩
 have Zcn:∀(V:Nat->Z),∀x∈Xc Value.string Value.bool ll bs,∃s3,(s3.ds=ds/\(∀t,t∉T->s3.fr.at t=fr.at t)/\s3.h.size=h.size/\∀j,s3.h.at j=((h.put k (.Xr (fv fun b=>V b||b==x.born))).put it (.UL m Y6 Y6 x.born)).at j)/\
  ∀{ρ:Ren}{F:Fence}{a:Act}{w:V9},Inv ρ n {fr:=QI (ZU T fr) o.dst (.tuple #[.bool true,x.key,x.val]),ds:=ds,h:=(h.put k (.Xr (fv V))).put it (.UL m Y6 Y6 x.born),wr:=none} a w->wm<=h.size->KO ρ rd F->∀Q':Exit->Act->V9->Prop,
  (∀e' a' w',Xj wm n ρ ((h.put k (.Xr (fv V))).put it (.UL m Y6 Y6 x.born)) w .normal s3 e' a' w'->Q' e' a' w')->wpListIn F 0 X.P ops (Exit.then (rest.wpIn F 0 X.P Q') Q') l a w:=by
  intro V x hx;obtain⟨j,y,bn,h1,h2,rfl⟩:=Zjp hx
  have hent:ZtP Value.string Value.bool ((h.put k (.Xr (fv V))).put it (.UL m Y6 Y6 bn)) it y:=by
   have e1:((h.put k (.Xr (fv V))).put it (.UL m Y6 Y6 bn)).at it=.UL m Y6 Y6 bn:=by rw[Zh2,if_pos rfl]
   have e2:((h.put k (.Xr (fv V))).put it (.UL m Y6 Y6 bn)).at m=.map (Xc Value.string Value.bool ll bs) Y6:=by rw[Zh2,if_neg hmi,if_neg hmk,hm]
   unfold ZtP ZcT;simp only[e1,e2,V4,Cq1,ZgD hb2 h1 h2]
  obtain⟨ex,s3,⟨rfl,q1,q2,q3⟩,q4⟩:=WO.body (body y (fv V) _ (ZU T fr) Zwt (hsp (fv V) (.UL m Y6 Y6 bn)) hent);refine⟨s3,⟨q1,fun t' ht'=>?_,by rw[q3];rfl,fun j=>?_⟩,?_⟩
  ·rw[q2 t' ht',YV,if_neg ht']
  ·rw[q3,JN (show k<((h.put k (.Xr (fv V))).put it (.UL m Y6 Y6 bn)).size from hkl),Zh2,Zh2,ZRg V h1 h2];by_cases z:j=it
   ·rw[if_pos z,if_neg (fun y=>hki (y.symm.trans z)),if_pos z]
   ·rw[if_neg z,if_neg z];split<;>rfl
  ·rw[hd];intro ρ F a w i1 i2 i3 Q' i4;exact q4 i1 i2 i3 Q' i4
 have hov:Sp wm T0 h0 (ks wm k (ZlG tk ll)::Gr) ((h.put k (.Xr (fv fun _=>true))).put it .dead):=by
  show Sp wm T0 h0 (ob wm k (.Xr (Zq (ZlG tk ll)))::Gr) _;rw[<-ZRi];exact hsp _ _
 obtain⟨e,s2,⟨q1,q2⟩,q3⟩:=WO.body (over _ _ Zwt hov);refine⟨e,s2,q2,Zwf (X:=X) (n:=n) (wm:=wm) (rd:=rd) (rest:=rest) (id:=id) (s:=⟨fr,ds,h,none⟩) (e:=e) (s2:=s2) (T:=T) fv hops hop hgu hat o1 hm Vh (Zep hb2 hb3) o2 htT hd (by rwa[G6]at hdn) ZHY (by rw[ZRj];exact u1) u2 ZRh Zcn ⟨q1,?_⟩⟩;rw[hd];intro ρ F a w i1 i2 i3 Q' i4;exact q3 i1 i2 i3 Q' i4
end
section
def ZLy{wm:Nat}{T:Nat->Prop}{h0 h:H}{G Gr:U (Ast wm)}(s:Sp wm T h0 (G++Gr) h):Sp wm T h0 (jA G::Gr) h:=
 s.say (Ga:=G) (Gb:=[jA G]) (Z7.one s.hold.left) fun i ⟨A,m,hi⟩=>by rw[Q2.1 m]at hi;exact hi
end
end Go.ZF
end
end
section
set_option maxRecDepth 20000
noncomputable section
namespace Go.Proofs.YtbnepjakjmnadaaGreat
open Go.ZF Go.Lf
section
def ZBb{F wm w cf ct cm b4 b8 b9:Nat}{x:Y}{mine:MB}:ZKo wm w cf (some ct) (fvP wm w b4 b8 b9 cm x mine) 75 [pV b4,pV b8,pV b9] Zxl (ZfF F x mine):=
 fun Zt hr hsp hW hL hO=>ZI3 Zt hr hsp hW hL hO
def ZL1:(XX.fns.get 74).isSome=true:=Kq0
def ZtZ{F wm:Nat}:ZtI (wm:=wm) Zxl (fun t=>Zbu F t):=fun b3 q x=>⟨rfl,151,[pV b3],rfl,by kernel_rfl,rfl,fun{h m} hm hO=>by
 have hb:=hO.all (bx wm b3 (Qi q x)) (by simp);have hq:=hO.all (Ye wm Zu q x) (by simp);have hl:=YH hb.1 rfl;exact ZEr Vh (At.box hb.1) (.inl hl) (Zu.up (KB hb.2 (GR hl)) hq) hm⟩
def ZtY{F wm:Nat}:ZkT (wm:=wm) Zxl (fun t names=>ZbM F t names):=fun b3 p x b6 a c names=>⟨rfl,180,[pV b3,pV b6],rfl,by kernel_rfl,rfl,fun{h m} hm hO=>by
 have hb:=hO.all (bx wm b3 (UG p x)) (by simp);have hq:=hO.all (Ye wm Zc p x) (by simp);have hb6:=hO.all (bx wm b6 [.slice a names.length c]) (by simp);have hs:=hO.all (Ye wm (Yy ZW) (a,c) names) (by simp);have hl:=YH hb.1 rfl;have hl6:=YH hb6.1 rfl;have hw:=KB hb.2 (GR hl);exact ZEp Vh (At.box hb.1) (.inl hl) (Zc.up hw hq) (At.box hb6.1) (.inl hl6) ((show Sl ZW wm h a c names from hs).up hw) hm⟩
def ZEl(F:Nat)(t:Term)(x:Y)(e:Ze):O (PR Term):=
 (ZAJ F e).bind fun mine=>(ZAI F t).bind fun tk=>(Zkp F (Za7 F (ZfF F x mine)) (fun t names=>ZbM F t names) (fun t=>Zbu F t) (([],ZlG (Yk tk x true) mine),[[(x,e)]],t)).bind fun p=>Jp p (fun k=>some (.ZX k)) fun r=>(Zlo F r.2).bind fun c=>bif c !=0 then some (.ZX 3) else some (.ok r.2)
def ZAP(F:Nat)(t:Term)(x:Y)(e:Ze):O (Term×Int):=
 (Zlo F t).bind fun x7=>(gd (!(x7 !=0)) (ZfH F x) default).bind fun x8=>(gd (!((x7 !=0)||(!x8))) (Zs1 F e) default).bind fun x9=>bif(((x7 !=0)||(!x8))||(x9 !=0)) then some (Term.mk 0 (⟨#[]⟩:Y) [] [] [],2) else
 (Zbu F t).bind fun m=>(ZdL m x false).bind fun y=>bif !y then(ZwG F t).bind fun u=>some (u,0) else(ZEl F t x e).bind fun p=>Jp p (fun k=>some (Term.mk 0 (⟨#[]⟩:Y) [] [] [],k)) fun u=>some (u,0)
def ZJj{F wm h}{p0:Term}{p1:Y}{p2:Ze}{Zg Zf ZB ZA Zz Zy J3 J2}{r}(Zt:wm<=h.size)(Zw:Sl Zh wm h Zg Zf p0.args)(Yd:Sl Zc wm h ZB ZA p0.qK)(Yc:Sl Zu wm h Zz Zy p0.qQ)(Wm:Sl Zh wm h J3 J2 p2.qQ)(hL:ZAP F p0 p1 p2=some r):
 WR XX 32 #[.agg (q1W p0 Zg Zf ZB ZA Zz Zy).toArray,.string p1,.agg (q2W p2 J3 J2).toArray] wm h (CP (fun v (Gb:U (Ast wm))=>∃Y3 Y2 Zpw Zpt Zpv Zps,v=.tuple #[.agg (q1W r.1 Y3 Y2 Zpw Zpt Zpv Zps).toArray,Ve r.2]/\Gb=[Ye wm (Yy Zh) (Y3,Y2) r.1.args,Ye wm (Yy Zc) (Zpw,Zpt) r.1.qK,Ye wm (Yy Zu) (Zpv,Zps) r.1.qQ]) [] h):=by
 have hF:Zu.F wm h ((Zg,Zf),(ZB,ZA),(Zz,Zy)) p0:=Qu.2 ⟨Zw,Yd,Yc⟩;refine WF.Qb (args:=[_,_,_]) (fn:=Tryz.f32) Kq0 (by exact rfl) Tryz.ntmps32 (by simp) ?_;simp only[Zl,Zn,Nat.reduceAdd];obtain⟨T,hT,hS⟩:∃T,T=Qm (wm:=wm) []/\Sp wm T h [] h:=⟨_,rfl,Sp.start Zt Z7.nil⟩
 unfold ZAP at hL
 repeat refine r1 ?_
 rintro _ h1 ⟨b3,eb3,rfl,hS⟩
 repeat refine r1 ?_
 rintro _ h2 ⟨b4,eb4,rfl,hS⟩
 repeat refine r1 ?_
 rintro _ h3 ⟨b5,eb5,rfl,hS⟩
 repeat refine r1 ?_
 rintro _ h4 ⟨b6,eb6,rfl,hS⟩
 repeat refine r1 ?_
 rintro _ h5 ⟨b7,eb7,rfl,hS⟩
 repeat refine r1 ?_
 obtain⟨x7,hx7,hL⟩:=bS hL;refine WO.cp gN rfl (Yh.fn ZGg (Zb (Zm fh rfl) Zd)) (Zs2 (hS.slu Zw) (hS.slu Yd) (hS.slu Yc) hx7) ?_
 repeat refine r1 ?_
 obtain⟨x8,hx8,hL⟩:=QC hL;refine WO.gcp (Zk.no rfl rfl rfl (Zi rfl fh)) rfl (fun hg=>(Yh.fn ZjM (Zb (JK fh rfl hg) Zd))) (fun hg=>ZeC (hx8 hg)) ?_
 repeat refine r1 ?_
 obtain⟨x9,hx9,hL⟩:=QC hL;refine WO.gcp (Zk.no rfl rfl rfl (Zi rfl fh)) rfl (fun hg=>(Yh.fn ZM1 (Zb (JK fh rfl hg) Zd))) (fun hg=>ZJn (hS.slu Wm) (hx9 hg)) ?_
 repeat refine r1 ?_
 refine cn hL ?_ ?_
 ·intro hc hL
  repeat refine r1 ?_
  rintro h10 hS
  repeat refine r1 ?_
  rintro h11 hS
  repeat refine r1 ?_
  have hS:=hS.add (A:=Ye wm (Yy Zh) (none,0) []) Sl.nil (fun _ z=>z);have hS:=hS.add (A:=Ye wm (Yy Zc) (none,0) []) Sl.nil (fun _ z=>z);have hS:=hS.add (A:=Ye wm (Yy Zu) (none,0) []) Sl.nil (fun _ z=>z);have hr:=Oi0 hL;subst hr;exact ZI.gen (vs:=[.agg #[Ve 0,.string (⟨#[]⟩:Y),Vd,Vd,Vd],Ve 2]) rfl (Yn Y1 (Xz UU Xu (hS.UC k4) (j:=0) rfl rfl (ws:=[Ve 0,.string (⟨#[]⟩:Y),Vd,Vd,Vd]) rfl) (Yn Y1 (Qf Zec (hS.UC k3) (j:=0) rfl (v:= Ve 2) rfl) Zj)) rfl ⟨_,⟨none,0,none,0,none,0,rfl,rfl⟩,hT▸hS.only (.c k2 (.c k1 (.c k0 .n)))⟩
 ·intro hc hL;obtain⟨m,hm,hL⟩:=bS hL
  repeat refine r1 ?_
  refine WC.JR mixed Kq0 ?_
  repeat refine r1 ?_
  refine WX.cl gN rfl (Yh.fn ZuH (Zb (Zm fh rfl) Zd)) hS .n (fun g' hz hf hO=>ZnZ (hS.Vm hz) ((hS.sl Zw).mono hf) ((hS.sl Yd).mono hf) ((hS.sl Yc).mono hf) hm) ?_ rfl rfl [] Kq0 XI.e;rintro _ h10 _ ⟨c0,rfl,rfl⟩ hS;refine WX.wrM (fun x=>x=b4) hS gN rfl (fun _ _ hR=>ZY U3 (Zm (Xb rfl (Xb rfl (Yb rfl fh))) rfl) (At.eqv (hR b4 rfl) (hS.UC k4)) (j:=0) rfl (v:=.string p1) rfl) ?_ rfl (.d (fun x hx e=>(by obtain⟨A,m,_⟩:=hx.1;cases m)) .n);rintro h11 e11 hS;obtain⟨y,hy,hL⟩:=bS hL;refine WX.w gN rfl (KA (kv:=Value.string) (vv:=Value.bool) (k:=p1) (z:=false) QZ XP ZbW (Zm (Zi rfl fh) rfl) (Zm fh rfl) (hS.get k0).at_ hy (w:=.bool y) rfl) ?_ Kq0;refine WX.w gN rfl (ZeI (Zm fh rfl)) ?_ Kq0
  repeat refine r1 ?_
  refine cn hL ?_ ?_
  ·intro hc2 hL
   repeat refine r1 ?_
   obtain⟨u,hu,hL⟩:=bS hL;refine Vj (Yh.fn ZL3 (Zb lk Zd)) hS .n (fun g' hz hf hO=>ZI8 (hS.Vm hz) ((hS.sl Zw).mono hf) ((hS.sl Yd).mono hf) ((hS.sl Yc).mono hf) hu) ?_;rintro _ h12 _ ⟨a0,e0,a1,e1,a2,e2,rfl,rfl⟩ hS
   repeat refine r1 ?_
   rintro h13 hS
   repeat refine r1 ?_
   rintro h14 hS
   repeat refine r1 ?_
   have hr:=Oi0 hL;subst hr;exact ZI.gen (vs:=[.agg (Qi ((a0,e0),(a1,e1),(a2,e2)) u).toArray,Ve 0]) rfl (Yn Y1 (Xz UU Xu (hS.UC k1) (j:=0) rfl rfl (ws:=Qi ((a0,e0),(a1,e1),(a2,e2)) u) rfl) (Yn Y1 (Qf Zec (hS.UC k0) (j:=0) rfl (v:= Ve 0) rfl) Zj)) rfl ⟨_,⟨a0,e0,a1,e1,a2,e2,rfl,rfl⟩,hT▸hS.only (.c k2 (.c k2 (.c k2 .n)))⟩
  ·intro hc2 hL;obtain⟨pp,hpp,hL⟩:=bS hL;unfold ZEl at hpp;obtain⟨mine,ZME,hpp⟩:=bS hpp;obtain⟨tk,htk,hpp⟩:=bS hpp;obtain⟨w0,hw0,hpp⟩:=bS hpp
   repeat refine r1 ?_
   refine WO.ZJC gN ZEz (Zm Y1 rfl) ?_
   repeat refine r1 ?_
   refine Vj (Yh.fn ZL2 (Zb lk Zd)) hS .n (fun g' hz hf hO=>ZI7 (hS.Vm hz) ((hS.sl Wm).mono hf) ZME) ?_;rintro _ h12 _ ⟨cm,rfl,rfl⟩ hS
   repeat refine r1 ?_
   rintro _ h13 ⟨b8,eb8,rfl,hS⟩
   repeat refine r1 ?_
   rintro h14 hS
   repeat refine r1 ?_
   refine Vj (Yh.fn ZL1 (Zb lk Zd)) hS .n (fun g' hz hf hO=>ZI5 (hS.Vm hz) ((hS.sl Zw).mono hf) ((hS.sl Yd).mono hf) ((hS.sl Yc).mono hf) htk) ?_;rintro _ h15 _ ⟨ct,rfl,rfl⟩ hS;refine Vi (XC Zow (ZE lk ZV) rfl (cs':=[.map none,.map (some ct),.nilFunc]) rfl) ?_
   repeat refine r1 ?_
   rintro _ h16 ⟨bw,ebw,rfl,hS⟩
   repeat refine r1 ?_
   rintro _ h17 ⟨b9,eb9,rfl,hS⟩
   repeat refine r1 ?_
   rintro h18 hS
   repeat refine r1 ?_
   refine WC.JR mixed Kq0 ?_
   repeat refine r1 ?_
   refine WX.hu gN (Kj (kv:=Value.string) (vv:=Value.bool) (k:=p1) (v:=true) hS k2 QZ XP lk lk (U6 rfl)) ?_ rfl Kq0 [] Kq0 XI.e;rintro h19 hS
   repeat refine r1 ?_
   refine WO.ks hS k0 ?_;rintro h20 hS
   repeat refine r1 ?_
   refine WO.rng gN rfl hS XP lk (hS.get k4).at_ ?_;rintro h21 b10 bs Y6 hS ZRc ZRq
   repeat refine r1 ?_
   refine WC.loop (WL.ZQv [10,46,47,48,49,50,51,52,53,54] hS k0 k0 fh ZRc ZRq rfl rfl rfl rfl rfl rfl rfl ?_ ?_)
   ·rintro⟨xk,xv⟩ f h22 ZnT hA hS hE;have e45:=hA.at (t:=45) rfl fh;have e9:ZnT.at 9=(Vf b9):=hA.at rfl Y1
    repeat refine r1 ?_
    refine WC.Zbz lk rfl ?_
    repeat refine r1 ?_
    refine Vi (Zrn lk hE) ?_
    repeat refine r1 ?_
    refine WO.hu gN (ZHe (v:=true) (hS.get k0).2.1 (hS.get k0).1 Zk4 XP lk lk (U6 rfl)) ?_;rintro h23 rfl
    repeat refine r1 ?_
    exact⟨rfl,rfl,(by dsimp only;repeat first|exact MFr.z|refine MFr.s rfl ?_),rfl⟩
   ·rintro h22 ZnT hA hS;have e3:ZnT.at 3=(Vf b3):=hA.at rfl Y1;have e4:ZnT.at 4=(Vf b4):=hA.at rfl Y1;have e5:ZnT.at 5=(Vf b5):=hA.at rfl Y1;have e6:ZnT.at 6=(Vf b6):=hA.at rfl Y1;have e7:ZnT.at 7=(Vf b7):=hA.at rfl Y1;have e8:ZnT.at 8=(Vf b8):=hA.at rfl Y1;have e9:ZnT.at 9=(Vf b9):=hA.at rfl Y1
    repeat refine r1 ?_
    refine WC.Zaf lk rfl ?_
    repeat refine r1 ?_
    refine Zxn.exit ?_
    repeat refine r1 ?_
    refine Vi (Wq lks) ?_
    repeat refine r1 ?_
    rintro h24 hS
    repeat refine r1 ?_
    refine Vk (ZbG Value.string vvE hS) ?_;rintro _ h25 ⟨mm,emm,rfl,hS⟩
    repeat refine r1 ?_
    refine WO.hu gN (Zb6 (kv:=Value.string) (vv:=vvE) (k:=p1) (v:=((J3,J2),p2)) hS k0 QZ ZiQ lk lk (Zm fh rfl)) ?_;rintro h26 hS
    repeat refine r1 ?_
    have hS:=ZLy (G:=[bx wm b4 [.string p1],bx wm b8 [.map (some cm)],bx wm b9 [pV bw],mp wm Value.string Value.bool (some cm) mine]) (hS.perm (Sel.perm (.c (.s (.s (.s k7))) (.c k4 (.c k3 (.c k3 .n))))));have hS:=hS.add (A:=esA wm [(p1,((J3,J2),p2))]) (fun x hx=>by rw[Q2.1 hx];exact YB.2 (hS.sl Wm)) (fun _ z=>z);rcases w0 with w1|ek
    ·replace hpp:=Yp hpp;refine Vj (Yh.fn ZuG (Zb lk (Zb (Zm (YC rfl fh) rfl) (Zb lk Zd)))) hS (.c k3 (.c k1 (.c k2 (.c k1 (.c k0 .n))))) (fun g' hz hf hO=>PQ.ok (ZnY (F:=F) (w:=bw) (ct:=some ct) (cm:=none) (fv:=fvP wm bw b4 b8 b9 cm p1 mine) (WIN:=Zxl) (Z9:=Za7 F (ZfF F p1 mine)) (WW:=fun t names=>ZbM F t names) (frL:=fun t=>Zbu F t) (fun cf=>Zvm rfl ZF3 (fun _ _ _ z=>z.1) (@ZBb F wm bw cf ct cm b4 b8 b9 p1 mine)) ZtY ZtZ (p:=((Zg,Zf),(ZB,ZA),(Zz,Zy))) (es:=[(p1,((J3,J2),p2))]) (hS.Vm hz) (Zu.mono hf (Zu.mono hS.fz hF)) hO hw0)) ?_;rintro _ h27 _ ⟨cf,S1,⟨⟨q0,d0⟩,⟨q1,d1⟩,⟨q2,d2⟩⟩,rfl,rfl⟩ hS
     repeat refine r1 ?_
     rintro _ h28 ⟨b11,ZOe,rfl,hS⟩
     repeat refine r1 ?_
     rintro h29 hS
     repeat refine r1 ?_
     have hq:=Qu.1 (hS.get k1);obtain⟨cc,hcc,hpp⟩:=bS hpp;refine WO.cp gN rfl (Yh.fn ZGg (Zb (Zm fh rfl) Zd)) (Zs2 (hq.1.up hS.hw) (hq.2.1.up hS.hw) (hq.2.2.up hS.hw) hcc) ?_
     repeat refine r1 ?_
     refine cn hpp ?_ ?_
     ·intro hc3 hpp;cases hpp
      repeat refine r1 ?_
      refine WO.WN gN (Yh.fn Zd0 (Zb (U6 rfl) Zd)) hS .n (fun g' hz hf hO=>ZaJ (r:=.ZX 3) (hS.Vm hz) rfl) ?_;rintro h30 hS
      repeat first|refine Yl.panic ?_|refine YW.panic ?_|refine ZM.panic ?_
      refine ZI.Kv<|YU.Ztc («Yf»:=[(Vf b7)]) (fn2:=Tryz.f60) Kq0 (by exact rfl) Tryz.ntmps60 (by simp) rfl ?_;simp only[Zl,Zn,Nat.reduceAdd];refine DC.seq<|DC.rec (.rcv (pv 147 3)) (Tr.set (Tr.set (Tr.set .nil 0 ((Vf b7))) 5 (.iface 147 (.agg #[Ve 3]))) 2 (.iface 147 (.agg #[Ve 3]))) (by exact rfl) rfl ?_;refine⟨rfl,?_⟩;refine DC.seq<|DC.rgn rfl ?_
      repeat refine r1 ?_
      refine Vi (YZ (Zm fh rfl) (U6 rfl) (ZdB rfl ZiP)) ?_
      repeat refine r1 ?_
      refine⟨rfl,?_⟩;refine DC.ZmA (Zm fh rfl) rfl<|DC.seq<|DC.rgn rfl ?_
      repeat refine r1 ?_
      refine Vi (Zah Tryz.underlying147 rfl (Zm fh rfl)) ?_
      repeat refine r1 ?_
      rintro _ h33 ⟨b12,ZwP,rfl,hS⟩
      repeat refine r1 ?_
      rintro h34 hS
      repeat refine r1 ?_
      refine⟨rfl,?_⟩;refine DC.seq<|DC.seq<|DC.rgn rfl ?_
      repeat refine r1 ?_
      refine⟨rfl,?_⟩;refine DC.Zf3 (Zm fh rfl) rfl<|DC.skip ?_;refine⟨rfl,?_⟩;refine DC.rgn rfl ?_
      repeat refine r1 ?_
      rintro h35 hS
      repeat refine r1 ?_
      refine⟨rfl,rfl,?_⟩;refine YU.ofL ?_ rfl;have hS:=hS.add (A:=Ye wm (Yy Zh) (none,0) []) Sl.nil (fun _ z=>z);have hS:=hS.add (A:=Ye wm (Yy Zc) (none,0) []) Sl.nil (fun _ z=>z);have hS:=hS.add (A:=Ye wm (Yy Zu) (none,0) []) Sl.nil (fun _ z=>z);have hr:=Oi0 hL;subst hr;exact ZI.gen (vs:=[.agg #[Ve 0,.string (⟨#[]⟩:Y),Vd,Vd,Vd],Ve 3]) rfl (Yn Y1 (Xz UU Xu (hS.UC pk) (j:=0) rfl rfl (ws:=[Ve 0,.string (⟨#[]⟩:Y),Vd,Vd,Vd]) rfl) (Yn Y1 (Qf Zec (hS.UC pk) (j:=0) rfl (v:= Ve 3) rfl) Zj)) rfl ⟨_,⟨none,0,none,0,none,0,rfl,rfl⟩,hT▸hS.only (.c k2 (.c k1 (.c k0 .n)))⟩
     ·intro hc3 hpp;cases hpp
      repeat refine r1 ?_
      rintro h30 hS
      repeat refine r1 ?_
      rintro h31 hS
      repeat refine r1 ?_
      refine ZI.ofP<|YU.Ztc («Yf»:=[(Vf b7)]) (fn2:=Tryz.f60) Kq0 (by exact rfl) Tryz.ntmps60 (by simp) rfl ?_;simp only[Zl,Zn,Nat.reduceAdd];refine DC.seq<|DC.rec .ret (Tr.set (Tr.set (Tr.set .nil 0 ((Vf b7))) 5 (.nilIface)) 2 (.nilIface)) (by exact rfl) rfl ?_;refine⟨rfl,?_⟩;refine DC.seq<|DC.rgn rfl ?_
      repeat refine r1 ?_
      refine Vi (YZ (Zm fh rfl) (U6 rfl) (ZeO ZiP)) ?_
      repeat refine r1 ?_
      refine⟨rfl,?_⟩;refine DC.Zf3 (Zm fh rfl) rfl<|DC.skip ?_;refine⟨rfl,rfl,?_⟩;refine YU.ofL ?_ rfl;have hq:=Qu.1 (hS.get k3);have hS:=hS.add (A:=Ye wm (Yy Zh) (q0,d0) w1.2.args) hq.1 (fun _ z=>z);have hS:=hS.add (A:=Ye wm (Yy Zc) (q1,d1) w1.2.qK) hq.2.1 (fun _ z=>z);have hS:=hS.add (A:=Ye wm (Yy Zu) (q2,d2) w1.2.qQ) hq.2.2 (fun _ z=>z);have hr:=Oi0 hL;subst hr;exact ZI.gen (vs:=[.agg (Qi ((q0,d0),(q1,d1),(q2,d2)) w1.2).toArray,Ve 0]) rfl (Yn Y1 (Xz UU Xu (hS.UC k4) (j:=0) rfl rfl (ws:=Qi ((q0,d0),(q1,d1),(q2,d2)) w1.2) rfl) (Yn Y1 (Qf Zec (hS.UC k3) (j:=0) rfl (v:= Ve 0) rfl) Zj)) rfl ⟨_,⟨q0,d0,q1,d1,q2,d2,rfl,rfl⟩,hT▸hS.only (.c k2 (.c k1 (.c k0 .n)))⟩
    ·replace hpp:=ZT hpp;refine WO.WN gN (Yh.fn ZuG (Zb lk (Zb (Zm (YC rfl fh) rfl) (Zb lk Zd)))) hS (.c k3 (.c k1 (.c k2 (.c k1 (.c k0 .n))))) (fun g' hz hf hO=>ZnY (F:=F) (w:=bw) (ct:=some ct) (cm:=none) (fv:=fvP wm bw b4 b8 b9 cm p1 mine) (WIN:=Zxl) (Z9:=Za7 F (ZfF F p1 mine)) (WW:=fun t names=>ZbM F t names) (frL:=fun t=>Zbu F t) (fun cf=>Zvm rfl ZF3 (fun _ _ _ z=>z.1) (@ZBb F wm bw cf ct cm b4 b8 b9 p1 mine)) ZtY ZtZ (p:=((Zg,Zf),(ZB,ZA),(Zz,Zy))) (es:=[(p1,((J3,J2),p2))]) (hS.Vm hz) (Zu.mono hf (Zu.mono hS.fz hF)) hO hw0) ?_;rintro h27 hS
     repeat first|refine Yl.panic ?_|refine YW.panic ?_|refine ZM.panic ?_
     cases hpp;refine ZI.Kv<|YU.Ztc («Yf»:=[(Vf b7)]) (fn2:=Tryz.f60) Kq0 (by exact rfl) Tryz.ntmps60 (by simp) rfl ?_;simp only[Zl,Zn,Nat.reduceAdd];refine DC.seq<|DC.rec (.rcv (pv 147 ek)) (Tr.set (Tr.set (Tr.set .nil 0 ((Vf b7))) 5 (.iface 147 (.agg #[Ve ek]))) 2 (.iface 147 (.agg #[Ve ek]))) (by exact rfl) rfl ?_;refine⟨rfl,?_⟩;refine DC.seq<|DC.rgn rfl ?_
     repeat refine r1 ?_
     refine Vi (YZ (Zm fh rfl) (U6 rfl) (ZdB rfl ZiP)) ?_
     repeat refine r1 ?_
     refine⟨rfl,?_⟩;refine DC.ZmA (Zm fh rfl) rfl<|DC.seq<|DC.rgn rfl ?_
     repeat refine r1 ?_
     refine Vi (Zah Tryz.underlying147 rfl (Zm fh rfl)) ?_
     repeat refine r1 ?_
     rintro _ h33 ⟨b12,ZwP,rfl,hS⟩
     repeat refine r1 ?_
     rintro h34 hS
     repeat refine r1 ?_
     refine⟨rfl,?_⟩;refine DC.seq<|DC.seq<|DC.rgn rfl ?_
     repeat refine r1 ?_
     refine⟨rfl,?_⟩;refine DC.Zf3 (Zm fh rfl) rfl<|DC.skip ?_;refine⟨rfl,?_⟩;refine DC.rgn rfl ?_
     repeat refine r1 ?_
     rintro h35 hS
     repeat refine r1 ?_
     refine⟨rfl,rfl,?_⟩;refine YU.ofL ?_ rfl;have hS:=hS.add (A:=Ye wm (Yy Zh) (none,0) []) Sl.nil (fun _ z=>z);have hS:=hS.add (A:=Ye wm (Yy Zc) (none,0) []) Sl.nil (fun _ z=>z);have hS:=hS.add (A:=Ye wm (Yy Zu) (none,0) []) Sl.nil (fun _ z=>z);have hr:=Oi0 hL;subst hr;exact ZI.gen (vs:=[.agg #[Ve 0,.string (⟨#[]⟩:Y),Vd,Vd,Vd],Ve ek]) rfl (Yn Y1 (Xz UU Xu (hS.UC pk) (j:=0) rfl rfl (ws:=[Ve 0,.string (⟨#[]⟩:Y),Vd,Vd,Vd]) rfl) (Yn Y1 (Qf Zec (hS.UC pk) (j:=0) rfl (v:= Ve ek) rfl) Zj)) rfl ⟨_,⟨none,0,none,0,none,0,rfl,rfl⟩,hT▸hS.only (.c k2 (.c k1 (.c k0 .n)))⟩
end
section
def ZuX(F:Nat)(p1:Y)(x23:((U Y)×Int))(x29:((U Y)×Int))(v40:(U Y)):Int->(Int->O Z)->O Z:=fun v80 ZyA=>
 (bif decide (v80<(x29.1.length:Int)) then(YA x29.1 v80).bind fun x83=>(ZdP F v40 x83).bind fun x86=>(gd (!x86) (YA x29.1 v80) default).bind fun x87=>(gd ((!x86)&&(!(decide (x87=p1)))) (YA x29.1 v80) default).bind fun x90=>(gd ((!x86)&&(!(decide (x87=p1)))) (ZdP F x23.1 x90) default).bind fun x93=>(bif((!x86)&&((decide (x87=p1))||(!x93))) then some false else ZyA (XO (v80+1))) else(ZEs).bind fun x94=>some x94)
def ZuY(F:Nat)(p1:Y)(x23:((U Y)×Int))(x29:((U Y)×Int))(v40:(U Y)):Int->(Int->O Z)->O Z:=fun v67 ZyB=>
 (bif decide (v67<(v40.length:Int)) then(YA v40 v67).bind fun x70=>(ZdP F x29.1 x70).bind fun x73=>(bif(!x73) then some false else ZyB (XO (v67+1))) else loop F (ZuX F p1 x23 x29 v40) 0)
def ZuZ(F:Nat)(p1:Y)(x23:((U Y)×Int))(x29:((U Y)×Int))(v40:(U Y)):Int->(Int->O Z)->O Z:=fun v51 ZyF=>
 (bif decide (v51<(x23.1.length:Int)) then(YA x23.1 v51).bind fun x54=>(gd (!decide (x54=p1)) (YA x23.1 v51) default).bind fun x57=>(gd (!decide (x54=p1)) (ZdP F x29.1 x57) default).bind fun x60=>(bif((!decide (x54=p1))&&(!x60)) then some false else ZyF (XO (v51+1))) else loop F (ZuY F p1 x23 x29 v40) 0)
def ZhL(F:Nat)(p1:Y)(x23:((U Y)×Int))(x29:((U Y)×Int)):(U Y)->O Z:=fun v40=>
 loop F (ZuZ F p1 x23 x29 v40) 0
def f7L(F:Nat)(p0:Term)(p1:Y)(p2:Ze):O Z:=
 (bif decide ((p1.size:Int)>30) then(ZEs).bind fun x5=>some x5 else(ZAP F p0 p1 p2).bind fun x6=>(bif(x6.2 !=0) then(ZwJ F x6.1).bind fun x21=>(gd x21 (ZEs) default).bind fun x22=>some (x21&&x22) else(ZwL F p0).bind fun x23=>(ZwL F x6.1).bind fun x29=>(bif((x23.2 !=0)||(x29.2 !=0)) then some false else(ZdP F x23.1 p1).bind fun x95=>(bif x95 then(ZwI F p2).bind fun x96=>(ZhL F p1 x23 x29) x96 else(ZhL F p1 x23 x29) []))))
end
section
def ZN6{F wm h}{p0:Term}{p1:Y}{p2:Ze}{Zg Zf ZB ZA Zz Zy J3 J2}{r}(Zt:wm<=h.size)(Zw:Sl Zh wm h Zg Zf p0.args)(Yd:Sl Zc wm h ZB ZA p0.qK)(Yc:Sl Zu wm h Zz Zy p0.qQ)(Wm:Sl Zh wm h J3 J2 p2.qQ)(hL:f7L F p0 p1 p2=some r):
 WR XX 7 #[.agg (q1W p0 Zg Zf ZB ZA Zz Zy).toArray,.string p1,.agg (q2W p2 J3 J2).toArray] wm h (CP (fun v (Gb:U (Ast wm))=>v=.bool r/\Gb=[]) [] h):=by
 refine bg Tryz.ntmps7 Zt Z7.nil ?_;intro T hT hS;unfold f7L at hL;refine r3 ?_;rintro _ h2 ⟨b1,eb1,rfl,hS⟩;refine r1 ?_;rintro _ h4 ⟨b3,eb3,rfl,hS⟩;refine r7 ?_;refine Vi (Zdy Zk4 lk)<|r3 ?_;refine cn hL ?_ ?_
 ·intro hc hL;refine r2 ?_;obtain⟨x5,hx5,hL⟩:=bS hL;refine WO.cp gN rfl (Yh.fn ZzM Zd) (Zs3 hx5)<|r5 ?_;exact rt hL hT hS
 ·intro hc hL;refine r7 ?_;obtain⟨x6,hx6,hL⟩:=bS hL;refine Vj (Yh.fn ZMZ (Zb lk (Zb lk (Zb lk Zd)))) hS .n (fun g' hz hf hO=>ZJj (hS.Vm hz) ((hS.sl Zw).mono hf) ((hS.sl Yd).mono hf) ((hS.sl Yc).mono hf) ((hS.sl Wm).mono hf) hx6) ?_;rintro _ h16 _ ⟨a7,c9,a10,c12,a13,c15,rfl,rfl⟩ hS;refine r4 ?_;rintro _ h19 ⟨b18,ZXA,rfl,hS⟩;refine r1 ?_;rintro h20 hS;refine r10 ?_;refine cn hL ?_ ?_
  ·intro hc hL;refine r3 ?_;obtain⟨x21,Zzf,hL⟩:=bS hL;refine WO.cp gN rfl (Yh.fn ZMY (Zb lk Zd)) (ZJg (hS.ZIS k1) (hS.ZIS k2) (hS.ZIS k3) Zzf)<|r1 ?_;obtain⟨x22,Zbr,hL⟩:=QC hL;refine WO.gcp (Zk.yes rfl rfl rfl fh) rfl (fun hg=>(Yh.fn ZzM Zd)) (fun hg=>Zs3 (Zbr hg))<|r6 ?_;exact rt hL hT hS
  ·intro hc hL;refine r5 ?_;obtain⟨x23,ZpY,hL⟩:=bS hL;refine Vj (Yh.fn ZGf (Zb lk Zd)) hS .n (fun g' hz hf hO=>ZAQ (hS.Vm hz) ((hS.sl Zw).mono hf) ((hS.sl Yd).mono hf) ((hS.sl Yc).mono hf) ZpY) ?_;rintro _ h27 _ ⟨a24,n25,c26,rfl,rfl⟩ hS;obtain rfl:=hS.on k0;refine r10 ?_;obtain⟨x29,hx29,hL⟩:=bS hL;refine Vj (Yh.fn ZGf (Zb lk Zd)) hS .n (fun g' hz hf hO=>ZAQ (hS.Vm hz) ((hS.fsl k2).mono hf) ((hS.fsl k3).mono hf) ((hS.fsl k4).mono hf) hx29) ?_;rintro _ h33 _ ⟨a30,n31,c32,rfl,rfl⟩ hS;obtain rfl:=hS.on k0;refine r16 ?_;refine r2 ?_;refine cn hL ?_ ?_
   ·intro hc hL;refine r7 ?_;exact rt hL hT hS
   ·intro hc hL;refine r7 ?_;refine WC.Zei (r:=r) (fun(v40:(U Y)) s=>∃ZwB h35 a41 c42 n43,s=⟨ZwB,[],h35,none⟩/\Sp wm T h [ow wm ZW a41 n43 c42 v40,ow wm ZW a24 x23.1.length c26 x23.1,ow wm ZW a30 x29.1.length c32 x29.1] h35/\ZwB.at 1=.string p1/\ZwB.at 9=.slice a24 x23.1.length c26/\ZwB.at 11=.slice a30 x29.1.length c32/\ZwB.at 13=.slice a41 n43 c42) (ZhL F p1 x23 x29) ?_ ?_
    ·rintro v40 s hL ⟨ZwB,h35,a41,c42,n43,rfl,hS,e37,e38,e39,e44⟩;obtain rfl:=hS.on k0;refine r7 ?_;refine WC.loop (WL.lift hL (fun v51 s=>∃ZsV h45,s=⟨ZsV,[],h45,none⟩/\Sp wm T h [ow wm ZW a24 x23.1.length c26 x23.1,ow wm ZW a30 x29.1.length c32 x29.1,ow wm ZW a41 v40.length c42 v40] h45/\ZsV.at 1=.string p1/\ZsV.at 9=.slice a24 x23.1.length c26/\ZsV.at 11=.slice a30 x29.1.length c32/\ZsV.at 13=.slice a41 v40.length c42/\ZsV.at 14= Ve v51) ⟨_,_,rfl,hS.only (.c k1 (.c k1 (.c k0 .n))),Y1⟩ ?_);rintro ZyF v51 s ZDw hL ⟨ZsV,h45,rfl,hS,e47,e48,e49,e50,e52⟩;refine r9 ?_;refine cn hL ?_ ?_
     ·intro hc hL;refine r8 ?_;obtain⟨x54,Zlf,hL⟩:=bS hL;obtain⟨b55,o56,_,ZNb,ZNP,ZTN⟩:=Src.at_ (hS.Jk k0) Zlf;refine Vi (ZQ Qe Qo lk lk rfl ZNb Zlf)<|Vi (ZY U3 (Zm fh rfl) ZNP (j:=0) rfl (v:=.string x54) rfl)<|r1 ?_;refine Vi (YZ (Zm (Zi rfl fh) rfl) (Zm fh rfl) Ul)<|r4 ?_;obtain⟨x57,ZLI,hL⟩:=QC hL;obtain⟨b58,o59,_,hQ⟩:=Src.atG (fun hg=>(hS.Jk k0)) ZLI;have ZM9:=fun hg=>(hQ hg).1
      have ZNN:=fun hg=>(hQ hg).2.1
      have ZTL:=fun hg=>(hQ hg).2.2
      refine WO.gv (Zk.yes rfl rfl rfl (Yb rfl (Zi rfl fh))) rfl (fun hg=>(ZQ Qe Qo (JK (Zi rfl fh) rfl hg) (JK fh rfl hg) rfl (ZM9 hg) (ZLI hg)))<|WO.gv (Zk.yes rfl rfl rfl (YC rfl fh)) rfl (fun hg=>(ZY U3 (JK fh rfl hg) (ZNN hg) (j:=0) rfl (v:=.string x57) rfl)) ?_;obtain⟨x60,Zzb,hL⟩:=QC hL;refine WO.gcp (Zk.yes rfl rfl rfl (YC rfl (Zi rfl fh))) rfl (fun hg=>(Yh.fn ZjL (Zb (JK (YC rfl fh) rfl hg) (Zb (JK fh rfl hg) Zd)))) (fun hg=>ZeA (hS.ord k1) (Zzb hg))<|r4 ?_;refine cn hL ?_ ?_
      ·intro hc hL;refine r11 ?_;exact rt hL hT hS
      ·intro hc hL;refine r8 ?_;exact ZM.YG (ZDw _ _ hL ⟨_,_,rfl,hS.only (.c k0 (.c k0 (.c k0 .n))),Y1⟩)
     ·intro hc hL;refine r12 ?_;refine WC.loop (WL.lift hL (fun v67 s=>∃Zqs h61,s=⟨Zqs,[],h61,none⟩/\Sp wm T h [ow wm ZW a24 x23.1.length c26 x23.1,ow wm ZW a30 x29.1.length c32 x29.1,ow wm ZW a41 v40.length c42 v40] h61/\Zqs.at 1=.string p1/\Zqs.at 9=.slice a24 x23.1.length c26/\Zqs.at 11=.slice a30 x29.1.length c32/\Zqs.at 13=.slice a41 v40.length c42/\Zqs.at 15= Ve v67) ⟨_,_,rfl,hS.only (.c k0 (.c k0 (.c k0 .n))),Y1⟩ ?_);rintro ZyB v67 s ZDq hL ⟨Zqs,h61,rfl,hS,e63,e64,e65,e66,e68⟩;refine r9 ?_;refine cn hL ?_ ?_
      ·intro hc hL;refine r9 ?_;obtain⟨x70,ZLG,hL⟩:=bS hL;obtain⟨b71,o72,_,ZM6,ZNK,ZTK⟩:=Src.at_ (hS.Jk k2) ZLG;refine Vi (ZQ Qe Qo lk lk rfl ZM6 ZLG)<|Vi (ZY U3 (Zm fh rfl) ZNK (j:=0) rfl (v:=.string x70) rfl) ?_;obtain⟨x73,ZQQ,hL⟩:=bS hL;refine WO.cp gN rfl (Yh.fn ZjL (Zb lk (Zb lk Zd))) (ZeA (hS.ord k1) ZQQ)<|r3 ?_;refine cn hL ?_ ?_
       ·intro hc hL;refine r11 ?_;exact rt hL hT hS
       ·intro hc hL;refine r8 ?_;exact ZM.YG (ZDq _ _ hL ⟨_,_,rfl,hS.only (.c k0 (.c k0 (.c k0 .n))),Y1⟩)
      ·intro hc hL;refine r12 ?_;refine WC.loop (WL.lift hL (fun v80 s=>∃ZsU h74,s=⟨ZsU,[],h74,none⟩/\Sp wm T h [ow wm ZW a24 x23.1.length c26 x23.1,ow wm ZW a30 x29.1.length c32 x29.1,ow wm ZW a41 v40.length c42 v40] h74/\ZsU.at 1=.string p1/\ZsU.at 9=.slice a24 x23.1.length c26/\ZsU.at 11=.slice a30 x29.1.length c32/\ZsU.at 13=.slice a41 v40.length c42/\ZsU.at 16= Ve v80) ⟨_,_,rfl,hS.only (.c k0 (.c k0 (.c k0 .n))),Y1⟩ ?_);rintro ZyA v80 s ZDp hL ⟨ZsU,h74,rfl,hS,e76,e77,e78,e79,e81⟩;refine r9 ?_;refine cn hL ?_ ?_
       ·intro hc hL;refine r9 ?_;obtain⟨x83,Zy8,hL⟩:=bS hL;obtain⟨b84,o85,_,ZM5,ZNJ,ZTJ⟩:=Src.at_ (hS.Jk k1) Zy8;refine Vi (ZQ Qe Qo lk lk rfl ZM5 Zy8)<|Vi (ZY U3 (Zm fh rfl) ZNJ (j:=0) rfl (v:=.string x83) rfl) ?_;obtain⟨x86,ZQP,hL⟩:=bS hL;refine WO.cp gN rfl (Yh.fn ZjL (Zb lk (Zb lk Zd))) (ZeA (hS.ord k2) ZQP)<|r4 ?_;obtain⟨x87,ZLD,hL⟩:=QC hL;obtain⟨b88,o89,_,hQ⟩:=Src.atG (fun hg=>(hS.Jk k1)) ZLD;have ZM4:=fun hg=>(hQ hg).1
        have ZNI:=fun hg=>(hQ hg).2.1
        have ZTI:=fun hg=>(hQ hg).2.2
        refine WO.gv (Zk.yes rfl rfl rfl (Yb rfl fh)) rfl (fun hg=>(ZQ Qe Qo (JK (Zi rfl fh) rfl hg) (JK fh rfl hg) rfl (ZM4 hg) (ZLD hg)))<|WO.gv (Zk.yes rfl rfl rfl (Yb rfl (Zi rfl fh))) rfl (fun hg=>(ZY U3 (JK fh rfl hg) (ZNI hg) (j:=0) rfl (v:=.string x87) rfl))<|r1 ?_;refine WO.gv (Zk.yes rfl rfl rfl (YC rfl (Zi rfl fh))) rfl (fun hg=>(YZ (JK (Zi rfl fh) rfl hg) (JK fh rfl hg) Ww))<|r4 ?_;obtain⟨x90,hx90,hL⟩:=QC hL;obtain⟨b91,o92,_,hQ⟩:=Src.atG (fun hg=>(hS.Jk k1)) hx90;have ZM3:=fun hg=>(hQ hg).1
        have ZNH:=fun hg=>(hQ hg).2.1
        have ZTH:=fun hg=>(hQ hg).2.2
        refine WO.gv (Zk.no2 rfl rfl rfl (Yb rfl (Zi rfl fh))) rfl (fun hg=>(ZQ Qe Qo (JK (Zi rfl fh) rfl hg) (JK fh rfl hg) rfl (ZM3 hg) (hx90 hg)))<|WO.gv (Zk.no2 rfl rfl rfl (YC rfl fh)) rfl (fun hg=>(ZY U3 (JK fh rfl hg) (ZNH hg) (j:=0) rfl (v:=.string x90) rfl)) ?_;obtain⟨x93,hx93,hL⟩:=QC hL;refine WO.gcp (Zk.no2 rfl rfl rfl (YC rfl (Zi rfl fh))) rfl (fun hg=>(Yh.fn ZjL (Zb (JK (YC rfl fh) rfl hg) (Zb (JK fh rfl hg) Zd)))) (fun hg=>ZeA (hS.ord k0) (hx93 hg))<|r1 ?_;refine WO.gv (Zk.yes rfl rfl rfl (Xb rfl (YC rfl (Yb rfl fh)))) rfl (fun hg=>(ZGy (JK (YC rfl (Yb rfl (Zi rfl fh))) rfl hg) lk (ZN9 fh hg)))<|r3 ?_;refine cn hL ?_ ?_
        ·intro hc hL;refine r11 ?_;exact rt hL hT hS
        ·intro hc hL;refine r8 ?_;exact ZM.YG (ZDp _ _ hL ⟨_,_,rfl,hS.only (.c k0 (.c k0 (.c k0 .n))),Y1⟩)
       ·intro hc hL;refine r7 ?_;obtain⟨x94,ZQN,hL⟩:=bS hL;refine WO.cp gN rfl (Yh.fn ZzM Zd) (Zs3 ZQN)<|r4 ?_;exact rt hL hT hS
    ·skip;refine r4 ?_;obtain⟨x95,hx95,hL⟩:=bS hL;refine WO.cp gN rfl (Yh.fn ZjL (Zb lk (Zb lk Zd))) (ZeA (hS.ord k1) hx95)<|r2 ?_;refine cn hL ?_ ?_
     ·intro hc hL;refine r2 ?_;obtain⟨x96,hx96,hL⟩:=bS hL;refine Vj (Yh.fn ZMX (Zb lk Zd)) hS .n (fun g' hz hf hO=>ZJd (hS.Vm hz) ((hS.sl Wm).mono hf) hx96) ?_;rintro _ ZXd _ ⟨a97,n98,c99,rfl,rfl⟩ hS;obtain rfl:=hS.on k0;refine r2 ?_;exact Xh.YG _ hL ⟨_,_,a97,c99,x96.length,rfl,hS.only (.c k0 (.c k1 (.c k0 .n))),Y1⟩
     ·intro hc hL;refine r1 ?_;have hS:=hS.nil (e:=ZW);exact Xh.YG _ hL ⟨_,_,none,0,0,rfl,hS.only (.c k0 (.c k1 (.c k0 .n))),Y1⟩
def ZN7{F h}{p0:Term}{p1:Y}{p2:Ze}{Zg Zf ZB ZA Zz Zy J3 J2}{r}(Zw:Sl Zh h.size h Zg Zf p0.args)(Yd:Sl Zc h.size h ZB ZA p0.qK)(Yc:Sl Zu h.size h Zz Zy p0.qQ)(Wm:Sl Zh h.size h J3 J2 p2.qQ)(hL:f7L F p0 p1 p2=some r):Pure XX 7 #[.agg (q1W p0 Zg Zf ZB ZA Zz Zy).toArray,.string p1,.agg (q2W p2 J3 J2).toArray] h (.bool r):=
 WR.Zcb rfl (ZN6 Vh Zw Yd Yc Wm hL)
end
end Go.Proofs.YtbnepjakjmnadaaGreat
end
end
section
namespace Go.Lf
def ZxI{k:Nat}(h:k<4611686018427387904):XO ((k:Int)+1)=((k+1:Nat):Int):=by
 rw[ZiL Vg Vg];rfl
def Zo6{k:Nat}(h:k<4611686018427387904)(h0:0<k):XO ((k:Int)-1)=((k-1:Nat):Int):=by
 rw[ZiL Vg Vg];omega
def Ws{α:Type}{KN:Nat}{xs ys:U α}(h:xs.length+ys.length<=1000000)(hb:KN<=1000):app KN xs ys=some (xs++ys):=
 ZkM (KB (Nat.mul_le_mul (show 2*(xs.length+ys.length)+1000<=2001000 by omega) hb) (by decide))
def iter{α β σ:Type}(g:Nat->α->σ->(σ->O β)->O β)(d:σ->O β):Nat->U α->σ->O β
 | _,[],s=>d s
 | i,x::l,s=>g i x s (fun s'=>iter g d (i+1) l s')
end Go.Lf
end
section
noncomputable section
namespace Go.Proofs.YtbnepjakjmnadaaGreat
open Go.Lf
section
section
variable{β γ:Type}
def ZgJ{body:γ->(γ->O β)->O β}{r:O β}(S:Nat->γ){n F:Nat}(hF:n<F)(hb:∀k,k<n->∀next,body (S k) next=next (S (k+1)))(he:∀next,body (S n) next=r):loop F body (S 0)=r:=by
 have:∀j F,j<=n->n-j<F->loop F body (S j)=r:=by
  intro j F hj hF;obtain⟨d,hd⟩:∃d,d=n-j:=⟨_,rfl⟩
  induction d generalizing j F with
  | zero=>
    have:j=n:=Vg
    subst this;cases F with
    | zero=>omega
    | succ F=>rw[Ya];exact he _
  | succ d ih=>
    cases F with
    | zero=>omega
    | succ F=>rw[Ya,hb j Vg];exact ih (j+1) F Vg Vg Vg
 exact this 0 F (Gv _) Vg
def Zjx{body:γ->(γ->O β)->O β}{r1 r2:O β}(S:Nat->γ)(c:Nat->Z){n F:Nat}(hF:n<F)(hb:∀k,k<n->∀next,body (S k) next=bif c k then r1 else next (S (k+1)))(he:∀next,body (S n) next=r2):loop F body (S 0)=bif(List.range n).any c then r1 else r2:=by
 cases h:(List.range n).any c with
 | false=>
   rw[List.any_eq_false]at h;refine ZgJ S hF (fun k hk next=>?_) he;have:=h k (GS.2 hk);rw[hb k hk,Gh.2 this];rfl
 | true=>
   have hex:∃k,k<n/\c k=true:=by
    obtain⟨k,h1,h2⟩:=GF.1 h;exact⟨k,GS.1 h1,h2⟩
   have hm:∃m,(m<n/\c m=true)/\∀k,k<m->c k=false:=by
    obtain⟨k,hk⟩:=hex
    induction k using Nat.strongRecOn with
    | _ k ih=>
      by_cases hz:∃j,j<k/\c j=true
      ·obtain⟨j,h1,h2⟩:=hz;exact ih j h1 ⟨by omega,h2⟩
      ·exact⟨k,hk,fun j hj=>Gh.2 fun q=>hz ⟨j,hj,q⟩⟩
   obtain⟨m,⟨h1,h2⟩,h3⟩:=hm;refine ZgJ S (n:=m) Vg (fun k hk next=>?_) (fun next=>?_)
   ·rw[hb k Vg,h3 k hk];rfl
   ·rw[hb m h1,h2];rfl
end
def ZmY{k:Nat}(h:k<4611686018427387904):XO ((k:Int)+1)=((k+1:Nat):Int):=ZxI h
def Jj{k:Nat}(h:k<9223372036854775807):XO ((k:Int)+1)=((k+1:Nat):Int):=by rw[ZiL Vg Vg];omega
def ZR{k n:Nat}(h:k<n):decide ((k:Int)<(n:Int))=true:=decide_eq_true Vg
def Z6(n:Nat):decide ((n:Int)<(n:Int))=false:=decide_eq_false Vg
def Jl{α:Type}{l:U α}{k:Nat}(h:k<l.length):YA l (k:Int)=some l[k]:=by rw[Zco,J0 h]
def app1{α:Type}{b:Nat}{l:U α}{x:α}(h:l.length<=900000)(hb:b<=1000):app b l [x]=some (l++[x]):=Ws (by simp;omega) hb
def Zfe{α:Type}[BEq α][LawfulBEq α](a:α):(a !=a)=false:=by simp
end
section
instance:LawfulBEq ByteArray where
 eq_of_beq {a b} h:=by
  cases a with|mk a=>cases b with|mk b=>
  have h:(a==b)=true:=h;rw[eq_of_beq h]
 rfl {a}:=by
  cases a with|mk a=>
  show(a==a)=true;simp
def kws:U Y:=[(⟨#[97,110,100]⟩:Y),(⟨#[100,101,102]⟩:Y),(⟨#[101,108,115,101]⟩:Y),(⟨#[103,111]⟩:Y),(⟨#[105,102]⟩:Y),(⟨#[105,110]⟩:Y),(⟨#[112,108,97,99,101]⟩:Y),(⟨#[115,116,111,112]⟩:Y),(⟨#[116,104,101,110]⟩:Y),(⟨#[119,97,116,99,104]⟩:Y)]
def ZmH(s:Y)(k:Nat):Z:=decide (((s.data.getD k 0).toNat:Int)<97)||decide (((s.data.getD k 0).toNat:Int)>122)
def Xi(s:Y):Z:=decide (0<s.size)&&decide (s.size<=8) && !((List.range s.size).any (ZmH s)) && !decide (s∈kws)
def ZCA{s:Y}{k:Nat}(h:k<s.size):ZlQ s (k:Int)=some ((s.data.getD k 0).toNat:Int):=by
 have hk:k<s.data.size:=h
 have e:s[((k:Int)).toNat]? =some (s.data[k]):=by
  rw[Int.toNat_natCast];show s.data[k]? =_;rw[GH hk]
 unfold ZlQ;rw[if_pos Vg,e,Q4,GH hk]
 rfl
def has_eq(F:Nat)(l:U Y)(s:Y)(h:l.length<F)(hl:l.length<4000000000000000000):ZdP F l s=some (decide (s∈l)):=by
 have:=Zjx (body:=Zg0 l s) (r1:=some true) (r2:=some false) (fun k:Nat=>(k:Int)) (fun k=>decide (l[k]? =some s)) (n:=l.length) h
  (fun k hk next=>by
    simp only[Zg0,ZR hk,Cq1,Jl hk,Bq0,ZmY (show k<4611686018427387904 by omega)];rw[J0 hk];simp)
  (fun next=>by simp[Zg0])
 rw[show ZdP F l s=loop F (Zg0 l s) 0 from rfl];rw[show(0:Int)=((0:Nat):Int) from rfl,this]
 have e:(List.range l.length).any (fun k=>decide (l[k]? =some s))=decide (s∈l):=by
  rw[GM,GF,decide_eq_true_iff]
  constructor
  ·rintro⟨k,_,hk⟩;rw[decide_eq_true_iff]at hk;exact GZ hk
  ·intro hm;obtain⟨k,hk,hs⟩:=List.getElem_of_mem hm;exact⟨k,GS.2 hk,by rw[decide_eq_true_iff,J0 hk,hs]⟩
 rw[e];cases decide (s∈l)<;>rfl
def setOf(l:U Y):U (Y×Z):=l.foldl (fun m s=>Yk m s true) []
def Zv0(l:U Y)(s:Y):(Zq (setOf l) s).getD false=decide (s∈l):=by
 have gen:∀(l:U Y)(m:U (Y×Z)),(Zq (l.foldl (fun m s=>Yk m s true) m) s).getD false=(decide (s∈l)||(Zq m s).getD false):=by
  intro l
  induction l with
  | nil=>intro m;simp
  | cons x l ih=>
    intro m;rw[Gq,ih,Wi];by_cases h:s=x
    ·subst h;simp
    ·rw[if_neg h];simp[h]
 have:=gen l [];unfold setOf;rw[this];simp[Zq,Z8]
def ZHA(s:Y):(ZAN.bind fun m=>(ZdL m s false).bind fun x=>some (!x))=some (!decide (s∈kws)):=by
 have e:ZAN=some (setOf kws):=rfl;rw[e];show some (!((Zq (setOf kws) s).getD false))=_;rw[Zv0]
def ZpL(F:Nat)(s:Y)(h:s.size<F)(hl:s.size<=9223372036854775807):ZfH F s=some (Xi s):=by
 have:=Zjx (body:=Zg1 s) (r1:=some false) (r2:=some (decide (0<s.size)&&decide (s.size<=8) && !decide (s∈kws))) (fun k:Nat=>(k:Int)) (ZmH s) (n:=s.size) h
  (fun k hk next=>by
    simp only[Zg1,ZR hk,Cq1,ZCA hk,Bq0,Jj (show k<9223372036854775807 by omega)];unfold ZmH;cases h1:decide (((s.data.getD k 0).toNat:Int)<97)<;>simp[gd])
  (fun next=>by
    simp only[Zg1,Z6,Cq0];rw[ZHA]
    have e1:decide ((s.size:Int)>0)=decide (0<s.size):=by
     by_cases hz:0<s.size
     ·rw[decide_eq_true hz,decide_eq_true Vg]
     ·rw[decide_eq_false hz,decide_eq_false Vg]
    have e2:decide ((s.size:Int)<=8)=decide (s.size<=8):=by
     by_cases hz:s.size<=8
     ·rw[decide_eq_true hz,decide_eq_true Vg]
     ·rw[decide_eq_false hz,decide_eq_false Vg]
    rw[e1,e2];cases (decide (0<s.size)&&decide (s.size<=8))<;>simp)
 show loop F (Zg1 s) ((0:Nat):Int)=_;rw[this];unfold Xi;cases (List.range s.size).any (ZmH s)<;>simp
def ZvT(xs:U Int):Y:=⟨(xs.map fun n=>UInt8.ofNat n.toNat).toArray⟩
def Zgs(xs:U Int):(ZvT xs).size=xs.length:=by
 show((xs.map fun n=>UInt8.ofNat n.toNat).toArray).size=_;simp
def ZLh{v:Nat}(h0:0<v)(h:v<=1000000):Zv3 (XO ((v:Int)-1)) 26=some (((v-1) % 26:Nat):Int):=by
 rw[Zo6 Vg h0];unfold Zv3;simp only[show((26:Int)==0)=false from rfl,Cq0];rw[show(26:Int)=((26:Nat):Int) from rfl,Int.ofNat_tmod]
def ZLi{v:Nat}(h0:0<v)(h:v<=1000000):Zv6 (XO ((v:Int)-1)) 26=some (((v-1) / 26:Nat):Int):=by
 rw[Zo6 Vg h0];unfold Zv6;simp only[show((26:Int)==0)=false from rfl,Cq0];rw[show(26:Int)=((26:Nat):Int) from rfl,<-Int.ofNat_tdiv,ZiL Vg Vg]
def ZKV{m:Nat}(h:m<26):IntKind.wrap .u8 (XO (97+(m:Int)))=((97+m:Nat):Int):=by
 rw[ZiL Vg Vg];unfold IntKind.wrap;have e1:(2 ^ IntKind.u8.bits:Int)=256:=by decide
 have e3:IntKind.u8.signed=false:=rfl;simp only[e1,e3];simp;omega
def ZIR{v:Nat}(h:0<v):decide ((v:Int)>0)=true:=decide_eq_true Vg
def bs(n:Nat):U Int:=if n<=26 then [((97+(n-1) % 26:Nat):Int)] else [((97+((n-1) / 26-1) % 26:Nat):Int),((97+(n-1) % 26:Nat):Int)]
def ZFE(n:Nat):n % 26<26:=Nat.mod_lt _ (by decide)
def ZCX:∀(n:Nat)(f:Nat->Nat),(∀i,i<=n->f i<n)->∃i j,i<j/\j<=n/\f i=f j:=by
 intro n
 induction n with
 | zero=>intro f h;exact absurd (h 0 Vh) (Nat.not_lt_zero _)
 | succ n ih=>
   intro f h;by_cases hz:∃i,i<=n/\f i=f (n+1)
   ·obtain⟨i,h1,h2⟩:=hz;exact⟨i,n+1,by omega,K1 _,h2⟩
   ·have hne:∀i,i<=n->f i≠f (n+1):=fun i hi q=>hz ⟨i,hi,q⟩
    have hl:=h (n+1) Vh
    obtain⟨i,j,h1,h2,h3⟩:=ih (fun i=>if f i<f (n+1) then f i else f i-1) (fun i hi=>by
     have:=h i Vg;have:=hne i hi;by_cases q:f i<f (n+1)
     ·rw[if_pos q];omega
     ·rw[if_neg q];omega)
    refine⟨i,j,h1,by omega,?_⟩;have a1:=hne i Vg;have a2:=hne j h2;by_cases q1:f i<f (n+1)<;>by_cases q2:f j<f (n+1)
    ·rwa[if_pos q1,if_pos q2]at h3
    ·rw[if_pos q1,if_neg q2]at h3;omega
    ·rw[if_neg q1,if_pos q2]at h3;omega
    ·rw[if_neg q1,if_neg q2]at h3;omega
def wl(n:Nat):U Int:=if h:n=0 then [] else wl ((n-1) / 26)++[((97+(n-1) % 26:Nat):Int)]
termination_by n
decreasing_by omega
def ZeW:wl 0=[]:=by rw[wl,dif_pos rfl]
def ZiK{n:Nat}(h:0<n):wl n=wl ((n-1) / 26)++[((97+(n-1) % 26:Nat):Int)]:=by rw[wl,dif_neg Vg]
def ZrY:∀(k n:Nat),n<26 ^ k->(wl n).length<=k:=by
 intro k
 induction k with
 | zero=>intro n h;have:n=0:=by simpa using h
         subst this;rw[ZeW];exact K1 _
 | succ k ih=>
   intro n h;by_cases h0:n=0
   ·subst h0;rw[ZeW];exact Gv _
   ·rw[ZiK Vg,K2,List.length_singleton];have:=ih ((n-1) / 26) (by rw[Nat.pow_succ]at h;omega);omega
def ZFc{n:Nat}(h:0<n):wl n≠[]:=by rw[ZiK h];simp
def ZrX:∀(n:Nat),∀x∈wl n,∃d:Nat,d<26/\x=((97+d:Nat):Int):=by
 intro n
 induction n using Nat.strongRecOn with
 | _ n ih=>
   intro x hx;by_cases h0:n=0
   ·subst h0;rw[ZeW]at hx;cases hx
   ·rw[ZiK Vg,Q1,Q2]at hx;rcases hx with hx|hx
    ·exact ih ((n-1) / 26) Vg x hx
    ·exact⟨_,ZFE _,hx⟩
def ZGX(s:Y):Nat:=s.data.toList.foldl (fun v c=>26*v+(c.toNat-96)) 0
def ZlO(l:U Int)(h:∀x∈l,∃d:Nat,d<26/\x=((97+d:Nat):Int)):ZGX (ZvT l)=l.foldl (fun v x=>26*v+(x.toNat-96)) 0:=by
 unfold ZGX ZvT;show((l.map fun n=>UInt8.ofNat n.toNat).toArray.toList).foldl _ 0=_;rw[List.foldl_map]
 have:∀(l:U Int)(v:Nat),(∀x∈l,∃d:Nat,d<26/\x=((97+d:Nat):Int))->l.foldl (fun v x=>26*v+((UInt8.ofNat x.toNat).toNat-96)) v=l.foldl (fun v x=>26*v+(x.toNat-96)) v:=by
  intro l
  induction l with
  | nil=>intro _ _;rfl
  | cons x l ih=>
    intro v h;obtain⟨d,hd,rfl⟩:=h x (by simp)
    have e:(UInt8.ofNat (((97+d:Nat):Int).toNat)).toNat=(((97+d:Nat):Int).toNat):=by
     rw[Int.toNat_natCast];simp only[UInt8.toNat_ofNat'];omega
    rw[Gq,Gq,e];exact ih _ fun y hy=>h y (Kf _ hy)
 exact this l 0 h
def ZxJ(n:Nat):(wl n).foldl (fun v x=>26*v+(x.toNat-96)) 0=n:=by
 induction n using Nat.strongRecOn with
 | _ n ih=>
   by_cases h0:n=0
   ·subst h0;rw[ZeW];rfl
   ·rw[ZiK Vg,List.foldl_append,ih ((n-1) / 26) Vg,Gq,List.foldl_nil,Int.toNat_natCast];omega
def Wn(k:Nat):Y:=ZvT (wl (k+1))
def ZKi{a b:Nat}(h:Wn a=Wn b):a=b:=by
 have e:=congrArg ZGX h;unfold Wn at e;rw[ZlO _ (ZrX _),ZlO _ (ZrX _),ZxJ,ZxJ]at e;omega
def Zvw{k:Nat}(h:k<1000000):(Wn k).size<=5:=by
 unfold Wn;rw[Zgs];exact ZrY 5 _ Vg
def ZKh(k:Nat):0<(Wn k).size:=by
 unfold Wn;rw[Zgs];exact List.length_pos_iff.2 (ZFc Vg)
def ZKj(k:Nat):((List.range (Wn k).size).any (ZmH (Wn k)))=false:=by
 rw[List.any_eq_false];intro i hi;have hi:=GS.1 hi;unfold Wn at hi;rw[Zgs]at hi;have hx:(wl (k+1))[i]∈wl (k+1):=GK hi;obtain⟨d,hd,e⟩:=ZrX _ _ hx
 have e2:(Wn k).data.getD i 0=UInt8.ofNat ((wl (k+1))[i]).toNat:=by
  unfold Wn ZvT;show(((wl (k+1)).map fun n=>UInt8.ofNat n.toNat).toArray).getD i 0=_;rw[Q4,List.getElem?_toArray,GN,J0 hi];rfl
 unfold ZmH;rw[e2,e,Int.toNat_natCast];have e3:(UInt8.ofNat (97+d)).toNat=97+d:=by simp only[UInt8.toNat_ofNat'];omega
 rw[e3,decide_eq_false Vg,decide_eq_false Vg];simp
def ZyL{k:Nat}(h:k<1000000):Xi (Wn k)= !decide (Wn k∈kws):=by
 unfold Xi;rw[ZKj,decide_eq_true (ZKh k),decide_eq_true (by have:=Zvw h;omega)];simp
def Zfw(l:U Y)(k:Nat):Z:=Xi (Wn k) && !decide (Wn k∈l)
def ZDe:kws.length=10:=rfl
def Zob{l:U Y}(hl:l.length<=900000):∃k,k<l.length+11/\Zfw l k=true:=by
 apply Classical.byContradiction;intro hno
 have hall:∀k,k<l.length+11->Wn k∈kws++l:=by
  intro k hk;rw[Q1];by_cases h1:Wn k∈kws
  ·exact .inl h1
  ·refine .inr (Classical.byContradiction fun hm=>hno ⟨k,hk,?_⟩);unfold Zfw;rw[ZyL Vg,decide_eq_false h1,decide_eq_false hm];rfl
 have hL:(kws++l).length=l.length+10:=by rw[K2,ZDe];omega
 have hidx:∀k,k<l.length+11->∃i,i<l.length+10/\(kws++l)[i]? =some (Wn k):=fun k hk=>by
  obtain⟨i,h1,h2⟩:=List.getElem_of_mem (hall k hk);exact⟨i,by omega,by rw[J0 h1,h2]⟩
 obtain⟨i,j,h1,h2,h3⟩:=ZCX (l.length+10) (fun k=>if h:k<l.length+11 then(hidx k h).choose else 0) (fun i hi=>by
  have h:i<l.length+11:=Vg
  show(if h:i<l.length+11 then(hidx i h).choose else 0)<_;rw[dif_pos h];exact(hidx i h).choose_spec.1)
 have hi:i<l.length+11:=Vg
 have hj:j<l.length+11:=Vg
 simp only[dif_pos hi,dif_pos hj]at h3;have e1:=(hidx i hi).choose_spec.2;have e2:=(hidx j hj).choose_spec.2;rw[h3,e2]at e1;have:=ZKi (Oi0 e1);omega
def Jm(l:U Y):Y:=Wn (((List.range (l.length+11)).find? (Zfw l)).getD 0)
def ZhI{l:U Y}(hl:l.length<=900000):∃m,m<l.length+11/\Zfw l m=true/\(∀k,k<m->Zfw l k=false)/\Jm l=Wn m:=by
 obtain⟨k,hk,hf⟩:=Zob hl;cases e:(List.range (l.length+11)).find? (Zfw l) with
 | none=>
   rw[List.find?_eq_none]at e;exact absurd hf (e k (GS.2 hk))
 | some m=>
   have e':=e;rw[List.find?_range_eq_some]at e';obtain⟨h1,h2,h3⟩:=e';exact⟨m,GS.1 h2,h1,fun j hj=>by have:=h3 j hj;simpa using this,by unfold Jm;rw[e];rfl⟩
def ZhJ{l:U Y}(hl:l.length<=900000):Xi (Jm l)=true/\Jm l∉l:=by
 obtain⟨m,_,h,_,e⟩:=ZhI hl;rw[e];unfold Zfw at h;rw[Ba0,Bool.not_eq_true',decide_eq_false_iff_not]at h;exact h
def ZyY{β:Type}{body:U Int×Int->(U Int×Int->O β)->O β}{r:O β}{n:Nat}(h2:n<=1000000)
 (hs:∀(b:U Int)(v:Nat),b.length<=5->0<v->v<=1000000->∀next,body (b,(v:Int)) next=next (((97+(v-1) % 26:Nat):Int)::b,(((v-1) / 26:Nat):Int)))
 (he:∀next,body (wl n,0) next=r) {F:Nat} (hF:6<=F):loop F body ([],(n:Int))=r:=by
 have key:∀(F v:Nat)(b:U Int),v<=1000000->wl v++b=wl n->(wl v).length<F->loop F body (b,(v:Int))=r:=by
  intro F
  induction F with
  | zero=>intro v b _ _ h;omega
  | succ F ih=>
    intro v b hv hw hl;rw[Ya];by_cases h0:v=0
    ·subst h0;rw[ZeW,Ge]at hw;subst hw;exact he _
    ·have hb:b.length<=5:=by
      have:=congrArg List.length hw;rw[K2]at this;have:=ZrY 5 n Vg;omega
     rw[hs b v hb Vg hv];rw[ZiK Vg]at hw hl;rw[K2,List.length_singleton]at hl;exact ih _ _ Vg (by rw[<-hw];simp) Vg
 exact key F n [] h2 (by simp) (by have:=ZrY 5 n Vg;omega)
def ZCz{n:Nat}(h:0<n):ZG8 (wl n)=some (ZvT (wl n)):=by
 cases e:wl n with
 | nil=>exact absurd e (ZFc h)
 | cons x l=>rfl
def Zjc{F:Nat}{l:U Y}{m:U (Y×Z)}(hm:∀x,(Zq m x).getD false=decide (x∈l))(hF:1000<=F)(k:Nat)(hk:k<999000)(next:Int×Y×Z->O Y):
 Zn2 F m (((k+1:Nat):Int),⟨#[]⟩,false) next=bif Zfw l k then some (Wn k) else next (((k+2:Nat):Int),⟨#[]⟩,false):=by
 have hz:=Zvw (k:=k) Vg;show loop F (Zkh F m ((k+1:Nat):Int) ⟨#[]⟩ false next) ([],((k+1:Nat):Int))=_;refine ZyY Vg (fun b v hb h0 h1 nx=>?_) (fun nx=>?_) Vg
 ·simp only[Zkh,ZIR h0,Cq1,ZLh h0 Vg,ZLi h0 Vg,Bq0,ZKV (ZFE _)];rw[ZkM (by simp;omega)]
  rfl
 ·simp only[Zkh];rw[show decide ((0:Int)>0)=false from rfl,Cq0,ZCz Vg,Bq0,Cq0];show(ZfH F (Wn k)).bind _=_;rw[ZpL F (Wn k) Vg Vg,Bq0];show(gd (Xi (Wn k)) (some ((Zq m (Wn k)).getD false)) default).bind _=_;rw[hm,ZmY Vg];unfold Zfw;cases Xi (Wn k)
  ·rfl
  ·cases decide (Wn k∈l)<;>rfl
def ZAz{F:Nat}{l:U Y}{m:U (Y×Z)}(hm:∀x,(Zq m x).getD false=decide (x∈l))(hF:1000000<=F)(hl:l.length<=900000):ZAM F m=some (Jm l):=by
 obtain⟨j,h1,h2,h3,e⟩:=ZhI hl;rw[e];refine ZgJ (body:=Zn2 F m) (S:=fun k=>(((k+1:Nat):Int),(⟨#[]⟩:Y),false)) (n:=j) Vg (fun k hk next=>?_) (fun next=>?_)
 ·rw[Zjc hm Vg k Vg,h3 k hk];rfl
 ·rw[Zjc hm Vg j Vg,h2];rfl
end
section
def ZJ:Part->U Part
 | .pr t=>t.args.map .ex++t.qK.map .cl++t.qQ.map .pr
 | .ex e=>e.qQ.map .ex
 | .cl c=>c.qK.map .cl++c.qQ.map .pr
def pz:Part->Nat
 | .pr t=>SizeOf.sizeOf t
 | .ex e=>SizeOf.sizeOf e
 | .cl c=>SizeOf.sizeOf c
def UK{k p:Part}(h:k∈ZJ p):pz k<pz p:=by
 cases p with
 | pr t=>
   obtain⟨op,tx,ags,ds,ks⟩:=t;simp only[ZJ,Q1,G5]at h;rcases h with(⟨x,hx,rfl⟩|⟨x,hx,rfl⟩) | ⟨x,hx,rfl⟩<;>(have:=List.sizeOf_lt_of_mem hx;simp only[pz,Term.mk.sizeOf_spec];omega)
 | ex e=>
   obtain⟨op,n,tx,ks⟩:=e;simp only[ZJ,G5]at h;obtain⟨x,hx,rfl⟩:=h;have:=List.sizeOf_lt_of_mem hx;simp only[pz,Ze.mk.sizeOf_spec];omega
 | cl c=>
   obtain⟨fm,tx,js,ds,ks⟩:=c;simp only[ZJ,Q1,G5]at h;rcases h with⟨x,hx,rfl⟩|⟨x,hx,rfl⟩<;>(have:=List.sizeOf_lt_of_mem hx;simp only[pz,Za.mk.sizeOf_spec];omega)
def KZ{P:Part->Prop}(h:∀p,(∀k∈ZJ p,P k)->P p)(p:Part):P p:=by
 have:∀n p,pz p<n->P p:=by
  intro n
  induction n with
  | zero=>intro p hp;omega
  | succ n ih=>intro p hp;exact h p fun k hk=>ih k (by have:=UK hk;omega)
 exact this _ p (Nat.lt_succ_self _)
def Uw{α β:Type}(l:U α)(f:α->U β):(l.attach.flatMap fun k=>f k.1)=l.flatMap f:=by
 conv=>rhs;rw[<-List.attach_map_subtype_val l]
 rw[List.flatMap_map]
def attach_map{α β:Type}(l:U α)(f:α->β):(l.attach.map fun k=>f k.1)=l.map f:=by
 conv=>rhs;rw[<-List.attach_map_subtype_val l]
 rw[Gt];rfl
def pre(p:Part):U Part:=p::(ZJ p).attach.flatMap fun k=>pre k.1
termination_by pz p
decreasing_by exact UK k.2
def pre_eq(p:Part):pre p=p::(ZJ p).flatMap pre:=by rw[pre,Uw (ZJ p) pre]
def ZpP(l:U Nat):Nat:=l.foldr max 0
def dep(p:Part):Nat:=ZpP ((ZJ p).attach.map fun k=>dep k.1)+1
termination_by pz p
decreasing_by exact UK k.2
def ZA5(p:Part):dep p=ZpP ((ZJ p).map dep)+1:=by rw[dep,attach_map (ZJ p) dep]
def Zl5(x:Nat)(l:U Nat):ZpP (x::l)=max x (ZpP l):=rfl
def JL(p:Part):(pre p).length=((ZJ p).flatMap pre).length+1:=by rw[pre_eq];rfl
def Xk(p:Part):1<=(pre p).length:=by rw[JL];omega
def WJ{k:Part}{l:U Part}(h:k∈l):(pre k).length<=(l.flatMap pre).length:=by
 induction l with
 | nil=>cases h
 | cons x l ih=>
   rw[Ks,K2];rcases Kd.1 h with rfl|h
   ·omega
   ·have:=ih h;omega
def YI{k p:Part}(h:k∈ZJ p):(pre k).length<(pre p).length:=by
 have:=WJ h;rw[JL p];omega
def Zaz(l:U Part):l.length<=(l.flatMap pre).length:=by
 induction l with
 | nil=>simp
 | cons x l ih=>rw[Ks,K2,KK];have:=Xk x;omega
def Za0(p:Part):(ZJ p).length<(pre p).length:=by
 have:=Zaz (ZJ p);rw[JL p];omega
def ZJD(p:Part):dep p<=(pre p).length:=by
 induction p using KZ with
 | h p ih=>
   rw[ZA5,JL]
   have:∀l:U Part,(∀k∈l,dep k<=(pre k).length)->ZpP (l.map dep)<=(l.flatMap pre).length:=by
    intro l
    induction l with
    | nil=>intro _;simp[ZpP]
    | cons x l ihl=>
      intro h;rw[Gd,Zl5,Ks,K2];have h1:=h x (by simp);have h2:=ihl fun k hk=>h k (Kf _ hk)
      omega
   have:=this _ ih;omega
def YL{x k p:Part}(hk:k∈ZJ p)(hx:x∈pre k):x∈pre p:=by
 rw[pre_eq p];exact Kf _ (Q3.2 ⟨k,hk,hx⟩)
def Y4(p:Part):p∈pre p:=by rw[pre_eq];exact Gm
def Yt{α σ β γ:Type}{body:γ->(γ->O β)->O β}(st:Nat->σ->γ)(l:U α)(Pre:U α->σ->Prop)(run:U α->σ->O β)
 (h0:∀s nx,Pre [] s->body (st l.length s) nx=run [] s)
 (h1:∀(k:Nat) x rest s nx,x∈l->k<l.length->YA l (k:Int)=some x->Pre (x::rest) s->(∀s',Pre rest s'->nx (st (k+1) s')=run rest s')->body (st k s) nx=run (x::rest) s) {F:Nat} (hF:l.length<F) (s:σ) (hp:Pre l s):loop F body (st 0 s)=run l s:=by
 have key:∀(d j F:Nat)(s:σ),j+d=l.length->d<F->Pre (l.drop j) s->loop F body (st j s)=run (l.drop j) s:=by
  intro d
  induction d with
  | zero=>
    intro j F s hj hF hp;obtain⟨F,rfl⟩:∃G,F=G+1:=⟨F-1,by omega⟩
    obtain rfl:j=l.length:=Vg
    rw[List.drop_length]at hp ⊢;rw[Ya,h0 _ _ hp]
  | succ d ih=>
    intro j F s hj hF hp;obtain⟨F,rfl⟩:∃G,F=G+1:=⟨F-1,by omega⟩
    have hjl:j<l.length:=Vg
    rw[List.drop_eq_getElem_cons hjl]at hp ⊢;rw[Ya];exact h1 j _ _ s _ (GK hjl) hjl (Jl hjl) hp fun s' hp'=>ih (j+1) F s' Vg Vg hp'
 have:=key l.length 0 F s Vg hF (by simpa using hp)
 simpa using this
abbrev E0:Y:=⟨#[]⟩
def BB:Nat:=9223372036854775807
def KW(e:Ze):Z:=
 bif e.op==1 then decide (e.n >=-1000000000)&&decide (e.n<=1000000000)&&decide (e.qJ=E0)&&(e.qQ.length==0)
 else bif e.op==2 then Xi e.qJ&&(e.n==0)&&(e.qQ.length==0)
 else decide (e.op >=3)&&decide (e.op<=7)&&decide (e.qJ=E0)&&(e.n==0)&&(e.qQ.length==2)
def szs(t:Term)(a d k:Nat):Z:=(t.args.length==a)&&(t.qK.length==d)&&(t.qQ.length==k)
def ZdI(t:Term):Z:=
 (bif(t.op==1)||(t.op==7) then szs t 0 0 0
  else bif t.op==2 then decide (t.args.length<=3)&&szs t t.args.length 0 0
  else bif t.op==3 then szs t 0 0 2
  else bif t.op==4 then decide (0<t.qK.length)&&decide (t.qK.length<=5)&&szs t 0 t.qK.length 1
  else bif t.op==5 then szs t 1 0 2
  else((t.op==6)||(t.op==8))&&szs t 0 0 1) &&
 (bif((t.op==2)||(t.op==6))||(t.op==8) then Xi t.qJ else decide (t.qJ=E0))
def nWb(hn:Y->Z):U Y->Z
 | []=>true
 | x::xs=>(Xi x && !hn x)&&nWb (fun s=>hn s||decide (s=x)) xs
def jW(ht hn:Y->Z):U YJ->Z
 | []=>true
 | m::js=>(Xi m.qJ && !ht m.qJ&&decide (m.names.length<=3))&&(nWb hn m.names&&jW (fun s=>ht s||decide (s=m.qJ)) (fun s=>hn s||decide (s∈m.names)) js)
def Zak(c:Za):Z:=
 (c.qQ.length==1)&&(bif c.qV==2 then Xi c.qJ&&(c.qG.length==0)&&decide (c.qK.length<=5)
 else(c.qV==1)&&decide (c.qJ=E0)&&(c.qK.length==0)&&decide (0<c.qG.length)&&decide (c.qG.length<=3)&&jW (fun _=>false) (fun _=>false) c.qG)
def Uo:Part->Z
 | .pr t=>ZdI t
 | .ex e=>KW e
 | .cl c=>Zak c
def Loc:Part->Prop
 | .pr t=>t.qJ.size<=BB/\t.args.length<=BB/\t.qK.length<=BB/\t.qQ.length<=BB
 | .ex e=>e.qJ.size<=BB/\e.qQ.length<=BB
 | .cl c=>c.qJ.size<=BB/\c.qG.length<=BB/\c.qK.length<=BB/\c.qQ.length<=BB/\∀m∈c.qG,m.qJ.size<=BB/\m.names.length<=BB/\∀s∈m.names,s.size<=BB
def BS:Nat:=1048576
def Lo(p:Part):Prop:=∀x∈pre p,Loc x
def Sm(p:Part):Prop:=(pre p).length<=BS/\Lo p
def Lo.kid{k p:Part}(h:Lo p)(hk:k∈ZJ p):Lo k:=fun x hx=>h x (YL hk hx)
def Lo.loc{p:Part}(h:Lo p):Loc p:=h p (Y4 p)
def Sm.kid{k p:Part}(h:Sm p)(hk:k∈ZJ p):Sm k:=⟨by have:=YI hk;have:=h.1;omega,fun x hx=>h.2 x (YL hk hx)⟩
def Jo(b:Z):JH b=some (bif b then .ok () else .ZX 2):=by cases b<;>rfl
def ZaE(a b:Nat):((a:Int)==(b:Int))=(a==b):=by rw[GM,beq_iff_eq,beq_iff_eq];omega
def Zud{α β:Type}{e:Int}{p:Int->O β}{k:α->O β}:Jp (.ZX e) p k=p e:=rfl
def nameP{F:Nat}(hF:10000000000000000000<=F){s:Y}(h:s.size<=BB):ZfH F s=some (Xi s):=ZpL F s (by unfold BB at h;omega) (by unfold BB at h;omega)
def Zpl{F:Nat}(hF:10000000000000000000<=F)(e:Ze)(h:Loc (.ex e)):Zmv F e=some (bif KW e then .ok () else .ZX 2):=by
 obtain⟨op,n,tx,ks⟩:=e;have hn:=nameP hF h.1;dsimp only at hn;have h2:((ks.length:Int)==2)=(ks.length==2):=ZaE _ 2;have h0:((ks.length:Int)==0)=(ks.length==0):=ZaE _ 0;have hc:op=1\/op=2\/op=3\/op=4\/op=5\/op=6\/op=7\/op<1\/7<op:=Vg
 unfold Zmv KW;dsimp only
 have j:∀op:Int,Ky ⟨op,n,tx,ks⟩ true=some (bif decide (tx=E0)&&(n==0)&&(ks.length==2) then .ok () else .ZX 2):=fun op=>by
  simp only[Ky,Cq1,Jo,h2,Bq0];cases (decide (tx=E0)&&(n==0)&&(ks.length==2))<;>rfl
 rcases hc with rfl|rfl|rfl|rfl|rfl|rfl|rfl|hc
 ·simp only[Jo,h0,Bq0];cases (decide (n >=-1000000000)&&decide (n<=1000000000)&&decide (tx=E0)&&(ks.length==0))<;>rfl
 ·show(ZfH F tx).bind _=some (bif(Xi tx&&(n==0)&&(ks.length==0)) then _ else _);rw[hn];simp only[Jo,h0,Bq0];cases (Xi tx&&(n==0)&&(ks.length==0))<;>rfl
 ·exact j 3
 ·exact j 4
 ·exact j 5
 ·exact j 6
 ·exact j 7
 have e1:(op==1)=false:=by simp;omega
 have e2:(op==2)=false:=by simp;omega
 have e3:(op==3)=false:=by simp;omega
 have e4:(op==4)=false:=by simp;omega
 have e5:(op==5)=false:=by simp;omega
 have e6:(op==6)=false:=by simp;omega
 have e7:(op==7)=false:=by simp;omega
 have e8:(decide (op >=3)&&decide (op<=7))=false:=by
  rcases hc with hc|hc
  ·rw[decide_eq_false (show ¬ op >=3 by omega)];rfl
  ·rw[decide_eq_false (show ¬ op<=7 by omega)];simp
 rw[e1,e2,e3,e4,e5,e6,e7,e8]
 rfl
def ZaP(t:Term)(a d k:Nat):Km t (a:Int) (d:Int) (k:Int)=some (bif szs t a d k then .ok () else .ZX 2):=by
 unfold Km szs;rw[Jo,ZaE,ZaE,ZaE,Bq0];cases ((t.args.length==a)&&(t.qK.length==d)&&(t.qQ.length==k))<;>rfl
def ZCw{F:Nat}(hF:10000000000000000000<=F)(t:Term)(h:t.qJ.size<=BB):(UO F t) ()=some (bif(bif((t.op==2)||(t.op==6))||(t.op==8) then Xi t.qJ else decide (t.qJ=E0)) then .ok () else .ZX 2):=by
 unfold UO Zdr;rw[nameP hF h];simp only[Jo,Bq0,E0];cases t.op==2<;>cases t.op==6<;>cases t.op==8<;>cases Xi t.qJ<;>cases decide (t.qJ=(⟨#[]⟩:Y))<;>rfl
def seq2{a b:Z}:(Jp (bif a then PR.ok () else PR.ZX 2) (fun e=>some (.ZX e)) (fun _=>some (bif b then PR.ok () else PR.ZX 2)):O (PR Unit))=some (bif a&&b then .ok () else .ZX 2):=by cases a<;>rfl
def ZK9{a b:Z}:(Jp (bif a then PR.ok () else PR.ZX 2) (fun _=>some (.ZX 2)) (fun _=>some (bif b then PR.ok () else PR.ZX 2)):O (PR Unit))=some (bif a&&b then .ok () else .ZX 2):=by cases a<;>rfl
def ZhY{F:Nat}(hF:10000000000000000000<=F)(t:Term)(h:Loc (.pr t)):Zmw F t=some (bif ZdI t then .ok () else .ZX 2):=by
 have ht:=ZCw hF t h.1
 have hg:decide ((t.args.length:Int)<=3)=decide (t.args.length<=3):=by
  by_cases z:t.args.length<=3
  ·rw[decide_eq_true z,decide_eq_true Vg]
  ·rw[decide_eq_false z,decide_eq_false Vg]
 have hd1:decide ((t.qK.length:Int)>0)=decide (0<t.qK.length):=by
  by_cases z:0<t.qK.length
  ·rw[decide_eq_true z,decide_eq_true Vg]
  ·rw[decide_eq_false z,decide_eq_false Vg]
 have hd5:decide ((t.qK.length:Int)<=5)=decide (t.qK.length<=5):=by
  by_cases z:t.qK.length<=5
  ·rw[decide_eq_true z,decide_eq_true Vg]
  ·rw[decide_eq_false z,decide_eq_false Vg]
 have ZQg:Km t 0 0 0=_:=ZaP t 0 0 0;have ZQf:Km t 0 0 1=_:=ZaP t 0 0 1;have ZQe:Km t 0 0 2=_:=ZaP t 0 0 2;have ZQd:Km t 1 0 2=_:=ZaP t 1 0 2;have sa:Km t t.args.length 0 0=_:=ZaP t t.args.length 0 0;have sd:Km t 0 t.qK.length 1=_:=ZaP t 0 t.qK.length 1
 have j2:∀b,(Zdq F t) b=some (bif(bif b then szs t 0 0 0
  else bif t.op==2 then decide (t.args.length<=3)&&szs t t.args.length 0 0
  else bif t.op==3 then szs t 0 0 2
  else bif t.op==4 then decide (0<t.qK.length)&&decide (t.qK.length<=5)&&szs t 0 t.qK.length 1
  else bif t.op==5 then szs t 1 0 2
  else((t.op==6)||(t.op==8))&&szs t 0 0 1) &&
 (bif((t.op==2)||(t.op==6))||(t.op==8) then Xi t.qJ else decide (t.qJ=E0)) then .ok () else .ZX 2):=by
   intro b;unfold Zdq ZfM;simp only[Jo,ZQg,ZQf,ZQe,ZQd,sa,sd,Bq0,hg,hd1,hd5,ht,seq2,ZqD];cases b<;>cases t.op==2<;>cases t.op==3<;>cases t.op==4<;>cases t.op==5<;>cases t.op==6<;>cases t.op==8<;>simp only[Cq1,Cq0,Bool.true_or,Bool.or_true,Bool.or_false,Bool.false_or,GG,Bool.false_and,Zud,seq2,ZK9,Bool.and_assoc]
 unfold Zmw ZdI;rw[j2,j2];cases t.op==1<;>cases t.op==7<;>rfl
def has(m:U (Y×Z)):Y->Z:=fun s=>(Zq m s).getD false
def Za3(m:U (Y×Z))(x:Y):has (Yk m x true)=fun s=>has m s||decide (s=x):=by
 funext s;unfold has;rw[Wi];by_cases h:s=x
 ·subst h;simp
 ·rw[if_neg h];simp[h]
def WZ(m:U (Y×Z))(l:U Y):U (Y×Z):=l.foldl (fun m s=>Yk m s true) m
def ZjK(l:U Y):∀m,has (WZ m l)=fun s=>has m s||decide (s∈l):=by
 induction l with
 | nil=>intro m;funext s;simp[WZ]
 | cons x l ih=>
   intro m;have:WZ m (x::l)=WZ (Yk m x true) l:=rfl;rw[this,ih,Za3];funext s;by_cases h1:s=x<;>by_cases h2:s∈l<;>simp[h1,h2]
def ZnR:has []=fun _=>false:=by funext s;rfl
def Zce(m:U (Y×Z))(x:Y):ZdL m x false=some (has m x):=rfl
def Ze6{β:Type}{b:Z}{p:Int->O β}{k:Unit->O β}:Jp (bif b then PR.ok () else PR.ZX 2) p k=bif b then k () else p 2:=by cases b<;>rfl
def le3(n:Nat):decide ((n:Int)<=3)=decide (n<=3):=by
 by_cases z:n<=3
 ·rw[decide_eq_true z,decide_eq_true Vg]
 ·rw[decide_eq_false z,decide_eq_false Vg]
def gt0(n:Nat):decide ((n:Int)>0)=decide (0<n):=by
 by_cases z:0<n
 ·rw[decide_eq_true z,decide_eq_true Vg]
 ·rw[decide_eq_false z,decide_eq_false Vg]
def le5(n:Nat):decide ((n:Int)<=5)=decide (n<=5):=by
 by_cases z:n<=5
 ·rw[decide_eq_true z,decide_eq_true Vg]
 ·rw[decide_eq_false z,decide_eq_false Vg]
def Zsu{F:Nat}(hF:10000000000000000000<=F)(k:Int)(m1:U (Y×Z))(nx:Int×(U (Y×Z))×(U (Y×Z))->O (PR Unit))(x:YJ)(hx:x.names.length<=BB)(hs:∀s∈x.names,s.size<=BB)(m:U (Y×Z)):
 loop F (ZfK F k m1 nx x) (0,m)=bif nWb (has m) x.names then nx (XO (k+1),Yk m1 x.qJ true,WZ m x.names) else some (.ZX 2):=by
 refine Yt (fun(k:Nat)(m:U (Y×Z))=>((k:Int),m)) x.names (fun _ _=>True) (fun rest m=>bif nWb (has m) rest then nx (XO (k+1),Yk m1 x.qJ true,WZ m rest) else some (.ZX 2)) ?_ ?_ (by unfold BB at hx;omega) m trivial
 ·intro s nx' _;simp only[ZfK,Z6,Cq0];rfl
 ·intro j y rest s nx' hy hj hg _ ih;simp only[ZfK,ZR hj,Cq1,hg,Bq0,nameP hF (hs y hy),Jo,Ze6,Zce];rw[Jj (by unfold BB at hx;omega)];simp only[ih _ trivial,nWb,Za3];cases hn:Xi y
  ·simp[gd]
  ·cases hh:has s y
   ·simp only[Ziq,Bq0,GA,GG,Cq1];rfl
   ·simp[gd]
  all_goals omega
def ZsD{F:Nat}(hF:10000000000000000000<=F)(c:Za)(h:Loc (.cl c)):(ZfJ F c) ()=some (bif jW (fun _=>false) (fun _=>false) c.qG then .ok () else .ZX 2):=by
 obtain⟨h1,h2,h3,h4,h5⟩:=h;have:=Yt (body:=ZfL F c) (fun(k:Nat)(m:U (Y×Z)×U (Y×Z))=>((k:Int),m.1,m.2)) c.qG (fun _ _=>True) (fun rest m=>some (bif jW (has m.1) (has m.2) rest then PR.ok () else .ZX 2)) (F:=F) ?_ ?_ (by unfold BB at h2;omega) ([],[]) trivial
 ·rw[ZnR]at this;exact this
 ·intro s nx' _;simp only[ZfL,Z6,Cq0];rfl
 ·intro j y rest s nx' hy hj hg _ ih;obtain⟨q1,q2,q3⟩:=h5 y hy;simp only[ZfL,ZR hj,Cq1,hg,Bq0,nameP hF q1,Jo,Ze6,Zce,le3,Zsu hF _ _ _ y q2 q3];rw[Jj (by unfold BB at h2;omega)];have ih':=fun a b=>ih (a,b) trivial
  simp only at ih';simp only[ih',jW,Za3,ZjK];cases hn:Xi y.qJ
  ·simp[gd]
  ·cases hh:has s.1 y.qJ
   ·simp only[Ziq,Bq0,GA,GG,Cq1];cases decide (y.names.length<=3)<;>cases nWb (has s.2) y.names<;>rfl
   ·simp[gd]
def ZiZ{F:Nat}(hF:10000000000000000000<=F)(c:Za)(h:Loc (.cl c)):Zmu F c=some (bif Zak c then .ok () else .ZX 2):=by
 have hj:=ZsD hF c h;obtain⟨h1,h2,h3,h4,h5⟩:=h;have e0:((c.qG.length:Int)==0)=(c.qG.length==0):=ZaE _ 0;have e1:((c.qQ.length:Int)==1)=(c.qQ.length==1):=ZaE _ 1;have e2:((c.qK.length:Int)==0)=(c.qK.length==0):=ZaE _ 0;unfold Zmu Zak;simp only[Jo,Bq0,Ze6,hj,nameP hF h1,e0,e1,e2,le5,le3,gt0,ZqD,Zud];cases c.qQ.length==1
 ·rfl
 ·by_cases f2:c.qV=2
  ·rw[f2];simp only[Int.reduceBEq,Cq1,GG];cases (Xi c.qJ&&(c.qG.length==0)&&decide (c.qK.length<=5))<;>rfl
  ·have:(c.qV==2)=false:=by simpa using f2
   rw[this];cases c.qV==1<;>cases (decide (c.qJ=E0))<;>cases (c.qK.length==0)<;>cases (decide (0<c.qG.length))<;>cases (decide (c.qG.length<=3))<;>cases (jW (fun _=>false) (fun _=>false) c.qG)<;>rfl
def Zx9{F:Nat}(hF:10000000000000000000<=F)(p:Part)(h:Loc p):ZqO F p=some (bif Uo p then .ok () else .ZX 2):=by
 unfold ZqO;cases p with
 | pr t=>
   show(Zmw F t).bind _=_;rw[ZhY hF t h];show Jp _ _ _=some (bif ZdI t then _ else _);cases ZdI t<;>rfl
 | ex e=>
   show(Zmv F e).bind _=_;rw[Zpl hF e h];show Jp _ _ _=some (bif KW e then _ else _);cases KW e<;>rfl
 | cl c=>
   show(Zmu F c).bind _=_;rw[ZiZ hF c h];show Jp _ _ _=some (bif Zak c then _ else _);cases Zak c<;>rfl
abbrev NDB:=Nat×Nat×Z
def ZK5(s:Z×Nat×Nat)(r:NDB):Z×Nat×Nat:=(s.1&&r.2.2,s.2.1+r.1,max s.2.2 r.2.1)
def ZR5(s:Z×Nat×Nat):NDB:=(s.2.1,s.2.2+1,s.1)
def R(p:Part):NDB:=bif Uo p then ZR5 (((ZJ p).attach.map fun k=>R k.1).foldl ZK5 (true,1,0)) else(1,1,false)
termination_by pz p
decreasing_by exact UK k.2
def Zhx{x p:Part}(h:x∈pre p):(pre x).length<=(pre p).length:=by
 induction p using KZ with
 | h p ih=>
   rw[pre_eq p]at h;rcases Kd.1 h with rfl|h
   ·exact K1 _
   ·obtain⟨k,hk,hx⟩:=Q3.1 h;have:=ih k hk hx;have:=YI hk;omega
def ZaG{x y p:Part}(h:x∈pre y)(hy:y∈pre p):x∈pre p:=by
 induction p using KZ with
 | h p ih=>
   rw[pre_eq p]at hy;rcases Kd.1 hy with rfl|hy
   ·exact h
   ·obtain⟨k,hk,hyk⟩:=Q3.1 hy;exact YL hk (ih k hk hyk)
def out(r:NDB):Int×Int×Z:=((r.1:Int),(r.2.1:Int),r.2.2)
def ZC9(a b:Nat){i:Decidable ((b:Int)>(a:Int))}:@ite Int ((b:Int)>(a:Int)) i (b:Int) (a:Int)=((max a b:Nat):Int):=by
 by_cases h:b>a
 ·rw[if_pos Vg,Nat.max_eq_right Vg]
 ·rw[if_neg Vg,Nat.max_eq_left Vg]
def Qz{e x:Ze}(h:x∈e.qQ):Part.ex x∈ZJ (.ex e):=Gl h
def WH{t:Term}{x:Ze}(h:x∈t.args):Part.ex x∈ZJ (.pr t):=Gu _ (Gu _ (Gl h))
def QA{t:Term}{x:Za}(h:x∈t.qK):Part.cl x∈ZJ (.pr t):=Gu _ (Gg _ (Gl h))
def Qa{t x:Term}(h:x∈t.qQ):Part.pr x∈ZJ (.pr t):=Gg _ (Gl h)
def Xn{c x:Za}(h:x∈c.qK):Part.cl x∈ZJ (.cl c):=Gu _ (Gl h)
def Xe{c:Za}{x:Term}(h:x∈c.qQ):Part.pr x∈ZJ (.cl c):=Gg _ (Gl h)
def ZSU{α:Type}{b:Nat}{l:U α}{x:α}(h:l.length<=4000000)(hb:b<=1000):app b l [x]=some (l++[x]):=by
 refine ZkM ?_;have:(2*(l.length + [x].length)+1000)*b<=8001002*1000:=Nat.mul_le_mul (by simp;omega) hb;have e:(2:Nat) ^ 47=140737488355328:=by decide
 rw[e];omega
def Zfj{α γ:Type}{body:U γ×Int->(U γ×Int->O (U γ))->O (U γ)}(l:U α)(c:α->γ)(fin:U γ->O (U γ))(hl:l.length<=BS)(b:Nat)(hb:b<=1000)
 (h:∀s (k:Int) nx,body (s,k) nx=bif decide (k<(l.length:Int)) then(YA l k).bind fun x=>(app b s [c x]).bind fun z=>nx (z,XO (k+1)) else fin s) {F:Nat} (hF:10000000000000000000<=F) (s:U γ) (hs:s.length<=2500000):loop F body (s,0)=fin (s++l.map c):=by
 unfold BS at hl;refine Yt (fun(k:Nat)(s:U γ)=>(s,(k:Int))) l (fun rest s=>s.length+rest.length<=3600000) (fun rest s=>fin (s++rest.map c)) ?_ ?_ Vg s Vg
 ·intro s nx _;rw[h,Z6,Cq0];simp
 ·intro k x rest s nx hx hk hg hp ih;have hp':s.length+rest.length+1<=3600000:=by have:=hp;simp only[KK]at this;omega
  show body (s,(k:Int)) nx=_;rw[h,ZR hk,Cq1,hg,Bq0,ZSU Vg hb,Bq0,Jj Vg,ih _ (by simp;omega)];simp
def ZmG{F:Nat}(hF:10000000000000000000<=F)(s:U Part)(hs:s.length<=2500000)(l:U Za)(hl:l.length<=BS):Zmq F s l=some (s++l.map .cl):=
 Zfj (body:=Zn6 l) l .cl some hl 16 Vg (fun s k nx=>rfl) hF s hs
def Zrl{F:Nat}(hF:10000000000000000000<=F)(s:U Part)(hs:s.length<=2500000)(l:U Term)(hl:l.length<=BS):Zmr F s l=some (s++l.map .pr):=
 Zfj (body:=Zn7 l) l .pr some hl 16 Vg (fun s k nx=>rfl) hF s hs
def parts_eq{F:Nat}(hF:10000000000000000000<=F)(p:Part)(h:(ZJ p).length<=BS):W9 F p=some (ZJ p):=by
 unfold W9;cases p with
 | pr t=>
   simp only[ZJ,K2,Gf]at h;have l2:t.args.length<=BS:=Vg
   have l3:t.qK.length<=BS:=Vg
   have l4:t.qQ.length<=BS:=Vg
   have e1:=ZmG hF (t.args.map Part.ex) (by unfold BS at l2;simp;omega) t.qK l3;have e2:=Zrl hF (t.args.map Part.ex++t.qK.map Part.cl) (by unfold BS at l2 l3;simp;omega) t.qQ l4;have:=Zfj (body:=Zn8 F ⟨t⟩) t.args .ex (fun s=>(Zmq F s t.qK).bind fun x=>(Zmr F x t.qQ).bind fun y=>some y) l2 16 Vg (fun s k nx=>rfl) hF [] (by simp);show ZqI F ⟨t⟩=_;unfold ZqI;rw[this,Ge,e1,Bq0,e2];rfl
 | ex e=>
   exact Zfj (body:=Zn5 ⟨e⟩) e.qQ .ex some (by simpa[ZJ]using h) 16 Vg (fun s k nx=>rfl) hF [] (by simp)
 | cl c=>
   simp only[ZJ,K2,Gf]at h;have l3:c.qK.length<=BS:=Vg
   have l4:c.qQ.length<=BS:=Vg
   have e1:=ZmG hF [] (by simp) c.qK l3;have e2:=Zrl hF ([]++c.qK.map Part.cl) (by unfold BS at l3;simp;omega) c.qQ l4;show ZqH F ⟨c⟩=_;unfold ZqH;rw[e1,Bq0,e2];rfl
def Zuz{p:Part}(hs:Sm p):(ZJ p).length<=BS:=by have:=Za0 p;have:=hs.1;omega
def Zx8{p:Part}(h:Uo p=true)(hl:Loc p):(ZJ p).length<=100:=by
 cases p with
 | pr t=>
   have h:ZdI t=true:=h;have e:(ZJ (.pr t)).length=t.args.length+t.qK.length+t.qQ.length:=by simp[ZJ,GU]
   rw[e];unfold ZdI at h;rw[Ba0]at h;replace h:=h.1
   have sz:∀{a d k:Nat},szs t a d k=true->t.args.length=a/\t.qK.length=d/\t.qQ.length=k:=fun h=>by
    unfold szs at h;simp only[Ba0,beq_iff_eq]at h;exact⟨h.1.1,h.1.2,h.2⟩
   cases c1:(t.op==1||t.op==7)<;>rw[c1]at h
   case true=>have:=sz h;omega
   cases c2:t.op==2<;>rw[c2]at h
   case true=>simp only[Cq1,Cq0,Ba0,decide_eq_true_eq]at h;have:=sz h.2;omega
   cases c3:t.op==3<;>rw[c3]at h
   case true=>have:=sz h;omega
   cases c4:t.op==4<;>rw[c4]at h
   case true=>simp only[Cq1,Cq0,Ba0,decide_eq_true_eq]at h;have:=sz h.2;omega
   cases c5:t.op==5<;>rw[c5]at h
   case true=>have:=sz h;omega
   simp only[Cq0,Ba0]at h;have:=sz h.2;omega
 | ex e=>
   have h:KW e=true:=h;have el:(ZJ (.ex e)).length=e.qQ.length:=by simp[ZJ]
   rw[el];unfold KW at h;cases c1:e.op==1<;>rw[c1]at h
   case true=>simp only[Cq1,Ba0,beq_iff_eq]at h;omega
   cases c2:e.op==2<;>rw[c2]at h
   case true=>simp only[Cq1,Cq0,Ba0,beq_iff_eq]at h;omega
   simp only[Cq0,Ba0,beq_iff_eq]at h;omega
 | cl c=>
   have h:Zak c=true:=h;have el:(ZJ (.cl c)).length=c.qK.length+c.qQ.length:=by simp[ZJ]
   rw[el];unfold Zak at h;rw[Ba0,beq_iff_eq]at h;obtain⟨h1,h⟩:=h;cases c1:c.qV==2<;>rw[c1]at h
   ·simp only[Cq0,Ba0,beq_iff_eq,decide_eq_true_eq]at h;omega
   ·simp only[Cq1,Ba0,beq_iff_eq,decide_eq_true_eq]at h;omega
def ZEG{F:Nat}(hF:10000000000000000000<=F):∀n p,Sm p->(pre p).length<=n->∀Fr,n<=Fr->loop Fr (Zkf F) p=some (dep p:Int):=by
 intro n
 induction n with
 | zero=>intro p hs hn;have:=Xk p;omega
 | succ n ih=>
   intro p hs hn Fr hFr;obtain⟨G,rfl⟩:∃G,Fr=G+1:=⟨Fr-1,by omega⟩
   rw[Ya];have hK:=Zuz hs;have hih:∀k∈ZJ p,loop G (Zkf F) k=some (dep k:Int):=fun k hk=>ih k (hs.kid hk) (by have:=YI hk;omega) G Vg
   generalize loop G (Zkf F)=nx1 at hih;unfold Zkf;rw[parts_eq hF p hK,Bq0];unfold BS at hK;have:=Yt (body:=Zkg nx1 (ZJ p)) (fun(k:Nat)(s:Nat)=>((s:Int),(k:Int))) (ZJ p) (fun _ s=>s<=BS) (fun rest s=>some (((max s (ZpP (rest.map dep))+1:Nat)):Int)) (F:=F) ?_ ?_ Vg 0 (Gv _)
   ·rw[ZA5];rw[Nat.zero_max]at this;exact this
   ·intro s nx hs';unfold BS at hs';simp only[Zkg,Z6,Cq0];rw[Jj Vg];simp[ZpP]
   ·intro k x rest s nx hx hk hg hs' ih;unfold BS at hs';simp only[Zkg,ZR hk,Cq1,hg,Bq0,hih x hx];rw[ZC9,Jj Vg];have hd:=ZJD x;have hx2:=(hs.kid hx).1;have:=ih (max s (dep x)) (by unfold BS at hx2 ⊢;omega);rw[this,Gd,Zl5,Nat.max_assoc]
def V1(m:Nat)(l:U Part):PR (Z×Int):=bif decide (m+l.length<=60)&&l.all Uo then .ok (true,((m+l.length:Nat):Int)) else .ZX 2
def ZQw(n:Nat):decide ((n:Int)<=60)=decide (n<=60):=by
 by_cases z:n<=60
 ·rw[decide_eq_true z,decide_eq_true Vg]
 ·rw[decide_eq_false z,decide_eq_false Vg]
def ZLn{F:Nat}(hF:10000000000000000000<=F):∀n p,Lo p->(pre p).length<=n->∀Fr,n<=Fr->∀m:Nat,m<=60->loop Fr (Zcw F) (p,(m:Int))=some (V1 m (pre p)):=by
 intro n
 induction n with
 | zero=>intro p hs hn;have:=Xk p;omega
 | succ n ih=>
   intro p hs hn Fr hFr m hm;obtain⟨G,rfl⟩:∃G,Fr=G+1:=⟨Fr-1,by omega⟩
   rw[Ya];have hih:∀k∈ZJ p,∀m:Nat,m<=60->loop G (Zcw F) (k,(m:Int))=some (V1 m (pre k)):=fun k hk=>ih k (hs.kid hk) (by have:=YI hk;omega) G Vg
   generalize loop G (Zcw F)=nx1 at hih;unfold Zcw;dsimp only;rw[Jj Vg,ZQw,Jo,Bq0,Ze6,Zx9 hF p hs.loc,Bq0,Ze6];by_cases h60:m+1<=60
   ·rw[decide_eq_true h60,Cq1];cases hsh:Uo p
    ·show some (PR.ZX 2)=_;rw[pre_eq];unfold V1;simp[hsh]
    ·simp only[Cq1,QP,Cq0];have hK:=Zx8 hsh hs.loc;rw[parts_eq hF p (by unfold BS;omega),Bq0];have:=Yt (body:=Zkd nx1 (ZJ p)) (fun(k:Nat)(s:Nat)=>((k:Int),(s:Int))) (ZJ p) (fun _ s=>s<=60) (fun rest s=>some (V1 s (rest.flatMap pre))) (F:=F) ?_ ?_ Vg (m+1) h60
     ·have e:V1 (m+1) ((ZJ p).flatMap pre)=V1 m (pre p):=by
       rw[pre_eq p];unfold V1;simp only[KK,List.all_cons,hsh,GG];rw[show m+1+((ZJ p).flatMap pre).length=m+(((ZJ p).flatMap pre).length+1) by omega]
      rw[<-e];exact this
     ·intro s nx hs';simp only[Zkd,Z6,Cq0];unfold V1;rw[decide_eq_true (show s+(([]:U Part).flatMap pre).length<=60 by simpa using hs')];simp
     ·intro k x rest s nx hx hk hg hs' ih;simp only[Zkd,ZR hk,Cq1,hg,Bq0,hih x hx s hs'];rw[Jj Vg,Ks];by_cases hb:s+(pre x).length<=60
      ·cases ha:(pre x).all Uo
       ·have e1:V1 s (pre x)=.ZX 2:=by unfold V1;rw[ha,Bool.and_false];rfl
        have e2:V1 s (pre x++rest.flatMap pre)=.ZX 2:=by unfold V1;rw[List.all_append,ha,Bool.false_and,Bool.and_false];rfl
        rw[e1,e2,Zud]
       ·have e1:V1 s (pre x)=.ok (true,((s+(pre x).length:Nat):Int)):=by unfold V1;rw[ha,decide_eq_true hb];rfl
        rw[e1];show nx (((k+1:Nat):Int),((s+(pre x).length:Nat):Int))=_;rw[ih (s+(pre x).length) hb];unfold V1;rw[List.all_append,ha,K2,GG,GU]
      ·have e1:V1 s (pre x)=.ZX 2:=by unfold V1;rw[decide_eq_false hb];rfl
       have e2:V1 s (pre x++rest.flatMap pre)=.ZX 2:=by unfold V1;rw[K2,decide_eq_false Vg];rfl
       rw[e1,e2,Zud]
   ·rw[decide_eq_false h60,Cq0,pre_eq];unfold V1;rw[KK,decide_eq_false Vg];rfl
def ZlF(A:U Za->Z):Part->Z
 | .pr t=>!(t.op==4)||A t.qK
 | _=>true
def ZLm{F:Nat}(hF:10000000000000000000<=F)(A:U Za->Z):∀n p,Sm p->(∀t,Part.pr t∈pre p->t.op=4->Zcz F t.qK=some (bif A t.qK then .ok () else .ZX 2))->(pre p).length<=n->∀Fr,n<=Fr->loop Fr (Zez F) p=some (bif(pre p).all (ZlF A) then .ok true else .ZX 2):=by
 intro n
 induction n with
 | zero=>intro p hs hA hn;have:=Xk p;omega
 | succ n ih=>
   intro p hs hA hn Fr hFr;obtain⟨G,rfl⟩:∃G,Fr=G+1:=⟨Fr-1,by omega⟩
   rw[Ya];have hK:=Zuz hs;have hih:∀k∈ZJ p,loop G (Zez F) k=some (bif(pre k).all (ZlF A) then .ok true else .ZX 2):=fun k hk=>ih k (hs.kid hk) (fun t ht=>hA t (YL hk ht)) (by have:=YI hk;omega) G Vg
   generalize loop G (Zez F)=nx1 at hih
   have j2:(Zac F p nx1) ()=some (bif((ZJ p).flatMap pre).all (ZlF A) then .ok true else .ZX 2):=by
    unfold Zac;simp only[QP,Cq0];rw[parts_eq hF p hK,Bq0];unfold BS at hK;refine Yt (body:=Zke nx1 (ZJ p)) (fun(k:Nat)(_:Unit)=>(k:Int)) (ZJ p) (fun _ _=>True) (fun rest _=>some (bif(rest.flatMap pre).all (ZlF A) then .ok true else .ZX 2)) (F:=F) ?_ ?_ Vg () trivial
    ·intro s nx _;simp only[Zke,Z6,Cq0];rfl
    ·intro k x rest s nx hx hk hg _ ih;simp only[Zke,ZR hk,Cq1,hg,Bq0,hih x hx];rw[Jj Vg,Ks,List.all_append];cases (pre x).all (ZlF A)
     ·rfl
     ·exact ih () trivial
   rw[pre_eq p,List.all_cons];unfold Zez;cases p with
   | pr t=>
     show(bif(true&&(t.op==4)) then _ else _)=_;rw[GG];by_cases h4:t.op=4
     ·rw[hA t (Y4 _) h4,h4];simp only[Int.reduceBEq,Cq1,Bq0,ZlF,h4,QP,Bool.false_or];cases A t.qK
      ·rfl
      ·show(Zac F (.pr t) nx1) ()=_;rw[j2];rfl
     ·have:(t.op==4)=false:=by simpa using h4
      simp only[this,Cq0,ZlF,GA,Bool.true_or,GG];exact j2
   | ex e=>exact j2
   | cl c=>exact j2
def Ql(A:U Za->Z)(p:Part):Z:=decide ((pre p).length<=60)&&(pre p).all Uo&&decide (dep p<=12)&&(pre p).all (ZlF A)
def ZQx(n:Nat):decide ((n:Int)<=12)=decide (n<=12):=by
 by_cases z:n<=12
 ·rw[decide_eq_true z,decide_eq_true Vg]
 ·rw[decide_eq_false z,decide_eq_false Vg]
def Zmn{F:Nat}(hF:10000000000000000000<=F)(A:U Za->Z)(p:Part)(hs:Lo p)(hFp:(pre p).length<=F)(hA:(pre p).length<=60->(pre p).all Uo=true->∀t,Part.pr t∈pre p->t.op=4->Zcz F t.qK=some (bif A t.qK then .ok () else .ZX 2)):ZwH F p=some (bif Ql A p then .ok () else .ZX 2):=by
 unfold ZwH Ql;have h1:=ZLn hF _ p hs Vh F Vg 0 Vg;have h1':loop F (Zcw F) (p,0)=some (V1 0 (pre p)):=h1;rw[h1',Bq0];unfold V1;rw[G4];by_cases hl:(pre p).length<=60
 ·cases ha:(pre p).all Uo
  ·rw[Bool.and_false];simp[Jp]
  ·rw[decide_eq_true hl];have hs:Sm p:=⟨by unfold BS;omega,hs⟩
   show(Zkc F p) ((pre p).length:Int)=_;unfold Zkc;rw[show ZEg F p=some (dep p:Int) from ZEG hF _ p hs Vh F Vg,Bq0,ZQx,Jo,Bq0,Ze6,ZLm hF A _ p hs (hA hl ha) Vh F Vg,Bq0];cases decide (dep p<=12)<;>cases (pre p).all (ZlF A)<;>rfl
 ·rw[decide_eq_false hl];simp[Jp]
def Ztj{F:Nat}(hF:10000000000000000000<=F)(A:U Za->Z)(t:Term)(hs:Lo (.pr t))(hFp:(pre (.pr t)).length<=F)(hA:(pre (.pr t)).length<=60->(pre (.pr t)).all Uo=true->∀x,Part.pr x∈pre (.pr t)->x.op=4->Zcz F x.qK=some (bif A x.qK then .ok () else .ZX 2)):Zlo F t=some (bif Ql A (.pr t) then 0 else 2):=by
 unfold Zlo;rw[Zmn hF A _ hs hFp hA,Bq0];cases Ql A (.pr t)<;>rfl
def Zlw{F:Nat}(hF:10000000000000000000<=F)(A:U Za->Z)(e:Ze)(hs:Lo (.ex e))(hFp:(pre (.ex e)).length<=F)(hA:(pre (.ex e)).length<=60->(pre (.ex e)).all Uo=true->∀x,Part.pr x∈pre (.ex e)->x.op=4->Zcz F x.qK=some (bif A x.qK then .ok () else .ZX 2)):Zs1 F e=some (bif Ql A (.ex e) then 0 else 2):=by
 unfold Zs1;rw[Zmn hF A _ hs hFp hA,Bq0];cases Ql A (.ex e)<;>rfl
abbrev Spt:=Y×U Za
def X9(c:Za):U Spt:=bif c.qV==2 then(c.qJ,c.qK)::c.qK.attach.flatMap (fun d=>X9 d.1) else []
termination_by SizeOf.sizeOf c
decreasing_by
 obtain⟨fm,tx,js,ds,ks⟩:=c;have:=List.sizeOf_lt_of_mem d.2;simp only[Za.mk.sizeOf_spec]at this ⊢;omega
def UH(c:Za):X9 c=bif c.qV==2 then(c.qJ,c.qK)::c.qK.flatMap X9 else []:=by rw[X9,Uw c.qK X9]
def Zas(l:U Za):U Y:=(l.flatMap X9).map (·.1)
def ev(a:Nat)(m:YJ):Y×ZH:=(m.qJ,ZH.mk (a:Int) (m.names.length:Int))
def jns(l:U Za):U YJ:=l.flatMap (·.qG)
def evJ:Nat->U Spt->U (Y×ZH)
 | _,[]=>[]
 | a,sp::r=>(jns sp.2).map (ev a)++evJ (a+1) r
def upd(f:Y->O ZH)(e:Y×ZH):Y->O ZH:=fun x=>if x=e.1 then some e.2 else f x
def okE(f:Y->O ZH)(e:Y×ZH):Z:= !(f e.1).isSome||WK ((f e.1).getD ⟨0,0⟩) e.2
def JW(f:Y->O ZH):U (Y×ZH)->Z
 | []=>true
 | e::r=>okE f e&&JW (upd f e) r
def Znv(h:Y->Z):U Y->Z
 | []=>true
 | x::xs=>!h x&&Znv (fun s=>h s||decide (s=x)) xs
def ZmR(a b:U (Y×ZH)):∀f,JW f (a++b)=(JW f a&&JW (a.foldl upd f) b):=by
 induction a with
 | nil=>intro f;simp[JW]
 | cons e a ih=>intro f;simp only[List.cons_append,JW,ih,Gq,Bool.and_assoc]
def eqS(x y:ZH):WK x y=true↔x=y:=by
 obtain⟨a,b⟩:=x;obtain⟨c,d⟩:=y;simp[WK]
def AgW(l:U Za):Z:=Znv (fun _=>false) (Zas l)&&JW (fun _=>none) (evJ 0 ((E0,l)::l.flatMap X9)) && !((evJ 0 ((E0,l)::l.flatMap X9)).any fun e=>decide (e.1∈Zas l))
def OkC(c:Za):Prop:=c.qG.length<=3/\(c.qV=1\/c.qV=2/\c.qG=[])
def OkS(sp:Spt):Prop:=sp.2.length<=60/\∀c∈sp.2,OkC c
def Zbl{c:Za}(h:Zak c=true):OkC c:=by
 unfold Zak at h;rw[Ba0]at h;obtain⟨_,h⟩:=h;by_cases f2:c.qV=2
 ·rw[f2]at h;simp only[Int.reduceBEq,Cq1,Ba0,beq_iff_eq,decide_eq_true_eq]at h;have:c.qG=[]:=G7 h.1.2;exact⟨by rw[this];simp,.inr ⟨f2,this⟩⟩
 ·have:(c.qV==2)=false:=by simpa using f2
  rw[this]at h;simp only[Cq0,Ba0,beq_iff_eq,decide_eq_true_eq]at h;exact⟨h.1.2,.inl h.1.1.1.1.1⟩
def ZCW:∀n (c:Za),(pre (.cl c)).length<=n->(X9 c).length<=(pre (.cl c)).length:=by
 intro n
 induction n with
 | zero=>intro c h;have:=Xk (.cl c);omega
 | succ n ih=>
   intro c hn;rw[UH];have h0:=JL (.cl c)
   have h1:((ZJ (.cl c)).flatMap pre).length=((c.qK.map Part.cl).flatMap pre).length+((c.qQ.map Part.pr).flatMap pre).length:=by
    show((c.qK.map Part.cl++c.qQ.map Part.pr).flatMap pre).length=_;rw[Gy,K2]
   have:∀l:U Za,(∀d∈l,(X9 d).length<=(pre (.cl d)).length)->(l.flatMap X9).length<=((l.map Part.cl).flatMap pre).length:=by
    intro l
    induction l with
    | nil=>simp
    | cons d l ihl=>
      intro h;have a:=h d (by simp);have b:=ihl fun x hx=>h x (Kf _ hx)
      simp only[Ks,Gd,K2];omega
   have h2:=this c.qK fun d hd=>ih d (by have:=YI (Xn hd);omega)
   cases c.qV==2
   ·show 0<=_;omega
   ·show(c.qK.flatMap X9).length+1<=_;omega
def Zyn(l:U Za):(l.flatMap X9).length<=((l.map Part.cl).flatMap pre).length:=by
 induction l with
 | nil=>simp
 | cons d l ihl=>simp only[Ks,Gd,K2];have:=ZCW _ d Vh;omega
def Zjd{c:Za}{l:U Za}(h:c∈l):(X9 c).length<=(l.flatMap X9).length:=by
 induction l with
 | nil=>cases h
 | cons x l ih=>
   rw[Ks,K2];rcases Kd.1 h with rfl|h
   ·omega
   ·have:=ih h;omega
def ZhQ(l:U Za):l.length<=((l.map Part.cl).flatMap pre).length:=by
 have:=Zaz (l.map Part.cl)
 simpa using this
def ZC2:∀n (c:Za),(pre (.cl c)).length<=n->n<=60->(pre (.cl c)).all Uo=true->∀sp∈X9 c,OkS sp:=by
 intro n
 induction n with
 | zero=>intro c h;have:=Xk (.cl c);omega
 | succ n ih=>
   intro c hn h60 hs sp hsp;rw[UH]at hsp;cases hf:c.qV==2
   ·rw[hf]at hsp;cases hsp
   rw[hf]at hsp;simp only[Cq1]at hsp
   have hd:∀d∈c.qK,(pre (.cl d)).all Uo=true:=fun d hd=>by
    rw[Kx]at hs ⊢;exact fun y hy=>hs y (YL (Xn hd) hy)
   rcases Kd.1 hsp with rfl|hsp
   ·refine⟨?_,fun d hdm=>Zbl ?_⟩
    ·have:=Za0 (.cl c);simp only[ZJ,K2,Gf]at this;show c.qK.length<=60;omega
    ·exact Kx.1 (hd d hdm) _ (Y4 _)
   ·obtain⟨d,hdm,hsp⟩:=Q3.1 hsp;exact ih d (by have:=YI (Xn hdm);omega) Vg (hd d hdm) sp hsp
def Zsx{α σ β γ:Type}{body:γ->(γ->O β)->O β}(st:Nat->σ->γ)(l:U α)(Pre:Nat->U α->σ->Prop)(run:Nat->U α->σ->O β)
 (h0:∀s nx,Pre l.length [] s->body (st l.length s) nx=run l.length [] s)
 (h1:∀(k:Nat) x rest s nx,x∈l->k<l.length->YA l (k:Int)=some x->Pre k (x::rest) s->(∀s',Pre (k+1) rest s'->nx (st (k+1) s')=run (k+1) rest s')->body (st k s) nx=run k (x::rest) s) {F:Nat} (hF:l.length<F) (s:σ) (hp:Pre 0 l s):loop F body (st 0 s)=run 0 l s:=by
 have key:∀(d j F:Nat)(s:σ),j+d=l.length->d<F->Pre j (l.drop j) s->loop F body (st j s)=run j (l.drop j) s:=by
  intro d
  induction d with
  | zero=>
    intro j F s hj hF hp;obtain⟨F,rfl⟩:∃G,F=G+1:=⟨F-1,by omega⟩
    obtain rfl:j=l.length:=Vg
    rw[List.drop_length]at hp ⊢;rw[Ya,h0 _ _ hp]
  | succ d ih=>
    intro j F s hj hF hp;obtain⟨F,rfl⟩:∃G,F=G+1:=⟨F-1,by omega⟩
    have hjl:j<l.length:=Vg
    rw[List.drop_eq_getElem_cons hjl]at hp ⊢;rw[Ya];exact h1 j _ _ s _ (GK hjl) hjl (Jl hjl) hp fun s' hp'=>ih (j+1) F s' Vg Vg hp'
 have:=key l.length 0 F s Vg hF (by simpa using hp)
 simpa using this
abbrev MM:=U (Y×ZH)
abbrev MN:=U (Y×Z)
abbrev SS:=Nat×MM×MN
def ZbO:MM->U (Y×ZH)->O MM
 | m,[]=>some m
 | m,e::r=>bif okE (Zq m) e then ZbO (Yk m e.1 e.2) r else none
def ZpT(a b:U (Y×ZH)):∀m,ZbO m (a++b)=(ZbO m a).bind fun x=>ZbO x b:=by
 induction a with
 | nil=>intro m;rfl
 | cons e a ih=>
   intro m;simp only[List.cons_append,ZbO];cases okE (Zq m) e
   ·rfl
   ·exact ih _
def ZdW(s:SS)(sp:Spt):O SS:=bif decide (0<s.1)&&has s.2.2 sp.1 then none else(ZbO s.2.1 ((jns sp.2).map (ev s.1))).map fun m=>(s.1+1,m,bif decide (0<s.1) then Yk s.2.2 sp.1 true else s.2.2)
def Zek:SS->U Spt->O SS
 | s,[]=>some s
 | s,x::r=>(ZdW s x).bind fun s=>Zek s r
def Zpo(a b:U Spt):∀s,Zek s (a++b)=(Zek s a).bind fun x=>Zek x b:=by
 induction a with
 | nil=>intro m;rfl
 | cons e a ih=>
   intro s;simp only[List.cons_append,Zek];cases ZdW s e with
   | none=>rfl
   | some s'=>exact ih _
def Zx1{s s':SS}{x:Spt}(h:ZdW s x=some s'):s'.1=s.1+1:=by
 unfold ZdW at h;cases hb:(decide (0<s.1)&&has s.2.2 x.1) with
 | true=>rw[hb]at h;cases h
 | false=>
   rw[hb]at h;simp only[Cq0,Option.map_eq_some_iff]at h;obtain⟨m,_,rfl⟩:=h;rfl
def Zt7:∀{l:U Spt}{s s':SS},Zek s l=some s'->s'.1=s.1+l.length
 | [],s,s',h=>by cases h;rfl
 | x::r,s,s',h=>by
   obtain⟨s1,h1,h2⟩:=bS (by exact h);have:=Zx1 h1;have:=Zt7 h2;simp only[KK];omega
def ZtL:O SS->PR (Z×Int×MM×MN)
 | some s=>.ok (true,(s.1:Int),s.2.1,s.2.2)
 | none=>.ZX 2
def ZsE{F:Nat}(hF:10000000000000000000<=F)(a:Nat)(i:Int)(nx:Int×MM->O (PR (Z×Int×MM×MN)))(x:Za)(hx:x.qG.length<=BB)(m:MM):
 loop F (ZfR (a:Int) i nx x) (0,m)=opt (ZbO m (x.qG.map (ev a))) (some (.ZX 2)) fun m=>nx (XO (i+1),m):=by
 unfold BB at hx;refine Yt (fun(k:Nat)(m:MM)=>((k:Int),m)) x.qG (fun _ _=>True) (fun rest m=>opt (ZbO m (rest.map (ev a))) (some (.ZX 2)) fun m=>nx (XO (i+1),m)) ?_ ?_ Vg m trivial
 ·intro s nx' _;simp only[ZfR,Z6,Cq0];rfl
 ·intro j y rest s nx' hy hj hg _ ih;simp only[ZfR,ZR hj,Cq1,hg,Bq0,Zyr,Jo,Ze6];rw[Jj Vg];simp only[ih _ trivial,Gd,ZbO,okE,ev];cases (!(Zq s y.qJ).isSome||WK ((Zq s y.qJ).getD ⟨0,0⟩) ⟨(a:Int),(y.names.length:Int)⟩)<;>rfl
def Zsi{F:Nat}(hF:10000000000000000000<=F)(l rules:U Za)(a:Nat)(ha:a<=2000)(n1:Y×(U Za)×Int×MM×MN->O (PR (Z×Int×MM×MN)))(ns:MN)(hr:rules.length<=BB)(hx:∀x∈rules,x.qG.length<=BB)(m:MM):
 loop F (ZfS F l (a:Int) n1 rules ns) (0,m)=opt (ZbO m ((jns rules).map (ev a))) (some (.ZX 2)) fun m=>loop F (Zbw l n1) (0,((a+1:Nat):Int),m,ns):=by
 unfold BB at hr;refine Yt (fun(k:Nat)(m:MM)=>((k:Int),m)) rules (fun _ _=>True) (fun rest m=>opt (ZbO m ((jns rest).map (ev a))) (some (.ZX 2)) fun m=>loop F (Zbw l n1) (0,((a+1:Nat):Int),m,ns)) ?_ ?_ Vg m trivial
 ·intro s nx' _;simp only[ZfS,Z6,Cq0,QP];rw[Jj Vg];rfl
 ·intro j y rest s nx' hy hj hg _ ih;simp only[ZfS,ZR hj,Cq1,hg,Bq0,ZsE hF a _ _ y (hx y hy)];rw[Jj Vg];simp only[ih _ trivial,jns,Ks,List.map_append,ZpT];cases ZbO s (y.qG.map (ev a))<;>rfl
def ZjD{l:U Za}(h:∀c∈l,OkC c):jns (l.filter fun c=>c.qV==1)=jns l:=by
 induction l with
 | nil=>rfl
 | cons c l ih=>
   have i:=ih fun d hd=>h d (Kf _ hd)
   obtain⟨_,h1|⟨h2,h3⟩⟩:=h c (by simp)
   ·rw[List.filter_cons_of_pos (by simp[h1])];unfold jns at i ⊢;rw[Ks,Ks,i]
   ·rw[List.filter_cons_of_neg (by simp[h2]),i];unfold jns;rw[Ks,h3,Ge]
def Zw7{F:Nat}(hF:10000000000000000000<=F):∀n (nm:Y) (l:U Za) (s:SS),(l.flatMap X9).length<=n->OkS (nm,l)->(∀sp∈l.flatMap X9,OkS sp)->s.1+(l.flatMap X9).length<=1000->∀Fr,n<Fr ->
 loop Fr (ZaB F) (nm,l,(s.1:Int),s.2.1,s.2.2)=some (ZtL (Zek s ((nm,l)::l.flatMap X9))):=by
 intro n
 induction n using Nat.strongRecOn with
 | _ n ih=>
   intro nm l s hn hok ZDn hs1 Fr hFr;obtain⟨G,rfl⟩:∃G,Fr=G+1:=⟨Fr-1,by omega⟩
   rw[Ya]
   have hih:∀c∈l,c.qV=2->∀s:SS,s.1+(X9 c).length<=1001->loop G (ZaB F) (c.qJ,c.qK,(s.1:Int),s.2.1,s.2.2)=some (ZtL (Zek s (X9 c))):=fun c hc hf s hs=>by
    have e:X9 c=(c.qJ,c.qK)::c.qK.flatMap X9:=by rw[UH,hf];rfl
    have hle:(X9 c).length<=(l.flatMap X9).length:=Zjd hc;have hm:∀sp∈X9 c,OkS sp:=fun sp hsp=>ZDn sp (Q3.2 ⟨c,hc,hsp⟩)
    rw[e]at hle hm hs ⊢;simp only[KK]at hle hs;exact ih (n-1) Vg c.qJ c.qK s Vg (hm _ (by simp)) (fun sp hsp=>hm sp (by simp[hsp])) Vg G Vg
   generalize loop G (ZaB F)=n1 at hih;obtain⟨hl,hoc⟩:=hok;dsimp only at hl hoc
   have hb3:∀s:SS,s.1+(l.flatMap X9).length<=1001->0<s.1->loop F (Zbw l n1) (0,(s.1:Int),s.2.1,s.2.2)=some (ZtL (Zek s (l.flatMap X9))):=fun s hs h0=>by
    refine Yt (fun(k:Nat)(s:SS)=>((k:Int),(s.1:Int),s.2.1,s.2.2)) l (fun rest s=>s.1+(rest.flatMap X9).length<=1001) (fun rest s=>some (ZtL (Zek s (rest.flatMap X9)))) ?_ ?_ Vg s hs
    ·intro s nx _;simp only[Zbw,Z6,Cq0];rfl
    ·intro k c rest s nx hc hk hg hp ihl;simp only[Zbw,ZR hk,Cq1,hg,Bq0];rw[Jj Vg];rw[Ks,K2]at hp;rw[Ks,Zpo];rcases(hoc c hc).2 with h1|⟨h2,_⟩
     ·rw[h1];have e:X9 c=[]:=by rw[UH,h1];rfl
      rw[e]at hp ⊢;exact ihl s (by simpa using hp)
     ·rw[h2];have hpos:1<=(X9 c).length:=by rw[UH,h2];simp
      simp only[Int.reduceBEq,Cq1];rw[hih c hc h2 s Vg,Bq0];cases hr:Zek s (X9 c) with
      | none=>rfl
      | some s'=>
        have:=Zt7 hr;exact ihl s' Vg
   have hj2:∀ns,(ZaC F l (s.1:Int) s.2.1 n1 (l.filter fun c=>c.qV==1)) ns=some (ZtL ((ZbO s.2.1 ((jns l).map (ev s.1))).bind fun m=>Zek (s.1+1,m,ns) (l.flatMap X9))):=fun ns=>by
    unfold ZaC;have hfl:(l.filter fun c=>c.qV==1).length<=l.length:=List.length_filter_le _ _;rw[Zsi hF l _ s.1 Vg n1 ns (by unfold BB;omega) (fun x hx=>by have:=(hoc x (GP.1 hx).1).1;unfold BB;omega) s.2.1,ZjD hoc];cases ZbO s.2.1 ((jns l).map (ev s.1)) with
    | none=>rfl
    | some m=>exact hb3 (s.1+1,m,ns) (by show s.1+1+_<=1001;omega) (Nat.succ_pos _)
   unfold ZaB;dsimp only;have:=Yt (body:=ZfT F nm l (s.1:Int) s.2.1 s.2.2 n1) (fun(k:Nat)(a:U Za)=>((k:Int),a)) l (fun rest a=>a.length+rest.length<=60) (fun rest a=>(bif decide ((s.1:Int)>0) then(ZdL s.2.2 nm false).bind fun ZxG=>(JH (!ZxG)).bind fun ZxF=>Jp ZxF (fun e267=>some (.ZX 2)) (fun ZKR=>(ZaC F l (s.1:Int) s.2.1 n1 (a++rest.filter fun c=>c.qV==1)) (Yk s.2.2 nm true)) else(ZaC F l (s.1:Int) s.2.1 n1 (a++rest.filter fun c=>c.qV==1)) s.2.2)) (F:=F) ?_ ?_ Vg [] (by simpa using hl)
   ·refine this.trans ?_;simp only[Ge,Zce,Bq0,Jo,Ze6,hj2,gt0];show _=some (ZtL ((ZdW s (nm,l)).bind fun s=>Zek s (l.flatMap X9)));unfold ZdW;cases decide (0<s.1)
    ·simp only[Cq0,Bool.false_and];cases ZbO s.2.1 ((jns l).map (ev s.1))<;>rfl
    ·simp only[Cq1,GG];cases has s.2.2 nm
     ·simp only[GA,Cq1,Cq0];cases ZbO s.2.1 ((jns l).map (ev s.1))<;>rfl
     ·rfl
   ·intro a nx _;simp only[ZfT,Z6,Cq0,List.filter_nil,Gn]
   ·intro k c rest a nx hc hk hg hp ihl;simp only[KK]at hp;simp only[ZfT,ZR hk,Cq1,hg,Bq0,ZfQ];rw[Jj Vg];cases hf:c.qV==1
    ·rw[List.filter_cons_of_neg (by simp[hf])];exact ihl a Vg
    ·rw[List.filter_cons_of_pos (p:=fun c:Za=>c.qV==1) hf];simp only[Cq1];rw[app1 Vg Vg,Bq0,ihl _ (by simp;omega),Gc];rfl
def Zk6(m:MM)(l:U (Y×ZH)):MM:=l.foldl (fun m e=>Yk m e.1 e.2) m
def ZdZ(m:MM)(e:Y×ZH):Zq (Yk m e.1 e.2)=upd (Zq m) e:=by
 funext x;rw[Wi];rfl
def ZgF(l:U (Y×ZH)):∀m,Zq (Zk6 m l)=l.foldl upd (Zq m):=by
 induction l with
 | nil=>intro m;rfl
 | cons e l ih=>
   intro m;show Zq (Zk6 (Yk m e.1 e.2) l)=_;rw[ih,ZdZ];rfl
def ZuC(l:U (Y×ZH)):∀m,ZbO m l=bif JW (Zq m) l then some (Zk6 m l) else none:=by
 induction l with
 | nil=>intro m;rfl
 | cons e l ih=>
   intro m;simp only[ZbO,JW,ih,ZdZ];cases okE (Zq m) e<;>rfl
def Zht(a b:U (Y×ZH))(m:MM):Zk6 m (a++b)=Zk6 (Zk6 m a) b:=List.foldl_append
def ZCN(l:U Spt):∀a,0<a->∀m ns,Zek (a,m,ns) l=bif Znv (has ns) (l.map (·.1))&&JW (Zq m) (evJ a l) then some (a+l.length,Zk6 m (evJ a l),WZ ns (l.map (·.1))) else none:=by
 induction l with
 | nil=>intro a ha m ns;rfl
 | cons x l ih=>
   intro a ha m ns;show(ZdW (a,m,ns) x).bind _=_;unfold ZdW;simp only[decide_eq_true ha,GG,Gd,Znv,evJ,ZmR,ZuC,<-ZgF,Cq1];cases has ns x.1
   ·simp only[Cq0,GA,GG];cases JW (Zq m) ((jns x.2).map (ev a))
    ·simp
    ·simp only[Cq1,V2,Bq0,GG];rw[ih (a+1) Vg,Za3,Zht];have:WZ ns (x.1::l.map (·.1))=WZ (Yk ns x.1 true) (l.map (·.1)):=rfl;rw[this,KK,show a+1+l.length=a+(l.length+1) by omega]
   ·rfl
def ZER{ν:Type}(m:U (Y×ν))(g:Y->Z):(m.any fun e=>g e.1)=true↔∃k,(Zq m k).isSome=true/\g k=true:=by
 rw[GF]
 constructor
 ·rintro⟨e,he,hg⟩;refine⟨e.1,?_,hg⟩;cases h:Zq m e.1 with
  | some v=>rfl
  | none=>
    unfold Zq at h
    have:Z8 m e.1=none:=by cases h':Z8 m e.1 with
     | none=>rfl
     | some q=>rw[h']at h;cases h
    exact absurd rfl (Zeq.1 this e he)
 ·rintro⟨k,hk,hg⟩;cases h:Z8 m k with
  | none=>unfold Zq at hk;rw[h]at hk;cases hk
  | some q=>exact⟨(k,q.2),GZ (K6 h),hg⟩
def ZxQ(l:U (Y×ZH)):∀f x,(l.foldl upd f x).isSome=((f x).isSome||l.any fun e=>decide (x=e.1)):=by
 induction l with
 | nil=>intro f x;simp
 | cons e l ih=>
   intro f x;rw[Gq,ih,List.any_cons];unfold upd;by_cases h:x=e.1
   ·simp[h]
   ·simp[h]
def ZBw(l:U (Y×ZH))(g:Y->Z):((Zk6 [] l).any fun e=>g e.1)=l.any fun e=>g e.1:=by
 rw[GM,ZER];simp only[ZgF,ZxQ];rw[GF]
 constructor
 ·rintro⟨k,h,hg⟩;have:(l.any fun e=>decide (k=e.1))=true:=by simpa[Zq,Z8]using h
  obtain⟨e,he,hk⟩:=GF.1 this;rw[decide_eq_true_eq]at hk;exact⟨e,he,by rw[<-hk];exact hg⟩
 ·rintro⟨e,he,hg⟩;refine⟨e.1,?_,hg⟩;rw[GL];right;exact GF.2 ⟨e,he,by simp⟩
def Zwd{ν:Type}(b:Y->ν->O Z)(g:Y->Z)(h:∀k v,b k v=some (g k))(l:U (Y×ν)):Zl3 b l=some (l.any fun e=>g e.1):=by
 induction l with
 | nil=>rfl
 | cons e l ih=>simp only[Zl3,h,ih,Bq0,List.any_cons]
def ZkP{F:Nat}(hF:10000000000000000000<=F)(l:U Za)(hl:OkS (E0,l))(hs:∀sp∈l.flatMap X9,OkS sp)(hn:(l.flatMap X9).length<=60):Zcz F l=some (bif AgW l then .ok () else .ZX 2):=by
 unfold Zcz;have:=Zw7 hF _ E0 l (0,[],[]) Vh hl hs (by show 0+_<=1000;omega) F Vg;have e:loop F (ZaB F) (E0,l,0,[],[])=_:=this;rw[e,Bq0]
 have e2:Zek (0,[],[]) ((E0,l)::l.flatMap X9)=bif JW (fun _=>none) (evJ 0 ((E0,l)::l.flatMap X9))&&Znv (fun _=>false) (Zas l) then some (1+(l.flatMap X9).length,Zk6 [] (evJ 0 ((E0,l)::l.flatMap X9)),WZ [] (Zas l)) else none:=by
  show(ZdW (0,[],[]) (E0,l)).bind _=_;unfold ZdW;have h0:(Zq ([]:MM))=fun _=>none:=by funext x;rfl
  simp only[Nat.lt_irrefl,decide_false,Bool.false_and,Cq0,evJ,ZmR,ZuC,h0];have hm:JW ((List.map (ev 0) (jns l)).foldl upd fun _=>none) (evJ (0+1) (l.flatMap X9))=JW (Zq (Zk6 [] ((jns l).map (ev 0)))) (evJ (0+1) (l.flatMap X9)):=by rw[ZgF,h0]
  rw[hm];cases JW (fun _=>none) ((jns l).map (ev 0))
  ·simp
  ·simp only[Cq1,V2,Bq0,GG];rw[ZCN _ (0+1) Vg,ZnR,Zht,Bool.and_comm];rfl
 rw[e2];unfold AgW;rw[Bool.and_comm (JW _ _)];cases Znv (fun _=>false) (Zas l)&&JW (fun _=>none) (evJ 0 ((E0,l)::l.flatMap X9))
 ·rfl
 ·simp only[Cq1,GG,ZtL,Jp];unfold Ziu;dsimp only
  rw[Zwd _ (has (WZ [] (Zas l))) (fun k v=>by
   simp only[Zoa,Zce,Bq0,Jo,Ze6];cases has (WZ [] (Zas l)) k<;>rfl),Bq0,ZBw,ZjK,ZnR]
  simp only[Bool.false_or];cases ((evJ 0 ((E0,l)::l.flatMap X9)).any fun e=>decide (e.1∈Zas l))<;>rfl
def Zif{p:Part}(h60:(pre p).length<=60)(hs:(pre p).all Uo=true){x:Term}(hx:Part.pr x∈pre p):OkS (E0,x.qK)/\(∀sp∈x.qK.flatMap X9,OkS sp)/\(x.qK.flatMap X9).length<=60:=by
 have hle:=Zhx hx
 have hlen:((x.qK.map Part.cl).flatMap pre).length<=(pre (.pr x)).length:=by
  rw[JL];show _<=((x.args.map Part.ex++x.qK.map Part.cl++x.qQ.map Part.pr).flatMap pre).length+1;rw[Gy,Gy,K2,K2];omega
 have hc:∀c∈x.qK,(pre (.cl c)).all Uo=true:=fun c hc=>by
  rw[Kx]at hs ⊢;exact fun y hy=>hs y (ZaG (YL (QA hc) hy) hx)
 have h1:=ZhQ x.qK;have h2:=Zyn x.qK;refine⟨⟨by show x.qK.length<=60;omega,fun c h=>Zbl (Kx.1 (hc c h) _ (Y4 _))⟩,fun sp hsp=>?_,by omega⟩;obtain⟨c,h,hsp⟩:=Q3.1 hsp;exact ZC2 60 c (by have:=YI (QA h);omega) Vg (hc c h) sp hsp
def Zoq{F:Nat}(hF:10000000000000000000<=F)(t:Term)(hs:Lo (.pr t))(hFp:(pre (.pr t)).length<=F):Zlo F t=some (bif Ql AgW (.pr t) then 0 else 2):=
 Ztj hF AgW t hs hFp fun h60 hsh x hx _=>by obtain⟨a,b,c⟩:=Zif h60 hsh hx;exact ZkP hF x.qK a b c
def ZBa{F:Nat}(hF:10000000000000000000<=F)(e:Ze)(hs:Lo (.ex e))(hFp:(pre (.ex e)).length<=F):Zs1 F e=some (bif Ql AgW (.ex e) then 0 else 2):=
 Zlw hF AgW e hs hFp fun h60 hsh x hx _=>by obtain⟨a,b,c⟩:=Zif h60 hsh hx;exact ZkP hF x.qK a b c
def WI{p:Part}(h:Ql AgW p=true):(pre p).all Uo=true/\(pre p).length<=60:=by
 unfold Ql at h;simp only[Ba0,decide_eq_true_eq]at h;exact⟨h.1.1.2,h.1.1.1⟩
end
end Go.Proofs.YtbnepjakjmnadaaGreat
end
end
