/- Part 18. -/
import Derived.WalkKit
import Derived.OpenShut
import Derived.Carry
import Derived.Test.YtbnepjakjmnadaaGreatCn17
set_option linter.all false
set_option maxHeartbeats 2000000
def Go.Ne0{n:Nat}(h:n≠0):∃k,n=Nat.succ k:=Nat.exists_eq_succ_of_ne_zero h
section
noncomputable section
namespace Go.ZK
open Go.Lf
variable{P:GW}
def Wd(P:GW){α:Type}(e:Wh α)(V:α->Prop)(t:J):Prop:=P.cellsOf t=e.sz/\∀{E:Type}{h:H}{cs:U N}{d:DataW E},AR P h t cs d->∃p x,cs=e.sh p x/\V x/\∀wm,e.F wm h p x
def Wd.int{t:J}{k:IntKind}(hu:P.underlying t=some (.int k))(hc:P.cellsOf t=1):Wd P (Zif k) (fun n=>(Lit.int k n).wf=true) t:=⟨hc,fun a=>by
 cases a with
 | int hu' wf=>rw[hu]at hu';cases hu';exact⟨(),_,rfl,wf,fun _=>trivial⟩
 | bool hu'=>rw[hu]at hu';cases hu'
 | string hu' _=>rw[hu]at hu';cases hu'
 | nil hu'=>rw[hu]at hu';cases hu'
 | empty hu'=>rw[hu]at hu';cases hu'
 | slice hu'=>rw[hu]at hu';cases hu'
 | struct hu'=>rw[hu]at hu';cases hu'⟩
def Wd.str{t:J}(hu:P.underlying t=some .string)(hc:P.cellsOf t=1):Wd P YG (fun s=>s.size<=maxLen) t:=⟨hc,fun a=>by
 cases a with
 | string hu' hs=>exact⟨(),_,rfl,hs,fun _=>trivial⟩
 | bool hu'=>rw[hu]at hu';cases hu'
 | int hu' _=>rw[hu]at hu';cases hu'
 | nil hu'=>rw[hu]at hu';cases hu'
 | empty hu'=>rw[hu]at hu';cases hu'
 | slice hu'=>rw[hu]at hu';cases hu'
 | struct hu'=>rw[hu]at hu';cases hu'⟩
def Zci{α:Type}{e:Wh α}{V:α->Prop}{h:H}{β:Type}:∀(els:U (U N×β)),(∀x∈els,∃p y,x.1=e.sh p y/\V y/\∀wm,e.F wm h p y) ->
 ∃ys:U α,ys.length=els.length/\(∀y∈ys,V y)/\∀(k:Nat)(y:α),ys[k]? =some y->∃x p,els[k]? =some x/\x.1=e.sh p y/\∀wm,e.F wm h p y
 | [],_=>⟨[],rfl,by simp,fun k y hk=>by simp at hk⟩
 | x::els,hx=>by
   obtain⟨ys,h1,hv,h2⟩:=Zci els (fun z hz=>hx z (by simp[hz]));obtain⟨p,y,h3,hvy,h4⟩:=hx x (by simp);refine⟨y::ys,by simp[h1],fun z hz=>?_,fun k z hk=>?_⟩
   ·rcases Kx.1 hz with q|q
    ·rw[q];exact hvy
    ·exact hv z q
   ·cases k with
    | zero=>simp at hk;subst hk;exact⟨x,p,rfl,h3,h4⟩
    | succ k=>
      obtain⟨x',p',q1,q2⟩:=h2 k z (by simpa using hk);exact⟨x',p',by simpa using q1,q2⟩
def ZdV{α β:Type}{f:α->U β}{sz:Nat}(l:U α)(hl:∀x∈l,(f x).length=sz){k:Nat}{x:α}(hk:l[k]? =some x):((l.flatMap f).drop (k*sz)).take sz=f x:=by
 have hfx:(f x).length=sz:=hl x (List.mem_of_getElem? hk);refine GF fun j=>?_
 by_cases hj:j<sz
 ·rw[List.getElem?_take_of_lt hj,List.getElem?_drop,flat_get l hl k j hj,hk];rfl
 ·rw[Jn (by rw[GL];omega),Jn V6]
def Wd.slice{α:Type}{e:Wh α}{V:α->Prop}{t el:J}(hu:P.underlying t=some (.slice el))(hc:P.cellsOf t=1)(he:Wd P e V el):Wd P (Y4 e) (fun l=>∀x∈l,V x) t:=⟨hc,fun a=>by
 cases a with
 | bool hu'=>rw[hu]at hu';cases hu'
 | int hu' _=>rw[hu]at hu';cases hu'
 | string hu' _=>rw[hu]at hu';cases hu'
 | nil hu'=>exact⟨(none,0),[],rfl,by simp,fun _=>Sl.nil⟩
 | empty hu'=>exact⟨(some ⟨0,0,some 0⟩,0),[],rfl,by simp,fun _=>⟨by simp,by simp,.inr (.inl ⟨rfl,rfl⟩),.inl rfl⟩⟩
 | @slice t' e' els rest i cap hu' hl hcap hat hsz hel=>
   rw[hu]at hu';cases hu';obtain⟨ys,h1,hv,h2⟩:=Zci (e:=e) els (fun x hx=>he.2 (hel x hx));have hsz':∀x∈els,x.1.length=e.sz:=fun x hx=>(hsz x hx).trans he.1
   refine⟨(some ⟨i,0,none⟩,2*cap),ys,by show [Value.slice _ _ _]=[Value.slice _ _ _];rw[h1],hv,fun wm=>⟨?_,?_,.inr (.inr ⟨_,_,rfl⟩),.inr ⟨i,0,_,false,0,rfl,hat,.inr rfl,?_,fun k y hk=>?_⟩⟩⟩
   ·rw[h1];exact KB (KB hl hcap) (by decide)
   ·rw[h1];omega
   ·rw[h1,JT,ZeV els hsz'];exact K1 _
   ·obtain⟨x,p,q1,q2,q3⟩:=h2 k y hk;refine⟨p,?_,q3 wm⟩;rw[JT,ZdV els hsz' q1,q2]
 | struct hu'=>rw[hu]at hu';cases hu'⟩
def AR.Zuu{E:Type}{h:H}{t:J}{cs:U N}{d:DataW E}{fs:GZ Field}(hu:P.underlying t=some (.struct fs))(a:AR P h t cs d):
 ∃els:U (U N×DataW E),cs=els.flatMap (·.1)/\els.length=fs.toList.length/\∀(i:Nat)(x:U N×DataW E)(f:Field),els[i]? =some x->fs.toList[i]? =some f->AR P h f.type x.1 x.2:=by
 cases a with
 | bool hu'=>rw[hu]at hu';cases hu'
 | int hu' _=>rw[hu]at hu';cases hu'
 | string hu' _=>rw[hu]at hu';cases hu'
 | nil hu'=>rw[hu]at hu';cases hu'
 | empty hu'=>rw[hu]at hu';cases hu'
 | slice hu'=>rw[hu]at hu';cases hu'
 | struct hu' hl hsz hel=>rw[hu]at hu';cases hu';exact⟨_,rfl,hl,hel⟩
def ZE8{ρ:Ren}{acs cs:U N}(h:LR ρ acs cs):VR ρ (.agg acs.toArray) (.agg cs.toArray):=
 .agg _ _ (by simpa using h.1) (fun i v v' e1 e2=>h.2 i v v' (by simpa using e1) (by simpa using e2))
def ZAR{ρ:Ren}{acs:U N}{cs:GZ N}(h:LR ρ acs (Value.agg cs).cells.toList):VR ρ (.agg acs.toArray) (.agg cs):=by
 have:=ZE8 h
 rwa[Array.toArray_toList]at this
def ZpE:Ren:=⟨fun _=>none,fun _=>(0,0)⟩
def Zq5:ZfA ⟨.nil,0⟩:=fun i=>by
 have:(⟨.nil,0⟩:H).at i=.dead:=H.ZaF (GE _);rw[this];rfl
def ZwB(w:GY):Rel ZpE ⟨.nil,0⟩ w:=⟨fun _ _ _ e=>(by cases e),fun _ _ _ e=>(by cases e),fun _ _ _ _ _ e=>(by cases e)⟩
def ZCS{E:Type}{W:GY}(l:U (J×U N×DataW E))(hl:∀x∈l,ZlR P W x.1 x.2.1 x.2.2):
 ∃(ρ:Ren) (h:H) (els:U (U N×DataW E)),Rel ρ h W/\ZfA h/\els.length=l.length/\
   ∀(i:Nat)(x:U N×DataW E)(y:J×U N×DataW E),els[i]? =some x->l[i]? =some y->LR ρ x.1 y.2.1/\AR P h y.1 x.1 x.2:=by
 obtain⟨ρ,h,els,q1,q2,q3,q4,q5,q6,q7⟩:=Zna l hl ZpE ⟨.nil,0⟩ (ZwB W) Zq5;exact⟨ρ,h,els,q3,q4,q6,q7⟩
end Go.ZK
end
end
section
set_option maxRecDepth 20000
noncomputable section
namespace Go.Proofs.YtbnepjakjmnadaaGreat
open Go.ZK Go.Lf
section
open Go.ZK Go.RowKit Go.Maps Go.Sort Go.Shelf Go.Lf
def ZhZ(l:U (Y×Z)):(Zak l).length=l.length:=by unfold Zak;rw[Gc,Zh0]
def Zwo(l:U (Y×Z)):(Zhh l).map encStr=(Zak l).map Value.string:=by
 unfold Zak;rw[Gd];exact Gt fun k _=>rfl
def ZI8{wm m:Nat}{h h0:H}{T:Nat->Prop}{G Gr:U (Ast wm)}{l:U (Y×Z)}(hS:Sp wm T h0 G h)(pk:Pk G (mp wm Value.string Value.bool (some m) l) Gr)(hk:(l.map (·.1)).Nodup)(hs:∀p∈l,p.1.size<=1000000)(hl:l.length<=1000000):
 ∃v h2,Ym XX (.call 66 #[.func (.func 111) #[] #[(V5 h.size)]] wm (h.push (.box m))) (.fin (.ret v) h2)/\∃a c,v=.slice a (Zak l).length c/\Sp wm T h0 (ow wm YG a (Zak l).length c (Zak l)::G) h2:=by
 have hS1:Sp wm T h0 G (h.push (.box m)):=hS.up (Up.push wm h _);have hi:(h.push (.box m)).at h.size=.box m:=QL _ _
 obtain⟨i,bs,Qb,e,hat,hbl,hbn,hbc⟩:∃i bs Qb,some m=some i/\h.at i=.map (XA Value.string Value.bool l bs) Qb/\bs.length=l.length/\bs.Nodup/\∀b∈bs,b<Qb:=by
  rcases(hS.get pk).at_.mem with⟨q,_⟩|q
  ·cases q
  ·exact q
 cases e;have ZKz:(h.push (.box m)).at m=.map (XA Value.string Value.bool l bs) Qb:=by rw[U7 (Qc hat rfl)];exact hat
 have c1:Xw Qb (XA Value.string Value.bool l bs)=true:=ZjT (by rw[ZfW l bs hbl];exact hbn) (by rw[ZfW l bs hbl];exact hbc);have c2:(XA Value.string Value.bool l bs).length<=1000000:=by unfold XA;rw[List.length_zipWith,hbl];omega
 have c3:=ZoH (vv:=Value.bool) l bs hbl hs
 have c4:nodupB (kbs l)=true:=Zk5 (by
  unfold kbs;rw[show(fun p:Y×Z=>p.1.data.toList)=(fun s:Y=>s.data.toList)∘(·.1) from rfl,<-Gd];exact List.Pairwise.map _ (fun a b hab e=>hab (by cases a;cases b;exact congrArg _ (GO.1 e))) hk)
 have hsz:Maps.size (Jh (kbs l))<=1000000:=by rw[Zrc];simpa[kbs]using hl
 by_cases hn:l=[]
 ·subst hn;have e:Zak []=[]:=G9 (ZhZ []);refine⟨V3,_,ZyS hi ZKz c1 c2 c3 c4 hsz rfl,none,0,by rw[e];rfl,?_⟩;rw[e];exact hS1.nil
 ·have h1:Zhh l≠[]:=fun e=>hn (G9 (by rw[<-Zh0 l,e];rfl))
  have hlen:(Zhh l).length=(Zak l).length:=by rw[Zh0,ZhZ]
  refine⟨_,_,ZyR hi ZKz c1 c2 c3 c4 hsz h1 (Zn4 l) (Zuz l),some ⟨(h.push (.box m)).size,0,none⟩,2*(Zak l).length+1,by rw[hlen],?_⟩;refine hS1.new (Up.push wm _ _) ⟨rfl,?_,.inr ⟨_,0,(Zhh l).map encStr,rfl,hS1.hw,QL _ _,by omega,?_,?_⟩⟩ (fun i hi=>?_)
  ·rw[ZhZ];omega
  ·rw[Gc,hlen];show 0+_*1<=_;omega
  ·rw[Zwo,List.map_eq_flatMap];refine⟨by rw[<-List.map_eq_flatMap,Gc];show 0+_*1<=_;omega,fun k x hk=>⟨(),?_,trivial⟩⟩;rw[JT];exact ZdV (Zak l) (f:=fun x=>[Value.string x]) (sz:=1) (fun _ _=>rfl) hk
  ·obtain⟨o,ho⟩:=hi;cases ho;exact K1 _
end
section
def ZJT:(XX.fns.get 67).isSome=true:=Kq0
def ZJU:(XX.fns.get 66).isSome=true:=Kq0
def ZGk:(XX.fns.get 23).isSome=true:=Kq0
def Zf2(m:MB):Z:=decide ((m.map (·.1)).Nodup)&&m.all (fun p=>decide (p.1.size<=1000000))&&decide (m.length<=1000000)
def Zvd(F:Nat)(t:Term):O (U Y×Int):=(Zhm F t).bind fun e=>bif e !=0 then some ([],e) else(ZrD F t).bind fun m=>bif Zf2 m then some (Zak m,0) else none
def Zy3{F wm:Nat}{h:H}{t:Term}{pA pD pK:O Addr}{cA cD cK:Nat}{r:U Y×Int}(Zx:wm<=h.size)(hsA:Sl Zh wm h pA cA t.args)(hsD:Sl Zc wm h pD cD t.defs)(hsK:Sl Zv wm h pK cK t.kids)(hL:Zvd F t=some r):
 WR XX 27 #[.agg #[V4 t.op,.string t.text,.slice pA t.args.length cA,.slice pD t.defs.length cD,.slice pK t.kids.length cK]] wm h (CP (fun v (Gb:U (Ast wm))=>∃(XU:O Addr) (Uf:Nat) (XT:Nat),v=.tuple #[.slice XU Uf XT,V4 r.2]/\Gb=[ow wm YG XU Uf XT r.1]) [] h):=by
 unfold Zvd at hL;refine bg Tryz.ntmps27 Zx Yh.nil ?_;intro T hT hS;refine r3 ?_;rintro _ h3 ⟨b1,eb1,rfl,hS⟩;refine r8 ?_;obtain⟨e,he,hL⟩:=bS hL;refine WO.cp gN rfl (Yi.fn ZGk (Zb lk Zd)) (Zgg (hS.slu hsA) (hS.slu hsD) (hS.slu hsK) he)<|r8 ?_;refine r1 ?_;refine cn hL ?_ ?_
 ·intro hc hL;refine r8 ?_;refine r1 ?_;have hS:=hS.nil (e:=YG);have hr:=Oi0 hL;subst hr;exact Y6.gen (vs:=[V3,V4 e]) rfl (ZC lk (ZC lk Zm)) rfl ⟨_,⟨none,0,0,rfl,rfl⟩,hT▸hS.only (.c k0 .n)⟩
 ·intro hc hL;refine r4 ?_;refine r1 ?_;obtain⟨m,hm,hL⟩:=bS hL;refine V9 (Yi.fn ZEg (Zb lk Zd)) hS .n (fun g' hz hf hO=>ZyQ (hS.Vc hz) ((hS.sl hsA).mono hf) ((hS.sl hsD).mono hf) ((hS.sl hsK).mono hf) hm) ?_;rintro _ h8 _ ⟨cf,rfl,rfl⟩ hS;cases hko:Zf2 m
  ·rw[hko]at hL;cases hL
  rw[hko]at hL
  have ZGe:((m.map (·.1)).Nodup/\∀p∈m,p.1.size<=1000000)/\m.length<=1000000:=by
   unfold Zf2 at hko
   simpa only[Ba0,decide_eq_true_eq,Ks]using hko
  obtain⟨v,h9,hj,a,cc,rfl,hS2⟩:=ZI8 hS k0 ZGe.1.1 ZGe.1.2 ZGe.2;refine WO.en gN rfl (Yi.fn ZJT (Zb lk Zd)) ZCu<|WO.en gN rfl (Yi.fn ZJU (Zb lk Zd)) hj<|r4 ?_;refine r1 ?_;have hr:=Oi0 hL;subst hr;exact Y6.gen (vs:=[.slice a (Zak m).length cc,V4 0]) rfl (ZC lk (ZC lk Zm)) rfl ⟨_,⟨a,_,cc,rfl,rfl⟩,hT▸hS2.only (.c k0 .n)⟩
end
section
end
section
def ZJR:(XX.fns.get 78).isSome=true:=Kq0
def ZJV:(XX.fns.get 54).isSome=true:=Kq0
def ZyP(F:Nat)(taken:MB):O (MB×Y):=(ZyW F taken).bind fun s=>some (YT taken s true,s)
def ZHb{F wm w cf cm:Nat}{fv:FV wm}{taken:MB}{h:H}{r:MB×Y}(Zx:wm<=h.size)(hO:Yh [wbA wm w cf (some cm) fv,mp wm Value.string Value.bool (some cm) taken] h)(hL:ZyP F taken=some r):
 WR XX 78 #[pV w] wm h (CP (fun v (Gb:U (Ast wm))=>v=.string r.2/\Gb=[wbA wm w cf (some cm) fv,mp wm Value.string Value.bool (some cm) r.1]) [wbA wm w cf (some cm) fv,mp wm Value.string Value.bool (some cm) taken] h):=by
 refine WF.begin (args:=[_]) (fn:=Tryz.f78) Kq0 (by exact rfl) Tryz.ntmps78 (by simp) ?_;simp only[Zn,Zw,Nat.reduceAdd];obtain⟨T,hT,hS⟩:∃T,T=QI [wbA wm w cf (some cm) fv,mp wm Value.string Value.bool (some cm) taken]/\Sp wm T h [wbA wm w cf (some cm) fv,mp wm Value.string Value.bool (some cm) taken] h:=⟨_,rfl,Sp.start Zx hO⟩
 unfold ZyP at hL;refine WC.seq<|WC.region<|V8 (Z5 (UO rfl))<|WO.nil<|ZH.Yf<|WC.seq<|WC.region<|V8 (ZW lk)<|V8 (ZjZ lk)<|V8 (YV Zjd lk)<|V8 (Ye Zj3 lk (ZgL hS k0) (j:=1) rfl (v:=.map (some cm)) rfl) ?_;obtain⟨s,hs,hL⟩:=bS hL;refine WO.cp gN rfl (Yi.fn ZJV (Zb lk Zd)) (ZHk (hS.mrd k1) hs)<|V8 (Z5 lk)<|WO.nil<|ZH.Yf<|WC.seq<|WC.region<|V8 (ZW lk)<|V8 (ZjZ lk)<|V8 (YV Zjd lk)<|V8 (Ye Zj3 lk (ZgL hS k0) (j:=1) rfl (v:=.map (some cm)) rfl)<|V8 (ZW lk)<|WO.hu gN (ZbE (kv:=Value.string) (vv:=Value.bool) (v:=true) hS k1 Uu Je lk lk (UO rfl)) ?_;rintro h10 hS;refine WO.nil<|ZH.Yf<|WC.seq<|WC.region<|V8 (ZW lk)<|V8 (Z5 lk)<|WO.nil<|ZH.Yf<|WC.ret ?_;have hr:=Oi0 hL;subst hr;exact Y6.JQ rfl (ZC lk Zm) ⟨_,⟨rfl,rfl⟩,hT▸hS.only (.c k1 (.c k0 .n))⟩
end
end Go.Proofs.YtbnepjakjmnadaaGreat
end
end
section
set_option maxRecDepth 20000
noncomputable section
namespace Go.ZK
open Go.Lf
variable{P:GW}
def ZvM{t:J}{x:GV}{a b c}{f:Fn}{fs cs:GZ N}(hu:P.underlying t=some (.func a b c)):Qk P .neq t x (.const .nilFunc) (.func f fs cs) .nilFunc=some (.val (.bool true),.none):=by
 have hp:(plain (.func f fs cs)&&plain .nilFunc)=false:=rfl;unfold Qk;rw[hp,Cq0];have:ZbP P t (.func f fs cs) .nilFunc=some false:=by unfold ZbP;rw[hu]
 rw[this];rfl
def ZfR{α:Type}:∀(Ga:U α),Sel Ga Ga []
 | []=>.n
 | _::Ga=>.c .z (ZfR Ga)
def ZwJ{α:Type}(A:α)(Gw:U α):∀Gr:U α,Pk (Gr++A::Gw) A (Gr++Gw)
 | []=>.z
 | _::Gr=>.s (ZwJ A Gw Gr)
def ZqU{α:Type}(Gr:U α):∀Gw:U α,Sel (Gr++Gw) Gw Gr
 | []=>by rw[Gj];exact .n
 | A::Gw=>.c (ZwJ A Gw Gr) (ZqU Gr Gw)
end Go.ZK
end
end
section
set_option maxRecDepth 20000
noncomputable section
namespace Go.Proofs.YtbnepjakjmnadaaGreat
open Go.ZK Go.Lf
section
abbrev ChL:=MB->U NM->U Y->O MB->O (MB×U Y)
def ZIu(wm w cf:Nat)(ct:O Nat)(fv:FV wm)(fid:GX)(caps:U N)(KI:Zhp wm)(chL:ChL):Prop:=
 ∀{h:H}{S:U SE}{b:Nat}{c:U NM}{names:U Y}{pa:O Addr}{pc:Nat}{wv:N}{Gw:U (Ast wm)}{wi:O MB}{free taken:MB}{r:MB×U Y},wm<=h.size->Rd S (some b) c->Sl YG wm h pa pc names->KI wv Gw wi->chL taken c names wi=some r->Yh (Uc wm w cf ct fv free taken S++Gw) h ->
   WR XX fid ([pV b,.slice pa names.length pc,wv]++caps).toArray wm h (CP (fun v (Gb:U (Ast wm))=>∃(a:O Addr) (cc:Nat),v=.slice a r.2.length cc/\Gb=YB wm (Y4 YG) (a,cc) r.2::(Uc wm w cf ct fv free r.1 S++Gw)) (Uc wm w cf ct fv free taken S++Gw) h)
def Zdz(F:Nat)(chL:ChL):UB:=fun tk c names wi=>(chL tk c names wi).bind fun y=>(loop F (KG names y.2) (0,[])).bind fun m=>some (y.1,m)
def Zy7{F wm w cf:Nat}{ct:O Nat}{fv:FV wm}{fid:GX}{caps:U N}{KI:Zhp wm}{chL:ChL}(hfv:fv.v=.func (.func fid) #[] caps.toArray)(hid:(XX.fns.get fid).isSome=true)(hA:∀wv Gw wi,KI wv Gw wi->XG wv=false)(hC:ZIu wm w cf ct fv fid caps KI chL)
 {h:H} {S:U SE} {b:Nat} {c:U NM} {names:U Y} {pa:O Addr} {pc:Nat} {wv:N} {Gw:U (Ast wm)} {wi:O MB} {free taken:MB} {r:MB×NM} (Zx:wm<=h.size) (hr:Rd S (some b) c) (hsp:Sl YG wm h pa pc names) (hW:KI wv Gw wi) (hL:Zdz F chL taken c names wi=some r) (hO:Yh (Uc wm w cf ct fv free taken S++Gw) h):
  WR XX 150 #[pV b,.slice pa names.length pc,wv] wm h (CP (fun v (Gb:U (Ast wm))=>∃(S':U SE) (b':Nat),(∀e∈S,e∈S')/\v=ZbK (some b')/\Rd S' (some b') (r.2::c)/\Gb=Uc wm w cf ct fv free r.1 S'++Gw) (Uc wm w cf ct fv free taken S++Gw) h):=by
 refine WF.begin (args:=[_,_,_]) (fn:=Tryz.f150) Kq0 (by exact rfl) Tryz.ntmps150 (by simp) ?_;simp only[Zn,Zw,Nat.reduceAdd];obtain⟨T,hT,hS⟩:∃T,T=QI (Uc wm w cf ct fv free taken S++Gw)/\Sp wm T h (Uc wm w cf ct fv free taken S++Gw) h:=⟨_,rfl,Sp.start Zx hO⟩
 unfold Zdz at hL;have hwv:=hA _ _ _ hW
 obtain⟨e,he,hbe⟩:∃e,e∈S/\e.b=b:=by
  cases hr with
  | @cons e c' he hr=>exact⟨e,he,rfl⟩
 subst hbe;refine r16 ?_;refine r1 ?_;refine V8 (Ye Zbh lk (Zeo hS k3 he) (j:=0) rfl (v:=pV w) rfl)<|r2 ?_;refine V8 (Ye Znu lk (ZgL hS k0) (j:=2) rfl (v:=fv.v) rfl) ?_;rw[hfv];obtain⟨ua,ub,uc,hu⟩:=Zwf;refine V8 (YW lk (UO rfl) (ZvM hu))<|r2 ?_;refine WC.UJ lk (fun hc=>?_) (fun hc=>?_)
 ·refine r4 ?_;refine V8 (Ye Zbh lk (Zeo hS k3 he) (j:=0) rfl (v:=pV w) rfl)<|r2 ?_;refine V8 (Ye Znu lk (ZgL hS k0) (j:=2) rfl (v:=fv.v) rfl) ?_;rw[hfv];refine r3 ?_;obtain⟨y,hy,hL⟩:=bS hL;refine V9 (Yi.clo (first:=[]) (cap:=caps) lk hid (Zb lk (Zb lk (Zb lk Zd))) rfl) hS (.c k0 (.c k0 (.c k0 (.c k0 (ZfR _))))) (fun g' hz hf hO=>hC (hS.Vc hz) hr (hsp.mono hf) hW hy hO) ?_;rintro _ h1 _ ⟨ya,yc,rfl,rfl⟩ hS;have hS:=hS.only (.c k0 (.c k0 (.c k0 (.c k0 (.c k0 (Zma Gw []))))));refine V8 (Z5 lk)<|WO.nil<|r6 ?_;refine V8 (Ye Zbh lk (Zeo hS k4 he) (j:=0) rfl (v:=pV w) rfl)<|r1 ?_;refine Va (Zep Value.string vvE hS) ?_;rintro _ h2 ⟨bm,ebm,rfl,hS⟩;refine V8 (XZ Zr2 (ZG lk (ZG lk (ZG lk Ya))) rfl (cs':=[pV w,pV e.b,.map (some bm)]) rfl)<|r1 ?_;rintro _ h3 ⟨bs,ebs,rfl,hS⟩;refine r12 ?_;have hS:=hS.add (A:=esA wm []) (fun x hx=>by cases hx) (fun _ z=>z);obtain⟨m,hm,hL⟩:=bS hL;refine WC.loop (WL.lift hm (fun(p:Int×NM)(s:Fs)=>match p with | (i,m)=>∃(XB:Fr) (h9:H) (es:U (Y×EV)),s=⟨XB,[],h9,none⟩/\Sp wm T h (bx wm bs [pV w,pV e.b,.map (some bm)]::mp wm Value.string vvE (some bm) es::esA wm es::YB wm (Y4 YG) (ya,yc) y.2::(Uc wm w cf ct fv free y.1 S++Gw)) h9/\Zov es=m/\XB.at 7=.slice ya y.2.length yc/\XB.at 8=(V5 bs)/\XB.at 39=.slice pa names.length pc/\XB.at 40= V4 (names.length:Int)/\XB.at 41= V4 i) ⟨_,_,[],rfl,hS.only (.c k1 (.c k1 (.c k0 (.c k0 (.c k0 (.c k0 (.c k0 (.c k0 (ZfR _))))))))),rfl,X9⟩ ?_);clear hm hS;rintro ZaV ⟨i,m'⟩ s QA hm ⟨XB,h9,es,rfl,hS,rfl,e7,e8,e39,e40,e41⟩;dsimp only[KG]at hm;refine r6 ?_;refine cn hm ?_ ?_
  ·intro hc hm;refine r6 ?_;refine r1 ?_;obtain⟨WM,ZbT,hm⟩:=bS hm;obtain⟨b23,o24,_,Jw,Jz,Jy,XH⟩:=Sl.at_ hsp ZbT;refine V8 (Z8 Wy Kv (Zk (Z9 rfl e39) rfl) (Zk (Z9 rfl e41) rfl) rfl Jw ZbT)<|V8 (Ye Zde (Zk fh rfl) (At.fz hS.fz Jy Jz) (j:=0) rfl (v:=.string WM) rfl)<|r4 ?_;refine WC.JZ mixed Kq0<|r6 ?_;refine r1 ?_;obtain⟨x25,hx25,hm⟩:=bS hm;obtain⟨b26,o27,_,Zx9,Zyg,ZEy,ZKZ⟩:=Sl.at_ (hS.fsl k3) hx25;refine Vb (Z8 Wy Kv (Zk (Zj rfl fh) rfl) (Zk fh rfl) rfl Zx9 hx25)<|Vb (Ye Zde (Zk fh rfl) Zyg (j:=0) rfl (v:=.string x25) rfl) ?_;obtain⟨z,hz,hm⟩:=bS hm;refine WX.cl0 gN rfl (Yi.fn Ztd (Zb (Zk fh rfl) Zd)) hS .n (fun g' hz' hf hO=>Ztq (by rw[hz'];exact hS.hw) hz) ?_ rfl rfl;rintro _ h34 _ ⟨a31,c33,rfl,rfl⟩ hS;refine WX.hu gN (ZbE (kv:=Value.string) (vv:=vvE) (k:=WM) (v:=((a31,c33),z)) hS k2 Uu ZqJ (Zk (Yt rfl (Z9 rfl fh)) rfl) (Zk (Yt rfl (Zj rfl fh)) rfl) (Zk fh rfl)) ?_ rfl Kq0 [] Kq0 X6.e;rintro h35 hS
   have hS:=hS.add (A:=esA wm (YT es WM ((a31,c33),z))) (fun x hx=>by
    rcases ZiB hx with q|q
    ·exact hS.get k3 x q
    ·rw[q];exact YJ.2 (hS.fsl k1)) (fun _ z=>z)
   refine r6 ?_;refine r1 ?_;exact ZV.Yf (QA _ _ hm ⟨_,_,YT es WM ((a31,c33),z),rfl,hS.only (.c k3 (.c k1 (.c k0 (.c k2 (.c k2 (.c k2 (.c k2 (.c k2 (ZqU [_,_] Gw))))))))),Zk7 (fun q:EV=>q.2) es WM ((a31,c33),z),X9⟩)
  ·intro hc hm;refine r12 ?_;have hm':=Oi0 hm;subst hm';have hr':=Oi0 hL;subst hr';have hS:=ZqL (S:=S) (b:=bs) (ar:=some e.b) (m:=some bm) (es:=es) (hS.only (.c k0 (.c k0 (.c k0 (.c k4 (.c k1 (.c k1 (.c k1 (ZqU [_] Gw)))))))));exact Y6.JQ rfl (ZC (Zk fh rfl) Zm) ⟨_,⟨⟨bs,some e.b,some bm,es⟩::S,bs,fun x hx=>Kf _ hx,rfl,Rd.cons (e:=⟨bs,some e.b,some bm,es⟩) Gs (hr.mono fun x hx=>Kf _ hx),rfl⟩,hT▸hS.only (.c k1 (.c k1 (.c k1 (.c k0 (ZfR _)))))⟩
 ·cases hc
def ZC6{F wm w cf:Nat}{ct:O Nat}{fv:FV wm}{fid:GX}{caps:U N}{KI:Zhp wm}{chL:ChL}(hfv:fv.v=.func (.func fid) #[] caps.toArray)(hid:(XX.fns.get fid).isSome=true)(hA:∀wv Gw wi,KI wv Gw wi->XG wv=false)(hC:ZIu wm w cf ct fv fid caps KI chL):ZgI wm w cf ct fv KI (Zdz F chL):=by
 intro h S b c names pa pc wv Gw wi free taken r Zx hr hsp hW hL hO;obtain⟨e,h',⟨v,rfl,Gb,⟨S',b',h1,h2,h3,rfl⟩,hS⟩,hj⟩:=Zy7 (F:=F) hfv hid hA @hC Zx hr hsp hW hL (hO.perm List.perm_append_comm);refine⟨_,h',⟨v,rfl,_,⟨S',b',h1,h2,h3,rfl⟩,?_⟩,hj⟩;have s1:Sp wm (QI (Gw++Uc wm w cf ct fv free taken S)) h (Uc wm w cf ct fv free taken S++Gw) h:=(Sp.start Zx hO).perm List.perm_append_comm;have s2:=s1.call (ZfR _) hS;rw[Gj]at s2;exact s2.perm List.perm_append_comm
def ZjD(F:Nat)(names:U Y):Int×MB×U Y->(Int×MB×U Y->O (MB×U Y))->O (MB×U Y):=fun(i,tk,acc) next=>
 bif decide (i<(names.length:Int)) then(ZyP F tk).bind fun y=>(app 16 acc [y.2]).bind fun z=>next (XD (i+1),y.1,z) else some (tk,acc)
def Zdv(F:Nat):ChL:=fun tk _ names _=>loop F (ZjD F names) (0,tk,[])
def fvC(wm w b3:Nat):FV wm:=⟨.func (.func 134) #[] #[pV b3],bx wm b3 [pV w]⟩
def ZF5:(XX.fns.get 134).isSome=true:=Kq0
def ZCH{F wm w cf cm b3 b:Nat}{taken:MB}{h:H}{c:U NM}{wi:O MB}{names:U Y}{pa:O Addr}{pc:Nat}{wv:N}{r:MB×U Y}(Zx:wm<=h.size)(hsp:Sl YG wm h pa pc names)(hL:Zdv F taken c names wi=some r)(hO:Yh [wbA wm w cf (some cm) (fvC wm w b3),mp wm Value.string Value.bool (some cm) taken] h):
 WR XX 134 #[pV b,.slice pa names.length pc,wv,pV b3] wm h (CP (fun v (Gb:U (Ast wm))=>∃(a:O Addr) (cc:Nat),v=.slice a r.2.length cc/\Gb=[YB wm (Y4 YG) (a,cc) r.2,wbA wm w cf (some cm) (fvC wm w b3),mp wm Value.string Value.bool (some cm) r.1]) [wbA wm w cf (some cm) (fvC wm w b3),mp wm Value.string Value.bool (some cm) taken] h):=by
 refine WF.begin (args:=[_,_,_,_]) (fn:=Tryz.f134) Kq0 (by exact rfl) Tryz.ntmps134 (by simp) ?_;simp only[Zn,Zw,Nat.reduceAdd];obtain⟨T,hT,hS⟩:∃T,T=QI [wbA wm w cf (some cm) (fvC wm w b3),mp wm Value.string Value.bool (some cm) taken]/\Sp wm T h [wbA wm w cf (some cm) (fvC wm w b3),mp wm Value.string Value.bool (some cm) taken] h:=⟨_,rfl,Sp.start Zx hO⟩
 unfold Zdv at hL;refine r16 ?_;refine r3 ?_;have hS:=hS.nil (e:=YG);refine WC.loop (WL.lift hL (fun(p:Int×MB×U Y)(s:Fs)=>match p with | (i,tk,acc)=>∃(XB:Fr) (h9:H) (a:O Addr) (n cc:Nat),s=⟨XB,[],h9,none⟩/\Sp wm T h [ow wm YG a n cc acc,wbA wm w cf (some cm) (fvC wm w b3),mp wm Value.string Value.bool (some cm) tk] h9/\XB.at 3=pV b3/\XB.at 8=.slice a n cc/\XB.at 10= V4 (names.length:Int)/\XB.at 11= V4 i) ⟨_,_,none,0,0,rfl,hS.only (.c k0 (.c k0 (.c k0 .n))),X9⟩ ?_);rintro ZaV ⟨i,tk,acc⟩ s QA hL ⟨XB,h9,a,n,cc,rfl,hS,e3,e8,e10,e11⟩;obtain rfl:=hS.on k0;refine r6 ?_;refine cn hL ?_ ?_
 ·intro hc hL;refine WC.skip<|ZH.Yf<|WC.seq<|WC.block<|WC.region<|V8 (ZW lk)<|V8 (Ye Zbh lk (At.box (hS.get k1).2.1) (j:=0) rfl (v:=pV w) rfl) ?_;obtain⟨y,hy,hL⟩:=bS hL;refine V9 (Yi.fn ZJR (Zb lk Zd)) hS (.c k1 (.c k1 .n)) (fun g' hz hf hO=>ZHb (hS.Vc hz) hO hy) ?_;rintro _ h1 _ ⟨rfl,rfl⟩ hS;refine Va (Zam (e:=YG) hS Wy Kv ZnO rfl rfl rfl (ZG lk Ya) rfl [((),y.2)] rfl (xs:=[y.2]) rfl (by intro q hq;exact trivial) rfl) ?_;rintro _ h37 ⟨bk,ebk,rfl,hS⟩;obtain⟨z2,hz2,hL⟩:=bS hL;refine WO.hv gN rfl (Zan (e:=YG) hS k3 ZaG lk lk (hS.UN k0) (hS.on k0) hz2) ?_;rintro _ h41 ⟨a41,c41,rfl,hS⟩;refine V8 (Z5 lk)<|WO.nil<|Yu.Yf<|ZH.Yf<|r4 ?_;exact ZV.Yf (QA _ _ hL ⟨_,_,a41,z2.length,c41,rfl,hS.only (.c k0 (.c k1 (.c k1 .n))),X9⟩)
 ·intro hc hL;refine WC.exit<|ZH.exit<|ZV.exit<|Yu.here<|ZH.Yf<|WC.seq<|WC.region<|V8 (ZW lk)<|V8 (Z5 lk)<|WO.nil<|ZH.Yf<|WC.fzn hS k0 ?_;rintro h65 ⟨ZKn,hS⟩;refine WC.ret ?_;have hr':=Oi0 hL;subst hr';exact Y6.JQ rfl (ZC lk Zm) ⟨_,⟨a,cc,rfl,rfl⟩,hT▸hS.only (.c k0 (.c k0 (.c k0 .n)))⟩
def ZCZ{F wm w cf cm b3:Nat}{KI:Zhp wm}:ZIu wm w cf (some cm) (fvC wm w b3) 134 [pV b3] KI (Zdv F):=by
 intro h S b c names pa pc wv Gw wi free taken r Zx hr hsp _ hL hO;have s1:=Sp.start Zx hO;obtain⟨e,h',⟨v,rfl,Gb,⟨a,cc,h1,rfl⟩,hS⟩,hj⟩:=ZCH (b:=b) (wv:=wv) Zx hsp hL (s1.Za0 (Ga:=[wbA wm w cf (some cm) (fvC wm w b3),mp wm Value.string Value.bool (some cm) taken]) (.c k0 (.c k1 .n)));refine⟨_,h',⟨v,rfl,_,⟨a,cc,h1,rfl⟩,?_⟩,hj⟩;have s2:=s1.call (Ga:=[wbA wm w cf (some cm) (fvC wm w b3),mp wm Value.string Value.bool (some cm) taken]) (.c k0 (.c k1 .n)) hS;exact s2.only (.c k0 (.c k0 (.c k1 (.c k0 (.c k0 (ZfR _))))))
end
section
def ZAM:YM XX.P 107=some (.pointer none):=Kq0
instance:Uy XX.P 107 (.pointer none):=⟨ZAM⟩
def ZA6:Yv XX.P 107=some 1:=Kq0
instance:SzF XX.P 107 1:=⟨ZA6⟩
def ZA5:Yv XX.P 108=some 1:=Kq0
instance:SzF XX.P 108 1:=⟨ZA5⟩
def ZrA(F:Nat)(t:Term):O Term:=(ZrD F t).bind fun m=>((ZjE F (Zdz F (Zdv F)) (fun _ _=>none) (fun _=>none) (([],m),[[]],t)).bind okP).map fun r=>r.2
def Zrz{F wm:Nat}{h:H}{t:Term}{pA pD pK:O Addr}{cA cD cK:Nat}{r:Term}(Zx:wm<=h.size)(hsA:Sl Zh wm h pA cA t.args)(hsD:Sl Zc wm h pD cD t.defs)(hsK:Sl Zv wm h pK cK t.kids)(hL:ZrA F t=some r):
 WR XX 92 #[.agg #[V4 t.op,.string t.text,.slice pA t.args.length cA,.slice pD t.defs.length cD,.slice pK t.kids.length cK]] wm h (CP (fun v (Gb:U (Ast wm))=>∃(XU:O Addr) (XT:Nat) (Zoh:O Addr) (Zoe:Nat) (Zog:O Addr) (Zod:Nat),v=.agg #[V4 r.op,.string r.text,.slice XU r.args.length XT,.slice Zoh r.defs.length Zoe,.slice Zog r.kids.length Zod]/\Gb=[YB wm (Y4 Zh) (XU,XT) r.args,YB wm (Y4 Zc) (Zoh,Zoe) r.defs,YB wm (Y4 Zv) (Zog,Zod) r.kids]) [] h):=by
 have hF:Zv.F wm h ((pA,cA),(pD,cD),(pK,cK)) t:=Jf.2 ⟨hsA,hsD,hsK⟩;unfold ZrA at hL;obtain⟨m,hm,hL⟩:=bS hL;obtain⟨r',hr',rfl⟩:=Zit hL;refine bg Tryz.ntmps92 Zx Yh.nil ?_;intro T hT hS;refine r3 ?_;rintro _ h3 ⟨b1,eb1,rfl,hS⟩;refine r1 ?_;rintro _ h2 ⟨b2,eb2,rfl,hS⟩;refine r4 ?_;refine V8 (Yq UK Xp lk (hS.J6 k1) (j:=0) rfl rfl (ws:=[V4 t.op,.string t.text,.slice pA t.args.length cA,.slice pD t.defs.length cD,.slice pK t.kids.length cK]) rfl)<|V9 (Yi.fn ZEg (Zb lk Zd)) hS .n (fun g' hz hf hO=>ZyQ (hS.Vc hz) ((hS.sl hsA).mono hf) ((hS.sl hsD).mono hf) ((hS.sl hsK).mono hf) hm) ?_;rintro _ h5 _ ⟨cm,rfl,rfl⟩ hS;refine V8 (XZ ZzF (ZG lk Ya) rfl (cs':=[.map none,.map (some cm),.nilFunc]) rfl)<|r1 ?_;rintro _ h4 ⟨bw,ebw,rfl,hS⟩;refine r1 ?_;rintro _ h6 ⟨b3,eb3,rfl,hS⟩;refine r1 ?_;rintro h7 hS;refine r4 ?_;refine r1 ?_;refine V8 (UU (Zb lk Zd))<|r2 ?_;refine r1 ?_;rintro h8 hS;refine r4 ?_;refine r1 ?_;refine V8 (Yq UK Xp lk (hS.J6 k4) (j:=0) rfl rfl (ws:=Ja ((pA,cA),(pD,cD),(pK,cK)) t) rfl) ?_;have hS:=hS.add (A:=esA wm []) (fun x hx=>by cases hx) (fun _ z=>z);have hS:=hS.add (A:=mp wm Value.string vvE none []) ZnD.nil (fun i z=>by cases z);refine V9 (Yi.fn ZEf (Zb lk (Zb lk (Zb (UO rfl) Zd)))) hS (.c k2 (.c k2 (.c k2 (.c k0 (.c k0 .n))))) (fun g' hz hf hO=>PQ.ok (ZyO (F:=F) (w:=bw) (fv:=fvC wm bw b3) (KI:=fun wv _ _=>XG wv=false) (Yd:=Zdz F (Zdv F)) (Wz:=fun _ _=>none) (frL:=fun _=>none) (fun cf=>ZC6 rfl ZF5 (fun _ _ _ z=>z) (@ZCZ F wm bw cf cm b3 _)) (fun _ _ _ _ _ _ _=>rfl) (fun _ _ _=>rfl) (p:=((pA,cA),(pD,cD),(pK,cK))) (es:=[]) (hS.Vc hz) (Zv.mono hf (Zv.mono hS.fz hF)) hO hr')) ?_;rintro _ h9 _ ⟨cf,S1,⟨⟨q0,c0⟩,⟨q1,c1⟩,⟨q2,c2⟩⟩,rfl,rfl⟩ hS;refine r1 ?_;rintro h10 hS;refine r3 ?_;have hq:=Jf.1 (hS.get k1);have hS:=hS.add (A:=YB wm (Y4 Zv) (q2,c2) r'.2.kids) hq.2.2 (fun _ z=>z);have hS:=hS.add (A:=YB wm (Y4 Zc) (q1,c1) r'.2.defs) hq.2.1 (fun _ z=>z);have hS:=hS.add (A:=YB wm (Y4 Zh) (q0,c0) r'.2.args) hq.1 (fun _ z=>z);exact Y6.JQ rfl (Xa X9 (Qe UK Xp (hS.J6 k3) (j:=0) rfl rfl (ws:=Ja ((q0,c0),(q1,c1),(q2,c2)) r'.2) rfl) Zm) ⟨_,⟨q0,c0,q1,c1,q2,c2,rfl,rfl⟩,hT▸hS.only (.c k0 (.c k0 (.c k0 .n)))⟩
end
section
def Zva(F:Nat)(p0:Term):O (Term×Int):=
 (Zhm F p0).bind fun x5=>(bif(x5 !=0) then some ((Term.mk 0 (⟨#[]⟩:Y) [] [] []),x5) else(ZrA F p0).bind fun x7=>some (x7,0))
end
section
def ZyZ{F wm h}{p0:Term}{Zf Ze Zu Zt Zq Zp}{r}(Zx:wm<=h.size)(Zl:Sl Zh wm h Zf Ze p0.args)(ZF:Sl Zc wm h Zu Zt p0.defs)(ZE:Sl Zv wm h Zq Zp p0.kids)(hL:Zva F p0=some r):
 WR XX 43 #[.agg #[V4 p0.op,.string p0.text,.slice Zf p0.args.length Ze,.slice Zu p0.defs.length Zt,.slice Zq p0.kids.length Zp]] wm h (CP (fun v (Gb:U (Ast wm))=>∃XU XT Zoh Zoe Zog Zod,v=.tuple #[.agg #[V4 r.1.op,.string r.1.text,.slice XU r.1.args.length XT,.slice Zoh r.1.defs.length Zoe,.slice Zog r.1.kids.length Zod],V4 r.2]/\Gb=[YB wm (Y4 Zh) (XU,XT) r.1.args,YB wm (Y4 Zc) (Zoh,Zoe) r.1.defs,YB wm (Y4 Zv) (Zog,Zod) r.1.kids]) [] h):=by
 refine bg Tryz.ntmps43 Zx Yh.nil ?_;intro T hT hS;unfold Zva at hL;refine r3 ?_;rintro _ h2 ⟨b1,eb1,rfl,hS⟩;refine r1 ?_;rintro _ h4 ⟨b3,eb3,rfl,hS⟩;refine r7 ?_;obtain⟨x5,hx5,hL⟩:=bS hL;refine WO.cp gN rfl (Yi.fn Zo4 (Zb lk Zd)) (Zgg (hS.slu Zl) (hS.slu ZF) (hS.slu ZE) hx5)<|r9 ?_;refine cn hL ?_ ?_
 ·intro hc hL;refine r2 ?_;refine V8 (XZ ZzC Ya rfl (cs':=[V4 0,.string (⟨#[]⟩:Y),V3,V3,V3]) rfl)<|r2 ?_;rintro h6 hS;refine r5 ?_;have hS:=hS.add (A:=YB wm (Y4 Zh) (none,0) []) Sl.nil (fun _ z=>z);have hS:=hS.add (A:=YB wm (Y4 Zc) (none,0) []) Sl.nil (fun _ z=>z);have hS:=hS.add (A:=YB wm (Y4 Zv) (none,0) []) Sl.nil (fun _ z=>z);have hr:=Oi0 hL;subst hr;exact Y6.gen (vs:=[.agg #[V4 0,.string (⟨#[]⟩:Y),V3,V3,V3],V4 x5]) rfl (Xa (YU rfl (Zj rfl fh)) (Qe UK Xp (hS.J6 k3) (j:=0) rfl rfl (ws:=[V4 0,.string (⟨#[]⟩:Y),V3,V3,V3]) rfl) (ZC lk Zm)) rfl ⟨_,⟨none,0,none,0,none,0,rfl,rfl⟩,hT▸hS.only (.c k2 (.c k1 (.c k0 .n)))⟩
 ·intro hc hL;refine r5 ?_;obtain⟨x7,hx7,hL⟩:=bS hL;refine V9 (Yi.fn ZxS (Zb lk Zd)) hS .n (fun g' hz hf hO=>Zrz (hS.Vc hz) ((hS.sl Zl).mono hf) ((hS.sl ZF).mono hf) ((hS.sl ZE).mono hf) hx7) ?_;rintro _ h17 _ ⟨a8,c10,a11,c13,a14,c16,rfl,rfl⟩ hS;refine r1 ?_;rintro h19 hS;refine r4 ?_;have hr:=Oi0 hL;subst hr;exact Y6.gen (vs:=[.agg #[V4 x7.op,.string x7.text,.slice a8 x7.args.length c10,.slice a11 x7.defs.length c13,.slice a14 x7.kids.length c16],V4 0]) rfl (Xa (YU rfl (Zj rfl fh)) (Qe UK Xp (hS.J6 k0) (j:=0) rfl rfl (ws:=[V4 x7.op,.string x7.text,.slice a8 x7.args.length c10,.slice a11 x7.defs.length c13,.slice a14 x7.kids.length c16]) rfl) (ZC lk Zm)) rfl ⟨_,⟨a8,c10,a11,c13,a14,c16,rfl,rfl⟩,hT▸hS.only (.c k1 (.c k1 (.c k1 .n)))⟩
end
section
end
section
end
section
end
section
end
section
end
section
end
section
end
section
end
section
end
section
end
section
end
section
end
section
end
section
end
section
end
section
end
section
end
section
end
section
end
section
end
end Go.Proofs.YtbnepjakjmnadaaGreat
end
end
section
set_option maxRecDepth 20000
noncomputable section
namespace Go.ZK
open Go.Lf
variable{P:GW}
end Go.ZK
end
end
section
set_option maxRecDepth 20000
noncomputable section
namespace Go.Proofs.YtbnepjakjmnadaaGreat
open Go.ZK Go.Lf
section
end
section
end
section
end
section
end
section
def Zvc(F:Nat)(p0:Term):O Z:=
 (Zy1 F p0 (Term.mk 0 (⟨#[]⟩:Y) [] [] [])).bind fun x3=>some x3
end
section
def ZHo{F wm:Nat}{h:H}{p0:Term}{Zf:O Addr}{Ze:Nat}{Zu:O Addr}{Zt:Nat}{Zq:O Addr}{Zp:Nat}{r:Z}(Zx:wm<=h.size)(Zl:Sl Zh wm h Zf Ze p0.args)(ZF:Sl Zc wm h Zu Zt p0.defs)(ZE:Sl Zv wm h Zq Zp p0.kids)(hL:Zvc F p0=some r):
 WR XX 35 #[.agg #[V4 p0.op,.string p0.text,.slice Zf p0.args.length Ze,.slice Zu p0.defs.length Zt,.slice Zq p0.kids.length Zp]] wm h (CP (fun v (Gb:U (Ast wm))=>v=.bool r/\Gb=[]) [] h):=by
 refine WF.begin (args:=[_]) (fn:=Tryz.f35) Kq0 (by exact rfl) Tryz.ntmps35 (by simp) ?_;simp only[Zn,Zw,Nat.reduceAdd];obtain⟨T,hT,hS⟩:∃T,T=QI (wm:=wm) []/\Sp wm T h [] h:=⟨_,rfl,Sp.start Zx Yh.nil⟩
 unfold Zvc at hL;refine WC.seq<|WC.region<|Va (Zib hS (Zk fh rfl) (vs:=[V4 p0.op,.string p0.text,.slice Zf p0.args.length Ze,.slice Zu p0.defs.length Zt,.slice Zq p0.kids.length Zp]) rfl) ?_;rintro _ h2 ⟨b1,eb1,rfl,hS⟩;refine V8 (Z5 (UO rfl))<|WO.nil<|ZH.Yf<|WC.seq<|WC.region<|V8 (Yq UK Xp (Zk (Zj rfl fh) rfl) (hS.J6 k0) (j:=0) rfl rfl (ws:=[V4 p0.op,.string p0.text,.slice Zf p0.args.length Ze,.slice Zu p0.defs.length Zt,.slice Zq p0.kids.length Zp]) rfl)<|V8 (XZ ZzC Ya rfl (cs':=[V4 0,.string (⟨#[]⟩:Y),V3,V3,V3]) rfl) ?_;obtain⟨x3,hx3,hL⟩:=bS hL;refine WO.cp gN rfl (Yi.fn ZxV (Zb (Zk (Zj rfl fh) rfl) (Zb (Zk fh rfl) Zd))) (Zy0 (p1:=(Term.mk 0 (⟨#[]⟩:Y) [] [] [])) (hS.slu Zl) (hS.slu ZF) (hS.slu ZE) Sl.nil Sl.nil Sl.nil hx3)<|V8 (Z5 (Zk fh rfl))<|WO.nil<|ZH.Yf<|WC.ret ?_;have hr:=Oi0 hL;subst hr;exact Y6.JQ rfl (ZC (Zk fh rfl) Zm) ⟨_,⟨rfl,rfl⟩,hT▸hS.only .n⟩
def ZHp{F:Nat}{h:H}{p0:Term}{Zf:O Addr}{Ze:Nat}{Zu:O Addr}{Zt:Nat}{Zq:O Addr}{Zp:Nat}{r:Z}(Zl:Sl Zh h.size h Zf Ze p0.args)(ZF:Sl Zc h.size h Zu Zt p0.defs)(ZE:Sl Zv h.size h Zq Zp p0.kids)(hL:Zvc F p0=some r):Pure XX 35 #[.agg #[V4 p0.op,.string p0.text,.slice Zf p0.args.length Ze,.slice Zu p0.defs.length Zt,.slice Zq p0.kids.length Zp]] h (.bool r):=
 WR.WA rfl (ZHo V7 Zl ZF ZE hL)
end
section
end
section
end
section
end
section
end
end Go.Proofs.YtbnepjakjmnadaaGreat
end
end
section
noncomputable section
namespace Go.ZK
open Go.Lf
variable{X:Ctx}
end Go.ZK
end
end
section
noncomputable section
namespace Go.Proofs.YtbnepjakjmnadaaGreat
open Go.ZK Go.Lf
end Go.Proofs.YtbnepjakjmnadaaGreat
end
end
section
noncomputable section
namespace Go.ZK
open Go.Lf
end Go.ZK
end
end
section
set_option maxRecDepth 20000
noncomputable section
namespace Go.Proofs.YtbnepjakjmnadaaGreat
open Go.ZK Go.Lf
section
end
section
end
section
end
section
end
section
end
section
end
section
end
section
end
section
end
section
end
section
end
section
end
section
end
section
end
section
end
section
def ZhE(p0:(U Y))(p1:(U Y)):Int->(Int->O Z)->O Z:=fun v6 ZDR=>
 (bif decide (v6<(p0.length:Int)) then(YH p0 v6).bind fun x9=>(YH p1 v6).bind fun x12=>(bif(!decide (x9=x12)) then some false else ZDR (XD (v6+1))) else some true)
def Zjv(F:Nat)(p0:(U Y))(p1:(U Y)):O Z:=
 (bif((p0.length:Int) !=(p1.length:Int)) then some false else loop F (ZhE p0 p1) 0)
def Zjw(F:Nat)(p0:Z4)(p1:Z4):O Z:=
 (gd (decide (p0.text=p1.text)) (Zjv F p0.names p1.names) default).bind fun x5=>some ((decide (p0.text=p1.text))&&x5)
def Ztr(F:Nat)(p0:(U Z4))(p1:(U Z4)):Int->(Int->O Z)->O Z:=fun v7 ZbQ=>
 (bif decide (v7<(p0.length:Int)) then(YH p0 v7).bind fun x10=>(YH p1 v7).bind fun x18=>(Zjw F x10 x18).bind fun x26=>(bif(!x26) then some false else ZbQ (XD (v7+1))) else some true)
def Zjx(F:Nat)(p0:(U Z4))(p1:(U Z4)):O Z:=
 (bif((p0.length:Int) !=(p1.length:Int)) then some false else loop F (Ztr F p0 p1) 0)
def ZtG(p0:(U Zg))(p1:(U Zg))(Zk2:((Zg×Zg)->O Z)):Int->(Int->O Z)->O Z:=fun v7 ZbQ=>
 (bif decide (v7<(p0.length:Int)) then(YH p0 v7).bind fun x10=>(YH p1 v7).bind fun x18=>(Zk2 (x10,x18)).bind fun x26=>(bif(!x26) then some false else ZbQ (XD (v7+1))) else some true)
def ZtH(F:Nat)(Zk2:((Zg×Zg)->O Z))(p0:(U Zg))(p1:(U Zg)):O Z:=
 (bif((p0.length:Int) !=(p1.length:Int)) then some false else loop F (ZtG p0 p1 Zk2) 0)
def Zb7(F:Nat):(Zg×Zg)->((Zg×Zg)->O Z)->O Z:=fun(p0,p1) ZR=>
 (bif(((p0.op==p1.op)&&(p0.n==p1.n))&&(decide (p0.text=p1.text))) then(ZtH F ZR p0.kids p1.kids).bind fun x7=>some x7 else some false)
def ZtA(p0:(U Term))(p1:(U Term))(Ziu:((Term×Term)->O Z)):Int->(Int->O Z)->O Z:=fun v7 ZbQ=>
 (bif decide (v7<(p0.length:Int)) then(YH p0 v7).bind fun x10=>(YH p1 v7).bind fun WM=>(Ziu (x10,WM)).bind fun x34=>(bif(!x34) then some false else ZbQ (XD (v7+1))) else some true)
def ZtB(F:Nat)(Ziu:((Term×Term)->O Z))(p0:(U Term))(p1:(U Term)):O Z:=
 (bif((p0.length:Int) !=(p1.length:Int)) then some false else loop F (ZtA p0 p1 Ziu) 0)
end
section
def ZCA{F wm h}{p0 p1:(U Y)}{Zf Ze ZA Zz}{r}(Zx:wm<=h.size)(Zl:Sl YG wm h Zf Ze p0)(ZN:Sl YG wm h ZA Zz p1)(hL:Zjv F p0 p1=some r):
 WR XX 158 #[.slice Zf p0.length Ze,.slice ZA p1.length Zz] wm h (CP (fun v (Gb:U (Ast wm))=>v=.bool r/\Gb=[]) [] h):=by
 refine bg Tryz.ntmps158 Zx Yh.nil ?_;intro T hT hS;unfold Zjv at hL;refine r15 ?_;refine cn hL ?_ ?_
 ·intro hc hL;refine r7 ?_;exact rt hL hT hS
 ·intro hc hL;refine KJ ?_;refine WC.loop (WL.lift hL (fun v6 s=>∃Xm h1,s=⟨Xm,[],h1,none⟩/\Sp wm T h [] h1/\Xm.at 0=.slice Zf p0.length Ze/\Xm.at 1=.slice ZA p1.length Zz/\Xm.at 12= V4 (p0.length:Int)/\Xm.at 13= V4 v6) ⟨_,_,rfl,hS.only .n,X9⟩ ?_);rintro ZDR v6 s ZGc hL ⟨Xm,h1,rfl,hS,e3,e4,e5,e7⟩;refine r6 ?_;refine cn hL ?_ ?_
  ·intro hc hL;refine KJ ?_;refine WC.JZ mixed Kq0<|r2 ?_;obtain⟨x9,hx9,hL⟩:=bS hL;obtain⟨b10,o11,_,ZKS,ZLu,ZLf,ZQi⟩:=Sl.at_ Zl hx9;refine Vb (Z8 Wy Kv lk lk rfl ZKS hx9)<|Vb (Ye Zde (Zk fh rfl) (At.fz hS.fz ZLf ZLu) (j:=0) rfl (v:=.string x9) rfl)<|r2 ?_;obtain⟨x12,Zkp,hL⟩:=bS hL;obtain⟨b13,o14,_,ZKQ,ZLs,ZLd,ZQg⟩:=Sl.at_ ZN Zkp;refine Vb (Z8 Wy Kv lk lk rfl ZKQ Zkp)<|Vb (Ye Zde (Zk fh rfl) (At.fz hS.fz ZLd ZLs) (j:=0) rfl (v:=.string x12) rfl)<|Vb (YW (Zk (Yt rfl fh) rfl) (Zk fh rfl) Ub)<|r2 ?_;refine cn hL ?_ ?_
   ·intro hc hL;refine KJ ?_;exact rt hL hT hS
   ·intro hc hL;refine r7 ?_;exact ZV.Yf (ZGc _ _ hL ⟨_,_,rfl,hS.only .n,X9⟩)
  ·intro hc hL;refine KJ ?_;exact rt hL hT hS
def ZCB{F h}{p0 p1:(U Y)}{Zf Ze ZA Zz}{r}(Zl:Sl YG h.size h Zf Ze p0)(ZN:Sl YG h.size h ZA Zz p1)(hL:Zjv F p0 p1=some r):Pure XX 158 #[.slice Zf p0.length Ze,.slice ZA p1.length Zz] h (.bool r):=
 WR.WA rfl (ZCA V7 Zl ZN hL)
def ZCC{F wm h}{p0 p1:Z4}{Zf Ze ZA Zz}{r}(Zx:wm<=h.size)(Zl:Sl YG wm h Zf Ze p0.names)(ZN:Sl YG wm h ZA Zz p1.names)(hL:Zjw F p0 p1=some r):
 WR XX 157 #[.agg #[.string p0.text,.slice Zf p0.names.length Ze],.agg #[.string p1.text,.slice ZA p1.names.length Zz]] wm h (CP (fun v (Gb:U (Ast wm))=>v=.bool r/\Gb=[]) [] h):=by
 refine bg Tryz.ntmps157 Zx Yh.nil ?_;intro T hT hS;unfold Zjw at hL;refine r3 ?_;rintro _ h2 ⟨b1,eb1,rfl,hS⟩;refine r1 ?_;rintro _ h4 ⟨b3,eb3,rfl,hS⟩;refine r9 ?_;refine V8 (YW (Zk (Z9 rfl fh) rfl) (Zk fh rfl) JF)<|r5 ?_;obtain⟨x5,hx5,hL⟩:=Ji hL;refine WO.gcp (Zi.yes rfl rfl rfl (Yt rfl fh)) rfl (fun hg=>(Yi.fn ZGo (Zb (Jm (Z9 rfl fh) rfl hg) (Zb (Jm fh rfl hg) Zd)))) (fun hg=>ZCB (hS.slu Zl) (hS.slu ZN) (hx5 hg))<|r5 ?_;exact rt hL hT hS
def ZCD{F h}{p0 p1:Z4}{Zf Ze ZA Zz}{r}(Zl:Sl YG h.size h Zf Ze p0.names)(ZN:Sl YG h.size h ZA Zz p1.names)(hL:Zjw F p0 p1=some r):Pure XX 157 #[.agg #[.string p0.text,.slice Zf p0.names.length Ze],.agg #[.string p1.text,.slice ZA p1.names.length Zz]] h (.bool r):=
 WR.WA rfl (ZCC V7 Zl ZN hL)
def ZCE{F wm h}{p0 p1:(U Z4)}{Zf Ze ZA Zz}{r}(Zx:wm<=h.size)(Zl:Sl ZT wm h Zf Ze p0)(ZN:Sl ZT wm h ZA Zz p1)(hL:Zjx F p0 p1=some r):
 WR XX 156 #[.slice Zf p0.length Ze,.slice ZA p1.length Zz,.func (.func 157) #[] #[]] wm h (CP (fun v (Gb:U (Ast wm))=>v=.bool r/\Gb=[]) [] h):=by
 refine bg Tryz.ntmps156 Zx Yh.nil ?_;intro T hT hS;unfold Zjx at hL;refine r15 ?_;refine cn hL ?_ ?_
 ·intro hc hL;refine r7 ?_;exact rt hL hT hS
 ·intro hc hL;refine KJ ?_;refine WC.loop (WL.lift hL (fun v7 s=>∃Xm h1,s=⟨Xm,[],h1,none⟩/\Sp wm T h [] h1/\Xm.at 1=.slice ZA p1.length Zz/\Xm.at 2=.func (.func 157) #[] #[]/\Xm.at 15=.slice Zf p0.length Ze/\Xm.at 16= V4 (p0.length:Int)/\Xm.at 17= V4 v7) ⟨_,_,rfl,hS.only .n,X9⟩ ?_);rintro ZbQ v7 s ZdS hL ⟨Xm,h1,rfl,hS,e3,e4,e5,e6,e8⟩;refine r6 ?_;refine cn hL ?_ ?_
  ·intro hc hL;refine r7 ?_;obtain⟨x10,ZdP,hL⟩:=bS hL;obtain⟨b11,o12,⟨a13,c14⟩,ZiY,Zi7,Zi6,U3⟩:=Sl.at_ Zl ZdP;refine V8 (Z8 Un Xn lk lk rfl ZiY ZdP) ?_;have ZeG:Sl YG wm h a13 c14 x10.names:=U3;refine V8 (Yq Zbg Xn (Zk fh rfl) (At.fz hS.fz Zi6 Zi7) (j:=0) rfl rfl (ws:=[.string x10.text,.slice a13 x10.names.length c14]) rfl)<|r1 ?_;rintro _ h16 ⟨b15,ZHF,rfl,hS⟩;refine r2 ?_;rintro h17 hS;refine r6 ?_;obtain⟨x18,KC,hL⟩:=bS hL;obtain⟨b19,o20,⟨a21,c22⟩,ZeJ,ZeN,ZeL,KD⟩:=Sl.at_ ZN KC;refine V8 (Z8 Un Xn lk lk rfl ZeJ KC) ?_;have ZgZ:Sl YG wm h a21 c22 x18.names:=KD;refine V8 (Yq Zbg Xn (Zk fh rfl) (At.fz hS.fz ZeL ZeN) (j:=0) rfl rfl (ws:=[.string x18.text,.slice a21 x18.names.length c22]) rfl)<|r1 ?_;rintro _ h24 ⟨b23,ZLG,rfl,hS⟩;refine r1 ?_;rintro h25 hS;refine r7 ?_;obtain⟨x26,ZoO,hL⟩:=bS hL;refine WO.cp gN rfl (Yi.clo (first:=[]) (cap:=[]) lk ZGp lks rfl) (ZCD (hS.slu ZeG) (hS.slu ZgZ) ZoO)<|r3 ?_;refine cn hL ?_ ?_
   ·intro hc hL;refine KJ ?_;exact rt hL hT hS
   ·intro hc hL;refine r7 ?_;exact ZV.Yf (ZdS _ _ hL ⟨_,_,rfl,hS.only .n,X9⟩)
  ·intro hc hL;refine KJ ?_;exact rt hL hT hS
def ZCF{F h}{p0 p1:(U Z4)}{Zf Ze ZA Zz}{r}(Zl:Sl ZT h.size h Zf Ze p0)(ZN:Sl ZT h.size h ZA Zz p1)(hL:Zjx F p0 p1=some r):Pure XX 156 #[.slice Zf p0.length Ze,.slice ZA p1.length Zz,.func (.func 157) #[] #[]] h (.bool r):=
 WR.WA rfl (ZCE V7 Zl ZN hL)
def ZtF{F wm}{Zk2:((Zg×Zg)->O Z)}(ZGb:∀(x:(Zg×Zg))(r:Z),Zk2 x=some r->(match x with | (p0,p1)=>∀{h Zf Ze ZA Zz}(Zx:wm<=h.size)(Zl:Sl Zh wm h Zf Ze p0.kids)(ZN:Sl Zh wm h ZA Zz p1.kids),WR XX 130 #[.agg #[V4 p0.op,V4 p0.n,.string p0.text,.slice Zf p0.kids.length Ze],.agg #[V4 p1.op,V4 p1.n,.string p1.text,.slice ZA p1.kids.length Zz]] wm h (CP (fun v (Gb:U (Ast wm))=>v=.bool r/\Gb=[]) [] h))){h}{p0 p1:(U Zg)}{Zf Ze ZA Zz}{r}(Zx:wm<=h.size)(Zl:Sl Zh wm h Zf Ze p0)(ZN:Sl Zh wm h ZA Zz p1)(hL:ZtH F Zk2 p0 p1=some r):
 WR XX 129 #[.slice Zf p0.length Ze,.slice ZA p1.length Zz,.func (.func 130) #[] #[]] wm h (CP (fun v (Gb:U (Ast wm))=>v=.bool r/\Gb=[]) [] h):=by
 refine bg Tryz.ntmps129 Zx Yh.nil ?_;intro T hT hS;unfold ZtH at hL;refine r15 ?_;refine cn hL ?_ ?_
 ·intro hc hL;refine r7 ?_;exact rt hL hT hS
 ·intro hc hL;refine KJ ?_;refine WC.loop (WL.lift hL (fun v7 s=>∃Xm h1,s=⟨Xm,[],h1,none⟩/\Sp wm T h [] h1/\Xm.at 1=.slice ZA p1.length Zz/\Xm.at 2=.func (.func 130) #[] #[]/\Xm.at 15=.slice Zf p0.length Ze/\Xm.at 16= V4 (p0.length:Int)/\Xm.at 17= V4 v7) ⟨_,_,rfl,hS.only .n,X9⟩ ?_);rintro ZbQ v7 s ZdS hL ⟨Xm,h1,rfl,hS,e3,e4,e5,e6,e8⟩;refine r6 ?_;refine cn hL ?_ ?_
  ·intro hc hL;refine r7 ?_;obtain⟨x10,ZdP,hL⟩:=bS hL;obtain⟨b11,o12,⟨a13,c14⟩,ZiY,Zi7,Zi6,U3⟩:=Sl.at_ Zl ZdP;replace U3:=YJ.1 U3;refine V8 (Z8 Kr Xb lk lk rfl ZiY ZdP) ?_;have ZeG:Sl Zh wm h a13 c14 x10.kids:=U3;refine V8 (Yq Ux Xb (Zk fh rfl) (At.fz hS.fz Zi6 Zi7) (j:=0) rfl rfl (ws:=[V4 x10.op,V4 x10.n,.string x10.text,.slice a13 x10.kids.length c14]) rfl)<|r1 ?_;rintro _ h16 ⟨b15,ZHF,rfl,hS⟩;refine r2 ?_;rintro h17 hS;refine r6 ?_;obtain⟨x18,KC,hL⟩:=bS hL;obtain⟨b19,o20,⟨a21,c22⟩,ZeJ,ZeN,ZeL,KD⟩:=Sl.at_ ZN KC;replace KD:=YJ.1 KD;refine V8 (Z8 Kr Xb lk lk rfl ZeJ KC) ?_;have ZgZ:Sl Zh wm h a21 c22 x18.kids:=KD;refine V8 (Yq Ux Xb (Zk fh rfl) (At.fz hS.fz ZeL ZeN) (j:=0) rfl rfl (ws:=[V4 x18.op,V4 x18.n,.string x18.text,.slice a21 x18.kids.length c22]) rfl)<|r1 ?_;rintro _ h24 ⟨b23,ZLG,rfl,hS⟩;refine r1 ?_;rintro h25 hS;refine r7 ?_;obtain⟨x26,ZoO,hL⟩:=bS hL;refine V9 (Yi.clo (first:=[]) (cap:=[]) lk ZGs lks rfl) hS .n (fun g' hz hf hO=>(ZGb _ _ ZoO) (hS.Vc hz) ((hS.sl ZeG).mono hf) ((hS.sl ZgZ).mono hf)) ?_;rintro _ h27 _ ⟨rfl,rfl⟩ hS;refine r3 ?_;refine cn hL ?_ ?_
   ·intro hc hL;refine KJ ?_;exact rt hL hT hS
   ·intro hc hL;refine r7 ?_;exact ZV.Yf (ZdS _ _ hL ⟨_,_,rfl,hS.only .n,X9⟩)
  ·intro hc hL;refine KJ ?_;exact rt hL hT hS
def Zzc{F wm:Nat}:∀(Fr:Nat)(x:(Zg×Zg))(r:Z),loop Fr (Zb7 F) x=some r->(match x with | (p0,p1)=>∀{h:H}{Zf:O Addr}{Ze:Nat}{ZA:O Addr}{Zz:Nat}(Zx:wm<=h.size)(Zl:Sl Zh wm h Zf Ze p0.kids)(ZN:Sl Zh wm h ZA Zz p1.kids),WR XX 130 #[.agg #[V4 p0.op,V4 p0.n,.string p0.text,.slice Zf p0.kids.length Ze],.agg #[V4 p1.op,V4 p1.n,.string p1.text,.slice ZA p1.kids.length Zz]] wm h (CP (fun v (Gb:U (Ast wm))=>v=.bool r/\Gb=[]) [] h)):=by
 refine Qa _ ?_;rintro ZR XY ⟨p0,p1⟩ r hL h Zf Ze ZA Zz Zx Zl ZN;refine bg Tryz.ntmps130 Zx Yh.nil ?_;intro T hT hS;refine r3 ?_;rintro _ h3 ⟨b2,eb2,rfl,hS⟩;refine r1 ?_;rintro _ h5 ⟨b4,eb4,rfl,hS⟩;refine r16 ?_;refine r6 ?_;refine WO.gv (Zi.yes rfl rfl rfl (Yt rfl fh)) rfl (fun hg=>(YW (Jm (Z9 rfl fh) rfl hg) (Jm fh rfl hg) JF))<|r6 ?_;refine WO.Za1 (Zi.yes rfl rfl rfl (Yt rfl fh)) (fun hk6=>?_) (fun hk6=>?_)
 ·replace hL:=Xe hk6 hL;obtain⟨x7,hx7,hL⟩:=bS hL;refine WO.cl (Zi.on (Zi.yes rfl rfl rfl (Yt rfl fh)) hk6) rfl (Yi.fn Zx5 (Zb (Jm (Z9 rfl fh) rfl hk6) (Zb (Jm fh rfl hk6) (Zb Zm0 Zd)))) hS .n (fun g' hz hf hO=>(ZtF XY) (hS.Vc hz) ((hS.sl Zl).mono hf) ((hS.sl ZN).mono hf) hx7) ?_;rintro _ h8 _ ⟨rfl,rfl⟩ hS;refine V8 (Zba lk hk6 lk)<|r4 ?_;exact rt hL hT hS
 ·replace hL:=Xf hk6 hL;refine WO.Js (Zi.yes rfl rfl rfl (Yt rfl fh)) hk6 rfl<|V8 (UR lk hk6 lk)<|r4 ?_;exact rt hL hT hS
def Ztz{F wm}{Ziu:((Term×Term)->O Z)}(ZxC:∀(x:(Term×Term))(r:Z),Ziu x=some r->(match x with | (p0,p1)=>∀{h Zf Ze Zu Zt Zq Zp ZA Zz YF YD YE YC}(Zx:wm<=h.size)(Zl:Sl Zh wm h Zf Ze p0.args)(ZF:Sl Zc wm h Zu Zt p0.defs)(ZE:Sl Zv wm h Zq Zp p0.kids)(ZN:Sl Zh wm h ZA Zz p1.args)(Xh:Sl Zc wm h YF YD p1.defs)(Xg:Sl Zv wm h YE YC p1.kids),WR XX 91 #[.agg #[V4 p0.op,.string p0.text,.slice Zf p0.args.length Ze,.slice Zu p0.defs.length Zt,.slice Zq p0.kids.length Zp],.agg #[V4 p1.op,.string p1.text,.slice ZA p1.args.length Zz,.slice YF p1.defs.length YD,.slice YE p1.kids.length YC]] wm h (CP (fun v (Gb:U (Ast wm))=>v=.bool r/\Gb=[]) [] h))){h}{p0 p1:(U Term)}{Zf Ze ZA Zz}{r}(Zx:wm<=h.size)(Zl:Sl Zv wm h Zf Ze p0)(ZN:Sl Zv wm h ZA Zz p1)(hL:ZtB F Ziu p0 p1=some r):
 WR XX 133 #[.slice Zf p0.length Ze,.slice ZA p1.length Zz,.func (.func 91) #[] #[]] wm h (CP (fun v (Gb:U (Ast wm))=>v=.bool r/\Gb=[]) [] h):=by
 refine bg Tryz.ntmps133 Zx Yh.nil ?_;intro T hT hS;unfold ZtB at hL;refine r15 ?_;refine cn hL ?_ ?_
 ·intro hc hL;refine r7 ?_;exact rt hL hT hS
 ·intro hc hL;refine KJ ?_;refine WC.loop (WL.lift hL (fun v7 s=>∃Xm h1,s=⟨Xm,[],h1,none⟩/\Sp wm T h [] h1/\Xm.at 1=.slice ZA p1.length Zz/\Xm.at 2=.func (.func 91) #[] #[]/\Xm.at 15=.slice Zf p0.length Ze/\Xm.at 16= V4 (p0.length:Int)/\Xm.at 17= V4 v7) ⟨_,_,rfl,hS.only .n,X9⟩ ?_);rintro ZbQ v7 s ZdS hL ⟨Xm,h1,rfl,hS,e3,e4,e5,e6,e8⟩;refine r6 ?_;refine cn hL ?_ ?_
  ·intro hc hL;refine r7 ?_;obtain⟨x10,ZdP,hL⟩:=bS hL;obtain⟨b11,o12,⟨⟨a13,c14⟩,⟨a15,c16⟩,⟨a17,c18⟩⟩,ZiY,Zi7,Zi6,U3⟩:=Sl.at_ Zl ZdP;replace U3:=Jf.1 U3;refine V8 (Z8 Zbj Xp lk lk rfl ZiY ZdP) ?_;have ZeG:Sl Zh wm h a13 c14 x10.args:=U3.1;have ZoT:Sl Zc wm h a15 c16 x10.defs:=U3.2.1;have Zxy:Sl Zv wm h a17 c18 x10.kids:=U3.2.2;refine V8 (Yq UK Xp (Zk fh rfl) (At.fz hS.fz Zi6 Zi7) (j:=0) rfl rfl (ws:=[V4 x10.op,.string x10.text,.slice a13 x10.args.length c14,.slice a15 x10.defs.length c16,.slice a17 x10.kids.length c18]) rfl)<|r1 ?_;rintro _ h20 ⟨b19,ZLI,rfl,hS⟩;refine r2 ?_;rintro h21 hS;refine r6 ?_;obtain⟨WM,ZbT,hL⟩:=bS hL;obtain⟨b23,o24,⟨⟨a25,c26⟩,⟨a27,c28⟩,⟨a29,c30⟩⟩,Jw,Jz,Jy,XH⟩:=Sl.at_ ZN ZbT;replace XH:=Jf.1 XH;refine V8 (Z8 Zbj Xp lk lk rfl Jw ZbT) ?_;have Zax:Sl Zh wm h a25 c26 WM.args:=XH.1;have Zxx:Sl Zc wm h a27 c28 WM.defs:=XH.2.1;have ZoQ:Sl Zv wm h a29 c30 WM.kids:=XH.2.2;refine V8 (Yq UK Xp (Zk fh rfl) (At.fz hS.fz Jy Jz) (j:=0) rfl rfl (ws:=[V4 WM.op,.string WM.text,.slice a25 WM.args.length c26,.slice a27 WM.defs.length c28,.slice a29 WM.kids.length c30]) rfl)<|r1 ?_;rintro _ h32 ⟨b31,ZLF,rfl,hS⟩;refine r1 ?_;rintro h33 hS;refine r7 ?_;obtain⟨x34,hx34,hL⟩:=bS hL;refine V9 (Yi.clo (first:=[]) (cap:=[]) lk ZEm lks rfl) hS .n (fun g' hz hf hO=>(ZxC _ _ hx34) (hS.Vc hz) ((hS.sl ZeG).mono hf) ((hS.sl ZoT).mono hf) ((hS.sl Zxy).mono hf) ((hS.sl Zax).mono hf) ((hS.sl Zxx).mono hf) ((hS.sl ZoQ).mono hf)) ?_;rintro _ h35 _ ⟨rfl,rfl⟩ hS;refine r3 ?_;refine cn hL ?_ ?_
   ·intro hc hL;refine KJ ?_;exact rt hL hT hS
   ·intro hc hL;refine r7 ?_;exact ZV.Yf (ZdS _ _ hL ⟨_,_,rfl,hS.only .n,X9⟩)
  ·intro hc hL;refine KJ ?_;exact rt hL hT hS
end
section
def ZtD(p0:(U Za))(p1:(U Za))(Zk1:((Za×Za)->O Z)):Int->(Int->O Z)->O Z:=fun v7 ZbQ=>
 (bif decide (v7<(p0.length:Int)) then(YH p0 v7).bind fun x10=>(YH p1 v7).bind fun WM=>(Zk1 (x10,WM)).bind fun x34=>(bif(!x34) then some false else ZbQ (XD (v7+1))) else some true)
def ZtE(F:Nat)(Zk1:((Za×Za)->O Z))(p0:(U Za))(p1:(U Za)):O Z:=
 (bif((p0.length:Int) !=(p1.length:Int)) then some false else loop F (ZtD p0 p1 Zk1) 0)
def Zb6(F:Nat)(Ziu:((Term×Term)->O Z)):(Za×Za)->((Za×Za)->O Z)->O Z:=fun(p0,p1) ZR=>
 (gd ((p0.form==p1.form)&&(decide (p0.text=p1.text))) (Zjx F p0.joins p1.joins) default).bind fun x6=>(bif(((p0.form==p1.form)&&(decide (p0.text=p1.text)))&&x6) then(ZtE F ZR p0.defs p1.defs).bind fun x8=>(bif x8 then(ZtB F Ziu p0.kids p1.kids).bind fun x12=>some x12 else some false) else some false)
def ZeW(F:Nat):(Term×Term)->((Term×Term)->O Z)->O Z:=fun(p0,p1) ZR=>
 (bif((p0.op==p1.op)&&(decide (p0.text=p1.text))) then(ZtH F (loop F (Zb7 F)) p0.args p1.args).bind fun x7=>(bif x7 then(ZtE F (loop F (Zb6 F ZR)) p0.defs p1.defs).bind fun x11=>(bif x11 then(ZtB F ZR p0.kids p1.kids).bind fun x15=>some x15 else some false) else some false) else some false)
def ZCq(F:Nat)(p0:Term)(p1:Term):O Z:=
 loop F (ZeW F) (p0,p1)
end
section
def ZtC{F wm}{Zk1:((Za×Za)->O Z)}(ZGa:∀(x:(Za×Za))(r:Z),Zk1 x=some r->(match x with | (p0,p1)=>∀{h Zf Ze Zu Zt Zq Zp ZA Zz YF YD YE YC}(Zx:wm<=h.size)(Zl:Sl ZT wm h Zf Ze p0.joins)(ZF:Sl Zc wm h Zu Zt p0.defs)(ZE:Sl Zv wm h Zq Zp p0.kids)(ZN:Sl ZT wm h ZA Zz p1.joins)(Xh:Sl Zc wm h YF YD p1.defs)(Xg:Sl Zv wm h YE YC p1.kids),WR XX 132 #[.agg #[V4 p0.form,.string p0.text,.slice Zf p0.joins.length Ze,.slice Zu p0.defs.length Zt,.slice Zq p0.kids.length Zp],.agg #[V4 p1.form,.string p1.text,.slice ZA p1.joins.length Zz,.slice YF p1.defs.length YD,.slice YE p1.kids.length YC]] wm h (CP (fun v (Gb:U (Ast wm))=>v=.bool r/\Gb=[]) [] h))){h}{p0 p1:(U Za)}{Zf Ze ZA Zz}{r}(Zx:wm<=h.size)(Zl:Sl Zc wm h Zf Ze p0)(ZN:Sl Zc wm h ZA Zz p1)(hL:ZtE F Zk1 p0 p1=some r):
 WR XX 131 #[.slice Zf p0.length Ze,.slice ZA p1.length Zz,.func (.func 132) #[] #[]] wm h (CP (fun v (Gb:U (Ast wm))=>v=.bool r/\Gb=[]) [] h):=by
 refine bg Tryz.ntmps131 Zx Yh.nil ?_;intro T hT hS;unfold ZtE at hL;refine r15 ?_;refine cn hL ?_ ?_
 ·intro hc hL;refine r7 ?_;exact rt hL hT hS
 ·intro hc hL;refine KJ ?_;refine WC.loop (WL.lift hL (fun v7 s=>∃Xm h1,s=⟨Xm,[],h1,none⟩/\Sp wm T h [] h1/\Xm.at 1=.slice ZA p1.length Zz/\Xm.at 2=.func (.func 132) #[] #[]/\Xm.at 15=.slice Zf p0.length Ze/\Xm.at 16= V4 (p0.length:Int)/\Xm.at 17= V4 v7) ⟨_,_,rfl,hS.only .n,X9⟩ ?_);rintro ZbQ v7 s ZdS hL ⟨Xm,h1,rfl,hS,e3,e4,e5,e6,e8⟩;refine r6 ?_;refine cn hL ?_ ?_
  ·intro hc hL;refine r7 ?_;obtain⟨x10,ZdP,hL⟩:=bS hL;obtain⟨b11,o12,⟨⟨a13,c14⟩,⟨a15,c16⟩,⟨a17,c18⟩⟩,ZiY,Zi7,Zi6,U3⟩:=Sl.at_ Zl ZdP;replace U3:=ZY.1 U3;refine V8 (Z8 Um Yo lk lk rfl ZiY ZdP) ?_;have ZeG:Sl ZT wm h a13 c14 x10.joins:=U3.1;have ZoT:Sl Zc wm h a15 c16 x10.defs:=U3.2.1;have Zxy:Sl Zv wm h a17 c18 x10.kids:=U3.2.2;refine V8 (Yq JE Yo (Zk fh rfl) (At.fz hS.fz Zi6 Zi7) (j:=0) rfl rfl (ws:=[V4 x10.form,.string x10.text,.slice a13 x10.joins.length c14,.slice a15 x10.defs.length c16,.slice a17 x10.kids.length c18]) rfl)<|r1 ?_;rintro _ h20 ⟨b19,ZLI,rfl,hS⟩;refine r2 ?_;rintro h21 hS;refine r6 ?_;obtain⟨WM,ZbT,hL⟩:=bS hL;obtain⟨b23,o24,⟨⟨a25,c26⟩,⟨a27,c28⟩,⟨a29,c30⟩⟩,Jw,Jz,Jy,XH⟩:=Sl.at_ ZN ZbT;replace XH:=ZY.1 XH;refine V8 (Z8 Um Yo lk lk rfl Jw ZbT) ?_;have Zax:Sl ZT wm h a25 c26 WM.joins:=XH.1;have Zxx:Sl Zc wm h a27 c28 WM.defs:=XH.2.1;have ZoQ:Sl Zv wm h a29 c30 WM.kids:=XH.2.2;refine V8 (Yq JE Yo (Zk fh rfl) (At.fz hS.fz Jy Jz) (j:=0) rfl rfl (ws:=[V4 WM.form,.string WM.text,.slice a25 WM.joins.length c26,.slice a27 WM.defs.length c28,.slice a29 WM.kids.length c30]) rfl)<|r1 ?_;rintro _ h32 ⟨b31,ZLF,rfl,hS⟩;refine r1 ?_;rintro h33 hS;refine r7 ?_;obtain⟨x34,hx34,hL⟩:=bS hL;refine V9 (Yi.clo (first:=[]) (cap:=[]) lk ZGr lks rfl) hS .n (fun g' hz hf hO=>(ZGa _ _ hx34) (hS.Vc hz) ((hS.sl ZeG).mono hf) ((hS.sl ZoT).mono hf) ((hS.sl Zxy).mono hf) ((hS.sl Zax).mono hf) ((hS.sl Zxx).mono hf) ((hS.sl ZoQ).mono hf)) ?_;rintro _ h35 _ ⟨rfl,rfl⟩ hS;refine r3 ?_;refine cn hL ?_ ?_
   ·intro hc hL;refine KJ ?_;exact rt hL hT hS
   ·intro hc hL;refine r7 ?_;exact ZV.Yf (ZdS _ _ hL ⟨_,_,rfl,hS.only .n,X9⟩)
  ·intro hc hL;refine KJ ?_;exact rt hL hT hS
def Zzb{F wm:Nat}{Ziu:((Term×Term)->O Z)}(ZxC:∀(x:(Term×Term))(r:Z),Ziu x=some r->(match x with | (p0,p1)=>∀{h:H}{Zf:O Addr}{Ze:Nat}{Zu:O Addr}{Zt:Nat}{Zq:O Addr}{Zp:Nat}{ZA:O Addr}{Zz:Nat}{YF:O Addr}{YD:Nat}{YE:O Addr}{YC:Nat}(Zx:wm<=h.size)(Zl:Sl Zh wm h Zf Ze p0.args)(ZF:Sl Zc wm h Zu Zt p0.defs)(ZE:Sl Zv wm h Zq Zp p0.kids)(ZN:Sl Zh wm h ZA Zz p1.args)(Xh:Sl Zc wm h YF YD p1.defs)(Xg:Sl Zv wm h YE YC p1.kids),WR XX 91 #[.agg #[V4 p0.op,.string p0.text,.slice Zf p0.args.length Ze,.slice Zu p0.defs.length Zt,.slice Zq p0.kids.length Zp],.agg #[V4 p1.op,.string p1.text,.slice ZA p1.args.length Zz,.slice YF p1.defs.length YD,.slice YE p1.kids.length YC]] wm h (CP (fun v (Gb:U (Ast wm))=>v=.bool r/\Gb=[]) [] h))):∀(Fr:Nat)(x:(Za×Za))(r:Z),loop Fr (Zb6 F Ziu) x=some r->(match x with | (p0,p1)=>∀{h:H}{Zf:O Addr}{Ze:Nat}{Zu:O Addr}{Zt:Nat}{Zq:O Addr}{Zp:Nat}{ZA:O Addr}{Zz:Nat}{YF:O Addr}{YD:Nat}{YE:O Addr}{YC:Nat}(Zx:wm<=h.size)(Zl:Sl ZT wm h Zf Ze p0.joins)(ZF:Sl Zc wm h Zu Zt p0.defs)(ZE:Sl Zv wm h Zq Zp p0.kids)(ZN:Sl ZT wm h ZA Zz p1.joins)(Xh:Sl Zc wm h YF YD p1.defs)(Xg:Sl Zv wm h YE YC p1.kids),WR XX 132 #[.agg #[V4 p0.form,.string p0.text,.slice Zf p0.joins.length Ze,.slice Zu p0.defs.length Zt,.slice Zq p0.kids.length Zp],.agg #[V4 p1.form,.string p1.text,.slice ZA p1.joins.length Zz,.slice YF p1.defs.length YD,.slice YE p1.kids.length YC]] wm h (CP (fun v (Gb:U (Ast wm))=>v=.bool r/\Gb=[]) [] h)):=by
 refine Qa _ ?_;rintro ZR XY ⟨p0,p1⟩ r hL h Zf Ze Zu Zt Zq Zp ZA Zz YF YD YE YC Zx Zl ZF ZE ZN Xh Xg;refine bg Tryz.ntmps132 Zx Yh.nil ?_;intro T hT hS;refine r3 ?_;rintro _ h3 ⟨b2,eb2,rfl,hS⟩;refine r1 ?_;rintro _ h5 ⟨b4,eb4,rfl,hS⟩;refine r15 ?_;refine WO.gv (Zi.yes rfl rfl rfl (Yt rfl fh)) rfl (fun hg=>(YW (Jm (Z9 rfl fh) rfl hg) (Jm fh rfl hg) JF))<|r6 ?_;obtain⟨x6,hx6,hL⟩:=Ji hL;refine WO.gcp (Zi.yes rfl rfl rfl (Yt rfl fh)) rfl (fun hg=>(Yi.fn ZGq (Zb (Jm (Z9 rfl fh) rfl hg) (Zb (Jm fh rfl hg) (Zb Zm0 Zd))))) (fun hg=>ZCF (hS.slu Zl) (hS.slu ZN) (hx6 hg))<|r6 ?_;refine WO.Za1 (Zi.yes rfl rfl rfl (Yt rfl fh)) (fun hk7=>?_) (fun hk7=>?_)
 ·replace hL:=Xe hk7 hL;obtain⟨x8,hx8,hL⟩:=bS hL;refine WO.cl (Zi.on (Zi.yes rfl rfl rfl (Yt rfl fh)) hk7) rfl (Yi.fn Zx4 (Zb (Jm (Z9 rfl fh) rfl hk7) (Zb (Jm fh rfl hk7) (Zb Zm0 Zd)))) hS .n (fun g' hz hf hO=>(ZtC XY) (hS.Vc hz) ((hS.sl ZF).mono hf) ((hS.sl Xh).mono hf) hx8) ?_;rintro _ h9 _ ⟨rfl,rfl⟩ hS;refine V8 (Zba lk hk7 lk)<|r5 ?_;refine WO.Za1 (Zi.yes rfl rfl rfl (Yt rfl fh)) (fun ZmH=>?_) (fun ZmH=>?_)
  ·replace hL:=Xe ZmH hL;obtain⟨x12,Zkp,hL⟩:=bS hL;refine WO.cl (Zi.on (Zi.yes rfl rfl rfl (Yt rfl fh)) ZmH) rfl (Yi.fn Zx3 (Zb (Jm (Z9 rfl fh) rfl ZmH) (Zb (Jm fh rfl ZmH) (Zb Zm0 Zd)))) hS .n (fun g' hz hf hO=>(Ztz ZxC) (hS.Vc hz) ((hS.sl ZE).mono hf) ((hS.sl Xg).mono hf) Zkp) ?_;rintro _ h13 _ ⟨rfl,rfl⟩ hS;refine V8 (Zba lk ZmH lk)<|r4 ?_;exact rt hL hT hS
  ·replace hL:=Xf ZmH hL;refine WO.Js (Zi.yes rfl rfl rfl (Yt rfl fh)) ZmH rfl<|V8 (UR lk ZmH lk)<|r4 ?_;exact rt hL hT hS
 ·replace hL:=Xf hk7 hL;refine WO.Js (Zi.yes rfl rfl rfl (Yt rfl fh)) hk7 rfl<|V8 (UR lk hk7 lk)<|r1 ?_;refine WO.Js (Zi.yes rfl rfl rfl fh) rfl rfl<|WO.Js (Zi.yes rfl rfl rfl (Zj rfl fh)) rfl rfl<|WO.Js (Zi.yes rfl rfl rfl (Z9 rfl fh)) rfl rfl<|WO.Js (Zi.yes rfl rfl rfl (Z9 rfl (Zj rfl fh))) rfl rfl<|WO.Js (Zi.yes rfl rfl rfl (Yt rfl fh)) rfl rfl<|V8 (UR lk rfl lk)<|r4 ?_;exact rt hL hT hS
def ZCp{F wm:Nat}:∀(Fr:Nat)(x:(Term×Term))(r:Z),loop Fr (ZeW F) x=some r->(match x with | (p0,p1)=>∀{h:H}{Zf:O Addr}{Ze:Nat}{Zu:O Addr}{Zt:Nat}{Zq:O Addr}{Zp:Nat}{ZA:O Addr}{Zz:Nat}{YF:O Addr}{YD:Nat}{YE:O Addr}{YC:Nat}(Zx:wm<=h.size)(Zl:Sl Zh wm h Zf Ze p0.args)(ZF:Sl Zc wm h Zu Zt p0.defs)(ZE:Sl Zv wm h Zq Zp p0.kids)(ZN:Sl Zh wm h ZA Zz p1.args)(Xh:Sl Zc wm h YF YD p1.defs)(Xg:Sl Zv wm h YE YC p1.kids),WR XX 91 #[.agg #[V4 p0.op,.string p0.text,.slice Zf p0.args.length Ze,.slice Zu p0.defs.length Zt,.slice Zq p0.kids.length Zp],.agg #[V4 p1.op,.string p1.text,.slice ZA p1.args.length Zz,.slice YF p1.defs.length YD,.slice YE p1.kids.length YC]] wm h (CP (fun v (Gb:U (Ast wm))=>v=.bool r/\Gb=[]) [] h)):=by
 refine Qa _ ?_;rintro ZR XY ⟨p0,p1⟩ r hL h Zf Ze Zu Zt Zq Zp ZA Zz YF YD YE YC Zx Zl ZF ZE ZN Xh Xg;refine bg Tryz.ntmps91 Zx Yh.nil ?_;intro T hT hS;refine r3 ?_;rintro _ h3 ⟨b2,eb2,rfl,hS⟩;refine r1 ?_;rintro _ h5 ⟨b4,eb4,rfl,hS⟩;refine r15 ?_;refine WO.gv (Zi.yes rfl rfl rfl (Yt rfl fh)) rfl (fun hg=>(YW (Jm (Z9 rfl fh) rfl hg) (Jm fh rfl hg) JF))<|r6 ?_;refine WO.Za1 (Zi.yes rfl rfl rfl (Yt rfl fh)) (fun hk6=>?_) (fun hk6=>?_)
 ·replace hL:=Xe hk6 hL;obtain⟨x7,hx7,hL⟩:=bS hL;refine WO.cl (Zi.on (Zi.yes rfl rfl rfl (Yt rfl fh)) hk6) rfl (Yi.fn Zx5 (Zb (Jm (Z9 rfl fh) rfl hk6) (Zb (Jm fh rfl hk6) (Zb Zm0 Zd)))) hS .n (fun g' hz hf hO=>(ZtF (Zzc F)) (hS.Vc hz) ((hS.sl Zl).mono hf) ((hS.sl ZN).mono hf) hx7) ?_;rintro _ h8 _ ⟨rfl,rfl⟩ hS;refine V8 (Zba lk hk6 lk)<|r5 ?_;refine WO.Za1 (Zi.yes rfl rfl rfl (Yt rfl fh)) (fun hk10=>?_) (fun hk10=>?_)
  ·replace hL:=Xe hk10 hL;obtain⟨x11,ZoP,hL⟩:=bS hL;refine WO.cl (Zi.on (Zi.yes rfl rfl rfl (Yt rfl fh)) hk10) rfl (Yi.fn Zx4 (Zb (Jm (Z9 rfl fh) rfl hk10) (Zb (Jm fh rfl hk10) (Zb Zm0 Zd)))) hS .n (fun g' hz hf hO=>(ZtC (Zzb XY F)) (hS.Vc hz) ((hS.sl ZF).mono hf) ((hS.sl Xh).mono hf) ZoP) ?_;rintro _ h12 _ ⟨rfl,rfl⟩ hS;refine V8 (Zba lk hk10 lk)<|r5 ?_;refine WO.Za1 (Zi.yes rfl rfl rfl (Yt rfl fh)) (fun ZmG=>?_) (fun ZmG=>?_)
   ·replace hL:=Xe ZmG hL;obtain⟨x15,ZiS,hL⟩:=bS hL;refine WO.cl (Zi.on (Zi.yes rfl rfl rfl (Yt rfl fh)) ZmG) rfl (Yi.fn Zx3 (Zb (Jm (Z9 rfl fh) rfl ZmG) (Zb (Jm fh rfl ZmG) (Zb Zm0 Zd)))) hS .n (fun g' hz hf hO=>(Ztz XY) (hS.Vc hz) ((hS.sl ZE).mono hf) ((hS.sl Xg).mono hf) ZiS) ?_;rintro _ h16 _ ⟨rfl,rfl⟩ hS;refine V8 (Zba lk ZmG lk)<|r4 ?_;exact rt hL hT hS
   ·replace hL:=Xf ZmG hL;refine WO.Js (Zi.yes rfl rfl rfl (Yt rfl fh)) ZmG rfl<|V8 (UR lk ZmG lk)<|r4 ?_;exact rt hL hT hS
  ·replace hL:=Xf hk10 hL;refine WO.Js (Zi.yes rfl rfl rfl (Yt rfl fh)) hk10 rfl<|V8 (UR lk hk10 lk)<|r1 ?_;refine WO.Js (Zi.yes rfl rfl rfl fh) rfl rfl<|WO.Js (Zi.yes rfl rfl rfl (Zj rfl fh)) rfl rfl<|WO.Js (Zi.yes rfl rfl rfl (Z9 rfl fh)) rfl rfl<|WO.Js (Zi.yes rfl rfl rfl (Z9 rfl (Zj rfl fh))) rfl rfl<|WO.Js (Zi.yes rfl rfl rfl (Yt rfl fh)) rfl rfl<|V8 (UR lk rfl lk)<|r4 ?_;exact rt hL hT hS
 ·replace hL:=Xf hk6 hL;refine WO.Js (Zi.yes rfl rfl rfl (Yt rfl fh)) hk6 rfl<|V8 (UR lk hk6 lk)<|r1 ?_;refine WO.Js (Zi.yes rfl rfl rfl fh) rfl rfl<|WO.Js (Zi.yes rfl rfl rfl (Zj rfl fh)) rfl rfl<|WO.Js (Zi.yes rfl rfl rfl (Z9 rfl fh)) rfl rfl<|WO.Js (Zi.yes rfl rfl rfl (Z9 rfl (Zj rfl fh))) rfl rfl<|WO.Js (Zi.yes rfl rfl rfl (Yt rfl fh)) rfl rfl<|V8 (UR lk rfl lk)<|r1 ?_;refine WO.Js (Zi.yes rfl rfl rfl fh) rfl rfl<|WO.Js (Zi.yes rfl rfl rfl (Zj rfl fh)) rfl rfl<|WO.Js (Zi.yes rfl rfl rfl (Z9 rfl fh)) rfl rfl<|WO.Js (Zi.yes rfl rfl rfl (Z9 rfl (Zj rfl fh))) rfl rfl<|WO.Js (Zi.yes rfl rfl rfl (Yt rfl fh)) rfl rfl<|V8 (UR lk rfl lk)<|r4 ?_;exact rt hL hT hS
def ZG5{F wm h}{p0 p1:Term}{Zf Ze Zu Zt Zq Zp ZA Zz YF YD YE YC}{r}(Zx:wm<=h.size)(Zl:Sl Zh wm h Zf Ze p0.args)(ZF:Sl Zc wm h Zu Zt p0.defs)(ZE:Sl Zv wm h Zq Zp p0.kids)(ZN:Sl Zh wm h ZA Zz p1.args)(Xh:Sl Zc wm h YF YD p1.defs)(Xg:Sl Zv wm h YE YC p1.kids)(hL:ZCq F p0 p1=some r):
 WR XX 91 #[.agg #[V4 p0.op,.string p0.text,.slice Zf p0.args.length Ze,.slice Zu p0.defs.length Zt,.slice Zq p0.kids.length Zp],.agg #[V4 p1.op,.string p1.text,.slice ZA p1.args.length Zz,.slice YF p1.defs.length YD,.slice YE p1.kids.length YC]] wm h (CP (fun v (Gb:U (Ast wm))=>v=.bool r/\Gb=[]) [] h):=
 ZCp F (p0,p1) r hL Zx Zl ZF ZE ZN Xh Xg
def ZG6{F h}{p0 p1:Term}{Zf Ze Zu Zt Zq Zp ZA Zz YF YD YE YC}{r}(Zl:Sl Zh h.size h Zf Ze p0.args)(ZF:Sl Zc h.size h Zu Zt p0.defs)(ZE:Sl Zv h.size h Zq Zp p0.kids)(ZN:Sl Zh h.size h ZA Zz p1.args)(Xh:Sl Zc h.size h YF YD p1.defs)(Xg:Sl Zv h.size h YE YC p1.kids)(hL:ZCq F p0 p1=some r):Pure XX 91 #[.agg #[V4 p0.op,.string p0.text,.slice Zf p0.args.length Ze,.slice Zu p0.defs.length Zt,.slice Zq p0.kids.length Zp],.agg #[V4 p1.op,.string p1.text,.slice ZA p1.args.length Zz,.slice YF p1.defs.length YD,.slice YE p1.kids.length YC]] h (.bool r):=
 WR.WA rfl (ZG5 V7 Zl ZF ZE ZN Xh Xg hL)
end
section
def Zvb(F:Nat)(p0:Term)(p1:Term):O (Z×Int):=
 (Zhm F p0).bind fun x5=>(gd (!(x5 !=0)) (Zhm F p1) default).bind fun x6=>(bif((x5 !=0)||(x6 !=0)) then some (false,2) else(ZrA F p0).bind fun x7=>(ZrA F p1).bind fun x19=>(ZCq F x7 x19).bind fun x31=>some (x31,0))
end
section
def ZHm{F wm h}{p0 p1:Term}{Zf Ze Zu Zt Zq Zp ZA Zz YF YD YE YC}{r}(Zx:wm<=h.size)(Zl:Sl Zh wm h Zf Ze p0.args)(ZF:Sl Zc wm h Zu Zt p0.defs)(ZE:Sl Zv wm h Zq Zp p0.kids)(ZN:Sl Zh wm h ZA Zz p1.args)(Xh:Sl Zc wm h YF YD p1.defs)(Xg:Sl Zv wm h YE YC p1.kids)(hL:Zvb F p0 p1=some r):
 WR XX 41 #[.agg #[V4 p0.op,.string p0.text,.slice Zf p0.args.length Ze,.slice Zu p0.defs.length Zt,.slice Zq p0.kids.length Zp],.agg #[V4 p1.op,.string p1.text,.slice ZA p1.args.length Zz,.slice YF p1.defs.length YD,.slice YE p1.kids.length YC]] wm h (CP (fun v (Gb:U (Ast wm))=>v=.tuple #[.bool r.1,V4 r.2]/\Gb=[]) [] h):=by
 refine bg Tryz.ntmps41 Zx Yh.nil ?_;intro T hT hS;unfold Zvb at hL;refine r3 ?_;rintro _ h2 ⟨b1,eb1,rfl,hS⟩;refine r1 ?_;rintro _ h4 ⟨b3,eb3,rfl,hS⟩;refine r8 ?_;obtain⟨x5,hx5,hL⟩:=bS hL;refine WO.cp gN rfl (Yi.fn Zo4 (Zb lk Zd)) (Zgg (hS.slu Zl) (hS.slu ZF) (hS.slu ZE) hx5)<|r3 ?_;obtain⟨x6,hx6,hL⟩:=Ji hL;refine WO.gcp (Zi.no rfl rfl rfl (Zj rfl fh)) rfl (fun hg=>(Yi.fn Zo4 (Zb (Jm fh rfl hg) Zd))) (fun hg=>Zgg (hS.slu ZN) (hS.slu Xh) (hS.slu Xg) (hx6 hg))<|r4 ?_;refine cn hL ?_ ?_
 ·intro hc hL;refine r8 ?_;have hr:=Oi0 hL;subst hr;exact Y6.gen (vs:=[.bool false,V4 2]) rfl (ZC lk (ZC lk Zm)) rfl ⟨_,⟨rfl,rfl⟩,hT▸hS.only .n⟩
 ·intro hc hL;refine r3 ?_;refine WC.JZ mixed Kq0<|r1 ?_;obtain⟨x7,hx7,hL⟩:=bS hL;refine WX.cl0 gN rfl (Yi.fn ZxS (Zb lk Zd)) hS .n (fun g' hz hf hO=>Zrz (hS.Vc hz) ((hS.sl Zl).mono hf) ((hS.sl ZF).mono hf) ((hS.sl ZE).mono hf) hx7) ?_ rfl rfl;rintro _ h17 _ ⟨a8,c10,a11,c13,a14,c16,rfl,rfl⟩ hS;refine r1 ?_;obtain⟨x19,Zxq,hL⟩:=bS hL;refine WX.cl0 gN rfl (Yi.fn ZxS (Zb lk Zd)) hS .n (fun g' hz hf hO=>Zrz (hS.Vc hz) ((hS.sl ZN).mono hf) ((hS.sl Xh).mono hf) ((hS.sl Xg).mono hf) Zxq) ?_ rfl rfl;rintro _ h29 _ ⟨a20,c22,a23,c25,a26,c28,rfl,rfl⟩ hS;obtain⟨x31,hx31,hL⟩:=bS hL;refine WX.cp gN rfl (Yi.fn ZEm (Zb lk (Zb lk Zd))) (ZG6 (hS.WZ k3) (hS.WZ k4) (hS.WZ k5) (hS.WZ k0) (hS.WZ k1) (hS.WZ k2) hx31) ?_ rfl rfl;refine r5 ?_;have hr:=Oi0 hL;subst hr;exact Y6.gen (vs:=[.bool x31,V4 0]) rfl (ZC lk (ZC lk Zm)) rfl ⟨_,⟨rfl,rfl⟩,hT▸hS.only .n⟩
def ZHn{F h}{p0 p1:Term}{Zf Ze Zu Zt Zq Zp ZA Zz YF YD YE YC}{r}(Zl:Sl Zh h.size h Zf Ze p0.args)(ZF:Sl Zc h.size h Zu Zt p0.defs)(ZE:Sl Zv h.size h Zq Zp p0.kids)(ZN:Sl Zh h.size h ZA Zz p1.args)(Xh:Sl Zc h.size h YF YD p1.defs)(Xg:Sl Zv h.size h YE YC p1.kids)(hL:Zvb F p0 p1=some r):Pure XX 41 #[.agg #[V4 p0.op,.string p0.text,.slice Zf p0.args.length Ze,.slice Zu p0.defs.length Zt,.slice Zq p0.kids.length Zp],.agg #[V4 p1.op,.string p1.text,.slice ZA p1.args.length Zz,.slice YF p1.defs.length YD,.slice YE p1.kids.length YC]] h (.tuple #[.bool r.1,V4 r.2]):=
 WR.WA rfl (ZHm V7 Zl ZF ZE ZN Xh Xg hL)
end
section
def Zve(F:Nat)(p0:Term):O Z:=
 (Zva F p0).bind fun x3=>(bif(x3.2 !=0) then(Zvc F x3.1).bind fun x18=>(gd x18 (ZHw) default).bind fun x19=>some (x18&&x19) else(Zva F x3.1).bind fun x20=>(Zvb F p0 x3.1).bind fun x35=>(gd (!(((x20.2 !=0)||(x35.2 !=0))||(!x35.1))) (Zy1 F x3.1 x20.1) default).bind fun x36=>(bif((((x20.2 !=0)||(x35.2 !=0))||(!x35.1))||(!x36)) then some false else(Zvd F p0).bind fun x37=>(Zvd F x3.1).bind fun x43=>(ZrI F p0).bind fun x49=>(ZrI F x3.1).bind fun x50=>(ZrG F p0).bind fun x51=>(ZrG F x3.1).bind fun x52=>(gd ((((((x37.2==0)&&(x43.2==0))&&(x49.2==0))&&(x50.2==0))&&(x51.2==0))&&(x52.2==0)) (Zkw F x37.1 x43.1) default).bind fun x53=>(gd (((((((((x37.2==0)&&(x43.2==0))&&(x49.2==0))&&(x50.2==0))&&(x51.2==0))&&(x52.2==0))&&x53)&&(x49.1==x50.1))&&(x51.1==x52.1)) (ZHw) default).bind fun x54=>some ((((((((((x37.2==0)&&(x43.2==0))&&(x49.2==0))&&(x50.2==0))&&(x51.2==0))&&(x52.2==0))&&x53)&&(x49.1==x50.1))&&(x51.1==x52.1))&&x54)))
end
section
def ZHx{F wm h}{p0:Term}{Zf Ze Zu Zt Zq Zp}{r}(Zx:wm<=h.size)(Zl:Sl Zh wm h Zf Ze p0.args)(ZF:Sl Zc wm h Zu Zt p0.defs)(ZE:Sl Zv wm h Zq Zp p0.kids)(hL:Zve F p0=some r):
 WR XX 11 #[.agg #[V4 p0.op,.string p0.text,.slice Zf p0.args.length Ze,.slice Zu p0.defs.length Zt,.slice Zq p0.kids.length Zp]] wm h (CP (fun v (Gb:U (Ast wm))=>v=.bool r/\Gb=[]) [] h):=by
 refine bg Tryz.ntmps11 Zx Yh.nil ?_;intro T hT hS;unfold Zve at hL;refine r3 ?_;rintro _ h2 ⟨b1,eb1,rfl,hS⟩;refine r6 ?_;obtain⟨x3,hx3,hL⟩:=bS hL;refine V9 (Yi.fn ZEr (Zb lk Zd)) hS .n (fun g' hz hf hO=>ZyZ (hS.Vc hz) ((hS.sl Zl).mono hf) ((hS.sl ZF).mono hf) ((hS.sl ZE).mono hf) hx3) ?_;rintro _ h13 _ ⟨a4,c6,a7,c9,a10,c12,rfl,rfl⟩ hS;refine r4 ?_;rintro _ h16 ⟨b15,ZHF,rfl,hS⟩;refine r1 ?_;rintro h17 hS;refine r10 ?_;refine cn hL ?_ ?_
 ·intro hc hL;refine r3 ?_;obtain⟨x18,KC,hL⟩:=bS hL;refine WO.cp gN rfl (Yi.fn ZKD (Zb lk Zd)) (ZHp (hS.WZ k1) (hS.WZ k2) (hS.WZ k3) KC)<|r1 ?_;obtain⟨x19,Zxq,hL⟩:=Ji hL;refine WO.gcp (Zi.yes rfl rfl rfl fh) rfl (fun hg=>(Yi.fn ZEw Zd)) (fun hg=>Zy9 (Zxq hg))<|r6 ?_;exact rt hL hT hS
 ·intro hc hL;refine r5 ?_;obtain⟨x20,ZOd,hL⟩:=bS hL;refine V9 (Yi.fn ZEr (Zb lk Zd)) hS .n (fun g' hz hf hO=>ZyZ (hS.Vc hz) ((hS.fsl k1).mono hf) ((hS.fsl k2).mono hf) ((hS.fsl k3).mono hf) ZOd) ?_;rintro _ h30 _ ⟨a21,c23,a24,c26,a27,c29,rfl,rfl⟩ hS;refine r4 ?_;rintro _ h33 ⟨b32,ZTZ,rfl,hS⟩;refine r1 ?_;rintro h34 hS;refine r7 ?_;obtain⟨x35,ZF1,hL⟩:=bS hL;refine WO.cp gN rfl (Yi.fn ZKC (Zb lk (Zb lk Zd))) (ZHn (hS.slu Zl) (hS.slu ZF) (hS.slu ZE) (hS.WZ k5) (hS.WZ k6) (hS.WZ k7) ZF1)<|r16 ?_;refine r7 ?_;obtain⟨x36,Zhl,hL⟩:=Ji hL;refine WO.gcp (Zi.no rfl rfl rfl (Z9 rfl fh)) rfl (fun hg=>(Yi.fn ZxV (Zb (Jm (Zj rfl fh) rfl hg) (Zb (Jm fh rfl hg) Zd)))) (fun hg=>Zy0 (hS.WZ k5) (hS.WZ k6) (hS.WZ k7) (hS.WZ k1) (hS.WZ k2) (hS.WZ k3) (Zhl hg))<|r4 ?_;refine cn hL ?_ ?_
  ·intro hc hL;refine r7 ?_;exact rt hL hT hS
  ·intro hc hL;refine r5 ?_;obtain⟨x37,ZOb,hL⟩:=bS hL;refine V9 (Yi.fn ZEt (Zb lk Zd)) hS .n (fun g' hz hf hO=>Zy3 (hS.Vc hz) ((hS.sl Zl).mono hf) ((hS.sl ZF).mono hf) ((hS.sl ZE).mono hf) ZOb) ?_;rintro _ h41 _ ⟨a38,n39,c40,rfl,rfl⟩ hS;obtain rfl:=hS.on k0;refine r10 ?_;obtain⟨x43,ZOa,hL⟩:=bS hL;refine V9 (Yi.fn ZEt (Zb lk Zd)) hS .n (fun g' hz hf hO=>Zy3 (hS.Vc hz) ((hS.fsl k6).mono hf) ((hS.fsl k7).mono hf) ((hS.fsl k8).mono hf) ZOa) ?_;rintro _ h47 _ ⟨a44,n45,c46,rfl,rfl⟩ hS;obtain rfl:=hS.on k0;refine r10 ?_;obtain⟨x49,ZF0,hL⟩:=bS hL;refine WO.cp gN rfl (Yi.fn ZEv (Zb lk Zd)) (Zy6 (hS.slu Zl) (hS.slu ZF) (hS.slu ZE) ZF0)<|r10 ?_;obtain⟨x50,ZBE,hL⟩:=bS hL;refine WO.cp gN rfl (Yi.fn ZEv (Zb lk Zd)) (Zy6 (hS.WZ k7) (hS.WZ k8) (hS.WZ k9) ZBE)<|r10 ?_;obtain⟨x51,ZoM,hL⟩:=bS hL;refine WO.cp gN rfl (Yi.fn ZEu (Zb lk Zd)) (Zy4 (hS.slu Zl) (hS.slu ZF) (hS.slu ZE) ZoM)<|r10 ?_;obtain⟨x52,Zxm,hL⟩:=bS hL;refine WO.cp gN rfl (Yi.fn ZEu (Zb lk Zd)) (Zy4 (hS.WZ k7) (hS.WZ k8) (hS.WZ k9) Zxm)<|r16 ?_;refine r16 ?_;refine r2 ?_;obtain⟨x53,ZFZ,hL⟩:=Ji hL;refine WO.gcp (Zi.yes rfl rfl rfl (Z9 rfl fh)) rfl (fun hg=>(Yi.fn ZEs (Zb (Jm (Zj rfl fh) rfl hg) (Zb (Jm fh rfl hg) Zd)))) (fun hg=>Zy2 (hS.ord k1) (hS.ord k0) (ZFZ hg))<|r12 ?_;obtain⟨x54,ZmA,hL⟩:=Ji hL;refine WO.gcp (Zi.yes rfl rfl rfl fh) rfl (fun hg=>(Yi.fn ZEw Zd)) (fun hg=>Zy9 (ZmA hg))<|r5 ?_;exact rt hL hT hS
def ZHy{F h}{p0:Term}{Zf Ze Zu Zt Zq Zp}{r}(Zl:Sl Zh h.size h Zf Ze p0.args)(ZF:Sl Zc h.size h Zu Zt p0.defs)(ZE:Sl Zv h.size h Zq Zp p0.kids)(hL:Zve F p0=some r):Pure XX 11 #[.agg #[V4 p0.op,.string p0.text,.slice Zf p0.args.length Ze,.slice Zu p0.defs.length Zt,.slice Zq p0.kids.length Zp]] h (.bool r):=
 WR.WA rfl (ZHx V7 Zl ZF ZE hL)
end
section
end
end Go.Proofs.YtbnepjakjmnadaaGreat
end
end
section
namespace Go.Lf
def ZnS{k:Nat}(h:k<4611686018427387904):XD ((k:Int)+1)=((k+1:Nat):Int):=by
 rw[ZhV V6 V6];rfl
def ZnT{k:Nat}(h:k<4611686018427387904)(h0:0<k):XD ((k:Int)-1)=((k-1:Nat):Int):=by
 rw[ZhV V6 V6];omega
def Zag{α:Type}{KM:Nat}{xs ys:U α}(h:xs.length+ys.length<=1000000)(hb:KM<=1000):app KM xs ys=some (xs++ys):=
 Zr9 (KB (Nat.mul_le_mul (show 2*(xs.length+ys.length)+1000<=2001000 by omega) hb) (by decide))
def iter{α β σ:Type}(g:Nat->α->σ->(σ->O β)->O β)(d:σ->O β):Nat->U α->σ->O β
 | _,[],s=>d s
 | i,x::l,s=>g i x s (fun s'=>iter g d (i+1) l s')
def YA{α β σ γ:Type}(l:U α)(mk:Int->σ->γ)(body:γ->(γ->O β)->O β)(g:Nat->α->σ->(σ->O β)->O β)(d:σ->O β)
 (hl:l.length<4611686018427387904)
 (hb:∀(k:Nat) x s next,l[k]? =some x->((k:Int)<(l.length:Int))->body (mk k s) next=g k x s (fun s'=>next (mk (XD (k+1)) s')))
 (he:∀s next,body (mk l.length s) next=d s) {F:Nat} (hF:l.length<F) (s:σ):loop F body (mk 0 s)=iter g d 0 l s:=by
 have key:∀(m k F:Nat) s,k+m=l.length->m<F->loop F body (mk k s)=iter g d k (l.drop k) s:=by
  intro m
  induction m with
  | zero=>
    intro k F s hk hF;obtain⟨F,rfl⟩:=Ne0 (n:=F) V6;have:k=l.length:=V6
    subst this;rw[Yj,he,List.drop_length];rfl
  | succ m ih=>
    intro k F s hk hF;obtain⟨F,rfl⟩:=Ne0 (n:=F) V6;have hlt:k<l.length:=V6
    rw[Yj,hb k l[k] s _ (by simp[hlt]) V6,List.drop_eq_getElem_cons hlt,iter];congr 1;funext s';rw[ZnS V6];exact ih (k+1) F s' V6 V6
 have:=key l.length 0 F s V6 V6
 simpa using this
end Go.Lf
end
section
noncomputable section
namespace Go.Proofs.YtbnepjakjmnadaaGreat
open Go.Lf
section
section
variable{β γ:Type}
def Zf0{body:γ->(γ->O β)->O β}{r:O β}(S:Nat->γ){n F:Nat}(hF:n<F)(hb:∀k,k<n->∀next,body (S k) next=next (S (k+1)))(he:∀next,body (S n) next=r):loop F body (S 0)=r:=by
 have:∀j F,j<=n->n-j<F->loop F body (S j)=r:=by
  intro j F hj hF;obtain⟨d,hd⟩:∃d,d=n-j:=⟨_,rfl⟩
  induction d generalizing j F with
  | zero=>
    have:j=n:=V6
    subst this;cases F with
    | zero=>omega
    | succ F=>rw[Yj];exact he _
  | succ d ih=>
    cases F with
    | zero=>omega
    | succ F=>rw[Yj,hb j V6];exact ih (j+1) F V6 V6 V6
 exact this 0 F (GE _) V6
def ZiJ{body:γ->(γ->O β)->O β}{r1 r2:O β}(S:Nat->γ)(c:Nat->Z){n F:Nat}(hF:n<F)(hb:∀k,k<n->∀next,body (S k) next=bif c k then r1 else next (S (k+1)))(he:∀next,body (S n) next=r2):loop F body (S 0)=bif(List.range n).any c then r1 else r2:=by
 cases h:(List.range n).any c with
 | false=>
   rw[List.any_eq_false]at h;refine Zf0 S hF (fun k hk next=>?_) he;have:=h k (GK.2 hk);rw[hb k hk,Gg.2 this];rfl
 | true=>
   have hex:∃k,k<n/\c k=true:=by
    obtain⟨k,h1,h2⟩:=List.any_eq_true.1 h;exact⟨k,GK.1 h1,h2⟩
   have hm:∃m,(m<n/\c m=true)/\∀k,k<m->c k=false:=by
    obtain⟨k,hk⟩:=hex
    induction k using Nat.strongRecOn with
    | _ k ih=>
      by_cases hz:∃j,j<k/\c j=true
      ·obtain⟨j,h1,h2⟩:=hz;exact ih j h1 ⟨by omega,h2⟩
      ·exact⟨k,hk,fun j hj=>Gg.2 fun q=>hz ⟨j,hj,q⟩⟩
   obtain⟨m,⟨h1,h2⟩,h3⟩:=hm;refine Zf0 S (n:=m) V6 (fun k hk next=>?_) (fun next=>?_)
   ·rw[hb k V6,h3 k hk];rfl
   ·rw[hb m h1,h2];rfl
end
def ZhU{k:Nat}(h:k<4611686018427387904):XD ((k:Int)+1)=((k+1:Nat):Int):=ZnS h
def JR{k:Nat}(h:k<9223372036854775807):XD ((k:Int)+1)=((k+1:Nat):Int):=by rw[ZhV V6 V6];omega
def Yc{k n:Nat}(h:k<n):decide ((k:Int)<(n:Int))=true:=decide_eq_true V6
def Yp(n:Nat):decide ((n:Int)<(n:Int))=false:=decide_eq_false V6
def Qn{α:Type}{l:U α}{k:Nat}(h:k<l.length):YH l (k:Int)=some l[k]:=by rw[Zi8,J1 h]
def app1{α:Type}{b:Nat}{l:U α}{x:α}(h:l.length<=900000)(hb:b<=1000):app b l [x]=some (l++[x]):=Zag (by simp;omega) hb
def ZcI{α:Type}[BEq α][LawfulBEq α](a:α):(a !=a)=false:=by simp
end
section
instance:LawfulBEq ByteArray where
 eq_of_beq {a b} h:=by
  cases a with|mk a=>cases b with|mk b=>
  have h:(a==b)=true:=h;rw[eq_of_beq h]
 rfl {a}:=by
  cases a with|mk a=>
  show(a==a)=true;simp
def kws:U Y:=[(⟨#[97,110,100]⟩:Y),(⟨#[100,101,102]⟩:Y),(⟨#[101,108,115,101]⟩:Y),(⟨#[103,111]⟩:Y),(⟨#[105,102]⟩:Y),(⟨#[105,110]⟩:Y),(⟨#[112,108,97,99,101]⟩:Y),(⟨#[115,116,111,112]⟩:Y),(⟨#[116,104,101,110]⟩:Y),(⟨#[119,97,116,99,104]⟩:Y)]
def ZlJ(s:Y)(k:Nat):Z:=decide (((s.data.getD k 0).toNat:Int)<97)||decide (((s.data.getD k 0).toNat:Int)>122)
def Xl(s:Y):Z:=decide (0<s.size)&&decide (s.size<=8) && !((List.range s.size).any (ZlJ s)) && !decide (s∈kws)
def ZAX{s:Y}{k:Nat}(h:k<s.size):ZkR s (k:Int)=some ((s.data.getD k 0).toNat:Int):=by
 have hk:k<s.data.size:=h
 have e:s[((k:Int)).toNat]? =some (s.data[k]):=by
  rw[Int.toNat_natCast];show s.data[k]? =_;rw[Gy hk]
 unfold ZkR;rw[if_pos V6,e,Q2,Gy hk]
 rfl
def setOf(l:U Y):U (Y×Z):=l.foldl (fun m s=>YT m s true) []
def ZuC(l:U Y)(s:Y):(ZP (setOf l) s).getD false=decide (s∈l):=by
 have gen:∀(l:U Y)(m:U (Y×Z)),(ZP (l.foldl (fun m s=>YT m s true) m) s).getD false=(decide (s∈l)||(ZP m s).getD false):=by
  intro l
  induction l with
  | nil=>intro m;simp
  | cons x l ih=>
    intro m;rw[Gn,ih,Zar];by_cases h:s=x
    ·subst h;simp
    ·rw[if_neg h];simp[h]
 have:=gen l [];unfold setOf;rw[this];simp[ZP,Yk]
def ZFP(s:Y):(ZyX.bind fun m=>(Zim m s false).bind fun x=>some (!x))=some (!decide (s∈kws)):=by
 have e:ZyX=some (setOf kws):=rfl;rw[e];show some (!((ZP (setOf kws) s).getD false))=_;rw[ZuC]
def Zoy(F:Nat)(s:Y)(h:s.size<F)(hl:s.size<=9223372036854775807):Zgj F s=some (Xl s):=by
 have:=ZiJ (body:=Zgi s) (r1:=some false) (r2:=some (decide (0<s.size)&&decide (s.size<=8) && !decide (s∈kws))) (fun k:Nat=>(k:Int)) (ZlJ s) (n:=s.size) h
  (fun k hk next=>by
    simp only[Zgi,Yc hk,Cq1,ZAX hk,Bq0,JR (show k<9223372036854775807 by omega)];unfold ZlJ;cases h1:decide (((s.data.getD k 0).toNat:Int)<97)<;>simp[gd])
  (fun next=>by
    simp only[Zgi,Yp,Cq0];rw[ZFP]
    have e1:decide ((s.size:Int)>0)=decide (0<s.size):=by
     by_cases hz:0<s.size
     ·rw[decide_eq_true hz,decide_eq_true V6]
     ·rw[decide_eq_false hz,decide_eq_false V6]
    have e2:decide ((s.size:Int)<=8)=decide (s.size<=8):=by
     by_cases hz:s.size<=8
     ·rw[decide_eq_true hz,decide_eq_true V6]
     ·rw[decide_eq_false hz,decide_eq_false V6]
    rw[e1,e2];cases (decide (0<s.size)&&decide (s.size<=8))<;>simp)
 show loop F (Zgi s) ((0:Nat):Int)=_;rw[this];unfold Xl;cases (List.range s.size).any (ZlJ s)<;>simp
def Zuv(xs:U Int):Y:=⟨(xs.map fun n=>UInt8.ofNat n.toNat).toArray⟩
def ZfN(xs:U Int):(Zuv xs).size=xs.length:=by
 show((xs.map fun n=>UInt8.ofNat n.toNat).toArray).size=_;simp
def ZJi{v:Nat}(h0:0<v)(h:v<=1000000):ZuE (XD ((v:Int)-1)) 26=some (((v-1) % 26:Nat):Int):=by
 rw[ZnT V6 h0];unfold ZuE;simp only[show((26:Int)==0)=false from rfl,Cq0];rw[show(26:Int)=((26:Nat):Int) from rfl,Int.ofNat_tmod]
def ZJj{v:Nat}(h0:0<v)(h:v<=1000000):ZuH (XD ((v:Int)-1)) 26=some (((v-1) / 26:Nat):Int):=by
 rw[ZnT V6 h0];unfold ZuH;simp only[show((26:Int)==0)=false from rfl,Cq0];rw[show(26:Int)=((26:Nat):Int) from rfl,<-Int.ofNat_tdiv,ZhV V6 V6]
def ZIZ{m:Nat}(h:m<26):IntKind.wrap .u8 (XD (97+(m:Int)))=((97+m:Nat):Int):=by
 rw[ZhV V6 V6];unfold IntKind.wrap;have e1:(2 ^ IntKind.u8.bits:Int)=256:=by decide
 have e3:IntKind.u8.signed=false:=rfl;simp only[e1,e3];simp;omega
def ZG4{v:Nat}(h:0<v):decide ((v:Int)>0)=true:=decide_eq_true V6
def bs(n:Nat):U Int:=if n<=26 then [((97+(n-1) % 26:Nat):Int)] else [((97+((n-1) / 26-1) % 26:Nat):Int),((97+(n-1) % 26:Nat):Int)]
def ZDS(n:Nat):n % 26<26:=Nat.mod_lt _ (by decide)
def ZBf:∀(n:Nat)(f:Nat->Nat),(∀i,i<=n->f i<n)->∃i j,i<j/\j<=n/\f i=f j:=by
 intro n
 induction n with
 | zero=>intro f h;exact absurd (h 0 V7) (Nat.not_lt_zero _)
 | succ n ih=>
   intro f h;by_cases hz:∃i,i<=n/\f i=f (n+1)
   ·obtain⟨i,h1,h2⟩:=hz;exact⟨i,n+1,by omega,K1 _,h2⟩
   ·have hne:∀i,i<=n->f i≠f (n+1):=fun i hi q=>hz ⟨i,hi,q⟩
    have hl:=h (n+1) V7
    obtain⟨i,j,h1,h2,h3⟩:=ih (fun i=>if f i<f (n+1) then f i else f i-1) (fun i hi=>by
     have:=h i V6;have:=hne i hi;by_cases q:f i<f (n+1)
     ·rw[if_pos q];omega
     ·rw[if_neg q];omega)
    refine⟨i,j,h1,by omega,?_⟩;have a1:=hne i V6;have a2:=hne j h2;by_cases q1:f i<f (n+1)<;>by_cases q2:f j<f (n+1)
    ·rwa[if_pos q1,if_pos q2]at h3
    ·rw[if_pos q1,if_neg q2]at h3;omega
    ·rw[if_neg q1,if_pos q2]at h3;omega
    ·rw[if_neg q1,if_neg q2]at h3;omega
def wl(n:Nat):U Int:=if h:n=0 then [] else wl ((n-1) / 26)++[((97+(n-1) % 26:Nat):Int)]
termination_by n
decreasing_by omega
def Zel:wl 0=[]:=by rw[wl,dif_pos rfl]
def ZhT{n:Nat}(h:0<n):wl n=wl ((n-1) / 26)++[((97+(n-1) % 26:Nat):Int)]:=by rw[wl,dif_neg V6]
def ZqE:∀(k n:Nat),n<26 ^ k->(wl n).length<=k:=by
 intro k
 induction k with
 | zero=>intro n h;have:n=0:=by simpa using h
         subst this;rw[Zel];exact K1 _
 | succ k ih=>
   intro n h;by_cases h0:n=0
   ·subst h0;rw[Zel];exact GE _
   ·rw[ZhT V6,K2,List.length_singleton];have:=ih ((n-1) / 26) (by rw[Nat.pow_succ]at h;omega);omega
def ZDv{n:Nat}(h:0<n):wl n≠[]:=by rw[ZhT h];simp
def ZqD:∀(n:Nat),∀x∈wl n,∃d:Nat,d<26/\x=((97+d:Nat):Int):=by
 intro n
 induction n using Nat.strongRecOn with
 | _ n ih=>
   intro x hx;by_cases h0:n=0
   ·subst h0;rw[Zel]at hx;cases hx
   ·rw[ZhT V6,Q1,G6]at hx;rcases hx with hx|hx
    ·exact ih ((n-1) / 26) V6 x hx
    ·exact⟨_,ZDS _,hx⟩
def ZE9(s:Y):Nat:=s.data.toList.foldl (fun v c=>26*v+(c.toNat-96)) 0
def ZkP(l:U Int)(h:∀x∈l,∃d:Nat,d<26/\x=((97+d:Nat):Int)):ZE9 (Zuv l)=l.foldl (fun v x=>26*v+(x.toNat-96)) 0:=by
 unfold ZE9 Zuv;show((l.map fun n=>UInt8.ofNat n.toNat).toArray.toList).foldl _ 0=_;rw[List.foldl_map]
 have:∀(l:U Int)(v:Nat),(∀x∈l,∃d:Nat,d<26/\x=((97+d:Nat):Int))->l.foldl (fun v x=>26*v+((UInt8.ofNat x.toNat).toNat-96)) v=l.foldl (fun v x=>26*v+(x.toNat-96)) v:=by
  intro l
  induction l with
  | nil=>intro _ _;rfl
  | cons x l ih=>
    intro v h;obtain⟨d,hd,rfl⟩:=h x (by simp)
    have e:(UInt8.ofNat (((97+d:Nat):Int).toNat)).toNat=(((97+d:Nat):Int).toNat):=by
     rw[Int.toNat_natCast];simp only[UInt8.toNat_ofNat'];omega
    rw[Gn,Gn,e];exact ih _ fun y hy=>h y (Kf _ hy)
 exact this l 0 h
def Zv6(n:Nat):(wl n).foldl (fun v x=>26*v+(x.toNat-96)) 0=n:=by
 induction n using Nat.strongRecOn with
 | _ n ih=>
   by_cases h0:n=0
   ·subst h0;rw[Zel];rfl
   ·rw[ZhT V6,List.foldl_append,ih ((n-1) / 26) V6,Gn,List.foldl_nil,Int.toNat_natCast];omega
def Wn(k:Nat):Y:=Zuv (wl (k+1))
def ZIo{a b:Nat}(h:Wn a=Wn b):a=b:=by
 have e:=congrArg ZE9 h;unfold Wn at e;rw[ZkP _ (ZqD _),ZkP _ (ZqD _),Zv6,Zv6]at e;omega
def Zt5{k:Nat}(h:k<1000000):(Wn k).size<=5:=by
 unfold Wn;rw[ZfN];exact ZqE 5 _ V6
def ZIn(k:Nat):0<(Wn k).size:=by
 unfold Wn;rw[ZfN];exact List.length_pos_iff.2 (ZDv V6)
def ZIp(k:Nat):((List.range (Wn k).size).any (ZlJ (Wn k)))=false:=by
 rw[List.any_eq_false];intro i hi;have hi:=GK.1 hi;unfold Wn at hi;rw[ZfN]at hi;have hx:(wl (k+1))[i]∈wl (k+1):=GM hi;obtain⟨d,hd,e⟩:=ZqD _ _ hx
 have e2:(Wn k).data.getD i 0=UInt8.ofNat ((wl (k+1))[i]).toNat:=by
  unfold Wn Zuv;show(((wl (k+1)).map fun n=>UInt8.ofNat n.toNat).toArray).getD i 0=_;rw[Q2,List.getElem?_toArray,GC,J1 hi];rfl
 unfold ZlJ;rw[e2,e,Int.toNat_natCast];have e3:(UInt8.ofNat (97+d)).toNat=97+d:=by simp only[UInt8.toNat_ofNat'];omega
 rw[e3,decide_eq_false V6,decide_eq_false V6];simp
def Zw1{k:Nat}(h:k<1000000):Xl (Wn k)= !decide (Wn k∈kws):=by
 unfold Xl;rw[ZIp,decide_eq_true (ZIn k),decide_eq_true (by have:=Zt5 h;omega)];simp
def ZeQ(l:U Y)(k:Nat):Z:=Xl (Wn k) && !decide (Wn k∈l)
def ZBA:kws.length=10:=rfl
def ZmY{l:U Y}(hl:l.length<=900000):∃k,k<l.length+11/\ZeQ l k=true:=by
 apply Classical.byContradiction;intro hno
 have hall:∀k,k<l.length+11->Wn k∈kws++l:=by
  intro k hk;rw[Q1];by_cases h1:Wn k∈kws
  ·exact .inl h1
  ·refine .inr (Classical.byContradiction fun hm=>hno ⟨k,hk,?_⟩);unfold ZeQ;rw[Zw1 V6,decide_eq_false h1,decide_eq_false hm];rfl
 have hL:(kws++l).length=l.length+10:=by rw[K2,ZBA];omega
 have hidx:∀k,k<l.length+11->∃i,i<l.length+10/\(kws++l)[i]? =some (Wn k):=fun k hk=>by
  obtain⟨i,h1,h2⟩:=List.getElem_of_mem (hall k hk);exact⟨i,by omega,by rw[J1 h1,h2]⟩
 obtain⟨i,j,h1,h2,h3⟩:=ZBf (l.length+10) (fun k=>if h:k<l.length+11 then(hidx k h).choose else 0) (fun i hi=>by
  have h:i<l.length+11:=V6
  show(if h:i<l.length+11 then(hidx i h).choose else 0)<_;rw[dif_pos h];exact(hidx i h).choose_spec.1)
 have hi:i<l.length+11:=V6
 have hj:j<l.length+11:=V6
 simp only[dif_pos hi,dif_pos hj]at h3;have e1:=(hidx i hi).choose_spec.2;have e2:=(hidx j hj).choose_spec.2;rw[h3,e2]at e1;have:=ZIo (Oi0 e1);omega
def QG(l:U Y):Y:=Wn (((List.range (l.length+11)).find? (ZeQ l)).getD 0)
def Zg1{l:U Y}(hl:l.length<=900000):∃m,m<l.length+11/\ZeQ l m=true/\(∀k,k<m->ZeQ l k=false)/\QG l=Wn m:=by
 obtain⟨k,hk,hf⟩:=ZmY hl;cases e:(List.range (l.length+11)).find? (ZeQ l) with
 | none=>
   rw[List.find?_eq_none]at e;exact absurd hf (e k (GK.2 hk))
 | some m=>
   have e':=e;rw[List.find?_range_eq_some]at e';obtain⟨h1,h2,h3⟩:=e';exact⟨m,GK.1 h2,h1,fun j hj=>by have:=h3 j hj;simpa using this,by unfold QG;rw[e];rfl⟩
def Zg2{l:U Y}(hl:l.length<=900000):Xl (QG l)=true/\QG l∉l:=by
 obtain⟨m,_,h,_,e⟩:=Zg1 hl;rw[e];unfold ZeQ at h;rw[Ba0,Bool.not_eq_true',decide_eq_false_iff_not]at h;exact h
def Zxd{β:Type}{body:U Int×Int->(U Int×Int->O β)->O β}{r:O β}{n:Nat}(h2:n<=1000000)
 (hs:∀(b:U Int)(v:Nat),b.length<=5->0<v->v<=1000000->∀next,body (b,(v:Int)) next=next (((97+(v-1) % 26:Nat):Int)::b,(((v-1) / 26:Nat):Int)))
 (he:∀next,body (wl n,0) next=r) {F:Nat} (hF:6<=F):loop F body ([],(n:Int))=r:=by
 have key:∀(F v:Nat)(b:U Int),v<=1000000->wl v++b=wl n->(wl v).length<F->loop F body (b,(v:Int))=r:=by
  intro F
  induction F with
  | zero=>intro v b _ _ h;omega
  | succ F ih=>
    intro v b hv hw hl;rw[Yj];by_cases h0:v=0
    ·subst h0;rw[Zel,Gm]at hw;subst hw;exact he _
    ·have hb:b.length<=5:=by
      have:=congrArg List.length hw;rw[K2]at this;have:=ZqE 5 n V6;omega
     rw[hs b v hb V6 hv];rw[ZhT V6]at hw hl;rw[K2,List.length_singleton]at hl;exact ih _ _ V6 (by rw[<-hw];simp) V6
 exact key F n [] h2 (by simp) (by have:=ZqE 5 n V6;omega)
def ZAW{n:Nat}(h:0<n):ZFm (wl n)=some (Zuv (wl n)):=by
 cases e:wl n with
 | nil=>exact absurd e (ZDv h)
 | cons x l=>rfl
def Zij{F:Nat}{l:U Y}{m:U (Y×Z)}(hm:∀x,(ZP m x).getD false=decide (x∈l))(hF:1000<=F)(k:Nat)(hk:k<999000)(next:Int×Y×Z->O Y):
 ZmQ F m (((k+1:Nat):Int),⟨#[]⟩,false) next=bif ZeQ l k then some (Wn k) else next (((k+2:Nat):Int),⟨#[]⟩,false):=by
 have hz:=Zt5 (k:=k) V6;show loop F (Zjr F m ((k+1:Nat):Int) ⟨#[]⟩ false next) ([],((k+1:Nat):Int))=_;refine Zxd V6 (fun b v hb h0 h1 nx=>?_) (fun nx=>?_) V6
 ·simp only[Zjr,ZG4 h0,Cq1,ZJi h0 V6,ZJj h0 V6,Bq0,ZIZ (ZDS _)];rw[Zr9 (by simp;omega)]
  rfl
 ·simp only[Zjr];rw[show decide ((0:Int)>0)=false from rfl,Cq0,ZAW V6,Bq0,Cq0];show(Zgj F (Wn k)).bind _=_;rw[Zoy F (Wn k) V6 V6,Bq0];show(gd (Xl (Wn k)) (some ((ZP m (Wn k)).getD false)) default).bind _=_;rw[hm,ZhU V6];unfold ZeQ;cases Xl (Wn k)
  ·rfl
  ·cases decide (Wn k∈l)<;>rfl
def ZyK{F:Nat}{l:U Y}{m:U (Y×Z)}(hm:∀x,(ZP m x).getD false=decide (x∈l))(hF:1000000<=F)(hl:l.length<=900000):ZyW F m=some (QG l):=by
 obtain⟨j,h1,h2,h3,e⟩:=Zg1 hl;rw[e];refine Zf0 (body:=ZmQ F m) (S:=fun k=>(((k+1:Nat):Int),(⟨#[]⟩:Y),false)) (n:=j) V6 (fun k hk next=>?_) (fun next=>?_)
 ·rw[Zij hm V6 k V6,h3 k hk];rfl
 ·rw[Zij hm V6 j V6,h2];rfl
end
section
def ZM:Part->U Part
 | .pr t=>t.args.map .ex++t.defs.map .cl++t.kids.map .pr
 | .ex e=>e.kids.map .ex
 | .cl c=>c.defs.map .cl++c.kids.map .pr
def pz:Part->Nat
 | .pr t=>SizeOf.sizeOf t
 | .ex e=>SizeOf.sizeOf e
 | .cl c=>SizeOf.sizeOf c
def Ut{k p:Part}(h:k∈ZM p):pz k<pz p:=by
 cases p with
 | pr t=>
   obtain⟨op,tx,ags,ds,ks⟩:=t;simp only[ZM,Q1,G3]at h;rcases h with(⟨x,hx,rfl⟩|⟨x,hx,rfl⟩) | ⟨x,hx,rfl⟩<;>(have:=List.sizeOf_lt_of_mem hx;simp only[pz,Term.mk.sizeOf_spec];omega)
 | ex e=>
   obtain⟨op,n,tx,ks⟩:=e;simp only[ZM,G3]at h;obtain⟨x,hx,rfl⟩:=h;have:=List.sizeOf_lt_of_mem hx;simp only[pz,Zg.mk.sizeOf_spec];omega
 | cl c=>
   obtain⟨fm,tx,js,ds,ks⟩:=c;simp only[ZM,Q1,G3]at h;rcases h with⟨x,hx,rfl⟩|⟨x,hx,rfl⟩<;>(have:=List.sizeOf_lt_of_mem hx;simp only[pz,Za.mk.sizeOf_spec];omega)
def Zev{P:Part->Prop}(h:∀p,(∀k∈ZM p,P k)->P p)(p:Part):P p:=by
 have:∀n p,pz p<n->P p:=by
  intro n
  induction n with
  | zero=>intro p hp;omega
  | succ n ih=>intro p hp;exact h p fun k hk=>ih k (by have:=Ut hk;omega)
 exact this _ p (Nat.lt_succ_self _)
def Uj{α β:Type}(l:U α)(f:α->U β):(l.attach.flatMap fun k=>f k.1)=l.flatMap f:=by
 conv=>rhs;rw[<-List.attach_map_subtype_val l]
 rw[List.flatMap_map]
def attach_map{α β:Type}(l:U α)(f:α->β):(l.attach.map fun k=>f k.1)=l.map f:=by
 conv=>rhs;rw[<-List.attach_map_subtype_val l]
 rw[Gd];rfl
def pre(p:Part):U Part:=p::(ZM p).attach.flatMap fun k=>pre k.1
termination_by pz p
decreasing_by exact Ut k.2
def pre_eq(p:Part):pre p=p::(ZM p).flatMap pre:=by rw[pre,Uj (ZM p) pre]
def WW(l:U Nat):Nat:=l.foldr max 0
def dep(p:Part):Nat:=WW ((ZM p).attach.map fun k=>dep k.1)+1
termination_by pz p
decreasing_by exact Ut k.2
def Zd2(p:Part):dep p=WW ((ZM p).map dep)+1:=by rw[dep,attach_map (ZM p) dep]
def ZcM(x:Nat)(l:U Nat):WW (x::l)=max x (WW l):=rfl
def ZgW(l r:U Nat):WW (l++r)=max (WW l) (WW r):=by
 induction l with
 | nil=>simp[WW]
 | cons x l ih=>rw[List.cons_append,ZcM,ZcM,ih];omega
def Jg(p:Part):(pre p).length=((ZM p).flatMap pre).length+1:=by rw[pre_eq];rfl
def Xd(p:Part):1<=(pre p).length:=by rw[Jg];omega
def U4{k:Part}{l:U Part}(h:k∈l):(pre k).length<=(l.flatMap pre).length:=by
 induction l with
 | nil=>cases h
 | cons x l ih=>
   rw[Kd,K2];rcases Kx.1 h with rfl|h
   ·omega
   ·have:=ih h;omega
def Yb{k p:Part}(h:k∈ZM p):(pre k).length<(pre p).length:=by
 have:=U4 h;rw[Jg p];omega
def KX(l:U Part):l.length<=(l.flatMap pre).length:=by
 induction l with
 | nil=>simp
 | cons x l ih=>rw[Kd,K2,KK];have:=Xd x;omega
def Zaw(p:Part):(ZM p).length<(pre p).length:=by
 have:=KX (ZM p);rw[Jg p];omega
def ZHO(p:Part):dep p<=(pre p).length:=by
 induction p using Zev with
 | h p ih=>
   rw[Zd2,Jg]
   have:∀l:U Part,(∀k∈l,dep k<=(pre k).length)->WW (l.map dep)<=(l.flatMap pre).length:=by
    intro l
    induction l with
    | nil=>intro _;simp[WW]
    | cons x l ihl=>
      intro h;rw[G8,ZcM,Kd,K2];have h1:=h x (by simp);have h2:=ihl fun k hk=>h k (Kf _ hk)
      omega
   have:=this _ ih;omega
def Xk{x k p:Part}(hk:k∈ZM p)(hx:x∈pre k):x∈pre p:=by
 rw[pre_eq p];exact Kf _ (Q3.2 ⟨k,hk,hx⟩)
def Xq(p:Part):p∈pre p:=by rw[pre_eq];exact Gs
def YA{α σ β γ:Type}{body:γ->(γ->O β)->O β}(st:Nat->σ->γ)(l:U α)(Pre:U α->σ->Prop)(run:U α->σ->O β)
 (h0:∀s nx,Pre [] s->body (st l.length s) nx=run [] s)
 (h1:∀(k:Nat) x rest s nx,x∈l->k<l.length->YH l (k:Int)=some x->Pre (x::rest) s->(∀s',Pre rest s'->nx (st (k+1) s')=run rest s')->body (st k s) nx=run (x::rest) s) {F:Nat} (hF:l.length<F) (s:σ) (hp:Pre l s):loop F body (st 0 s)=run l s:=by
 have key:∀(d j F:Nat)(s:σ),j+d=l.length->d<F->Pre (l.drop j) s->loop F body (st j s)=run (l.drop j) s:=by
  intro d
  induction d with
  | zero=>
    intro j F s hj hF hp;obtain⟨F,rfl⟩:∃G,F=G+1:=⟨F-1,by omega⟩
    obtain rfl:j=l.length:=V6
    rw[List.drop_length]at hp ⊢;rw[Yj,h0 _ _ hp]
  | succ d ih=>
    intro j F s hj hF hp;obtain⟨F,rfl⟩:∃G,F=G+1:=⟨F-1,by omega⟩
    have hjl:j<l.length:=V6
    rw[List.drop_eq_getElem_cons hjl]at hp ⊢;rw[Yj];exact h1 j _ _ s _ (GM hjl) hjl (Qn hjl) hp fun s' hp'=>ih (j+1) F s' V6 V6 hp'
 have:=key l.length 0 F s V6 hF (by simpa using hp)
 simpa using this
abbrev E0:Y:=⟨#[]⟩
def BB:Nat:=9223372036854775807
def Wl(e:Zg):Z:=
 bif e.op==1 then decide (e.n >=-1000000000)&&decide (e.n<=1000000000)&&decide (e.text=E0)&&(e.kids.length==0)
 else bif e.op==2 then Xl e.text&&(e.n==0)&&(e.kids.length==0)
 else decide (e.op >=3)&&decide (e.op<=7)&&decide (e.text=E0)&&(e.n==0)&&(e.kids.length==2)
def szs(t:Term)(a d k:Nat):Z:=(t.args.length==a)&&(t.defs.length==d)&&(t.kids.length==k)
def K8(t:Term):Z:=
 (bif(t.op==1)||(t.op==7) then szs t 0 0 0
  else bif t.op==2 then decide (t.args.length<=3)&&szs t t.args.length 0 0
  else bif t.op==3 then szs t 0 0 2
  else bif t.op==4 then decide (0<t.defs.length)&&decide (t.defs.length<=5)&&szs t 0 t.defs.length 1
  else bif t.op==5 then szs t 1 0 2
  else((t.op==6)||(t.op==8))&&szs t 0 0 1) &&
 (bif((t.op==2)||(t.op==6))||(t.op==8) then Xl t.text else decide (t.text=E0))
def nWb(hn:Y->Z):U Y->Z
 | []=>true
 | x::xs=>(Xl x && !hn x)&&nWb (fun s=>hn s||decide (s=x)) xs
def jW(ht hn:Y->Z):U Z4->Z
 | []=>true
 | m::js=>(Xl m.text && !ht m.text&&decide (m.names.length<=3))&&(nWb hn m.names&&jW (fun s=>ht s||decide (s=m.text)) (fun s=>hn s||decide (s∈m.names)) js)
def UD(c:Za):Z:=
 (c.kids.length==1)&&(bif c.form==2 then Xl c.text&&(c.joins.length==0)&&decide (c.defs.length<=5)
 else(c.form==1)&&decide (c.text=E0)&&(c.defs.length==0)&&decide (0<c.joins.length)&&decide (c.joins.length<=3)&&jW (fun _=>false) (fun _=>false) c.joins)
def Uq:Part->Z
 | .pr t=>K8 t
 | .ex e=>Wl e
 | .cl c=>UD c
def Loc:Part->Prop
 | .pr t=>t.text.size<=BB/\t.args.length<=BB/\t.defs.length<=BB/\t.kids.length<=BB
 | .ex e=>e.text.size<=BB/\e.kids.length<=BB
 | .cl c=>c.text.size<=BB/\c.joins.length<=BB/\c.defs.length<=BB/\c.kids.length<=BB/\∀m∈c.joins,m.text.size<=BB/\m.names.length<=BB/\∀s∈m.names,s.size<=BB
def BS:Nat:=1048576
def Lo(p:Part):Prop:=∀x∈pre p,Loc x
def Sm(p:Part):Prop:=(pre p).length<=BS/\Lo p
def Lo.kid{k p:Part}(h:Lo p)(hk:k∈ZM p):Lo k:=fun x hx=>h x (Xk hk hx)
def Lo.loc{p:Part}(h:Lo p):Loc p:=h p (Xq p)
def Sm.kid{k p:Part}(h:Sm p)(hk:k∈ZM p):Sm k:=⟨by have:=Yb hk;have:=h.1;omega,fun x hx=>h.2 x (Xk hk hx)⟩
def Jd(b:Z):JB b=some (bif b then .ok () else .Z6 2):=by cases b<;>rfl
def K5(a b:Nat):((a:Int)==(b:Int))=(a==b):=by rw[Gx,beq_iff_eq,beq_iff_eq];omega
def ZsO{α β:Type}{e:Int}{p:Int->O β}{k:α->O β}:JL (.Z6 e) p k=p e:=rfl
def nameP{F:Nat}(hF:10000000000000000000<=F){s:Y}(h:s.size<=BB):Zgj F s=some (Xl s):=Zoy F s (by unfold BB at h;omega) (by unfold BB at h;omega)
def Zn7{F:Nat}(hF:10000000000000000000<=F)(e:Zg)(h:Loc (.ex e)):Zlx F e=some (bif Wl e then .ok () else .Z6 2):=by
 obtain⟨op,n,tx,ks⟩:=e;have hn:=nameP hF h.1;dsimp only at hn;have h2:((ks.length:Int)==2)=(ks.length==2):=K5 _ 2;have h0:((ks.length:Int)==0)=(ks.length==0):=K5 _ 0;have hc:op=1\/op=2\/op=3\/op=4\/op=5\/op=6\/op=7\/op<1\/7<op:=V6
 unfold Zlx Wl;dsimp only
 have j:∀op:Int,W9 ⟨op,n,tx,ks⟩ true=some (bif decide (tx=E0)&&(n==0)&&(ks.length==2) then .ok () else .Z6 2):=fun op=>by
  simp only[W9,Cq1,Jd,h2,Bq0];cases (decide (tx=E0)&&(n==0)&&(ks.length==2))<;>rfl
 rcases hc with rfl|rfl|rfl|rfl|rfl|rfl|rfl|hc
 ·simp only[Jd,h0,Bq0];cases (decide (n >=-1000000000)&&decide (n<=1000000000)&&decide (tx=E0)&&(ks.length==0))<;>rfl
 ·show(Zgj F tx).bind _=some (bif(Xl tx&&(n==0)&&(ks.length==0)) then _ else _);rw[hn];simp only[Jd,h0,Bq0];cases (Xl tx&&(n==0)&&(ks.length==0))<;>rfl
 ·exact j 3
 ·exact j 4
 ·exact j 5
 ·exact j 6
 ·exact j 7
 have e1:(op==1)=false:=by simp;omega
 have e2:(op==2)=false:=by simp;omega
 have e3:(op==3)=false:=by simp;omega
 have e4:(op==4)=false:=by simp;omega
 have e5:(op==5)=false:=by simp;omega
 have e6:(op==6)=false:=by simp;omega
 have e7:(op==7)=false:=by simp;omega
 have e8:(decide (op >=3)&&decide (op<=7))=false:=by
  rcases hc with hc|hc
  ·rw[decide_eq_false (show ¬ op >=3 by omega)];rfl
  ·rw[decide_eq_false (show ¬ op<=7 by omega)];simp
 rw[e1,e2,e3,e4,e5,e6,e7,e8]
 rfl
def Zal(t:Term)(a d k:Nat):WG t (a:Int) (d:Int) (k:Int)=some (bif szs t a d k then .ok () else .Z6 2):=by
 unfold WG szs;rw[Jd,K5,K5,K5,Bq0];cases ((t.args.length==a)&&(t.defs.length==d)&&(t.kids.length==k))<;>rfl
def ZAV{F:Nat}(hF:10000000000000000000<=F)(t:Term)(h:t.text.size<=BB):(Uv F t) ()=some (bif(bif((t.op==2)||(t.op==6))||(t.op==8) then Xl t.text else decide (t.text=E0)) then .ok () else .Z6 2):=by
 unfold Uv ZcV;rw[nameP hF h];simp only[Jd,Bq0,E0];cases t.op==2<;>cases t.op==6<;>cases t.op==8<;>cases Xl t.text<;>cases decide (t.text=(⟨#[]⟩:Y))<;>rfl
def seq2{a b:Z}:(JL (bif a then PR.ok () else PR.Z6 2) (fun e=>some (.Z6 e)) (fun _=>some (bif b then PR.ok () else PR.Z6 2)):O (PR Unit))=some (bif a&&b then .ok () else .Z6 2):=by cases a<;>rfl
def ZJa{a b:Z}:(JL (bif a then PR.ok () else PR.Z6 2) (fun _=>some (.Z6 2)) (fun _=>some (bif b then PR.ok () else PR.Z6 2)):O (PR Unit))=some (bif a&&b then .ok () else .Z6 2):=by cases a<;>rfl
def Zhi{F:Nat}(hF:10000000000000000000<=F)(t:Term)(h:Loc (.pr t)):Zly F t=some (bif K8 t then .ok () else .Z6 2):=by
 have ht:=ZAV hF t h.1
 have hg:decide ((t.args.length:Int)<=3)=decide (t.args.length<=3):=by
  by_cases z:t.args.length<=3
  ·rw[decide_eq_true z,decide_eq_true V6]
  ·rw[decide_eq_false z,decide_eq_false V6]
 have hd1:decide ((t.defs.length:Int)>0)=decide (0<t.defs.length):=by
  by_cases z:0<t.defs.length
  ·rw[decide_eq_true z,decide_eq_true V6]
  ·rw[decide_eq_false z,decide_eq_false V6]
 have hd5:decide ((t.defs.length:Int)<=5)=decide (t.defs.length<=5):=by
  by_cases z:t.defs.length<=5
  ·rw[decide_eq_true z,decide_eq_true V6]
  ·rw[decide_eq_false z,decide_eq_false V6]
 have ZNF:WG t 0 0 0=_:=Zal t 0 0 0;have ZNE:WG t 0 0 1=_:=Zal t 0 0 1;have ZND:WG t 0 0 2=_:=Zal t 0 0 2;have ZNC:WG t 1 0 2=_:=Zal t 1 0 2;have sa:WG t t.args.length 0 0=_:=Zal t t.args.length 0 0;have sd:WG t 0 t.defs.length 1=_:=Zal t 0 t.defs.length 1
 have j2:∀b,(ZcU F t) b=some (bif(bif b then szs t 0 0 0
  else bif t.op==2 then decide (t.args.length<=3)&&szs t t.args.length 0 0
  else bif t.op==3 then szs t 0 0 2
  else bif t.op==4 then decide (0<t.defs.length)&&decide (t.defs.length<=5)&&szs t 0 t.defs.length 1
  else bif t.op==5 then szs t 1 0 2
  else((t.op==6)||(t.op==8))&&szs t 0 0 1) &&
 (bif((t.op==2)||(t.op==6))||(t.op==8) then Xl t.text else decide (t.text=E0)) then .ok () else .Z6 2):=by
   intro b;unfold ZcU Ze2;simp only[Jd,ZNF,ZNE,ZND,ZNC,sa,sd,Bq0,hg,hd1,hd5,ht,seq2,Zpo];cases b<;>cases t.op==2<;>cases t.op==3<;>cases t.op==4<;>cases t.op==5<;>cases t.op==6<;>cases t.op==8<;>simp only[Cq1,Cq0,Bool.true_or,Bool.or_true,Bool.or_false,Bool.false_or,GH,Bool.false_and,ZsO,seq2,ZJa,Bool.and_assoc]
 unfold Zly K8;rw[j2,j2];cases t.op==1<;>cases t.op==7<;>rfl
def has(m:U (Y×Z)):Y->Z:=fun s=>(ZP m s).getD false
def Zaz(m:U (Y×Z))(x:Y):has (YT m x true)=fun s=>has m s||decide (s=x):=by
 funext s;unfold has;rw[Zar];by_cases h:s=x
 ·subst h;simp
 ·rw[if_neg h];simp[h]
def Wm(m:U (Y×Z))(l:U Y):U (Y×Z):=l.foldl (fun m s=>YT m s true) m
def ZiX(l:U Y):∀m,has (Wm m l)=fun s=>has m s||decide (s∈l):=by
 induction l with
 | nil=>intro m;funext s;simp[Wm]
 | cons x l ih=>
   intro m;have:Wm m (x::l)=Wm (YT m x true) l:=rfl;rw[this,ih,Zaz];funext s;by_cases h1:s=x<;>by_cases h2:s∈l<;>simp[h1,h2]
def ZmJ:has []=fun _=>false:=by funext s;rfl
def ZbN(m:U (Y×Z))(x:Y):Zim m x false=some (has m x):=rfl
def Zes{β:Type}{b:Z}{p:Int->O β}{k:Unit->O β}:JL (bif b then PR.ok () else PR.Z6 2) p k=bif b then k () else p 2:=by cases b<;>rfl
def le3(n:Nat):decide ((n:Int)<=3)=decide (n<=3):=by
 by_cases z:n<=3
 ·rw[decide_eq_true z,decide_eq_true V6]
 ·rw[decide_eq_false z,decide_eq_false V6]
def gt0(n:Nat):decide ((n:Int)>0)=decide (0<n):=by
 by_cases z:0<n
 ·rw[decide_eq_true z,decide_eq_true V6]
 ·rw[decide_eq_false z,decide_eq_false V6]
def le5(n:Nat):decide ((n:Int)<=5)=decide (n<=5):=by
 by_cases z:n<=5
 ·rw[decide_eq_true z,decide_eq_true V6]
 ·rw[decide_eq_false z,decide_eq_false V6]
def Zq9{F:Nat}(hF:10000000000000000000<=F)(k:Int)(m1:U (Y×Z))(nx:Int×(U (Y×Z))×(U (Y×Z))->O (PR Unit))(x:Z4)(hx:x.names.length<=BB)(hs:∀s∈x.names,s.size<=BB)(m:U (Y×Z)):
 loop F (Ze0 F k m1 nx x) (0,m)=bif nWb (has m) x.names then nx (XD (k+1),YT m1 x.text true,Wm m x.names) else some (.Z6 2):=by
 refine YA (fun(k:Nat)(m:U (Y×Z))=>((k:Int),m)) x.names (fun _ _=>True) (fun rest m=>bif nWb (has m) rest then nx (XD (k+1),YT m1 x.text true,Wm m rest) else some (.Z6 2)) ?_ ?_ (by unfold BB at hx;omega) m trivial
 ·intro s nx' _;simp only[Ze0,Yp,Cq0];rfl
 ·intro j y rest s nx' hy hj hg _ ih;simp only[Ze0,Yc hj,Cq1,hg,Bq0,nameP hF (hs y hy),Jd,Zes,ZbN];rw[JR (by unfold BB at hx;omega)];simp only[ih _ trivial,nWb,Zaz];cases hn:Xl y
  ·simp[gd]
  ·cases hh:has s y
   ·simp only[Zti,Bq0,Gz,GH,Cq1];rfl
   ·simp[gd]
  all_goals omega
def Zrf{F:Nat}(hF:10000000000000000000<=F)(c:Za)(h:Loc (.cl c)):(ZeZ F c) ()=some (bif jW (fun _=>false) (fun _=>false) c.joins then .ok () else .Z6 2):=by
 obtain⟨h1,h2,h3,h4,h5⟩:=h;have:=YA (body:=Ze1 F c) (fun(k:Nat)(m:U (Y×Z)×U (Y×Z))=>((k:Int),m.1,m.2)) c.joins (fun _ _=>True) (fun rest m=>some (bif jW (has m.1) (has m.2) rest then PR.ok () else .Z6 2)) (F:=F) ?_ ?_ (by unfold BB at h2;omega) ([],[]) trivial
 ·rw[ZmJ]at this;exact this
 ·intro s nx' _;simp only[Ze1,Yp,Cq0];rfl
 ·intro j y rest s nx' hy hj hg _ ih;obtain⟨q1,q2,q3⟩:=h5 y hy;simp only[Ze1,Yc hj,Cq1,hg,Bq0,nameP hF q1,Jd,Zes,ZbN,le3,Zq9 hF _ _ _ y q2 q3];rw[JR (by unfold BB at h2;omega)];have ih':=fun a b=>ih (a,b) trivial
  simp only at ih';simp only[ih',jW,Zaz,ZiX];cases hn:Xl y.text
  ·simp[gd]
  ·cases hh:has s.1 y.text
   ·simp only[Zti,Bq0,Gz,GH,Cq1];cases decide (y.names.length<=3)<;>cases nWb (has s.2) y.names<;>rfl
   ·simp[gd]
def Zh6{F:Nat}(hF:10000000000000000000<=F)(c:Za)(h:Loc (.cl c)):Zlw F c=some (bif UD c then .ok () else .Z6 2):=by
 have hj:=Zrf hF c h;obtain⟨h1,h2,h3,h4,h5⟩:=h;have e0:((c.joins.length:Int)==0)=(c.joins.length==0):=K5 _ 0;have e1:((c.kids.length:Int)==1)=(c.kids.length==1):=K5 _ 1;have e2:((c.defs.length:Int)==0)=(c.defs.length==0):=K5 _ 0;unfold Zlw UD;simp only[Jd,Bq0,Zes,hj,nameP hF h1,e0,e1,e2,le5,le3,gt0,Zpo,ZsO];cases c.kids.length==1
 ·rfl
 ·by_cases f2:c.form=2
  ·rw[f2];simp only[Int.reduceBEq,Cq1,GH];cases (Xl c.text&&(c.joins.length==0)&&decide (c.defs.length<=5))<;>rfl
  ·have:(c.form==2)=false:=by simpa using f2
   rw[this];cases c.form==1<;>cases (decide (c.text=E0))<;>cases (c.defs.length==0)<;>cases (decide (0<c.joins.length))<;>cases (decide (c.joins.length<=3))<;>cases (jW (fun _=>false) (fun _=>false) c.joins)<;>rfl
def Zwu{F:Nat}(hF:10000000000000000000<=F)(p:Part)(h:Loc p):Zpw F p=some (bif Uq p then .ok () else .Z6 2):=by
 unfold Zpw;cases p with
 | pr t=>
   show(Zly F t).bind _=_;rw[Zhi hF t h];show JL _ _ _=some (bif K8 t then _ else _);cases K8 t<;>rfl
 | ex e=>
   show(Zlx F e).bind _=_;rw[Zn7 hF e h];show JL _ _ _=some (bif Wl e then _ else _);cases Wl e<;>rfl
 | cl c=>
   show(Zlw F c).bind _=_;rw[Zh6 hF c h];show JL _ _ _=some (bif UD c then _ else _);cases UD c<;>rfl
abbrev NDB:=Nat×Nat×Z
def ZI6(s:Z×Nat×Nat)(r:NDB):Z×Nat×Nat:=(s.1&&r.2.2,s.2.1+r.1,max s.2.2 r.2.1)
def ZO2(s:Z×Nat×Nat):NDB:=(s.2.1,s.2.2+1,s.1)
def R(p:Part):NDB:=bif Uq p then ZO2 (((ZM p).attach.map fun k=>R k.1).foldl ZI6 (true,1,0)) else(1,1,false)
termination_by pz p
decreasing_by exact Ut k.2
def KP{x p:Part}(h:x∈pre p):(pre x).length<=(pre p).length:=by
 induction p using Zev with
 | h p ih=>
   rw[pre_eq p]at h;rcases Kx.1 h with rfl|h
   ·exact K1 _
   ·obtain⟨k,hk,hx⟩:=Q3.1 h;have:=ih k hk hx;have:=Yb hk;omega
def Zdl{x y p:Part}(h:x∈pre y)(hy:y∈pre p):x∈pre p:=by
 induction p using Zev with
 | h p ih=>
   rw[pre_eq p]at hy;rcases Kx.1 hy with rfl|hy
   ·exact h
   ·obtain⟨k,hk,hyk⟩:=Q3.1 hy;exact Xk hk (ih k hk hyk)
def out(r:NDB):Int×Int×Z:=((r.1:Int),(r.2.1:Int),r.2.2)
def ZBv(a b:Nat){i:Decidable ((b:Int)>(a:Int))}:@ite Int ((b:Int)>(a:Int)) i (b:Int) (a:Int)=((max a b:Nat):Int):=by
 by_cases h:b>a
 ·rw[if_pos V6,Nat.max_eq_right V6]
 ·rw[if_neg V6,Nat.max_eq_left V6]
def XC{e x:Zg}(h:x∈e.kids):Part.ex x∈ZM (.ex e):=Gp h
def Ju{t:Term}{x:Zg}(h:x∈t.args):Part.ex x∈ZM (.pr t):=Gf _ (Gf _ (Gp h))
def Qq{t:Term}{x:Za}(h:x∈t.defs):Part.cl x∈ZM (.pr t):=Gf _ (G4 _ (Gp h))
def Xr{t x:Term}(h:x∈t.kids):Part.pr x∈ZM (.pr t):=G4 _ (Gp h)
def XO{c x:Za}(h:x∈c.defs):Part.cl x∈ZM (.cl c):=Gf _ (Gp h)
def Y3{c:Za}{x:Term}(h:x∈c.kids):Part.pr x∈ZM (.cl c):=G4 _ (Gp h)
def ZMk{α:Type}{b:Nat}{l:U α}{x:α}(h:l.length<=4000000)(hb:b<=1000):app b l [x]=some (l++[x]):=by
 refine Zr9 ?_;have:(2*(l.length + [x].length)+1000)*b<=8001002*1000:=Nat.mul_le_mul (by simp;omega) hb;have e:(2:Nat) ^ 47=140737488355328:=by decide
 rw[e];omega
def ZeC{α γ:Type}{body:U γ×Int->(U γ×Int->O (U γ))->O (U γ)}(l:U α)(c:α->γ)(fin:U γ->O (U γ))(hl:l.length<=BS)(b:Nat)(hb:b<=1000)
 (h:∀s (k:Int) nx,body (s,k) nx=bif decide (k<(l.length:Int)) then(YH l k).bind fun x=>(app b s [c x]).bind fun z=>nx (z,XD (k+1)) else fin s) {F:Nat} (hF:10000000000000000000<=F) (s:U γ) (hs:s.length<=2500000):loop F body (s,0)=fin (s++l.map c):=by
 unfold BS at hl;refine YA (fun(k:Nat)(s:U γ)=>(s,(k:Int))) l (fun rest s=>s.length+rest.length<=3600000) (fun rest s=>fin (s++rest.map c)) ?_ ?_ V6 s V6
 ·intro s nx _;rw[h,Yp,Cq0];simp
 ·intro k x rest s nx hx hk hg hp ih;have hp':s.length+rest.length+1<=3600000:=by have:=hp;simp only[KK]at this;omega
  show body (s,(k:Int)) nx=_;rw[h,Yc hk,Cq1,hg,Bq0,ZMk V6 hb,Bq0,JR V6,ih _ (by simp;omega)];simp
def ZlI{F:Nat}(hF:10000000000000000000<=F)(s:U Part)(hs:s.length<=2500000)(l:U Za)(hl:l.length<=BS):Zls F s l=some (s++l.map .cl):=
 ZeC (body:=ZmT l) l .cl some hl 16 V6 (fun s k nx=>rfl) hF s hs
def ZpZ{F:Nat}(hF:10000000000000000000<=F)(s:U Part)(hs:s.length<=2500000)(l:U Term)(hl:l.length<=BS):Zlt F s l=some (s++l.map .pr):=
 ZeC (body:=ZmU l) l .pr some hl 16 V6 (fun s k nx=>rfl) hF s hs
def parts_eq{F:Nat}(hF:10000000000000000000<=F)(p:Part)(h:(ZM p).length<=BS):ZbO F p=some (ZM p):=by
 unfold ZbO;cases p with
 | pr t=>
   simp only[ZM,K2,Gc]at h;have l2:t.args.length<=BS:=V6
   have l3:t.defs.length<=BS:=V6
   have l4:t.kids.length<=BS:=V6
   have e1:=ZlI hF (t.args.map Part.ex) (by unfold BS at l2;simp;omega) t.defs l3;have e2:=ZpZ hF (t.args.map Part.ex++t.defs.map Part.cl) (by unfold BS at l2 l3;simp;omega) t.kids l4;have:=ZeC (body:=ZmV F ⟨t⟩) t.args .ex (fun s=>(Zls F s t.defs).bind fun x=>(Zlt F x t.kids).bind fun y=>some y) l2 16 V6 (fun s k nx=>rfl) hF [] (by simp);show Zps F ⟨t⟩=_;unfold Zps;rw[this,Gm,e1,Bq0,e2];rfl
 | ex e=>
   exact ZeC (body:=ZmS ⟨e⟩) e.kids .ex some (by simpa[ZM]using h) 16 V6 (fun s k nx=>rfl) hF [] (by simp)
 | cl c=>
   simp only[ZM,K2,Gc]at h;have l3:c.defs.length<=BS:=V6
   have l4:c.kids.length<=BS:=V6
   have e1:=ZlI hF [] (by simp) c.defs l3;have e2:=ZpZ hF ([]++c.defs.map Part.cl) (by unfold BS at l3;simp;omega) c.kids l4;show Zpr F ⟨c⟩=_;unfold Zpr;rw[e1,Bq0,e2];rfl
def Zmt{p:Part}(hs:Sm p):(ZM p).length<=BS:=by have:=Zaw p;have:=hs.1;omega
def Zwt{p:Part}(h:Uq p=true)(hl:Loc p):(ZM p).length<=100:=by
 cases p with
 | pr t=>
   have h:K8 t=true:=h;have e:(ZM (.pr t)).length=t.args.length+t.defs.length+t.kids.length:=by simp[ZM,GG]
   rw[e];unfold K8 at h;rw[Ba0]at h;replace h:=h.1
   have sz:∀{a d k:Nat},szs t a d k=true->t.args.length=a/\t.defs.length=d/\t.kids.length=k:=fun h=>by
    unfold szs at h;simp only[Ba0,beq_iff_eq]at h;exact⟨h.1.1,h.1.2,h.2⟩
   cases c1:(t.op==1||t.op==7)<;>rw[c1]at h
   case true=>have:=sz h;omega
   cases c2:t.op==2<;>rw[c2]at h
   case true=>simp only[Cq1,Cq0,Ba0,decide_eq_true_eq]at h;have:=sz h.2;omega
   cases c3:t.op==3<;>rw[c3]at h
   case true=>have:=sz h;omega
   cases c4:t.op==4<;>rw[c4]at h
   case true=>simp only[Cq1,Cq0,Ba0,decide_eq_true_eq]at h;have:=sz h.2;omega
   cases c5:t.op==5<;>rw[c5]at h
   case true=>have:=sz h;omega
   simp only[Cq0,Ba0]at h;have:=sz h.2;omega
 | ex e=>
   have h:Wl e=true:=h;have el:(ZM (.ex e)).length=e.kids.length:=by simp[ZM]
   rw[el];unfold Wl at h;cases c1:e.op==1<;>rw[c1]at h
   case true=>simp only[Cq1,Ba0,beq_iff_eq]at h;omega
   cases c2:e.op==2<;>rw[c2]at h
   case true=>simp only[Cq1,Cq0,Ba0,beq_iff_eq]at h;omega
   simp only[Cq0,Ba0,beq_iff_eq]at h;omega
 | cl c=>
   have h:UD c=true:=h;have el:(ZM (.cl c)).length=c.defs.length+c.kids.length:=by simp[ZM]
   rw[el];unfold UD at h;rw[Ba0,beq_iff_eq]at h;obtain⟨h1,h⟩:=h;cases c1:c.form==2<;>rw[c1]at h
   ·simp only[Cq0,Ba0,beq_iff_eq,decide_eq_true_eq]at h;omega
   ·simp only[Cq1,Ba0,beq_iff_eq,decide_eq_true_eq]at h;omega
def ZtR{F:Nat}(hF:10000000000000000000<=F):∀n p,Sm p->(pre p).length<=n->∀Fr,n<=Fr->loop Fr (Zjp F) p=some (dep p:Int):=by
 intro n
 induction n with
 | zero=>intro p hs hn;have:=Xd p;omega
 | succ n ih=>
   intro p hs hn Fr hFr;obtain⟨G,rfl⟩:∃G,Fr=G+1:=⟨Fr-1,by omega⟩
   rw[Yj];have hK:=Zmt hs;have hih:∀k∈ZM p,loop G (Zjp F) k=some (dep k:Int):=fun k hk=>ih k (hs.kid hk) (by have:=Yb hk;omega) G V6
   generalize loop G (Zjp F)=nx1 at hih;unfold Zjp;rw[parts_eq hF p hK,Bq0];unfold BS at hK;have:=YA (body:=Zjq nx1 (ZM p)) (fun(k:Nat)(s:Nat)=>((s:Int),(k:Int))) (ZM p) (fun _ s=>s<=BS) (fun rest s=>some (((max s (WW (rest.map dep))+1:Nat)):Int)) (F:=F) ?_ ?_ V6 0 (GE _)
   ·rw[Zd2];rw[Nat.zero_max]at this;exact this
   ·intro s nx hs';unfold BS at hs';simp only[Zjq,Yp,Cq0];rw[JR V6];simp[WW]
   ·intro k x rest s nx hx hk hg hs' ih;unfold BS at hs';simp only[Zjq,Yc hk,Cq1,hg,Bq0,hih x hx];rw[ZBv,JR V6];have hd:=ZHO x;have hx2:=(hs.kid hx).1;have:=ih (max s (dep x)) (by unfold BS at hx2 ⊢;omega);rw[this,G8,ZcM,Nat.max_assoc]
def V1(m:Nat)(l:U Part):PR (Z×Int):=bif decide (m+l.length<=60)&&l.all Uq then .ok (true,((m+l.length:Nat):Int)) else .Z6 2
def ZNU(n:Nat):decide ((n:Int)<=60)=decide (n<=60):=by
 by_cases z:n<=60
 ·rw[decide_eq_true z,decide_eq_true V6]
 ·rw[decide_eq_false z,decide_eq_false V6]
def ZJm{F:Nat}(hF:10000000000000000000<=F):∀n p,Lo p->(pre p).length<=n->∀Fr,n<=Fr->∀m:Nat,m<=60->loop Fr (Zb4 F) (p,(m:Int))=some (V1 m (pre p)):=by
 intro n
 induction n with
 | zero=>intro p hs hn;have:=Xd p;omega
 | succ n ih=>
   intro p hs hn Fr hFr m hm;obtain⟨G,rfl⟩:∃G,Fr=G+1:=⟨Fr-1,by omega⟩
   rw[Yj];have hih:∀k∈ZM p,∀m:Nat,m<=60->loop G (Zb4 F) (k,(m:Int))=some (V1 m (pre k)):=fun k hk=>ih k (hs.kid hk) (by have:=Yb hk;omega) G V6
   generalize loop G (Zb4 F)=nx1 at hih;unfold Zb4;dsimp only;rw[JR V6,ZNU,Jd,Bq0,Zes,Zwu hF p hs.loc,Bq0,Zes];by_cases h60:m+1<=60
   ·rw[decide_eq_true h60,Cq1];cases hsh:Uq p
    ·show some (PR.Z6 2)=_;rw[pre_eq];unfold V1;simp[hsh]
    ·simp only[Cq1,QP,Cq0];have hK:=Zwt hsh hs.loc;rw[parts_eq hF p (by unfold BS;omega),Bq0];have:=YA (body:=Zjn nx1 (ZM p)) (fun(k:Nat)(s:Nat)=>((k:Int),(s:Int))) (ZM p) (fun _ s=>s<=60) (fun rest s=>some (V1 s (rest.flatMap pre))) (F:=F) ?_ ?_ V6 (m+1) h60
     ·have e:V1 (m+1) ((ZM p).flatMap pre)=V1 m (pre p):=by
       rw[pre_eq p];unfold V1;simp only[KK,List.all_cons,hsh,GH];rw[show m+1+((ZM p).flatMap pre).length=m+(((ZM p).flatMap pre).length+1) by omega]
      rw[<-e];exact this
     ·intro s nx hs';simp only[Zjn,Yp,Cq0];unfold V1;rw[decide_eq_true (show s+(([]:U Part).flatMap pre).length<=60 by simpa using hs')];simp
     ·intro k x rest s nx hx hk hg hs' ih;simp only[Zjn,Yc hk,Cq1,hg,Bq0,hih x hx s hs'];rw[JR V6,Kd];by_cases hb:s+(pre x).length<=60
      ·cases ha:(pre x).all Uq
       ·have e1:V1 s (pre x)=.Z6 2:=by unfold V1;rw[ha,Bool.and_false];rfl
        have e2:V1 s (pre x++rest.flatMap pre)=.Z6 2:=by unfold V1;rw[List.all_append,ha,Bool.false_and,Bool.and_false];rfl
        rw[e1,e2,ZsO]
       ·have e1:V1 s (pre x)=.ok (true,((s+(pre x).length:Nat):Int)):=by unfold V1;rw[ha,decide_eq_true hb];rfl
        rw[e1];show nx (((k+1:Nat):Int),((s+(pre x).length:Nat):Int))=_;rw[ih (s+(pre x).length) hb];unfold V1;rw[List.all_append,ha,K2,GH,GG]
      ·have e1:V1 s (pre x)=.Z6 2:=by unfold V1;rw[decide_eq_false hb];rfl
       have e2:V1 s (pre x++rest.flatMap pre)=.Z6 2:=by unfold V1;rw[K2,decide_eq_false V6];rfl
       rw[e1,e2,ZsO]
   ·rw[decide_eq_false h60,Cq0,pre_eq];unfold V1;rw[KK,decide_eq_false V6];rfl
def Zdd(A:U Za->Z):Part->Z
 | .pr t=>!(t.op==4)||A t.defs
 | _=>true
def ZJl{F:Nat}(hF:10000000000000000000<=F)(A:U Za->Z):∀n p,Sm p->(∀t,Part.pr t∈pre p->t.op=4->Zdw F t.defs=some (bif A t.defs then .ok () else .Z6 2))->(pre p).length<=n->∀Fr,n<=Fr->loop Fr (ZdX F) p=some (bif(pre p).all (Zdd A) then .ok true else .Z6 2):=by
 intro n
 induction n with
 | zero=>intro p hs hA hn;have:=Xd p;omega
 | succ n ih=>
   intro p hs hA hn Fr hFr;obtain⟨G,rfl⟩:∃G,Fr=G+1:=⟨Fr-1,by omega⟩
   rw[Yj];have hK:=Zmt hs;have hih:∀k∈ZM p,loop G (ZdX F) k=some (bif(pre k).all (Zdd A) then .ok true else .Z6 2):=fun k hk=>ih k (hs.kid hk) (fun t ht=>hA t (Xk hk ht)) (by have:=Yb hk;omega) G V6
   generalize loop G (ZdX F)=nx1 at hih
   have j2:(KF F p nx1) ()=some (bif((ZM p).flatMap pre).all (Zdd A) then .ok true else .Z6 2):=by
    unfold KF;simp only[QP,Cq0];rw[parts_eq hF p hK,Bq0];unfold BS at hK;refine YA (body:=Zjo nx1 (ZM p)) (fun(k:Nat)(_:Unit)=>(k:Int)) (ZM p) (fun _ _=>True) (fun rest _=>some (bif(rest.flatMap pre).all (Zdd A) then .ok true else .Z6 2)) (F:=F) ?_ ?_ V6 () trivial
    ·intro s nx _;simp only[Zjo,Yp,Cq0];rfl
    ·intro k x rest s nx hx hk hg _ ih;simp only[Zjo,Yc hk,Cq1,hg,Bq0,hih x hx];rw[JR V6,Kd,List.all_append];cases (pre x).all (Zdd A)
     ·rfl
     ·exact ih () trivial
   rw[pre_eq p,List.all_cons];unfold ZdX;cases p with
   | pr t=>
     show(bif(true&&(t.op==4)) then _ else _)=_;rw[GH];by_cases h4:t.op=4
     ·rw[hA t (Xq _) h4,h4];simp only[Int.reduceBEq,Cq1,Bq0,Zdd,h4,QP,Bool.false_or];cases A t.defs
      ·rfl
      ·show(KF F (.pr t) nx1) ()=_;rw[j2];rfl
     ·have:(t.op==4)=false:=by simpa using h4
      simp only[this,Cq0,Zdd,Gz,Bool.true_or,GH];exact j2
   | ex e=>exact j2
   | cl c=>exact j2
def Q7(A:U Za->Z)(p:Part):Z:=decide ((pre p).length<=60)&&(pre p).all Uq&&decide (dep p<=12)&&(pre p).all (Zdd A)
def ZNV(n:Nat):decide ((n:Int)<=12)=decide (n<=12):=by
 by_cases z:n<=12
 ·rw[decide_eq_true z,decide_eq_true V6]
 ·rw[decide_eq_false z,decide_eq_false V6]
def Zu8{F:Nat}(hF:10000000000000000000<=F)(A:U Za->Z)(p:Part)(hs:Lo p)(hFp:(pre p).length<=F)(hA:(pre p).length<=60->(pre p).all Uq=true->∀t,Part.pr t∈pre p->t.op=4->Zdw F t.defs=some (bif A t.defs then .ok () else .Z6 2)):ZyU F p=some (bif Q7 A p then .ok () else .Z6 2):=by
 unfold ZyU Q7;have h1:=ZJm hF _ p hs V7 F V6 0 V6;have h1':loop F (Zb4 F) (p,0)=some (V1 0 (pre p)):=h1;rw[h1',Bq0];unfold V1;rw[JT];by_cases hl:(pre p).length<=60
 ·cases ha:(pre p).all Uq
  ·rw[Bool.and_false];simp[JL]
  ·rw[decide_eq_true hl];have hs:Sm p:=⟨by unfold BS;omega,hs⟩
   show(Zjm F p) ((pre p).length:Int)=_;unfold Zjm;rw[show ZrF F p=some (dep p:Int) from ZtR hF _ p hs V7 F V6,Bq0,ZNV,Jd,Bq0,Zes,ZJl hF A _ p hs (hA hl ha) V7 F V6,Bq0];cases decide (dep p<=12)<;>cases (pre p).all (Zdd A)<;>rfl
 ·rw[decide_eq_false hl];simp[JL]
def ZrY{F:Nat}(hF:10000000000000000000<=F)(A:U Za->Z)(t:Term)(hs:Lo (.pr t))(hFp:(pre (.pr t)).length<=F)(hA:(pre (.pr t)).length<=60->(pre (.pr t)).all Uq=true->∀x,Part.pr x∈pre (.pr t)->x.op=4->Zdw F x.defs=some (bif A x.defs then .ok () else .Z6 2)):Zhm F t=some (bif Q7 A (.pr t) then 0 else 2):=by
 unfold Zhm;rw[Zu8 hF A _ hs hFp hA,Bq0];cases Q7 A (.pr t)<;>rfl
def count_eq{F:Nat}(hF:10000000000000000000<=F):∀n p,Sm p->(pre p).length<=n->∀Fr,n<=Fr->∀m:Nat,m+(pre p).length<=1000000000->loop Fr (Za3 F) (p,(m:Int))=some (true,((m+(pre p).length:Nat):Int)):=by
 intro n
 induction n with
 | zero=>intro p hs hn;have:=Xd p;omega
 | succ n ih=>
   intro p hs hn Fr hFr m hm;obtain⟨G,rfl⟩:∃G,Fr=G+1:=⟨Fr-1,by omega⟩
   rw[Yj];have hK:=Zmt hs;have hlen:=Jg p;have hih:∀k∈ZM p,∀m:Nat,m+(pre k).length<=1000000000->loop G (Za3 F) (k,(m:Int))=some (true,((m+(pre k).length:Nat):Int)):=fun k hk=>ih k (hs.kid hk) (by have:=Yb hk;omega) G V6
   generalize loop G (Za3 F)=nx1 at hih;unfold Za3;simp only[QP,Cq0];rw[JR V6,parts_eq hF p hK,Bq0];unfold BS at hK;have:=YA (body:=Zju nx1 (ZM p)) (fun(k:Nat)(s:Nat)=>((k:Int),(s:Int))) (ZM p) (fun rest s=>s+(rest.flatMap pre).length<=1000000000) (fun rest s=>some (true,((s+(rest.flatMap pre).length:Nat):Int))) (F:=F) ?_ ?_ V6 (m+1) V6
   ·rw[show m+(pre p).length=m+1+((ZM p).flatMap pre).length by omega];exact this
   ·intro s nx hs';simp only[Zju,Yp,Cq0];simp
   ·intro k x rest s nx hx hk hg hs' ih;simp only[Kd,K2]at hs';simp only[Zju,Yc hk,Cq1,hg,Bq0,hih x hx s V6,QP,Cq0];rw[JR V6];have:=ih (s+(pre x).length) V6;rw[this,Kd,K2,GG]
def ZNL:O Nat->Int
 | some a=>a
 | none=>-1
def dec(o:O Nat)(n:Nat):O Nat:=match o with
 | some a=>if n<=a then some (a-n) else none
 | none=>none
def ST(F n:Nat):Prop:=∀t,Lo (.pr t)->(pre (.pr t)).length<=n->∀Fr,n<=Fr->∀a:Nat,a<=1000->loop Fr (ZLA F) (t,(a:Int))=some (ZNL (dec (some a) (pre (.pr t)).length),(dec (some a) (pre (.pr t)).length).isSome)
def DC(F:Nat)(A:U Za->Z)(n:Nat):Prop:=∀(l:U Za) next,l.length<=BB->(∀c∈l,Sm (.cl c)/\(pre (.cl c)).all Uq=true)->((l.map Part.cl).flatMap pre).length<=n->(∀t,Part.pr t∈(l.map Part.cl).flatMap pre->next t=some ((pre (.pr t)).all (Zdd A)))->∀Fr,n<Fr->loop Fr (ZHz F next) l=some (((l.map Part.cl).flatMap pre).all (Zdd A))
abbrev Spt:=Y×U Za
def X0(c:Za):U Spt:=bif c.form==2 then(c.text,c.defs)::c.defs.attach.flatMap (fun d=>X0 d.1) else []
termination_by SizeOf.sizeOf c
decreasing_by
 obtain⟨fm,tx,js,ds,ks⟩:=c;have:=List.sizeOf_lt_of_mem d.2;simp only[Za.mk.sizeOf_spec]at this ⊢;omega
def UM(c:Za):X0 c=bif c.form==2 then(c.text,c.defs)::c.defs.flatMap X0 else []:=by rw[X0,Uj c.defs X0]
def KR(l:U Za):U Y:=(l.flatMap X0).map (·.1)
def ev(a:Nat)(m:Z4):Y×ZJ:=(m.text,ZJ.mk (a:Int) (m.names.length:Int))
def jns(l:U Za):U Z4:=l.flatMap (·.joins)
def evJ:Nat->U Spt->U (Y×ZJ)
 | _,[]=>[]
 | a,sp::r=>(jns sp.2).map (ev a)++evJ (a+1) r
def upd(f:Y->O ZJ)(e:Y×ZJ):Y->O ZJ:=fun x=>if x=e.1 then some e.2 else f x
def okE(f:Y->O ZJ)(e:Y×ZJ):Z:= !(f e.1).isSome||U5 ((f e.1).getD ⟨0,0⟩) e.2
def JW(f:Y->O ZJ):U (Y×ZJ)->Z
 | []=>true
 | e::r=>okE f e&&JW (upd f e) r
def Zml(h:Y->Z):U Y->Z
 | []=>true
 | x::xs=>!h x&&Zml (fun s=>h s||decide (s=x)) xs
def ZlP(a b:U (Y×ZJ)):∀f,JW f (a++b)=(JW f a&&JW (a.foldl upd f) b):=by
 induction a with
 | nil=>intro f;simp[JW]
 | cons e a ih=>intro f;simp only[List.cons_append,JW,ih,Gn,Bool.and_assoc]
def eqS(x y:ZJ):U5 x y=true↔x=y:=by
 obtain⟨a,b⟩:=x;obtain⟨c,d⟩:=y;simp[U5]
def AgW(l:U Za):Z:=Zml (fun _=>false) (KR l)&&JW (fun _=>none) (evJ 0 ((E0,l)::l.flatMap X0)) && !((evJ 0 ((E0,l)::l.flatMap X0)).any fun e=>decide (e.1∈KR l))
def OkC(c:Za):Prop:=c.joins.length<=3/\(c.form=1\/c.form=2/\c.joins=[])
def OkS(sp:Spt):Prop:=sp.2.length<=60/\∀c∈sp.2,OkC c
def ZaU{c:Za}(h:UD c=true):OkC c:=by
 unfold UD at h;rw[Ba0]at h;obtain⟨_,h⟩:=h;by_cases f2:c.form=2
 ·rw[f2]at h;simp only[Int.reduceBEq,Cq1,Ba0,beq_iff_eq,decide_eq_true_eq]at h;have:c.joins=[]:=G9 h.1.2;exact⟨by rw[this];simp,.inr ⟨f2,this⟩⟩
 ·have:(c.form==2)=false:=by simpa using f2
  rw[this]at h;simp only[Cq0,Ba0,beq_iff_eq,decide_eq_true_eq]at h;exact⟨h.1.2,.inl h.1.1.1.1.1⟩
def ZBe:∀n (c:Za),(pre (.cl c)).length<=n->(X0 c).length<=(pre (.cl c)).length:=by
 intro n
 induction n with
 | zero=>intro c h;have:=Xd (.cl c);omega
 | succ n ih=>
   intro c hn;rw[UM];have h0:=Jg (.cl c)
   have h1:((ZM (.cl c)).flatMap pre).length=((c.defs.map Part.cl).flatMap pre).length+((c.kids.map Part.pr).flatMap pre).length:=by
    show((c.defs.map Part.cl++c.kids.map Part.pr).flatMap pre).length=_;rw[Gu,K2]
   have:∀l:U Za,(∀d∈l,(X0 d).length<=(pre (.cl d)).length)->(l.flatMap X0).length<=((l.map Part.cl).flatMap pre).length:=by
    intro l
    induction l with
    | nil=>simp
    | cons d l ihl=>
      intro h;have a:=h d (by simp);have b:=ihl fun x hx=>h x (Kf _ hx)
      simp only[Kd,G8,K2];omega
   have h2:=this c.defs fun d hd=>ih d (by have:=Yb (XO hd);omega)
   cases c.form==2
   ·show 0<=_;omega
   ·show(c.defs.flatMap X0).length+1<=_;omega
def ZwH(l:U Za):(l.flatMap X0).length<=((l.map Part.cl).flatMap pre).length:=by
 induction l with
 | nil=>simp
 | cons d l ihl=>simp only[Kd,G8,K2];have:=ZBe _ d V7;omega
def Zil{c:Za}{l:U Za}(h:c∈l):(X0 c).length<=(l.flatMap X0).length:=by
 induction l with
 | nil=>cases h
 | cons x l ih=>
   rw[Kd,K2];rcases Kx.1 h with rfl|h
   ·omega
   ·have:=ih h;omega
def Zg8(l:U Za):l.length<=((l.map Part.cl).flatMap pre).length:=by
 have:=KX (l.map Part.cl)
 simpa using this
def ZBj:∀n (c:Za),(pre (.cl c)).length<=n->n<=60->(pre (.cl c)).all Uq=true->∀sp∈X0 c,OkS sp:=by
 intro n
 induction n with
 | zero=>intro c h;have:=Xd (.cl c);omega
 | succ n ih=>
   intro c hn h60 hs sp hsp;rw[UM]at hsp;cases hf:c.form==2
   ·rw[hf]at hsp;cases hsp
   rw[hf]at hsp;simp only[Cq1]at hsp
   have hd:∀d∈c.defs,(pre (.cl d)).all Uq=true:=fun d hd=>by
    rw[Ks]at hs ⊢;exact fun y hy=>hs y (Xk (XO hd) hy)
   rcases Kx.1 hsp with rfl|hsp
   ·refine⟨?_,fun d hdm=>ZaU ?_⟩
    ·have:=Zaw (.cl c);simp only[ZM,K2,Gc]at this;show c.defs.length<=60;omega
    ·exact Ks.1 (hd d hdm) _ (Xq _)
   ·obtain⟨d,hdm,hsp⟩:=Q3.1 hsp;exact ih d (by have:=Yb (XO hdm);omega) V6 (hd d hdm) sp hsp
abbrev MM:=U (Y×ZJ)
abbrev MN:=U (Y×Z)
abbrev SS:=Nat×MM×MN
def Zbv:MM->U (Y×ZJ)->O MM
 | m,[]=>some m
 | m,e::r=>bif okE (ZP m) e then Zbv (YT m e.1 e.2) r else none
def ZoI(a b:U (Y×ZJ)):∀m,Zbv m (a++b)=(Zbv m a).bind fun x=>Zbv x b:=by
 induction a with
 | nil=>intro m;rfl
 | cons e a ih=>
   intro m;simp only[List.cons_append,Zbv];cases okE (ZP m) e
   ·rfl
   ·exact ih _
def Zdi(s:SS)(sp:Spt):O SS:=bif decide (0<s.1)&&has s.2.2 sp.1 then none else(Zbv s.2.1 ((jns sp.2).map (ev s.1))).map fun m=>(s.1+1,m,bif decide (0<s.1) then YT s.2.2 sp.1 true else s.2.2)
def ZdH:SS->U Spt->O SS
 | s,[]=>some s
 | s,x::r=>(Zdi s x).bind fun s=>ZdH s r
def Zoa(a b:U Spt):∀s,ZdH s (a++b)=(ZdH s a).bind fun x=>ZdH x b:=by
 induction a with
 | nil=>intro m;rfl
 | cons e a ih=>
   intro s;simp only[List.cons_append,ZdH];cases Zdi s e with
   | none=>rfl
   | some s'=>exact ih _
def Zwn{s s':SS}{x:Spt}(h:Zdi s x=some s'):s'.1=s.1+1:=by
 unfold Zdi at h;cases hb:(decide (0<s.1)&&has s.2.2 x.1) with
 | true=>rw[hb]at h;cases h
 | false=>
   rw[hb]at h;simp only[Cq0,Option.map_eq_some_iff]at h;obtain⟨m,_,rfl⟩:=h;rfl
def ZsL:∀{l:U Spt}{s s':SS},ZdH s l=some s'->s'.1=s.1+l.length
 | [],s,s',h=>by cases h;rfl
 | x::r,s,s',h=>by
   obtain⟨s1,h1,h2⟩:=bS (by exact h);have:=Zwn h1;have:=ZsL h2;simp only[KK];omega
def Zsp:O SS->PR (Z×Int×MM×MN)
 | some s=>.ok (true,(s.1:Int),s.2.1,s.2.2)
 | none=>.Z6 2
def Zrg{F:Nat}(hF:10000000000000000000<=F)(a:Nat)(i:Int)(nx:Int×MM->O (PR (Z×Int×MM×MN)))(x:Za)(hx:x.joins.length<=BB)(m:MM):
 loop F (Ze6 (a:Int) i nx x) (0,m)=opt (Zbv m (x.joins.map (ev a))) (some (.Z6 2)) fun m=>nx (XD (i+1),m):=by
 unfold BB at hx;refine YA (fun(k:Nat)(m:MM)=>((k:Int),m)) x.joins (fun _ _=>True) (fun rest m=>opt (Zbv m (rest.map (ev a))) (some (.Z6 2)) fun m=>nx (XD (i+1),m)) ?_ ?_ V6 m trivial
 ·intro s nx' _;simp only[Ze6,Yp,Cq0];rfl
 ·intro j y rest s nx' hy hj hg _ ih;simp only[Ze6,Yc hj,Cq1,hg,Bq0,ZwK,Jd,Zes];rw[JR V6];simp only[ih _ trivial,G8,Zbv,okE,ev];cases (!(ZP s y.text).isSome||U5 ((ZP s y.text).getD ⟨0,0⟩) ⟨(a:Int),(y.names.length:Int)⟩)<;>rfl
def ZqW{F:Nat}(hF:10000000000000000000<=F)(l rules:U Za)(a:Nat)(ha:a<=2000)(n1:Y×(U Za)×Int×MM×MN->O (PR (Z×Int×MM×MN)))(ns:MN)(hr:rules.length<=BB)(hx:∀x∈rules,x.joins.length<=BB)(m:MM):
 loop F (Ze7 F l (a:Int) n1 rules ns) (0,m)=opt (Zbv m ((jns rules).map (ev a))) (some (.Z6 2)) fun m=>loop F (Za5 l n1) (0,((a+1:Nat):Int),m,ns):=by
 unfold BB at hr;refine YA (fun(k:Nat)(m:MM)=>((k:Int),m)) rules (fun _ _=>True) (fun rest m=>opt (Zbv m ((jns rest).map (ev a))) (some (.Z6 2)) fun m=>loop F (Za5 l n1) (0,((a+1:Nat):Int),m,ns)) ?_ ?_ V6 m trivial
 ·intro s nx' _;simp only[Ze7,Yp,Cq0,QP];rw[JR V6];rfl
 ·intro j y rest s nx' hy hj hg _ ih;simp only[Ze7,Yc hj,Cq1,hg,Bq0,Zrg hF a _ _ y (hx y hy)];rw[JR V6];simp only[ih _ trivial,jns,Kd,GS,ZoI];cases Zbv s (y.joins.map (ev a))<;>rfl
def ZiN{l:U Za}(h:∀c∈l,OkC c):jns (l.filter fun c=>c.form==1)=jns l:=by
 induction l with
 | nil=>rfl
 | cons c l ih=>
   have i:=ih fun d hd=>h d (Kf _ hd)
   obtain⟨_,h1|⟨h2,h3⟩⟩:=h c (by simp)
   ·rw[List.filter_cons_of_pos (by simp[h1])];unfold jns at i ⊢;rw[Kd,Kd,i]
   ·rw[List.filter_cons_of_neg (by simp[h2]),i];unfold jns;rw[Kd,h3,Gm]
def ZvE{F:Nat}(hF:10000000000000000000<=F):∀n (nm:Y) (l:U Za) (s:SS),(l.flatMap X0).length<=n->OkS (nm,l)->(∀sp∈l.flatMap X0,OkS sp)->s.1+(l.flatMap X0).length<=1000->∀Fr,n<Fr ->
 loop Fr (KZ F) (nm,l,(s.1:Int),s.2.1,s.2.2)=some (Zsp (ZdH s ((nm,l)::l.flatMap X0))):=by
 intro n
 induction n using Nat.strongRecOn with
 | _ n ih=>
   intro nm l s hn hok ZBK hs1 Fr hFr;obtain⟨G,rfl⟩:∃G,Fr=G+1:=⟨Fr-1,by omega⟩
   rw[Yj]
   have hih:∀c∈l,c.form=2->∀s:SS,s.1+(X0 c).length<=1001->loop G (KZ F) (c.text,c.defs,(s.1:Int),s.2.1,s.2.2)=some (Zsp (ZdH s (X0 c))):=fun c hc hf s hs=>by
    have e:X0 c=(c.text,c.defs)::c.defs.flatMap X0:=by rw[UM,hf];rfl
    have hle:(X0 c).length<=(l.flatMap X0).length:=Zil hc;have hm:∀sp∈X0 c,OkS sp:=fun sp hsp=>ZBK sp (Q3.2 ⟨c,hc,hsp⟩)
    rw[e]at hle hm hs ⊢;simp only[KK]at hle hs;exact ih (n-1) V6 c.text c.defs s V6 (hm _ (by simp)) (fun sp hsp=>hm sp (by simp[hsp])) V6 G V6
   generalize loop G (KZ F)=n1 at hih;obtain⟨hl,hoc⟩:=hok;dsimp only at hl hoc
   have hb3:∀s:SS,s.1+(l.flatMap X0).length<=1001->0<s.1->loop F (Za5 l n1) (0,(s.1:Int),s.2.1,s.2.2)=some (Zsp (ZdH s (l.flatMap X0))):=fun s hs h0=>by
    refine YA (fun(k:Nat)(s:SS)=>((k:Int),(s.1:Int),s.2.1,s.2.2)) l (fun rest s=>s.1+(rest.flatMap X0).length<=1001) (fun rest s=>some (Zsp (ZdH s (rest.flatMap X0)))) ?_ ?_ V6 s hs
    ·intro s nx _;simp only[Za5,Yp,Cq0];rfl
    ·intro k c rest s nx hc hk hg hp ihl;simp only[Za5,Yc hk,Cq1,hg,Bq0];rw[JR V6];rw[Kd,K2]at hp;rw[Kd,Zoa];rcases(hoc c hc).2 with h1|⟨h2,_⟩
     ·rw[h1];have e:X0 c=[]:=by rw[UM,h1];rfl
      rw[e]at hp ⊢;exact ihl s (by simpa using hp)
     ·rw[h2];have hpos:1<=(X0 c).length:=by rw[UM,h2];simp
      simp only[Int.reduceBEq,Cq1];rw[hih c hc h2 s V6,Bq0];cases hr:ZdH s (X0 c) with
      | none=>rfl
      | some s'=>
        have:=ZsL hr;exact ihl s' V6
   have hj2:∀ns,(K3 F l (s.1:Int) s.2.1 n1 (l.filter fun c=>c.form==1)) ns=some (Zsp ((Zbv s.2.1 ((jns l).map (ev s.1))).bind fun m=>ZdH (s.1+1,m,ns) (l.flatMap X0))):=fun ns=>by
    unfold K3;have hfl:(l.filter fun c=>c.form==1).length<=l.length:=List.length_filter_le _ _;rw[ZqW hF l _ s.1 V6 n1 ns (by unfold BB;omega) (fun x hx=>by have:=(hoc x (GR.1 hx).1).1;unfold BB;omega) s.2.1,ZiN hoc];cases Zbv s.2.1 ((jns l).map (ev s.1)) with
    | none=>rfl
    | some m=>exact hb3 (s.1+1,m,ns) (by show s.1+1+_<=1001;omega) (Nat.succ_pos _)
   unfold KZ;dsimp only;have:=YA (body:=Ze8 F nm l (s.1:Int) s.2.1 s.2.2 n1) (fun(k:Nat)(a:U Za)=>((k:Int),a)) l (fun rest a=>a.length+rest.length<=60) (fun rest a=>(bif decide ((s.1:Int)>0) then(Zim s.2.2 nm false).bind fun Zv5=>(JB (!Zv5)).bind fun Zv4=>JL Zv4 (fun e267=>some (.Z6 2)) (fun ZIU=>(K3 F l (s.1:Int) s.2.1 n1 (a++rest.filter fun c=>c.form==1)) (YT s.2.2 nm true)) else(K3 F l (s.1:Int) s.2.1 n1 (a++rest.filter fun c=>c.form==1)) s.2.2)) (F:=F) ?_ ?_ V6 [] (by simpa using hl)
   ·refine this.trans ?_;simp only[Gm,ZbN,Bq0,Jd,Zes,hj2,gt0];show _=some (Zsp ((Zdi s (nm,l)).bind fun s=>ZdH s (l.flatMap X0)));unfold Zdi;cases decide (0<s.1)
    ·simp only[Cq0,Bool.false_and];cases Zbv s.2.1 ((jns l).map (ev s.1))<;>rfl
    ·simp only[Cq1,GH];cases has s.2.2 nm
     ·simp only[Gz,Cq1,Cq0];cases Zbv s.2.1 ((jns l).map (ev s.1))<;>rfl
     ·rfl
   ·intro a nx _;simp only[Ze8,Yp,Cq0,List.filter_nil,Gj]
   ·intro k c rest a nx hc hk hg hp ihl;simp only[KK]at hp;simp only[Ze8,Yc hk,Cq1,hg,Bq0,Ze5];rw[JR V6];cases hf:c.form==1
    ·rw[List.filter_cons_of_neg (by simp[hf])];exact ihl a V6
    ·rw[List.filter_cons_of_pos (p:=fun c:Za=>c.form==1) hf];simp only[Cq1];rw[app1 V6 V6,Bq0,ihl _ (by simp;omega),Gk];rfl
def Zki(m:MM)(l:U (Y×ZJ)):MM:=l.foldl (fun m e=>YT m e.1 e.2) m
def Zdo(m:MM)(e:Y×ZJ):ZP (YT m e.1 e.2)=upd (ZP m) e:=by
 funext x;rw[Zar];rfl
def ZfX(l:U (Y×ZJ)):∀m,ZP (Zki m l)=l.foldl upd (ZP m):=by
 induction l with
 | nil=>intro m;rfl
 | cons e l ih=>
   intro m;show ZP (Zki (YT m e.1 e.2) l)=_;rw[ih,Zdo];rfl
def Zs4(l:U (Y×ZJ)):∀m,Zbv m l=bif JW (ZP m) l then some (Zki m l) else none:=by
 induction l with
 | nil=>intro m;rfl
 | cons e l ih=>
   intro m;simp only[Zbv,JW,ih,Zdo];cases okE (ZP m) e<;>rfl
def ZgP(a b:U (Y×ZJ))(m:MM):Zki m (a++b)=Zki (Zki m a) b:=List.foldl_append
def ZA8(l:U Spt):∀a,0<a->∀m ns,ZdH (a,m,ns) l=bif Zml (has ns) (l.map (·.1))&&JW (ZP m) (evJ a l) then some (a+l.length,Zki m (evJ a l),Wm ns (l.map (·.1))) else none:=by
 induction l with
 | nil=>intro a ha m ns;rfl
 | cons x l ih=>
   intro a ha m ns;show(Zdi (a,m,ns) x).bind _=_;unfold Zdi;simp only[decide_eq_true ha,GH,G8,Zml,evJ,ZlP,Zs4,<-ZfX,Cq1];cases has ns x.1
   ·simp only[Cq0,Gz,GH];cases JW (ZP m) ((jns x.2).map (ev a))
    ·simp
    ·simp only[Cq1,Option.map_some,Bq0,GH];rw[ih (a+1) V6,Zaz,ZgP];have:Wm ns (x.1::l.map (·.1))=Wm (YT ns x.1 true) (l.map (·.1)):=rfl;rw[this,KK,show a+1+l.length=a+(l.length+1) by omega]
   ·rfl
def ZDa{ν:Type}(m:U (Y×ν))(g:Y->Z):(m.any fun e=>g e.1)=true↔∃k,(ZP m k).isSome=true/\g k=true:=by
 rw[List.any_eq_true]
 constructor
 ·rintro⟨e,he,hg⟩;refine⟨e.1,?_,hg⟩;cases h:ZP m e.1 with
  | some v=>rfl
  | none=>
    unfold ZP at h
    have:Yk m e.1=none:=by cases h':Yk m e.1 with
     | none=>rfl
     | some q=>rw[h']at h;cases h
    exact absurd rfl (ZdK.1 this e he)
 ·rintro⟨k,hk,hg⟩;cases h:Yk m k with
  | none=>unfold ZP at hk;rw[h]at hk;cases hk
  | some q=>exact⟨(k,q.2),List.mem_of_getElem? (ZaW h),hg⟩
def Zwd(l:U (Y×ZJ)):∀f x,(l.foldl upd f x).isSome=((f x).isSome||l.any fun e=>decide (x=e.1)):=by
 induction l with
 | nil=>intro f x;simp
 | cons e l ih=>
   intro f x;rw[Gn,ih,List.any_cons];unfold upd;by_cases h:x=e.1
   ·simp[h]
   ·simp[h]
def ZzQ(l:U (Y×ZJ))(g:Y->Z):((Zki [] l).any fun e=>g e.1)=l.any fun e=>g e.1:=by
 rw[Gx,ZDa];simp only[ZfX,Zwd];rw[List.any_eq_true]
 constructor
 ·rintro⟨k,h,hg⟩;have:(l.any fun e=>decide (k=e.1))=true:=by simpa[ZP,Yk]using h
  obtain⟨e,he,hk⟩:=List.any_eq_true.1 this;rw[decide_eq_true_eq]at hk;exact⟨e,he,by rw[<-hk];exact hg⟩
 ·rintro⟨e,he,hg⟩;refine⟨e.1,?_,hg⟩;rw[GB];right;exact List.any_eq_true.2 ⟨e,he,by simp⟩
def ZuN{ν:Type}(b:Y->ν->O Z)(g:Y->Z)(h:∀k v,b k v=some (g k))(l:U (Y×ν)):Zk8 b l=some (l.any fun e=>g e.1):=by
 induction l with
 | nil=>rfl
 | cons e l ih=>simp only[Zk8,h,ih,Bq0,List.any_cons]
def Zsf{F:Nat}(hF:10000000000000000000<=F)(l:U Za)(hl:OkS (E0,l))(hs:∀sp∈l.flatMap X0,OkS sp)(hn:(l.flatMap X0).length<=60):Zdw F l=some (bif AgW l then .ok () else .Z6 2):=by
 unfold Zdw;have:=ZvE hF _ E0 l (0,[],[]) V7 hl hs (by show 0+_<=1000;omega) F V6;have e:loop F (KZ F) (E0,l,0,[],[])=_:=this;rw[e,Bq0]
 have e2:ZdH (0,[],[]) ((E0,l)::l.flatMap X0)=bif JW (fun _=>none) (evJ 0 ((E0,l)::l.flatMap X0))&&Zml (fun _=>false) (KR l) then some (1+(l.flatMap X0).length,Zki [] (evJ 0 ((E0,l)::l.flatMap X0)),Wm [] (KR l)) else none:=by
  show(Zdi (0,[],[]) (E0,l)).bind _=_;unfold Zdi;have h0:(ZP ([]:MM))=fun _=>none:=by funext x;rfl
  simp only[Nat.lt_irrefl,decide_false,Bool.false_and,Cq0,evJ,ZlP,Zs4,h0];have hm:JW ((List.map (ev 0) (jns l)).foldl upd fun _=>none) (evJ (0+1) (l.flatMap X0))=JW (ZP (Zki [] ((jns l).map (ev 0)))) (evJ (0+1) (l.flatMap X0)):=by rw[ZfX,h0]
  rw[hm];cases JW (fun _=>none) ((jns l).map (ev 0))
  ·simp
  ·simp only[Cq1,Option.map_some,Bq0,GH];rw[ZA8 _ (0+1) V6,ZmJ,ZgP,Bool.and_comm];rfl
 rw[e2];unfold AgW;rw[Bool.and_comm (JW _ _)];cases Zml (fun _=>false) (KR l)&&JW (fun _=>none) (evJ 0 ((E0,l)::l.flatMap X0))
 ·rfl
 ·simp only[Cq1,GH,Zsp,JL];unfold ZhF;dsimp only
  rw[ZuN _ (has (Wm [] (KR l))) (fun k v=>by
   simp only[ZmX,ZbN,Bq0,Jd,Zes];cases has (Wm [] (KR l)) k<;>rfl),Bq0,ZzQ,ZiX,ZmJ]
  simp only[Bool.false_or];cases ((evJ 0 ((E0,l)::l.flatMap X0)).any fun e=>decide (e.1∈KR l))<;>rfl
def Zmk{p:Part}(h60:(pre p).length<=60)(hs:(pre p).all Uq=true){x:Term}(hx:Part.pr x∈pre p):OkS (E0,x.defs)/\(∀sp∈x.defs.flatMap X0,OkS sp)/\(x.defs.flatMap X0).length<=60:=by
 have hle:=KP hx
 have hlen:((x.defs.map Part.cl).flatMap pre).length<=(pre (.pr x)).length:=by
  rw[Jg];show _<=((x.args.map Part.ex++x.defs.map Part.cl++x.kids.map Part.pr).flatMap pre).length+1;rw[Gu,Gu,K2,K2];omega
 have hc:∀c∈x.defs,(pre (.cl c)).all Uq=true:=fun c hc=>by
  rw[Ks]at hs ⊢;exact fun y hy=>hs y (Zdl (Xk (Qq hc) hy) hx)
 have h1:=Zg8 x.defs;have h2:=ZwH x.defs;refine⟨⟨by show x.defs.length<=60;omega,fun c h=>ZaU (Ks.1 (hc c h) _ (Xq _))⟩,fun sp hsp=>?_,by omega⟩;obtain⟨c,h,hsp⟩:=Q3.1 hsp;exact ZBj 60 c (by have:=Yb (Qq h);omega) V6 (hc c h) sp hsp
def Zc0{F:Nat}(hF:10000000000000000000<=F)(t:Term)(hs:Lo (.pr t))(hFp:(pre (.pr t)).length<=F):Zhm F t=some (bif Q7 AgW (.pr t) then 0 else 2):=
 ZrY hF AgW t hs hFp fun h60 hsh x hx _=>by obtain⟨a,b,c⟩:=Zmk h60 hsh hx;exact Zsf hF x.defs a b c
def JA{p:Part}(h:Q7 AgW p=true):(pre p).all Uq=true/\(pre p).length<=60:=by
 unfold Q7 at h;simp only[Ba0,decide_eq_true_eq]at h;exact⟨h.1.1.2,h.1.1.1⟩
def ZsS{F:Nat}(hF:10000000000000000000<=F)(t:Term)(hs:Lo (.pr t))(hFp:(pre (.pr t)).length<=F):ZrI F t=some (bif Q7 AgW (.pr t) then(((pre (.pr t)).length:Int),0) else(0,2)):=by
 unfold ZrI;rw[Zc0 hF t hs hFp,Bq0];cases h:Q7 AgW (.pr t)
 ·rfl
 ·have hs:Sm (.pr t):=⟨by have:=(JA h).2;unfold BS;omega,hs⟩
  have h60:=(JA h).2;have:=count_eq hF _ (.pr t) hs V7 F V6 0 V6;have e:loop F (Za3 F) (Part.pr t,0)=_:=this;simp only[Cq1];show(loop F (Za3 F) (Part.pr t,0)).bind _=_;rw[e,JT];rfl
def ZtQ{F:Nat}(hF:10000000000000000000<=F)(t:Term)(hs:Lo (.pr t))(hFp:(pre (.pr t)).length<=F):ZrG F t=some (bif Q7 AgW (.pr t) then((dep (.pr t):Int),0) else(0,2)):=by
 unfold ZrG;rw[Zc0 hF t hs hFp,Bq0];cases h:Q7 AgW (.pr t)
 ·rfl
 ·have hs:Sm (.pr t):=⟨by have:=(JA h).2;unfold BS;omega,hs⟩
  have e:ZrF F (.pr t)=_:=ZtR hF _ (.pr t) hs V7 F V6;show(ZrF F (.pr t)).bind _=_;rw[e];rfl
abbrev CH:=U Y×MN
def dj(s:CH)(t:Y):CH:=bif has s.2 t then s else(s.1++[t],YT s.2 t true)
def ZHN(s:CH)(t:Y):(dj s t).1.length<=s.1.length+1:=by
 unfold dj;cases has s.2 t<;>simp
def Znc(l:U Y):∀s:CH,(l.foldl dj s).1.length<=s.1.length+l.length:=by
 induction l with
 | nil=>intro s;simp
 | cons t l ih=>intro s;rw[Gn];have:=ih (dj s t);have:=ZHN s t;simp only[KK];omega
structure DS where
 c:CH
 pl:List ByteArray
 at_:Nat
def JS(s:DS)(sp:Spt):DS:=⟨((jns sp.2).map (·.text)).foldl dj s.c,bif decide (0<s.at_) then s.pl++[sp.1] else s.pl,s.at_+1⟩
abbrev RD:=Z×(U Y)×(U Y)×Int×MN
def ZuK(s:DS):RD:=(true,s.c.1,s.pl,(s.at_:Int),s.c.2)
def ZpK{F:Nat}(hF:10000000000000000000<=F)(i:Int)(nx:Int×(U Y)×MN->O RD)(x:Za)(hx:x.joins.length<=3)(s:CH)(hs:s.1.length<=100000):
 loop F (Zge i nx x) (0,s.1,s.2)=nx (XD (i+1),((x.joins.map (·.text)).foldl dj s).1,((x.joins.map (·.text)).foldl dj s).2):=by
 refine YA (body:=Zge i nx x) (fun(k:Nat)(s:CH)=>((k:Int),s.1,s.2)) x.joins (fun rest s=>s.1.length+rest.length<=200000) (fun rest s=>nx (XD (i+1),((rest.map (·.text)).foldl dj s).1,((rest.map (·.text)).foldl dj s).2)) (F:=F) ?_ ?_ V6 s V6
 ·intro s nx' _;simp only[Zge,Yp,Cq0];rfl
 ·intro j y rest s nx' hy hj hg hp ih;simp only[KK]at hp;simp only[Zge,Zjj,Yc hj,Cq1,hg,Bq0,ZbN];rw[JR V6,app1 V6 V6];simp only[Bq0,G8,Gn];cases hh:has s.2 y.text
  ·have e:dj s y.text=(s.1++[y.text],YT s.2 y.text true):=by unfold dj;rw[hh];rfl
   rw[e];exact ih (s.1++[y.text],YT s.2 y.text true) (by simp;omega)
  ·have e:dj s y.text=s:=by unfold dj;rw[hh];rfl
   rw[e];exact ih s V6
def ZpH{F:Nat}(hF:10000000000000000000<=F)(l rules:U Za)(a:Nat)(ha:a<=2000)(n1:Y×(U Za)×(U Y)×(U Y)×Int×MN->O RD)(pl:U Y)(hr:rules.length<=60)(hx:∀x∈rules,x.joins.length<=3)(s:CH)(hs:s.1.length<=50000):
 loop F (Zgf F l (a:Int) n1 rules pl) (0,s.1,s.2)=loop F (Zb3 l n1) (0,((a+1:Nat):Int),(((jns rules).map (·.text)).foldl dj s).1,pl,(((jns rules).map (·.text)).foldl dj s).2):=by
 refine YA (body:=Zgf F l (a:Int) n1 rules pl) (fun(k:Nat)(s:CH)=>((k:Int),s.1,s.2)) rules (fun rest s=>s.1.length+3*rest.length<=60000) (fun rest s=>loop F (Zb3 l n1) (0,((a+1:Nat):Int),(((jns rest).map (·.text)).foldl dj s).1,pl,(((jns rest).map (·.text)).foldl dj s).2)) (F:=F) ?_ ?_ V6 s V6
 ·intro s nx' _;simp only[Zgf,Yp,Cq0,QP];rw[JR V6];rfl
 ·intro j y rest s nx' hy hj hg hp ih;simp only[KK]at hp;have h3:=hx y hy;simp only[Zgf,Yc hj,Cq1,hg,Bq0];rw[ZpK hF _ _ y h3 s V6,JR V6];refine(ih ((y.joins.map (·.text)).foldl dj s) ?_).trans ?_
  ·have:=Znc (y.joins.map (·.text)) s;rw[Gc]at this;omega
  ·unfold jns;rw[Kd,GS,List.foldl_append]
def Zs5{l:U Za}(h:∀c∈l,OkC c):(jns l).length<=3*l.length:=by
 induction l with
 | nil=>simp[jns]
 | cons c l ih=>
   have a:=ih fun d hd=>h d (Kf _ hd)
   have b:=(h c (by simp)).1;unfold jns at a ⊢;rw[Kd,K2,KK];omega
def Zux(s:DS){sp:Spt}(h:OkS sp):(JS s sp).c.1.length<=s.c.1.length+180/\(JS s sp).pl.length<=s.pl.length+1/\(JS s sp).at_=s.at_+1:=by
 obtain⟨h1,h2⟩:=h;refine⟨?_,?_,rfl⟩
 ·have:=Znc ((jns sp.2).map (·.text)) s.c;have:=Zs5 h2;rw[Gc]at *;show((jns sp.2).map (·.text) |>.foldl dj s.c).1.length<=_;omega
 ·unfold JS;dsimp only;cases decide (0<s.at_)<;>simp
def Zga:∀(l:U Spt)(s:DS),(∀sp∈l,OkS sp)->(l.foldl JS s).c.1.length<=s.c.1.length+180*l.length/\(l.foldl JS s).pl.length<=s.pl.length+l.length/\(l.foldl JS s).at_=s.at_+l.length
 | [],s,_=>by simp
 | sp::l,s,h=>by
   have a:=Zux s (h sp (by simp));have b:=Zga l (JS s sp) fun x hx=>h x (Kf _ hx)
   rw[Gn];simp only[KK];omega
def Zt7(s:DS)(n:Nat):Prop:=s.c.1.length+180*n<=20000/\s.pl.length+n<=1000/\s.at_+n<=1000
def ZCW{F:Nat}(hF:10000000000000000000<=F):∀n (nm:Y) (l:U Za) (s:DS),(l.flatMap X0).length<=n->OkS (nm,l)->(∀sp∈l.flatMap X0,OkS sp)->Zt7 s ((l.flatMap X0).length+1)->∀Fr,n<Fr ->
 loop Fr (Zb1 F) (nm,l,s.c.1,s.pl,(s.at_:Int),s.c.2)=some (ZuK (((nm,l)::l.flatMap X0).foldl JS s)):=by
 intro n
 induction n using Nat.strongRecOn with
 | _ n ih=>
   intro nm l s hn hok ZBK hs1 Fr hFr;obtain⟨G,rfl⟩:∃G,Fr=G+1:=⟨Fr-1,by omega⟩
   rw[Yj]
   have hih:∀c∈l,c.form=2->∀s:DS,Zt7 s (X0 c).length->loop G (Zb1 F) (c.text,c.defs,s.c.1,s.pl,(s.at_:Int),s.c.2)=some (ZuK ((X0 c).foldl JS s)):=fun c hc hf s hs=>by
    have e:X0 c=(c.text,c.defs)::c.defs.flatMap X0:=by rw[UM,hf];rfl
    have hle:(X0 c).length<=(l.flatMap X0).length:=Zil hc;have hm:∀sp∈X0 c,OkS sp:=fun sp hsp=>ZBK sp (Q3.2 ⟨c,hc,hsp⟩)
    rw[e]at hle hm hs ⊢;simp only[KK]at hle hs;exact ih (n-1) V6 c.text c.defs s V6 (hm _ (by simp)) (fun sp hsp=>hm sp (by simp[hsp])) hs G V6
   generalize loop G (Zb1 F)=n1 at hih;have hok':=hok;obtain⟨hl,hoc⟩:=hok;dsimp only at hl hoc;obtain⟨r1,r2,r3⟩:=hs1
   have hb3:∀s:DS,Zt7 s (l.flatMap X0).length->loop F (Zb3 l n1) (0,(s.at_:Int),s.c.1,s.pl,s.c.2)=some (ZuK ((l.flatMap X0).foldl JS s)):=fun s hs=>by
    refine YA (body:=Zb3 l n1) (fun(k:Nat)(s:DS)=>((k:Int),(s.at_:Int),s.c.1,s.pl,s.c.2)) l (fun rest s=>Zt7 s (rest.flatMap X0).length) (fun rest s=>some (ZuK ((rest.flatMap X0).foldl JS s))) (F:=F) ?_ ?_ V6 s hs
    ·intro s nx _;simp only[Zb3,Yp,Cq0];rfl
    ·intro k c rest s nx hc hk hg hp ihl;simp only[Zb3,Yc hk,Cq1,hg,Bq0];rw[JR V6];rw[Kd,K2]at hp;rw[Kd,List.foldl_append];obtain⟨p1,p2,p3⟩:=hp;rcases(hoc c hc).2 with h1|⟨h2,_⟩
     ·have e:X0 c=[]:=by rw[UM,h1];rfl
      rw[h1];rw[e]at p1 p2 p3 ⊢;simp only[GT,JT]at p1 p2 p3;exact ihl s ⟨p1,p2,p3⟩
     ·rw[h2];simp only[Int.reduceBEq,Cq1];rw[hih c hc h2 s ⟨by omega,by omega,by omega⟩,Bq0];have hfl:=Zga (X0 c) s fun sp hsp=>ZBK sp (Q3.2 ⟨c,hc,hsp⟩)
      exact ihl ((X0 c).foldl JS s) ⟨by omega,by omega,by omega⟩
   have hj2:∀pl:U Y,pl.length+(l.flatMap X0).length<=1000->(Zb2 F l s.c.1 (s.at_:Int) s.c.2 n1 (l.filter fun c=>c.form==1)) pl=some (ZuK ((l.flatMap X0).foldl JS ⟨((jns l).map (·.text)).foldl dj s.c,pl,s.at_+1⟩)):=fun pl hpl=>by
    unfold Zb2;have hfl:(l.filter fun c=>c.form==1).length<=l.length:=List.length_filter_le _ _;rw[ZpH hF l _ s.at_ V6 n1 pl V6 (fun x hx=>(hoc x (GR.1 hx).1).1) s.c V6,ZiN hoc];have h1:=Znc ((jns l).map (·.text)) s.c;have h2:=Zs5 hoc;rw[Gc]at h1;exact hb3 ⟨((jns l).map (·.text)).foldl dj s.c,pl,s.at_+1⟩ ⟨by dsimp only;omega,by dsimp only;omega,by dsimp only;omega⟩
   unfold Zb1;dsimp only;have:=YA (body:=Zjl F nm l s.c.1 s.pl (s.at_:Int) s.c.2 n1) (fun(k:Nat)(a:U Za)=>((k:Int),a)) l (fun rest a=>a.length+rest.length<=60) (fun rest a=>(bif decide ((s.at_:Int)>0) then(app 16 s.pl [nm]).bind fun Zv2=>(Zb2 F l s.c.1 (s.at_:Int) s.c.2 n1 (a++rest.filter fun c=>c.form==1)) Zv2 else(Zb2 F l s.c.1 (s.at_:Int) s.c.2 n1 (a++rest.filter fun c=>c.form==1)) s.pl)) (F:=F) ?_ ?_ V6 [] (by simpa using hl)
   ·refine this.trans ?_;rw[app1 (l:=s.pl) (x:=nm) V6 V6];simp only[Gm,Bq0,gt0];rw[hj2 s.pl V6,hj2 (s.pl++[nm]) (by simp only[K2,List.length_singleton];omega)];show _=some (ZuK ((l.flatMap X0).foldl JS (JS s (nm,l))));unfold JS;cases decide (0<s.at_)<;>rfl
   ·intro a nx _;simp only[Zjl,Yp,Cq0,List.filter_nil,Gj]
   ·intro k c rest a nx hc hk hg hp ihl;simp only[KK]at hp;simp only[Zjl,Yc hk,Cq1,hg,Bq0,Zjk];rw[JR V6];cases hf:c.form==1
    ·rw[List.filter_cons_of_neg (by simp[hf])];exact ihl a V6
    ·rw[List.filter_cons_of_pos (p:=fun c:Za=>c.form==1) hf];simp only[Cq1];rw[app1 V6 V6,Bq0,ihl _ (by simp;omega),Gk];rfl
def ZmL:∀(l:U Spt)(s:DS),(l.foldl JS s).c=(l.flatMap fun sp=>(jns sp.2).map (·.text)).foldl dj s.c
 | [],_=>rfl
 | sp::l,s=>by rw[Gn,ZmL l,Kd,List.foldl_append];rfl
def Zpe:∀(l:U Spt)(s:DS),0<s.at_->(l.foldl JS s).pl=s.pl++l.map (·.1)
 | [],s,_=>by simp
 | sp::l,s,h=>by
   rw[Gn,Zpe l _ (by unfold JS;dsimp only;omega)];unfold JS;rw[decide_eq_true h];simp
def Zdc(l:U Za):U Y×U Y:=(((((E0,l)::l.flatMap X0).flatMap fun sp=>(jns sp.2).map (·.text)).foldl dj ([],[])).1,KR l)
def Zzs{F:Nat}(hF:10000000000000000000<=F)(l:List Za)(hl:OkS (E0,l))(hs:∀sp∈l.flatMap X0,OkS sp)(hn:(l.flatMap X0).length<=60):ZrC F l=some (Zdc l):=by
 unfold ZrC;have h:=ZCW hF _ E0 l ⟨([],[]),[],0⟩ V7 hl hs ⟨by dsimp only[List.length_nil];omega,by dsimp only[List.length_nil];omega,by dsimp only;omega⟩ F V6;have e:loop F (Zb1 F) (E0,l,[],[],0,[])=_:=h;rw[e,Bq0];show some (_,_)=some (Zdc l);unfold Zdc;rw[ZmL,List.foldl_cons,Zpe _ _ (Nat.succ_pos _)]
 rfl
def Zf3:U Y->Y->U Y
 | [],s=>[s]
 | x::l,s=>bif ZkQ x s then x::Zf3 l s else s::x::l
def Zih(out B:U Y)(s:Y):U Y:=if s∈B\/s∈out then out else Zf3 out s
def ZiF{l:U Y}{s x:Y}:x∈Zf3 l s↔x=s\/x∈l:=by
 induction l with
 | nil=>simp[Zf3]
 | cons y l ih=>
   unfold Zf3;cases ZkQ y s
   ·simp
   ·simp only[Cq1,Kx,ih]
    constructor
    ·rintro(h|h|h)<;>simp[h]
    ·rintro(h|h|h)<;>simp[h]
def Zxj(l:U Y)(s:Y):(Zf3 l s).length=l.length+1:=by
 induction l with
 | nil=>rfl
 | cons y l ih=>
   unfold Zf3;cases ZkQ y s
   ·rfl
   ·simp only[Cq1,KK,ih]
def nm1:Part->U Y
 | .ex e=>bif e.op==2 then [e.text] else []
 | _=>[]
def nmE(e:Zg):U Y:=(pre (.ex e)).flatMap nm1
def Zix(e:Zg):nmE e=(bif e.op==2 then [e.text] else [])++e.kids.flatMap nmE:=by
 unfold nmE;rw[pre_eq,Kd];show nm1 (.ex e)++_=nm1 (.ex e)++_;congr 1;show((e.kids.map Part.ex).flatMap pre).flatMap nm1=_;rw[List.flatMap_assoc,List.flatMap_map]
def ZwF(o B:U Y)(s:Y):(Zih o B s).length<=o.length+1:=by
 unfold Zih;split
 ·omega
 ·rw[Zxj];omega
def ZsT(e:Zg):(nmE e).length<=(pre (.ex e)).length:=by
 unfold nmE;generalize pre (.ex e)=l
 induction l with
 | nil=>simp
 | cons p l ih=>
   rw[Kd,K2,KK]
   have:(nm1 p).length<=1:=by
    cases p with
    | ex e=>show(bif e.op==2 then [e.text] else []).length<=1;cases e.op==2<;>simp
    | _=>exact GE _
   omega
def ZB(js:U Z4):U Y:=js.flatMap (·.names)
def bnd(t:Term)(B:U Y):U Y:=bif t.op==4 then B++((Zdc t.defs).1++(Zdc t.defs).2) else B
abbrev Evt:=Y×U Y
def JY(p:Part)(B:U Y):U Evt:=
 match p with
 | .ex e=>(nmE e).map fun s=>(s,B)
 | .pr t=>(if t.text=E0 then [] else [(t.text,B)])++((t.args.flatMap nmE).map fun s=>(s,B))++(t.defs.attach.flatMap (fun c=>JY (.cl c.1) (bnd t B))++t.kids.attach.flatMap (fun k=>JY (.pr k.1) (bnd t B)))
 | .cl c=>c.defs.attach.flatMap (fun d=>JY (.cl d.1) B)++c.kids.attach.flatMap (fun k=>JY (.pr k.1) (B++ZB c.joins))
termination_by pz p
decreasing_by
 ·exact Ut (Qq c.2)
 ·exact Ut (Xr k.2)
 ·exact Ut (XO d.2)
 ·exact Ut (Y3 k.2)
def Zm1(t:Term)(B:U Y):JY (.pr t) B=(if t.text=E0 then [] else [(t.text,B)])++((t.args.flatMap nmE).map fun s=>(s,B))++(t.defs.flatMap (fun c=>JY (.cl c) (bnd t B))++t.kids.flatMap (fun k=>JY (.pr k) (bnd t B))):=by
 rw[JY,Uj t.defs fun c=>JY (.cl c) (bnd t B),Uj t.kids fun k=>JY (.pr k) (bnd t B)]
def ZjK(c:Za)(B:U Y):JY (.cl c) B=c.defs.flatMap (fun d=>JY (.cl d) B)++c.kids.flatMap (fun k=>JY (.pr k) (B++ZB c.joins)):=by
 rw[JY,Uj c.defs fun d=>JY (.cl d) B,Uj c.kids fun k=>JY (.pr k) (B++ZB c.joins)]
def Zbl(l:U Evt)(out:U Y):U Y:=l.foldl (fun o e=>Zih o e.2 e.1) out
def ZkX:∀(l:U Evt)(o:U Y),(Zbl l o).length<=o.length+l.length
 | [],o=>by simp[Zbl]
 | e::l,o=>by
   have:=ZkX l (Zih o e.2 e.1);have:=ZwF o e.2 e.1;show(Zbl l (Zih o e.2 e.1)).length<=_;simp only[KK];omega
def Zw6{o B:U Y}{s x:Y}:x∈Zih o B s↔x∈o\/(x=s/\s∉B):=by
 unfold Zih;by_cases h:s∈B\/s∈o
 ·rw[if_pos h]
  constructor
  ·exact .inl
  ·rintro(h1|⟨rfl,h1⟩)
   ·exact h1
   ·rcases h with h|h
    ·exact absurd h h1
    ·exact h
 ·rw[if_neg h,ZiF];have h1:s∉B:=fun z=>h (.inl z)
  constructor
  ·rintro(h2|h2)
   ·exact .inr ⟨h2,h1⟩
   ·exact .inl h2
  ·rintro(h2|⟨h2,_⟩)
   ·exact .inr h2
   ·exact .inl h2
def Zla:∀(l:U Evt)(o:U Y)(x:Y),x∈Zbl l o↔x∈o\/∃e∈l,x=e.1/\e.1∉e.2
 | [],o,x=>by simp[Zbl]
 | e::l,o,x=>by
   show x∈Zbl l (Zih o e.2 e.1)↔_;rw[Zla l,Zw6]
   constructor
   ·rintro((h|h) | ⟨e',he,h⟩)
    ·exact .inl h
    ·exact .inr ⟨e,by simp,h⟩
    ·exact .inr ⟨e',by simp[he],h⟩
   ·rintro(h|⟨e',he,h⟩)
    ·exact .inl (.inl h)
    ·rcases Kx.1 he with rfl|he
     ·exact .inl (.inr h)
     ·exact .inr ⟨e',he,h⟩
def ZpL{l:U Za}(hl:OkS (E0,l))(hs:∀sp∈l.flatMap X0,OkS sp)(hn:(l.flatMap X0).length<=60):(Zdc l).1.length<=10980/\(Zdc l).2.length<=60:=by
 have hok:∀sp∈(E0,l)::l.flatMap X0,OkS sp:=fun sp hsp=>by
  rcases Kx.1 hsp with rfl|h
  ·exact hl
  ·exact hs sp h
 have h:=Zga _ ⟨([],[]),[],0⟩ hok;rw[ZmL]at h;simp only[KK,GT]at h;refine⟨?_,by unfold Zdc KR;rw[Gc];exact hn⟩;exact KB h.1 V6
def Zm2(p:Part):∀B,(JY p B).length<=(pre p).length:=by
 induction p using Zev with
 | h p ih=>
   intro B
   have hfl:∀{α:Type}(l:U α)(c:α->Part)(B:U Y),(∀x∈l,c x∈ZM p)->(l.flatMap fun x=>JY (c x) B).length<=((l.map c).flatMap pre).length:=by
    intro α l c B
    induction l with
    | nil=>intro _;simp
    | cons x l ihl=>
      intro h;have a:=ih (c x) (h x (by simp)) B;have b:=ihl fun y hy=>h y (Kf _ hy)
      simp only[Kd,G8,K2];omega
   cases p with
   | ex e=>rw[JY,Gc];exact ZsT e
   | pr t=>
     rw[Zm1,Jg];have h1:=hfl t.defs .cl (bnd t B) fun x hx=>Qq hx
     have h2:=hfl t.kids .pr (bnd t B) fun x hx=>Xr hx
     have h3:(t.args.flatMap nmE).length<=((t.args.map Part.ex).flatMap pre).length:=by
      generalize t.args=l
      induction l with
      | nil=>simp
      | cons x l ihl=>have:=ZsT x;simp only[Kd,G8,K2];omega
     show _<=((t.args.map Part.ex++t.defs.map Part.cl++t.kids.map Part.pr).flatMap pre).length+1;rw[Gu,Gu];have h4:(if t.text=E0 then([]:U Evt) else [(t.text,B)]).length<=1:=by split<;>simp
     simp only[K2,Gc];omega
   | cl c=>
     rw[ZjK,Jg];have h1:=hfl c.defs .cl B fun x hx=>XO hx
     have h2:=hfl c.kids .pr (B++ZB c.joins) fun x hx=>Y3 hx
     show _<=((c.defs.map Part.cl++c.kids.map Part.pr).flatMap pre).length+1;rw[Gu];simp only[K2];omega
def ZoJ:∀(js:U Z4)(ht hn:Y->Z),jW ht hn js=true->∀m∈js,m.names.length<=3
 | [],_,_,_,m,h=>by cases h
 | j::js,ht,hn,hw,m,h=>by
   unfold jW at hw;simp only[Ba0,decide_eq_true_eq]at hw;rcases Kx.1 h with rfl|h
   ·exact hw.1.2
   ·exact ZoJ js _ _ hw.2.2 m h
def Kw{c:Za}(h:UD c=true):c.joins.length<=3/\(∀m∈c.joins,m.names.length<=3)/\∃k,c.kids=[k]:=by
 have ok:=ZaU h;unfold UD at h;rw[Ba0,beq_iff_eq]at h;refine⟨ok.1,?_,?_⟩
 ·rcases ok.2 with h1|⟨_,h2⟩
  ·have:(c.form==2)=false:=by rw[h1];rfl
   rw[this]at h;simp only[Cq0,Ba0]at h;exact ZoJ _ _ _ h.2.2
  ·rw[h2];intro m hm;cases hm
 ·match hk:c.kids,h.1 with
  | [k],_=>exact⟨k,rfl⟩
def nam(x:Y):Zg:=⟨2,0,x,[]⟩
def note(fr:MB)(B:U Y)(x:Y):MB:=if x∈B then fr else YT fr x true
def bindM(l:U Y)(m:NM):NM:=l.foldl (fun m x=>YT m x (nam x)) m
def Zgs:∀(l:U Y)(m:NM)(x:Y),ZP (bindM l m) x=if x∈l then some (nam x) else ZP m x
 | [],m,x=>by simp[bindM]
 | y::l,m,x=>by
   show ZP (bindM l (YT m y (nam y))) x=_;rw[Zgs l,Zar];by_cases h1:x∈l
   ·simp[h1]
   ·by_cases h2:x=y
    ·subst h2;simp[h1]
    ·simp[h1,h2]
def bind_eq{F:Nat}(hF:10000000000000000000<=F)(l:U Y)(hl:l.length<=100000):Zjz F l=some (bindM l []):=by
 unfold Zjz;refine YA (body:=KG l l) (fun(k:Nat)(m:NM)=>((k:Int),m)) l (fun _ _=>True) (fun rest m=>some (bindM rest m)) (F:=F) ?_ ?_ V6 [] trivial
 ·intro m nx _;simp only[KG,Yp,Cq0];rfl
 ·intro k x rest m nx hx hk hg _ ih;simp only[KG,Yc hk,Cq1,hg,Bq0,Zpt];rw[JR V6];exact ih _ trivial
def notes(B:U Y)(l:U Y)(fr:MB):MB:=l.foldl (fun fr x=>note fr B x) fr
def Zey(B a b:U Y)(fr:MB):notes B (a++b) fr=notes B b (notes B a fr):=List.foldl_append
def ZsY:∀(l:U Y)(s:CH),(∀x,has s.2 x=decide (x∈s.1))->∀x,x∈(l.foldl dj s).1↔x∈s.1\/x∈l
 | [],s,_,x=>by simp
 | y::l,s,h,x=>by
   rw[Gn]
   have hs:∀z,has (dj s y).2 z=decide (z∈(dj s y).1):=fun z=>by
    unfold dj;cases hz:has s.2 y
    ·simp only[Cq0];rw[Zaz];show(has s.2 z||decide (z=y))=decide (z∈s.1++[y]);rw[h z];by_cases h1:z∈s.1<;>by_cases h2:z=y<;>simp[h1,h2]
    ·exact h z
   rw[ZsY l _ hs x];have hy:has s.2 y=decide (y∈s.1):=h y
   have e:x∈(dj s y).1↔x∈s.1\/x=y:=by
    unfold dj;by_cases hm:y∈s.1
    ·rw[hy,decide_eq_true hm];exact⟨.inl,fun z=>z.elim id fun e=>e▸hm⟩
    ·rw[hy,decide_eq_false hm];simp
   rw[e];simp only[Kx]
   constructor
   ·rintro((h1|h1) | h1)<;>simp[h1]
   ·rintro(h1|h1|h1)<;>simp[h1]
def Zwk{l:U Za}{sp:Spt}(h:sp∈(E0,l)::l.flatMap X0){c:Za}(hc:c∈sp.2){m:Z4}(hm:m∈c.joins):m.text∈(Zdc l).1:=by
 unfold Zdc;rw[ZsY _ ([],[]) (fun x=>rfl)];exact .inr (Q3.2 ⟨sp,h,G3.2 ⟨m,Q3.2 ⟨c,hc,hm⟩,rfl⟩⟩)
def ZuJ{l:U Za}{sp:Spt}(h:sp∈l.flatMap X0):sp.1∈(Zdc l).2:=Gp (f:=(·.1)) h
def ext(env:NM)(l to:U Y):NM:=((l.zip to).map fun p=>(p.1,nam p.2)).reverse++env
def JG(env:NM)(x:Y):Y:=match ZP env x with
 | some e=>e.text
 | none=>x
def tx0(env:NM)(x:Y):Y:=if x=E0 then E0 else JG env x
mutual
def Ka (env:NM):Zg->Zg
 | .mk op n tx ks=>bif op==2 then(ZP env tx).getD (.mk op n tx ks) else .mk op n tx (ZCN env ks)
def ZCN (env:NM):U Zg->U Zg
 | []=>[]
 | k::l=>Ka env k::ZCN env l
end
def Zzg(env:NM)(l:U Zg):ZCN env l=l.map (Ka env):=by
 induction l with
 | nil=>rfl
 | cons k l ih=>rw[ZCN,ih];rfl
def ZjG(env:NM)(e:Zg):Ka env e=bif e.op==2 then(ZP env e.text).getD e else .mk e.op e.n e.text (e.kids.map (Ka env)):=by
 cases e;rw[Ka,Zzg]
abbrev BF(σ:Type):=σ->NM->U Y->Part->σ×U Y
def Qw(l:U Za):U Y:=(Zdc l).1++(Zdc l).2
def Us(env en:NM)(m:Z4):Z4:=⟨JG env m.text,m.names.map (JG en)⟩
section
variable{σ:Type}
mutual
def Wt (bd:BF σ) (s:σ) (env:NM):Term->σ×Term
 | .mk op tx ar ds ks=>bif op==4 then
     ((Wts bd (Wcs bd (bd s env (Qw ds) (.pr (.mk op tx ar ds ks))).1 (ext env (Qw ds) (bd s env (Qw ds) (.pr (.mk op tx ar ds ks))).2) ds).1 (ext env (Qw ds) (bd s env (Qw ds) (.pr (.mk op tx ar ds ks))).2) ks).1,
      .mk op (tx0 env tx) (ar.map (Ka env)) (Wcs bd (bd s env (Qw ds) (.pr (.mk op tx ar ds ks))).1 (ext env (Qw ds) (bd s env (Qw ds) (.pr (.mk op tx ar ds ks))).2) ds).2
       (Wts bd (Wcs bd (bd s env (Qw ds) (.pr (.mk op tx ar ds ks))).1 (ext env (Qw ds) (bd s env (Qw ds) (.pr (.mk op tx ar ds ks))).2) ds).1 (ext env (Qw ds) (bd s env (Qw ds) (.pr (.mk op tx ar ds ks))).2) ks).2)
   else((Wts bd s env ks).1,.mk op (tx0 env tx) (ar.map (Ka env)) [] (Wts bd s env ks).2)
def Wts (bd:BF σ) (s:σ) (env:NM):U Term->σ×U Term
 | []=>(s,[])
 | t::l=>((Wts bd (Wt bd s env t).1 env l).1,(Wt bd s env t).2::(Wts bd (Wt bd s env t).1 env l).2)
def Wc (bd:BF σ) (s:σ) (env:NM):Za->σ×Za
 | .mk f tx js ds ks=>bif f==2 then
     ((Wts bd (Wcs bd s env ds).1 env ks).1,.mk f (JG env tx) [] (Wcs bd s env ds).2 (Wts bd (Wcs bd s env ds).1 env ks).2)
   else
    ((Wts bd (bd s env (ZB js) (.cl (.mk f tx js ds ks))).1 (ext env (ZB js) (bd s env (ZB js) (.cl (.mk f tx js ds ks))).2) ks).1,
     .mk f E0 (js.map (Us env (ext env (ZB js) (bd s env (ZB js) (.cl (.mk f tx js ds ks))).2))) []
      (Wts bd (bd s env (ZB js) (.cl (.mk f tx js ds ks))).1 (ext env (ZB js) (bd s env (ZB js) (.cl (.mk f tx js ds ks))).2) ks).2)
def Wcs (bd:BF σ) (s:σ) (env:NM):U Za->σ×U Za
 | []=>(s,[])
 | c::l=>((Wcs bd (Wc bd s env c).1 env l).1,(Wc bd s env c).2::(Wcs bd (Wc bd s env c).1 env l).2)
end
def inT(bd:BF σ)(s:σ)(env:NM)(t:Term):σ×NM:=bif t.op==4 then((bd s env (Qw t.defs) (.pr t)).1,ext env (Qw t.defs) (bd s env (Qw t.defs) (.pr t)).2) else(s,env)
def inC(bd:BF σ)(s:σ)(env:NM)(c:Za):σ×NM:=bif c.form==2 then(s,env) else((bd s env (ZB c.joins) (.cl c)).1,ext env (ZB c.joins) (bd s env (ZB c.joins) (.cl c)).2)
theorem Znz{bd:BF σ}{s:σ}{env:NM}{t:Term}(h:t.op=4):Wt bd s env t=((Wts bd (Wcs bd (inT bd s env t).1 (inT bd s env t).2 t.defs).1 (inT bd s env t).2 t.kids).1,.mk t.op (tx0 env t.text) (t.args.map (Ka env)) (Wcs bd (inT bd s env t).1 (inT bd s env t).2 t.defs).2 (Wts bd (Wcs bd (inT bd s env t).1 (inT bd s env t).2 t.defs).1 (inT bd s env t).2 t.kids).2):=by
 cases t;simp only at h;subst h;rw[Wt];rfl
theorem ZhO{bd:BF σ}{s:σ}{env:NM}{t:Term}(h:t.op≠4):Wt bd s env t=((Wts bd s env t.kids).1,.mk t.op (tx0 env t.text) (t.args.map (Ka env)) [] (Wts bd s env t.kids).2):=by
 cases t with|mk op tx ar ds ks=>
 simp only at h;have:(op==4)=false:=by simpa using h
 rw[Wt,this];rfl
theorem Zfy{bd:BF σ}{s:σ}{env:NM}{c:Za}(h:c.form=2):Wc bd s env c=((Wts bd (Wcs bd s env c.defs).1 env c.kids).1,.mk c.form (JG env c.text) [] (Wcs bd s env c.defs).2 (Wts bd (Wcs bd s env c.defs).1 env c.kids).2):=by
 cases c;simp only at h;subst h;rw[Wc];rfl
theorem ZhP{bd:BF σ}{s:σ}{env:NM}{c:Za}(h:c.form≠2):Wc bd s env c=((Wts bd (inC bd s env c).1 (inC bd s env c).2 c.kids).1,.mk c.form E0 (c.joins.map (Us env (inC bd s env c).2)) [] (Wts bd (inC bd s env c).1 (inC bd s env c).2 c.kids).2):=by
 cases c with|mk f tx js ds ks=>
 simp only at h;have:(f==2)=false:=by simpa using h
 unfold inC;rw[Wc,this];simp only[this,Cq0]
theorem Zc4(bd:BF σ)(s:σ)(env:NM):Wts bd s env []=(s,[]):=by rw[Wts]
theorem ZaJ(bd:BF σ)(s:σ)(env:NM)(t:Term)(l:U Term):Wts bd s env (t::l)=((Wts bd (Wt bd s env t).1 env l).1,(Wt bd s env t).2::(Wts bd (Wt bd s env t).1 env l).2):=by rw[Wts]
theorem Zfw(bd:BF σ)(s:σ)(env:NM):Wcs bd s env []=(s,[]):=by rw[Wcs]
theorem Zfx(bd:BF σ)(s:σ)(env:NM)(c:Za)(l:U Za):Wcs bd s env (c::l)=((Wcs bd (Wc bd s env c).1 env l).1,(Wc bd s env c).2::(Wcs bd (Wc bd s env c).1 env l).2):=by rw[Wcs]
end
def Zvn:U NM->Y->O Zg
 | [],_=>none
 | m::c,x=>match ZP m x with
   | some v=>some v
   | none=>Zvn c x
def find_eq(x:Y):∀(c:U NM)(F:Nat),c.length<F->Zg5 F c x=some (match Zvn c x with|some v=>(v,true) | none=>(⟨0,0,E0,[]⟩,false)):=by
 intro c
 induction c with
 | nil=>
   intro F hF;obtain⟨G,rfl⟩:∃G,F=G+1:=⟨F-1,by omega⟩
   unfold Zg5;rw[Yj];simp[ZjC,Zvn]
 | cons m c ih=>
   intro F hF;obtain⟨G,rfl⟩:∃G,F=G+1:=⟨F-1,by omega⟩
   unfold Zg5;rw[Yj];show(bif(ZP m x).isSome then some ((ZP m x).getD ⟨0,0,⟨#[]⟩,[]⟩,true) else loop G (ZjC x) c)=_;unfold Zvn;cases hg:ZP m x with
   | some v=>rfl
   | none=>
     have:=ih G (by simp only[KK]at hF;omega);unfold Zg5 at this;simp only[Option.isSome_none,Cq0];rw[this]
def QZ(bad:Y->Z)(l:U Y):Y->Z:=fun x=>bad x && !decide (x∈l)
mutual
def bT (bad:Y->Z):Term->Z
 | .mk op tx ar ds ks=>(!decide (tx=E0)&&bad tx)||bif op==4 then bCs (QZ bad (Qw ds)) ds||bTs (QZ bad (Qw ds)) ks else bTs bad ks
def bTs (bad:Y->Z):U Term->Z
 | []=>false
 | t::l=>bT bad t||bTs bad l
def bC (bad:Y->Z):Za->Z
 | .mk f tx js ds ks=>bif f==2 then bCs bad ds||bTs bad ks else bTs (QZ bad (ZB js)) ks
def bCs (bad:Y->Z):U Za->Z
 | []=>false
 | c::l=>bC bad c||bCs bad l
end
def ZEI(bad:Y->Z)(t:Term):bT bad t=((!decide (t.text=E0)&&bad t.text)||bif t.op==4 then bCs (QZ bad (Qw t.defs)) t.defs||bTs (QZ bad (Qw t.defs)) t.kids else bTs bad t.kids):=by cases t;rw[bT]
def ZzG(bad:Y->Z)(c:Za):bC bad c=bif c.form==2 then bCs bad c.defs||bTs bad c.kids else bTs (QZ bad (ZB c.joins)) c.kids:=by cases c;rw[bC]
def Zfl(bad:Y->Z)(t:Term)(l:U Term):bTs bad (t::l)=(bT bad t||bTs bad l):=by rw[bTs]
def ZhK(bad:Y->Z):bTs bad []=false:=by rw[bTs]
def Zp0(bad:Y->Z)(t:Za)(l:U Za):bCs bad (t::l)=(bC bad t||bCs bad l):=by rw[bCs]
def Znl(bad:Y->Z):bCs bad []=false:=by rw[bCs]
structure CE(c:List NM)(env:NM)(B Bn:List ByteArray)(bad:ByteArray->Bool):Prop where
 get:∀x,Zvn c x=ZP env x
 sz:∀x e,ZP env x=some e->(pre (.ex e)).length<=60
 b:∀x,x∈B↔(ZP env x).isSome=true
 bd:∀x,bad x=true↔∃e,ZP env x=some e/\e.op≠2
 nb:∀x,x∈Bn->x∈B/\bad x=false
def ZnZ{F:Nat}{B Bn:U Y}{bad:Y->Z}{env:NM}(x:Y)(fr:MB)(c:U NM)(hF:c.length<F)(h:CE c env B Bn bad):Zlv F fr c x=some (bif bad x then .Z6 7 else .ok (note fr B x,JG env x)):=by
 unfold Zlv note JG;rw[find_eq x c F hF,Bq0,h.get x];have hb:=h.b x;have hd:=h.bd x;cases hg:ZP env x with
 | none=>
   rw[hg]at hb hd
   have hbad:bad x=false:=by
    cases e:bad x
    ·rfl
    ·obtain⟨_,z,_⟩:=hd.1 e;cases z
   rw[if_neg (by simpa using hb),hbad];rfl
 | some e=>
   rw[hg]at hb hd;rw[if_pos (hb.2 rfl)];by_cases h2:e.op=2
   ·have hbad:bad x=false:=by
     cases e':bad x
     ·rfl
     ·obtain⟨_,z,z2⟩:=hd.1 e';cases z;exact absurd h2 z2
    rw[hbad];simp[h2]
   ·have hbad:bad x=true:=hd.2 ⟨e,rfl,h2⟩;have:(e.op !=2)=true:=by simpa using h2
    rw[hbad];show(bif(e.op !=2) then some (PR.Z6 7) else some (PR.ok (fr,e.text)))=_;rw[this];rfl
def ZhY{F:Nat}{B Bn:U Y}{bad:Y->Z}{env:NM}(x:Y)(fr:MB)(c:U NM)(hF:c.length<F)(h:CE c env B Bn bad)(hx:x∈Bn):ZjB F fr c x=some (fr,JG env x):=by
 obtain⟨h1,h2⟩:=h.nb x hx;unfold ZjB;rw[ZnZ x fr c hF h,h2];show some (id (note fr B x,JG env x))=_;unfold note;rw[if_pos h1];rfl
def Zne{F:Nat}(hF:10000000000000000000<=F):∀n e,(pre (.ex e)).length<=n->n<=60->∀Fr,n<=Fr->loop Fr (ZdZ F) e=some e:=by
 intro n
 induction n with
 | zero=>intro e hn;have:=Xd (.ex e);omega
 | succ n ih=>
   intro e hn h60 Fr hFr;obtain⟨G,rfl⟩:∃G,Fr=G+1:=⟨Fr-1,by omega⟩
   rw[Yj];have hih:∀x∈e.kids,loop G (ZdZ F) x=some x:=fun x hx=>ih x (by have:=Yb (XC hx);omega) V6 G V6
   have hkl:e.kids.length<(pre (.ex e)).length:=by have:=Zaw (.ex e);simpa[ZM]using this
   generalize loop G (ZdZ F)=n1 at hih;unfold ZdZ;have:=YA (body:=ZeY e n1) (fun(k:Nat)(acc:U Zg)=>((k:Int),acc)) e.kids (fun rest acc=>acc.length+rest.length<=1000) (fun rest acc=>some (Zg.mk e.op e.n e.text (acc++rest))) (F:=F) ?_ ?_ V6 [] (by simp;omega)
   ·refine this.trans ?_;rw[Gm];cases e;rfl
   ·intro acc nx _;simp only[ZeY,Yp,Cq0,Gj]
   ·intro k x rest acc nx hx hk hg hp ihl;simp only[KK]at hp;have a1:app 56 acc [x]=some (acc++[x]):=Zag (by simp;omega) V6;simp only[ZeY,Yc hk,Cq1,hg,Bq0,hih x hx,a1];rw[JR V6,ihl _ (by simp;omega),Gk];rfl
def ZLD{F:Nat}(hF:10000000000000000000<=F){B Bn:U Y}{bad:Y->Z}{env:NM}{c:U NM}(hc:CE c env B Bn bad)(hcl:c.length<F):∀n e (fr:MB),(pre (.ex e)).all Uq=true->(pre (.ex e)).length<=n->n<=60->∀Fr,n<=Fr->loop Fr (Zd0 F c) (fr,e)=some (notes B (nmE e) fr,Ka env e):=by
 intro n
 induction n with
 | zero=>intro e fr _ hn;have:=Xd (.ex e);omega
 | succ n ih=>
   intro e fr hs hn h60 Fr hFr;obtain⟨G,rfl⟩:∃G,Fr=G+1:=⟨Fr-1,by omega⟩
   rw[Yj];have hih:∀x∈e.kids,∀fr:MB,loop G (Zd0 F c) (fr,x)=some (notes B (nmE x) fr,Ka env x):=fun x hx fr=>ih x fr (by rw[Ks]at hs ⊢;exact fun y hy=>hs y (Xk (XC hx) hy)) (by have:=Yb (XC hx);omega) V6 G V6
   have hkl:e.kids.length<(pre (.ex e)).length:=by have:=Zaw (.ex e);simpa[ZM]using this
   have hsh:Wl e=true:=Ks.1 hs _ (Xq _);generalize loop G (Zd0 F c)=n1 at hih;rw[Zix,ZjG];unfold Zd0;dsimp only;cases h2:e.op==2
   ·simp only[Cq0,Gm]
    have ht:e.text=E0:=by
     unfold Wl at hsh;rw[h2]at hsh;cases h1:e.op==1<;>rw[h1]at hsh<;>simp only[Cq1,Cq0,Ba0,decide_eq_true_eq]at hsh
     ·exact hsh.1.1.2
     ·exact hsh.1.2
    have:=YA (body:=ZjF e n1) (fun(k:Nat)(s:MB×U Zg)=>((k:Int),s.1,s.2)) e.kids (fun rest s=>s.2.length+rest.length<=1000) (fun rest s=>some (notes B (rest.flatMap nmE) s.1,Zg.mk e.op e.n E0 (s.2++rest.map (Ka env)))) (F:=F) ?_ ?_ V6 (fr,[]) (by simp;omega)
    ·refine this.trans ?_;rw[ht];rfl
    ·intro s nx _;simp only[ZjF,Yp,Cq0,List.map_nil,Gj];rfl
    ·intro k x rest s nx hx hk hg hp ihl;simp only[KK]at hp;simp only[ZjF,Yc hk,Cq1,hg,Bq0,hih x hx];have a1:app 56 s.2 [Ka env x]=some (s.2++[Ka env x]):=Zag (by simp;omega) V6;rw[a1,Bq0,JR V6];refine(ihl (notes B (nmE x) s.1,s.2++[Ka env x]) (by simp;omega)).trans ?_;rw[Kd,Zey,Gk];rfl
   ·have hk:e.kids=[]:=by
     have h2':e.op=2:=by simpa using h2
     unfold Wl at hsh;rw[h2']at hsh;simp only[Int.reduceBEq,Cq1,Cq0,Ba0,beq_iff_eq]at hsh;exact G9 hsh.2
    rw[hk];simp only[Cq1,List.flatMap_nil,Gj];rw[find_eq e.text c F hcl,Bq0,hc.get];have hb:=hc.b e.text;cases hg:ZP env e.text with
    | none=>
      rw[hg]at hb;show some (YT fr e.text true,e)=some (note fr B e.text,e);unfold note;rw[if_neg (by simpa using hb)]
    | some y=>
      rw[hg]at hb;have hy:=Zne hF 60 y (hc.sz _ _ hg) V7 F V6;show((Ztt F y).bind fun z=>some (fr,z))=some (note fr B e.text,y);unfold note Ztt;rw[if_pos (hb.2 rfl),hy];rfl
end
section
structure BE(F:Nat)(I:Nat->MB->Prop)(Yd:UB)(Wz:Za->List ByteArray->Option MB)(frL:Term->Option MB)(bd:BF MB):Prop where
 mono:∀k j tk,I (k+j) tk->I k tk
 t:∀tk c env B Bn bad t k,CE c env B Bn bad->c.length+2*(pre (.pr t)).length<F->B.length+12000*(pre (.pr t)).length<=750000->(pre (.pr t)).all Uq=true->(pre (.pr t)).length<=60->t.op=4->(Qw t.defs).length<=11040->I (k+(Qw t.defs).length) tk ->
  ∃m,Yd tk c (Qw t.defs) (frL t)=some ((bd tk env (Qw t.defs) (.pr t)).1,m)/\CE (m::c) (ext env (Qw t.defs) (bd tk env (Qw t.defs) (.pr t)).2) (B++Qw t.defs) (Bn++Qw t.defs) (QZ bad (Qw t.defs))/\I k (bd tk env (Qw t.defs) (.pr t)).1
 r:∀tk c env B Bn bad p k,CE c env B Bn bad->c.length+2*(pre (.cl p)).length<F->B.length+12000*(pre (.cl p)).length<=750000->(pre (.cl p)).all Uq=true->(pre (.cl p)).length<=60->p.form=1->(ZB p.joins).length<=9->I (k+(ZB p.joins).length) tk ->
  ∃m,Yd tk c (ZB p.joins) (Wz p (ZB p.joins))=some ((bd tk env (ZB p.joins) (.cl p)).1,m)/\CE (m::c) (ext env (ZB p.joins) (bd tk env (ZB p.joins) (.cl p)).2) (B++ZB p.joins) (Bn++ZB p.joins) (QZ bad (ZB p.joins))/\I k (bd tk env (ZB p.joins) (.cl p)).1
def Y8(l:U Evt)(fr:MB):MB:=l.foldl (fun fr e=>note fr e.2 e.1) fr
def JV(a b:U Evt)(fr:MB):Y8 (a++b) fr=Y8 b (Y8 a fr):=List.foldl_append
def Zq3(B:U Y)(l:U Y)(fr:MB):Y8 (l.map fun s=>(s,B)) fr=notes B l fr:=by
 unfold Y8 notes;rw[List.foldl_map]
def TXg(F:Nat)(I:Nat->MB->Prop)(bd:BF MB)(nx:WS×U NM×Term->O (PR (WS×Term)))(t:Term):Prop:=∀fr tk c env B Bn bad k,CE c env B Bn bad->c.length+2*(pre (.pr t)).length<F->B.length+12000*(pre (.pr t)).length<=750000->I (k+12000*(pre (.pr t)).length) tk ->
 nx ((fr,tk),c,t)=some (bif bT bad t then .Z6 7 else .ok ((Y8 (JY (.pr t) B) fr,(Wt bd tk env t).1),(Wt bd tk env t).2))/\(bT bad t=false->I k (Wt bd tk env t).1)
def ZiO{c:Za}(hs:UD c=true):(ZB c.joins).length<=9:=by
 obtain⟨h3,hn3,k,hk⟩:=Kw hs
 have:∀js:U Z4,(∀m∈js,m.names.length<=3)->(ZB js).length<=3*js.length:=by
  intro js
  induction js with
  | nil=>intro _;simp[ZB]
  | cons m js ihj=>
    intro h;have a:=h m (by simp);have b:=ihj fun x hx=>h x (Kf _ hx)
    unfold ZB at b ⊢;rw[Kd,K2,KK];omega
 have:=this c.joins hn3;omega
def ZfS{c:Za}(hs:UD c=true)(hf:c.form=1):c.text=E0/\c.defs=[]:=by
 unfold UD at hs;rw[hf]at hs;simp only[Int.reduceBEq,Cq0,Ba0,decide_eq_true_eq,beq_iff_eq]at hs;exact⟨hs.2.1.1.1.1.2,G9 hs.2.1.1.1.2⟩
def ZFx{F:Nat}(hF:10000000000000000000<=F){I:Nat->MB->Prop}{Yd:UB}{rl:Za->U Y->O MB}{fl:Term->O MB}{bd:BF MB}(hE:BE F I Yd rl fl bd){B Bn:U Y}{bad:Y->Z}{c:U NM}{env:NM}(hc:CE c env B Bn bad)(nx:WS×U NM×Term->O (PR (WS×Term)))(p0:Za)(hs:(pre (.cl p0)).all Uq=true)(h60:(pre (.cl p0)).length<=60)(hf:p0.form=1)(hcl:c.length+2*(pre (.cl p0)).length<F)(hB:B.length+12000*(pre (.cl p0)).length<=750000)(hj:∀m∈p0.joins,m.text∈Bn)(hnx:∀k∈p0.kids,TXg F I bd nx k)(fr tk:MB)(kk:Nat)(hI:I (kk+12000*(pre (.cl p0)).length) tk):
 Zlu F Yd rl nx (fr,tk) c p0=some (bif bC bad p0 then .Z6 7 else .ok ((Y8 (JY (.cl p0) B) fr,(Wc bd tk env p0).1),(Wc bd tk env p0).2))/\(bC bad p0=false->I kk (Wc bd tk env p0).1):=by
 have hsC:UD p0=true:=Ks.1 hs _ (Xq _);obtain⟨h3,hn3,k,hk⟩:=Kw hsC;have hd:=ZfS hsC hf;have hkl:=Yb (Y3 (c:=p0) (x:=k) (by rw[hk];simp));have hjl:=ZiO hsC;obtain⟨mb,hb,hci,hIb⟩:=hE.r tk c env B Bn bad p0 (kk+12000*(pre (.pr k)).length) hc hcl hB hs h60 hf hjl (hE.mono _ (12000*(pre (.cl p0)).length-12000*(pre (.pr k)).length-(ZB p0.joins).length) _ (by refine(congrArg (fun z=>I z tk) ?_).mp hI;omega));have he:JY (.cl p0) B=JY (.pr k) (B++ZB p0.joins):=by rw[ZjK,hd.2,hk];simp
 have hne:p0.form≠2:=V6
 have hbc:bC bad p0=bT (QZ bad (ZB p0.joins)) k:=by
  rw[ZzG,hf,hk];show bTs _ [k]=_;rw[Zfl,ZhK,Bool.or_false]
 have hin:inC bd tk env p0=((bd tk env (ZB p0.joins) (.cl p0)).1,ext env (ZB p0.joins) (bd tk env (ZB p0.joins) (.cl p0)).2):=by
  unfold inC;rw[hf];rfl
 rw[ZhP hne,hin,hk,ZaJ,Zc4,he,hbc];dsimp only;generalize bd tk env (ZB p0.joins) (.cl p0)=bv at hb hci hIb;obtain⟨tk1,to⟩:=bv;dsimp only at hb hci hIb ⊢;generalize hen:ext env (ZB p0.joins) to=en at hci ⊢;have hkx:=fun fr=>hnx k (by rw[hk];simp) fr tk1 _ _ _ _ _ kk hci (by simp only[KK];omega) (by rw[K2];omega) hIb
 refine⟨?_,(hkx fr).2⟩
 have hb2:∀(i:Int) next js (m:Z4) fr,m∈p0.joins->js.length<=10->loop F (ZcS F (mb::c) i next js m (JG env m.text)) (0,fr,[])=next (XD (i+1),fr,js++[Us env en m]):=fun i next js m fr hm hjs=>by
  have hmn:=hn3 m hm;have:=YA (body:=ZcS F (mb::c) i next js m (JG env m.text)) (fun(q:Nat)(ns:U Y)=>((q:Int),fr,ns)) m.names (fun rest ns=>ns.length+rest.length<=10) (fun rest ns=>next (XD (i+1),fr,js++[Z4.mk (JG env m.text) (ns++rest.map (JG en))])) (F:=F) ?_ ?_ V6 [] (by simp;omega)
  ·refine this.trans ?_;rw[Gm];rfl
  ·intro ns nx' hp;have a1:app 40 js [Z4.mk (JG env m.text) ns]=some (js++[Z4.mk (JG env m.text) ns]):=Zag (by simp;omega) V6;simp only[ZcS,Yp,Cq0,a1,Bq0,List.map_nil,Gj]
  ·intro q x rest ns nx' hx hq hg hp ih;simp only[KK]at hp;have hxb:x∈Bn++ZB p0.joins:=G4 _ (Q3.2 ⟨m,hm,hx⟩);have ht:=ZhY (F:=F) x fr (mb::c) (by simp only[KK];omega) hci hxb;have a1:app 16 ns [JG en x]=some (ns++[JG en x]):=Zag (by simp;omega) V6;simp only[ZcS,Yc hq,Cq1,hg,Bq0,ht,a1];rw[JR V6,ih _ (by simp;omega),Gk];rfl
 have hb1:∀fr:MB,loop F (ZcT F nx c (mb::c) tk1 p0) (0,fr,[])=some (bif bT (QZ bad (ZB p0.joins)) k then .Z6 7 else .ok ((Y8 (JY (.pr k) (B++ZB p0.joins)) fr,(Wt bd tk1 en k).1),Za.mk p0.form E0 (p0.joins.map (Us env en)) [] [(Wt bd tk1 en k).2])):=fun fr=>by
  refine YA (body:=ZcT F nx c (mb::c) tk1 p0) (fun(q:Nat)(js:U Z4)=>((q:Int),fr,js)) p0.joins (fun rest js=>js.length+rest.length<=10) (fun rest js=>some (bif bT (QZ bad (ZB p0.joins)) k then .Z6 7 else .ok ((Y8 (JY (.pr k) (B++ZB p0.joins)) fr,(Wt bd tk1 en k).1),Za.mk p0.form E0 (js++rest.map (Us env en)) [] [(Wt bd tk1 en k).2]))) (F:=F) ?_ ?_ V6 [] (by simp;omega)
  ·intro js nx' hp;have g0:YH p0.kids 0=some k:=by rw[hk];rfl
   simp only[ZcT,Yp,Cq0,g0,Bq0];rw[(hkx fr).1,Bq0,List.map_nil,Gj];cases bT (QZ bad (ZB p0.joins)) k<;>rfl
  ·intro q m rest js nx' hm hq hg hp ih;have ht:=ZhY (F:=F) m.text fr c V6 hc (hj m hm);simp only[KK]at hp;simp only[ZcT,Yc hq,Cq1,hg,Bq0,ht];rw[hb2 _ _ js m fr hm V6,JR V6,ih _ (by simp;omega),Gk];rfl
 unfold Zlu;have:=YA (body:=ZeX F Yd rl nx (fr,tk) c p0) (fun(q:Nat)(ns:U Y)=>((q:Int),ns)) p0.joins (fun rest ns=>ns++ZB rest=ZB p0.joins/\ns.length<=9) (fun _ _=>some (bif bT (QZ bad (ZB p0.joins)) k then .Z6 7 else .ok ((Y8 (JY (.pr k) (B++ZB p0.joins)) fr,(Wt bd tk1 en k).1),Za.mk p0.form E0 (p0.joins.map (Us env en)) [] [(Wt bd tk1 en k).2]))) (F:=F) ?_ ?_ V6 [] ⟨rfl,GE _⟩
 ·exact this
 ·intro ns nx' hp;have hns:ns=ZB p0.joins:=by have:=hp.1;simpa[ZB]using this
  subst hns;simp only[ZeX,Yp,Cq0];rw[hb,Bq0];exact hb1 fr
 ·intro q m rest ns nx' hm hq hg hp ih;have hmn:=hn3 m hm;have a1:app 16 ns m.names=some (ns++m.names):=Zag V6 V6;simp only[ZeX,Yc hq,Cq1,hg,Bq0,a1];rw[JR V6];refine ih _ ⟨?_,?_⟩
  ·have:=hp.1;unfold ZB at this ⊢;rw[Kd]at this;rw[Gk];exact this
  ·have:=congrArg List.length hp.1;unfold ZB at this;rw[Kd,K2,K2]at this;unfold ZB at hjl;rw[K2];omega
def Zet{α β:Type}(y:α)(p:Int->O β)(k:α->O β):JL (.ok y) p k=k y:=rfl
def ZiI{α σ β γ:Type}{body:γ->(γ->O β)->O β}(st:Nat->σ->γ)(l:U α)(Pre:U α->σ->Prop)(Q:U α->σ->O β->Prop)
 (h0:∀s nx,Pre [] s->Q [] s (body (st l.length s) nx))
 (h1:∀(k:Nat) x rest s nx,x∈l->k<l.length->YH l (k:Int)=some x->Pre (x::rest) s->(∀s',Pre rest s'->Q rest s' (nx (st (k+1) s')))->Q (x::rest) s (body (st k s) nx)) {F:Nat} (hF:l.length<F) (s:σ) (hp:Pre l s):Q l s (loop F body (st 0 s)):=by
 have key:∀(d j F:Nat)(s:σ),j+d=l.length->d<F->Pre (l.drop j) s->Q (l.drop j) s (loop F body (st j s)):=by
  intro d
  induction d with
  | zero=>
    intro j F s hj hF hp;obtain⟨F,rfl⟩:∃G,F=G+1:=⟨F-1,by omega⟩
    obtain rfl:j=l.length:=V6
    rw[List.drop_length]at hp ⊢;rw[Yj];exact h0 _ _ hp
  | succ d ih=>
    intro j F s hj hF hp;obtain⟨F,rfl⟩:∃G,F=G+1:=⟨F-1,by omega⟩
    have hjl:j<l.length:=V6
    rw[List.drop_eq_getElem_cons hjl]at hp ⊢;rw[Yj];exact h1 j _ _ s _ (GM hjl) hjl (Qn hjl) hp fun s' hp'=>ih (j+1) F s' V6 V6 hp'
 have:=key l.length 0 F s V6 hF (by simpa using hp)
 simpa using this
def ZfO{t:Term}(h:K8 t=true)(h4:t.op≠4):t.defs=[]:=by
 have e4:(t.op==4)=false:=by simpa using h4
 unfold K8 szs at h;rw[e4,Ba0]at h;obtain⟨h,_⟩:=h
 have z:t.defs.length=0:=by
  cases a:(t.op==1)||(t.op==7)<;>rw[a]at h
  ·cases b:t.op==2<;>rw[b]at h
   ·cases c:t.op==3<;>rw[c]at h
    ·cases d:t.op==5<;>rw[d]at h<;>simp only[Cq1,Cq0,Ba0,beq_iff_eq]at h
     ·exact h.2.1.2
     ·exact h.1.2
    ·simp only[Cq1,Cq0,Ba0,beq_iff_eq]at h;exact h.1.2
   ·simp only[Cq1,Cq0,Ba0,beq_iff_eq]at h;exact h.2.1.2
  ·simp only[Cq1,Cq0,Ba0,beq_iff_eq]at h;exact h.1.2
 exact G9 z
structure TB(B:List ByteArray)(l:List Za):Prop where
 j:∀sp∈(E0,l)::l.flatMap X0,∀c∈sp.2,∀m∈c.joins,m.text∈B
 p:∀sp∈l.flatMap X0,sp.1∈B
def TB.sub{B:U Y}{l:U Za}(h:TB B l){c:Za}(hc:c∈l)(h2:c.form=2):TB B c.defs:=by
 have e:X0 c=(c.text,c.defs)::c.defs.flatMap X0:=by rw[UM,h2];rfl
 have hin:∀sp,sp∈(c.text,c.defs)::c.defs.flatMap X0->sp∈l.flatMap X0:=fun sp hsp=>Q3.2 ⟨c,hc,by rw[e];exact hsp⟩
 constructor
 ·intro sp hsp d hd m hm;rcases Kx.1 hsp with rfl|hsp
  ·exact h.j (c.text,c.defs) (Kf _ (hin _ Gs)) d hd m hm
  ·exact h.j sp (Kf _ (hin _ (Kf _ hsp))) d hd m hm
 ·exact fun sp hsp=>h.p sp (hin _ (Kf _ hsp))
def TB.text{B:U Y}{l:U Za}(h:TB B l){c:Za}(hc:c∈l)(h2:c.form=2):c.text∈B:=h.p (c.text,c.defs) (Q3.2 ⟨c,hc,by rw[UM,h2];exact Gs⟩)
def ZAd{l:U Za}(B:U Y):TB (B++Qw l) l:=
 ⟨fun sp hsp c hc m hm=>G4 _ (Gf _ (Zwk hsp hc hm)),fun sp hsp=>G4 _ (G4 _ (ZuJ hsp))⟩
section
variable{F:Nat}{I:Nat->MB->Prop}{Yd:UB}{rl:Za->U Y->O MB}{fl:Term->O MB}{bd:BF MB}
def Zqj(hE:BE F I Yd rl fl bd){a b:Nat}{tk:MB}(h:b<=a)(hI:I a tk):I b tk:=hE.mono b (a-b) tk (by rw[show b+(a-b)=a by omega];exact hI)
def Zvm(hF:10000000000000000000<=F)(hE:BE F I Yd rl fl bd){B Bn:U Y}{bad:Y->Z}{c:U NM}{env:NM}(hc:CE c env B Bn bad)(nx:WS×U NM×Term->O (PR (WS×Term))):∀n (l:U Za),((l.map Part.cl).flatMap pre).length<=n->n<=60->(∀x∈(l.map Part.cl).flatMap pre,Uq x=true)->(∀t,Part.pr t∈(l.map Part.cl).flatMap pre->TXg F I bd nx t)->TB Bn l ->
 ∀Fr,n<Fr->∀(fr tk:MB)(kk:Nat),c.length+2*((l.map Part.cl).flatMap pre).length<F->B.length+12000*((l.map Part.cl).flatMap pre).length<=750000->I (kk+12000*((l.map Part.cl).flatMap pre).length) tk ->
 loop Fr (Zb5 F Yd rl nx c) ((fr,tk),l)=some (bif bCs bad l then .Z6 7 else .ok ((Y8 (l.flatMap fun d=>JY (.cl d) B) fr,(Wcs bd tk env l).1),(Wcs bd tk env l).2))/\(bCs bad l=false->I kk (Wcs bd tk env l).1):=by
 intro n
 induction n with
 | zero=>
   intro l hl _ _ _ _ Fr hFr fr tk kk _ _ hI
   have:l=[]:=by
    cases l with
    | nil=>rfl
    | cons x l=>simp only[G8,Kd,K2]at hl;have:=Xd (.cl x);omega
   subst this;obtain⟨G,rfl⟩:∃G,Fr=G+1:=⟨Fr-1,by omega⟩
   rw[Yj];rw[Zfw,Znl];refine⟨?_,fun _=>Zqj hE V6 hI⟩;unfold Zb5;dsimp only;cases F with
   | zero=>omega
   | succ F=>rw[Yj];rfl
 | succ n ih=>
   intro l hl h60 hs hnx htb Fr hFr fr tk kk hcl hB hI;obtain⟨G,rfl⟩:∃G,Fr=G+1:=⟨Fr-1,by omega⟩
   rw[Yj];have hlen:=Zg8 l
   have hih:∀x∈l,x.form=2->∀(fr tk:MB)(kk:Nat),I (kk+12000*((x.defs.map Part.cl).flatMap pre).length) tk->loop G (Zb5 F Yd rl nx c) ((fr,tk),x.defs)=some (bif bCs bad x.defs then .Z6 7 else .ok ((Y8 (x.defs.flatMap fun d=>JY (.cl d) B) fr,(Wcs bd tk env x.defs).1),(Wcs bd tk env x.defs).2))/\(bCs bad x.defs=false->I kk (Wcs bd tk env x.defs).1):=fun x hx h2 fr tk kk hI=>by
    have hsub:∀y∈(x.defs.map Part.cl).flatMap pre,y∈(l.map Part.cl).flatMap pre:=fun y hy=>by
     obtain⟨z,hz,hy⟩:=Q3.1 hy;obtain⟨d,hd,rfl⟩:=G3.1 hz;exact Q3.2 ⟨_,Gp hx,Xk (XO hd) hy⟩
    have h1:((x.defs.map Part.cl).flatMap pre).length<(pre (.cl x)).length:=by
     rw[Jg (.cl x)];show _<((x.defs.map Part.cl++x.kids.map Part.pr).flatMap pre).length+1;rw[Gu,K2];omega
    have h2':=U4 (Gp (f:=Part.cl) hx);exact ih x.defs V6 V6 (fun y hy=>hs y (hsub y hy)) (fun t ht=>hnx t (hsub _ ht)) (htb.sub hx h2) G V6 fr tk kk V6 V6 hI
   generalize loop G (Zb5 F Yd rl nx c)=n1 at hih;unfold Zb5;dsimp only
   have:=ZiI (body:=Zjy F Yd rl nx c l n1) (fun(q:Nat)(s:MB×MB×U Za)=>((q:Int),(s.1,s.2.1),s.2.2)) l
    (fun rest s=>s.2.2.length+rest.length<=70/\I (kk+12000*((rest.map Part.cl).flatMap pre).length) s.2.1)
    (fun rest s r=>r=some (bif bCs bad rest then .Z6 7 else .ok ((Y8 (rest.flatMap fun d=>JY (.cl d) B) s.1,(Wcs bd s.2.1 env rest).1),s.2.2++(Wcs bd s.2.1 env rest).2))/\(bCs bad rest=false->I kk (Wcs bd s.2.1 env rest).1)) (F:=F) ?_ ?_ V6 (fr,tk,[]) ⟨by simp;omega,hI⟩
   ·obtain⟨e,hi⟩:=this;dsimp only at e hi;rw[Gm]at e;exact⟨e,hi⟩
   ·rintro⟨fr,tk,acc⟩ nx' ⟨hp1,hp2⟩;dsimp only at hp1 hp2 ⊢;rw[Zfw,Znl];refine⟨?_,fun _=>Zqj hE V6 hp2⟩;simp only[Zjy,Yp,Cq0,Gj];rfl
   ·rintro q x rest ⟨fr,tk,acc⟩ nx' hx hq hg ⟨hp1,hp2⟩ hr;dsimp only at hp1 hp2 ⊢;rw[G8,Kd,K2]at hp2;simp only[KK]at hp1;have ZBC:∀y∈pre (.cl x),y∈(l.map Part.cl).flatMap pre:=fun y hy=>Q3.2 ⟨_,Gp hx,hy⟩
    have hxs:(pre (.cl x)).all Uq=true:=Ks.2 fun y hy=>hs y (ZBC y hy)
    have hxC:UD x=true:=hs _ (ZBC _ (Xq _));have hxl:=U4 (Gp (f:=Part.cl) hx)
    have hif:x.form=1\/x.form=2:=by
     rcases(ZaU hxC).2 with h|h
     ·exact .inl h
     ·exact .inr h.1
    rw[Kd,Zfx,Zp0,JV];dsimp only;have fin:∀y:Za,app 96 acc [y]=some (acc++[y]):=fun y=>Zag (by simp;omega) V6
    have main:(bif x.form==2 then(ZjB F fr c x.text).bind fun y=>(n1 ((y.1,tk),x.defs)).bind fun d=>JL d (fun e=>some (.Z6 e)) fun d=>(YH x.kids 0).bind fun k=>(nx (d.1,c,k)).bind fun z=>JL z (fun e=>some (.Z6 e)) fun z=>(app 96 acc [Za.mk x.form y.2 [] d.2 [z.2]]).bind fun a=>nx' (XD ((q:Int)+1),z.1,a) else(Zlu F Yd rl nx (fr,tk) c x).bind fun z=>JL z (fun e=>some (.Z6 e)) fun z=>(app 96 acc [z.2]).bind fun a=>nx' (XD ((q:Int)+1),z.1,a))=(bif bC bad x then some (.Z6 7) else nx' (XD ((q:Int)+1),(Y8 (JY (.cl x) B) fr,(Wc bd tk env x).1),acc++[(Wc bd tk env x).2]))/\(bC bad x=false->I (kk+12000*((rest.map Part.cl).flatMap pre).length) (Wc bd tk env x).1):=by
     rcases hif with h1|h2
     ·have hne:(x.form==2)=false:=by rw[h1];rfl
      obtain⟨e,hi⟩:=ZFx hF hE hc nx x hxs V6 h1 V6 V6 (fun m hm=>htb.j (E0,l) Gs x hx m hm) (fun k hk=>hnx k (ZBC _ (Xk (Y3 hk) (Xq _)))) fr tk (kk+12000*((rest.map Part.cl).flatMap pre).length) (Zqj hE V6 hp2);rw[hne];simp only[Cq0];rw[e,Bq0];refine⟨?_,hi⟩;cases bC bad x
      ·simp only[Cq0,Zet,fin,Bq0]
      ·rfl
     ·have he2:(x.form==2)=true:=by rw[h2];rfl
      obtain⟨_,_,k,hk⟩:=Kw hxC
      have hj0:x.joins=[]:=by
       rcases(ZaU hxC).2 with h|h
       ·omega
       ·exact h.2
      have hsz:(pre (.cl x)).length=((x.defs.map Part.cl).flatMap pre).length+(pre (.pr k)).length+1:=by
       rw[Jg];show((x.defs.map Part.cl++x.kids.map Part.pr).flatMap pre).length+1=_;rw[hk,Gu,K2];simp
      have hbc:bC bad x=(bCs bad x.defs||bT bad k):=by
       rw[ZzG,h2,hk];show(bCs bad x.defs||bTs bad [k])=_;rw[Zfl,ZhK,Bool.or_false]
      obtain⟨e1,i1⟩:=hih x hx h2 fr tk (kk+12000*((rest.map Part.cl).flatMap pre).length+12000*(pre (.pr k)).length) (Zqj hE V6 hp2);have hkm:k∈x.kids:=by rw[hk];simp
      have ht:=ZhY (F:=F) x.text fr c V6 hc (htb.text hx h2);have g0:YH x.kids 0=some k:=by rw[hk];rfl
      rw[he2,hbc];simp only[Cq1];rw[ht,Bq0,e1,Bq0];cases hbd:bCs bad x.defs
      ·obtain⟨e2,i2⟩:=hnx k (ZBC _ (Xk (Y3 hkm) (Xq _))) (Y8 (x.defs.flatMap fun d=>JY (.cl d) B) fr) (Wcs bd tk env x.defs).1 c env B Bn bad (kk+12000*((rest.map Part.cl).flatMap pre).length) hc V6 V6 (i1 hbd);rw[Zfy h2,hk,ZaJ,Zc4,ZjK,hj0,hk];refine⟨?_,i2⟩;simp only[Cq0,Zet,Bool.false_or];rw[show YH [k] 0=some k from rfl,Bq0,e2,Bq0];cases bT bad k
       ·simp only[Cq0,Zet,fin,Bq0,ZB,List.flatMap_nil,Gj,Kd,JV]
       ·rfl
      ·exact⟨rfl,fun z=>by cases z⟩
    obtain⟨m1,m2⟩:=main;simp only[Zjy,Yc hq,Cq1,hg,Bq0];rw[m1];cases hbx:bC bad x
    ·have:=hr (Y8 (JY (.cl x) B) fr,(Wc bd tk env x).1,acc++[(Wc bd tk env x).2]) ⟨by simp;omega,m2 hbx⟩;rw[JR V6];obtain⟨r1,r2⟩:=this;dsimp only at r1 r2;refine⟨?_,r2⟩;rw[Cq0,r1,Gk];rfl
    ·exact⟨rfl,fun z=>by cases z⟩
def Zwl(hF:10000000000000000000<=F)(hE:BE F I Yd rl fl bd):∀n t,(pre (.pr t)).all Uq=true->(pre (.pr t)).length<=n->n<=60->∀Fr,n<=Fr->TXg F I bd (loop Fr (Zb8 F Yd rl fl)) t:=by
 intro n
 induction n with
 | zero=>intro t _ hn;have:=Xd (.pr t);omega
 | succ n ih=>
   intro t hs hn h60 Fr hFr fr tk c env B Bn bad kk hc hcl hB hI;obtain⟨G,rfl⟩:∃G,Fr=G+1:=⟨Fr-1,by omega⟩
   rw[Yj]
   have hsz:(pre (.pr t)).length=((t.args.map Part.ex).flatMap pre).length+(((t.defs.map Part.cl).flatMap pre).length+((t.kids.map Part.pr).flatMap pre).length)+1:=by
    rw[Jg];show((t.args.map Part.ex++t.defs.map Part.cl++t.kids.map Part.pr).flatMap pre).length+1=_;rw[Gu,Gu,K2,K2];omega
   have hall:∀{x},x∈pre (.pr t)->(pre x).all Uq=true:=fun hx=>by
    rw[Ks]at hs ⊢;exact fun y hy=>hs y (Zdl hy hx)
   have hnext:∀x,Part.pr x∈pre (.pr t)->(pre (.pr x)).length<=n->TXg F I bd (loop G (Zb8 F Yd rl fl)) x:=fun x hx hl=>ih x (hall hx) hl V6 G V6
   generalize loop G (Zb8 F Yd rl fl)=n1 at hnext;have hal:t.args.length<=((t.args.map Part.ex).flatMap pre).length:=by have:=KX (t.args.map Part.ex);simpa using this
   have hkl:t.kids.length<=((t.kids.map Part.pr).flatMap pre).length:=by have:=KX (t.kids.map Part.pr);simpa using this
   have hk:∀(fr tk:MB)(c:U NM)(env:NM)(B Bn:U Y)(bad:Y->Z)(tx:Y)(args:U Zg)(ds:U Za),CE c env B Bn bad->c.length+2*((t.kids.map Part.pr).flatMap pre).length<F->B.length+12000*((t.kids.map Part.pr).flatMap pre).length<=750000->I (kk+12000*((t.kids.map Part.pr).flatMap pre).length) tk ->
    UZ F t n1 tx args ((fr,tk),c,ds)=some (bif bTs bad t.kids then .Z6 7 else .ok ((Y8 (t.kids.flatMap fun k=>JY (.pr k) B) fr,(Wts bd tk env t.kids).1),Term.mk t.op tx args ds (Wts bd tk env t.kids).2))/\(bTs bad t.kids=false->I kk (Wts bd tk env t.kids).1):=fun fr tk c env B Bn bad tx args ds hc hcl hB hI=>by
    unfold UZ;dsimp only
    have:=ZiI (body:=Ze3 t n1 c tx args ds) (fun(q:Nat)(s:MB×MB×U Term)=>((q:Int),(s.1,s.2.1),s.2.2)) t.kids
     (fun rest s=>s.2.2.length+rest.length<=70/\I (kk+12000*((rest.map Part.pr).flatMap pre).length) s.2.1)
     (fun rest s r=>r=some (bif bTs bad rest then .Z6 7 else .ok ((Y8 (rest.flatMap fun k=>JY (.pr k) B) s.1,(Wts bd s.2.1 env rest).1),Term.mk t.op tx args ds (s.2.2++(Wts bd s.2.1 env rest).2)))/\(bTs bad rest=false->I kk (Wts bd s.2.1 env rest).1)) (F:=F) ?_ ?_ V6 (fr,tk,[]) ⟨by simp;omega,hI⟩
    ·obtain⟨e,hi⟩:=this;dsimp only at e hi;rw[Gm]at e;exact⟨e,hi⟩
    ·rintro⟨fr,tk,acc⟩ nx' ⟨hp1,hp2⟩;dsimp only at hp1 hp2 ⊢;rw[Zc4,ZhK];refine⟨?_,fun _=>Zqj hE V6 hp2⟩;simp only[Ze3,Yp,Cq0,Gj];rfl
    ·rintro q x rest ⟨fr,tk,acc⟩ nx' hx hq hg ⟨hp1,hp2⟩ hr;dsimp only at hp1 hp2 ⊢;rw[G8,Kd,K2]at hp2;simp only[KK]at hp1;have hxl:=U4 (Gp (f:=Part.pr) hx);have hkx:=Yb (Xr hx);obtain⟨e2,i2⟩:=hnext x (Xk (Xr hx) (Xq _)) V6 fr tk c env B Bn bad (kk+12000*((rest.map Part.pr).flatMap pre).length) hc V6 V6 (Zqj hE V6 hp2);have fin:app 96 acc [(Wt bd tk env x).2]=some (acc++[(Wt bd tk env x).2]):=Zag (by simp;omega) V6;rw[Kd,ZaJ,Zfl,JV];dsimp only;simp only[Ze3,Yc hq,Cq1,hg,Bq0,e2];cases hbx:bT bad x
     ·have:=hr (Y8 (JY (.pr x) B) fr,(Wt bd tk env x).1,acc++[(Wt bd tk env x).2]) ⟨by simp;omega,i2 hbx⟩;obtain⟨r1,r2⟩:=this;dsimp only at r1 r2;refine⟨?_,r2⟩;simp only[Cq0,Zet,fin,Bq0,Bool.false_or];rw[JR V6,r1,Gk];rfl
     ·exact⟨rfl,fun z=>by cases z⟩
   have ha:∀(fr:MB)(tx:Y),Za4 F Yd rl fl t n1 tk c (fr,tx)=(bif t.op==4 then(ZrC F t.defs).bind fun cp=>(app 16 cp.1 cp.2).bind fun names=>(Yd tk c names (fl t)).bind fun bd=>(Zts F Yd rl n1 (bd.2::c) (notes B (t.args.flatMap nmE) fr,bd.1) t.defs).bind fun d=>JL d (fun e=>some (.Z6 e)) fun d=>UZ F t n1 tx (t.args.map (Ka env)) (d.1,bd.2::c,d.2) else UZ F t n1 tx (t.args.map (Ka env)) ((notes B (t.args.flatMap nmE) fr,tk),c,[])):=fun fr tx=>by
    unfold Za4;dsimp only
    refine YA (body:=Ze4 F Yd rl fl t n1 tk c tx) (fun(q:Nat)(s:MB×U Zg)=>((q:Int),s.1,s.2)) t.args (fun rest s=>s.2.length+rest.length<=70)
     (fun rest s=>(bif t.op==4 then(ZrC F t.defs).bind fun cp=>(app 16 cp.1 cp.2).bind fun names=>(Yd tk c names (fl t)).bind fun bd=>(Zts F Yd rl n1 (bd.2::c) (notes B (rest.flatMap nmE) s.1,bd.1) t.defs).bind fun d=>JL d (fun e=>some (.Z6 e)) fun d=>UZ F t n1 tx (s.2++rest.map (Ka env)) (d.1,bd.2::c,d.2) else UZ F t n1 tx (s.2++rest.map (Ka env)) ((notes B (rest.flatMap nmE) s.1,tk),c,[]))) (F:=F) ?_ ?_ V6 (fr,[]) (by simp;omega)
    ·rintro⟨fr,acc⟩ nx' hp;simp only[Ze4,Yp,Cq0,List.map_nil,Gj,List.flatMap_nil];rfl
    ·rintro q x rest ⟨fr,acc⟩ nx' hx hq hg hp hr;simp only[KK]at hp;have hkx:=Yb (Ju hx);have he:ZEB F c fr x=some (notes B (nmE x) fr,Ka env x):=ZLD hF hc V6 n x fr (hall (Xk (Ju hx) (Xq _))) V6 V6 F V6;have fin:app 56 acc [Ka env x]=some (acc++[Ka env x]):=Zag (by simp;omega) V6;simp only[Ze4,Yc hq,Cq1,hg,Bq0,he,fin];rw[JR V6];refine(hr (notes B (nmE x) fr,acc++[Ka env x]) (by simp;omega)).trans ?_;simp only[Kd,Zey,G8,Gk,List.singleton_append]
   have hb:∀(fr:MB)(tx:Y),tx=tx0 env t.text->Za4 F Yd rl fl t n1 tk c (fr,tx)=some (bif(bif t.op==4 then bCs (QZ bad (Qw t.defs)) t.defs||bTs (QZ bad (Qw t.defs)) t.kids else bTs bad t.kids) then .Z6 7 else .ok ((Y8 (((t.args.flatMap nmE).map fun s=>(s,B))++(t.defs.flatMap (fun c=>JY (.cl c) (bnd t B))++t.kids.flatMap (fun k=>JY (.pr k) (bnd t B)))) fr,(Wt bd tk env t).1),(Wt bd tk env t).2))/\((bif t.op==4 then bCs (QZ bad (Qw t.defs)) t.defs||bTs (QZ bad (Qw t.defs)) t.kids else bTs bad t.kids)=false->I kk (Wt bd tk env t).1):=fun fr tx htx=>by
    rw[ha,JV,JV,Zq3];by_cases h4:t.op=4
    ·have e4:(t.op==4)=true:=by rw[h4];rfl
     obtain⟨a,b,c'⟩:=Zmk V6 hs (Xq (.pr t));obtain⟨n1',n2'⟩:=ZpL a b c';have hdl:(Qw t.defs).length<=11040:=by unfold Qw;rw[K2];omega
     have hbn:bnd t B=B++Qw t.defs:=by unfold bnd;rw[e4];rfl
     have hin:inT bd tk env t=((bd tk env (Qw t.defs) (.pr t)).1,ext env (Qw t.defs) (bd tk env (Qw t.defs) (.pr t)).2):=by unfold inT;rw[e4];rfl
     obtain⟨mb,hbb,hci,hIb⟩:=hE.t tk c env B Bn bad t (kk+12000*((t.kids.map Part.pr).flatMap pre).length+12000*((t.defs.map Part.cl).flatMap pre).length) hc hcl hB hs V6 h4 hdl (Zqj hE V6 hI);rw[Znz h4,hin,hbn,e4];simp only[Cq1];generalize bd tk env (Qw t.defs) (.pr t)=bv at hbb hci hIb;obtain⟨tk1,to⟩:=bv;dsimp only at hbb hci hIb ⊢;generalize ext env (Qw t.defs) to=en at hci ⊢;have a1:app 16 (Zdc t.defs).1 (Zdc t.defs).2=some (Qw t.defs):=Zag V6 V6;rw[Zzs hF t.defs a b c',Bq0,a1,Bq0,hbb,Bq0];dsimp only;have hBl:(B++Qw t.defs).length<=B.length+11040:=by rw[K2];omega
     obtain⟨e1,i1⟩:=Zvm hF hE hci n1 n t.defs V6 V6 (fun y hy=>Ks.1 hs y (by rw[pre_eq];refine Kf _ ?_;show y∈(t.args.map Part.ex++t.defs.map Part.cl++t.kids.map Part.pr).flatMap pre;rw[Gu,Gu];exact Gf _ (G4 _ hy)))
      (fun y hy=>by
        have hym:Part.pr y∈pre (.pr t):=by rw[pre_eq];refine Kf _ ?_;show _∈(t.args.map Part.ex++t.defs.map Part.cl++t.kids.map Part.pr).flatMap pre;rw[Gu,Gu];exact Gf _ (G4 _ hy)
        obtain⟨z,hz,hyz⟩:=Q3.1 hy;obtain⟨d,hd,rfl⟩:=G3.1 hz;have:=KP hyz;have:=U4 hz;exact hnext y hym V6) (ZAd Bn) F V6 (notes B (t.args.flatMap nmE) fr) tk1 (kk+12000*((t.kids.map Part.pr).flatMap pre).length) (by simp only[KK];omega) V6 hIb
     unfold Zts;rw[e1,Bq0];cases hbd:bCs (QZ bad (Qw t.defs)) t.defs
     ·obtain⟨e2,i2⟩:=hk (Y8 (t.defs.flatMap fun d=>JY (.cl d) (B++Qw t.defs)) (notes B (t.args.flatMap nmE) fr)) (Wcs bd tk1 en t.defs).1 (mb::c) en (B++Qw t.defs) (Bn++Qw t.defs) (QZ bad (Qw t.defs)) tx (t.args.map (Ka env)) (Wcs bd tk1 en t.defs).2 hci (by simp only[KK];omega) V6 (i1 hbd);refine⟨?_,i2⟩;simp only[Cq0,Zet,Bool.false_or];rw[e2,htx]
     ·exact⟨rfl,fun z=>by cases z⟩
    ·have e4:(t.op==4)=false:=by simpa using h4
     have hbn:bnd t B=B:=by unfold bnd;rw[e4];rfl
     have hd0:t.defs=[]:=ZfO (Ks.1 hs _ (Xq (.pr t))) h4;rw[ZhO h4,hbn,e4,hd0];simp only[Cq0,List.flatMap_nil];obtain⟨e2,i2⟩:=hk (notes B (t.args.flatMap nmE) fr) tk c env B Bn bad tx (t.args.map (Ka env)) [] hc V6 V6 (Zqj hE V6 hI);refine⟨?_,i2⟩;rw[e2,htx];rfl
   rw[Zm1,ZEI];unfold Zb8;dsimp only;by_cases ht:t.text=E0
   ·have:decide (t.text=(⟨#[]⟩:Y))=true:=decide_eq_true ht;rw[this,if_pos ht];simp only[QP,Cq0,Gm,Bool.false_and,Bool.false_or];exact hb fr E0 (by unfold tx0;rw[if_pos ht])
   ·have:decide (t.text=(⟨#[]⟩:Y))=false:=decide_eq_false ht;rw[this,if_neg ht];simp only[Gz,Cq1,GH];rw[ZnZ t.text fr c V6 hc,Bq0];cases hbx:bad t.text
    ·simp only[Bool.false_or];exact hb (note fr B t.text) (JG env t.text) (by unfold tx0;rw[if_neg ht])
    ·exact⟨rfl,fun z=>by cases z⟩
end
end
end Go.Proofs.YtbnepjakjmnadaaGreat
end
end
