/- Part 17. -/
import Derived.WalkKit
import Derived.OpenShut
import Derived.Carry
import Derived.Test.YtbnepjakjmnadaaGreatSb16
set_option linter.all false
set_option maxHeartbeats 2000000
section
noncomputable section
namespace Go.ZU
open Go.Lf
variable{P:V2}
def Uw(P:V2){l:Type}(e:U8 l)(V'':l->Prop)(t:J):Prop:=P.cellsOf t=e.sz/\∀{E:Type}{h:H}{cs:U N}{d:DataW E},AR P h t cs d->∃p x,cs=e.sh p x/\V'' x/\∀V,e.F V h p x
def Uw.int{t:J}{k:IntKind}(hu:P.underlying t=some (.int k))(p:P.cellsOf t=1):Uw P (Qh k) (fun n=>(Lit.int k n).wf=true) t:=⟨p,fun a=>by
 cases a with
 | int h l=>rw[hu]at h;cases h;exact⟨(),_,rfl,l,fun _=>trivial⟩
 | bool h=>rw[hu]at h;cases h
 | string h _=>rw[hu]at h;cases h
 | nil h=>rw[hu]at h;cases h
 | empty h=>rw[hu]at h;cases h
 | slice h=>rw[hu]at h;cases h
 | struct h=>rw[hu]at h;cases h⟩
def Uw.str{t:J}(hu:P.underlying t=some .string)(p:P.cellsOf t=1):Uw P ZH (fun s=>s.size<=maxLen) t:=⟨p,fun a=>by
 cases a with
 | string h l=>exact⟨(),_,rfl,l,fun _=>trivial⟩
 | bool h=>rw[hu]at h;cases h
 | int h _=>rw[hu]at h;cases h
 | nil h=>rw[hu]at h;cases h
 | empty h=>rw[hu]at h;cases h
 | slice h=>rw[hu]at h;cases h
 | struct h=>rw[hu]at h;cases h⟩
def ZdU{t:Type}{e:U8 t}{V'':t->Prop}{h:H}{β:Type}:∀(l:U (U N×β)),(∀x∈l,∃p y,x.1=e.sh p y/\V'' y/\∀V,e.F V h p y) ->
 ∃ys:U t,ys.length=l.length/\(∀y∈ys,V'' y)/\∀(k:Nat)(y:t),ys[k]? =some y->∃x p,l[k]? =some x/\x.1=e.sh p y/\∀V,e.F V h p y
 | [],_=>⟨[],rfl,by simp,fun k y r=>by simp at r⟩
 | x::l,hx=>by
   have⟨ys,h1,hv,h2⟩:=ZdU l (fun z A=>hx z (by simp[A]));have⟨p,y,h3,hvy,h4⟩:=hx x (by simp);refine⟨y::ys,by simp[h1],fun z A=>?_,fun k z r=>?_⟩
   .rcases K2.1 A with q|q
    .rw[q];exact hvy
    exact hv z q
   cases k with|zero=>simp at r;subst r;exact⟨x,p,rfl,h3,h4⟩|succ k=>
     have⟨x',p',q1,q2⟩:=h2 k z (by simpa using r);exact⟨x',p',by simpa using q1,q2⟩
def ZfB{h β:Type}{f:h->U β}{sz:Nat}(l:U h)(p:∀x∈l,(f x).length=sz){k:Nat}{x:h}(q:l[k]? =some x):((l.flatMap f).drop (k*sz)).take sz=f x:=by
 have t:(f x).length=sz:=p x (List.mem_of_getElem? q);refine GL fun j=>?_;by_cases r:j<sz;.rw[GB r,Gz,flat_get l p k j r,q];rfl
 rw[G0 (by rw[Gl];omega),G0 Vb]
def Uw.slice{F:Type}{e:U8 F}{V'':F->Prop}{t G:J}(hu:P.underlying t=some (.slice G))(L:P.cellsOf t=1)(he:Uw P e V'' G):Uw P (Yh e) (fun l=>∀x∈l,V'' x) t:=⟨L,fun a=>by
 cases a with
 | bool h=>rw[hu]at h;cases h
 | int h _=>rw[hu]at h;cases h
 | string h _=>rw[hu]at h;cases h
 | nil h=>exact⟨(none,0),[],rfl,by simp,fun _=>Sl.nil⟩
 | empty h=>exact⟨(some ⟨0,0,some 0⟩,0),[],rfl,by simp,fun _=>⟨by simp,by simp,.inr (.inl ⟨rfl,rfl⟩),.inl rfl⟩⟩
 | @slice Q S q rest i cap h I A E C D=>
   rw[hu]at h;cases h;have⟨ys,h1,hv,h2⟩:=ZdU (e:=e) q (fun x B=>he.2 (D x B));have r:∀x∈q,x.1.length=e.sz:=fun x B=>(C x B).trans he.1
   refine⟨(some ⟨i,0,none⟩,2*cap),ys,by show [Value.slice _ _ _]=[Value.slice _ _ _];rw[h1],hv,fun V=>⟨?_,?_,.inr (.inr ⟨_,_,rfl⟩),.inr ⟨i,0,_,false,0,rfl,E,.inr rfl,?_,fun k y K=>?_⟩⟩⟩
   .rw[h1];exact KK (KK I A) (by decide)
   .rw[h1];omega
   .rw[h1,Gc,ZgN q r];exact K1 _
   have⟨x,p,q1,q2,q3⟩:=h2 k y K;refine⟨p,?_,q3 V⟩;rw[Gc,ZfB q r q1,q2]
 | struct h=>rw[hu]at h;cases h⟩
def AR.Znh{E:Type}{h:H}{t:J}{cs:U N}{d:DataW E}{r:V5 Field}(hu:P.underlying t=some (.struct r))(a:AR P h t cs d):
 ∃p:U (U N×DataW E),cs=p.flatMap (·.1)/\p.length=r.toList.length/\∀(i:Nat)(x:U N×DataW E)(f:Field),p[i]? =some x->r.toList[i]? =some f->AR P h f.type x.1 x.2:=by
 cases a with|bool l=>rw[hu]at l;cases l|int l _=>rw[hu]at l;cases l|string l _=>rw[hu]at l;cases l|nil l=>rw[hu]at l;cases l|empty l=>rw[hu]at l;cases l|slice l=>rw[hu]at l;cases l|struct l A y q=>rw[hu]at l;cases l;exact⟨_,rfl,A,q⟩
def ZK6{ρ:Ren}{l cs:U N}(h:LR ρ l cs):VR ρ (.agg l.toArray) (.agg cs.toArray):=
 .agg _ _ (by simpa using h.1) (fun i v v' q p=>h.2 i v v' (by simpa using q) (by simpa using p))
def ZvN{ρ:Ren}{l:U N}{cs:V5 N}(h:LR ρ l (Value.agg cs).cells.toList):VR ρ (.agg l.toArray) (.agg cs):=by have:=ZK6 h;rwa[Array.toArray_toList]at this
def Zsu:Ren:=⟨fun _=>none,fun _=>(0,0)⟩
def ZtY:Zhr ⟨.nil,0⟩:=fun i=>by
 have:(⟨.nil,0⟩:H).at i=.dead:=H.Zfc (GH _);rw[this];rfl
def ZAt(w:V4):Rel Zsu ⟨.nil,0⟩ w:=⟨fun _ _ _ e=>(by cases e),fun _ _ _ e=>(by cases e),fun _ _ _ _ _ e=>(by cases e)⟩
def ZIz{E:Type}{W:V4}(l:U (J×U N×DataW E))(q:∀x∈l,Zoj P W x.1 x.2.1 x.2.2):
 ∃(ρ:Ren) (h:H) (p:U (U N×DataW E)),Rel ρ h W/\Zhr h/\p.length=l.length/\
   ∀(i:Nat)(x:U N×DataW E)(y:J×U N×DataW E),p[i]? =some x->l[i]? =some y->LR ρ x.1 y.2.1/\AR P h y.1 x.1 x.2:=by
 have⟨ρ,h,p,q1,q2,q3,q4,q5,q6,q7⟩:=ZpK l q Zsu ⟨.nil,0⟩ (ZAt W) ZtY;exact⟨ρ,h,p,q3,q4,q6,q7⟩
end Go.ZU
end
end
section
set_option maxRecDepth 20000
noncomputable section
namespace Go.Proofs.YtbnepjakjmnadaaGreat
open Go.ZU Go.Lf
section
open Go.ZU Go.RowKit Go.Maps Go.Sort Go.Shelf Go.Lf
def Zki(l:U (Y×Z)):(Zcv l).length=l.length:=by unfold Zcv;rw[G5,Zkj]
def ZAe(l:U (Y×Z)):(Zja l).map encStr=(Zcv l).map Value.string:=by unfold Zcv;rw[Gf];exact Gh fun k _=>rfl
def ZQV{V m:Nat}{h K:H}{T:Nat->Prop}{G Gr:U (Ast V)}{l:U (Y×Z)}(L:Sp V T K G h)(pk:Pk G (mp V Value.string Value.bool (some m) l) Gr)(D:(l.map (·.1)).Nodup)(X:∀p∈l,p.1.size<=1000000)(hl:l.length<=1000000):
 ∃v h2,Y7 XX (.call 66 #[.func (.func 111) #[] #[(Va h.size)]] V (h.push (.box m))) (.fin (.ret v) h2)/\∃a c,v=.slice a (Zcv l).length c/\Sp V T K (ow V ZH a (Zcv l).length c (Zcv l)::G) h2:=by
 have y:Sp V T K G (h.push (.box m)):=L.up (Up.push V h _);have C:(h.push (.box m)).at h.size=.box m:=Jm _ _
 obtain⟨i,bs,XE,e,B,r,E,F⟩:∃i bs XE,some m=some i/\h.at i=.map (Xz Value.string Value.bool l bs) XE/\bs.length=l.length/\bs.Nodup/\∀b∈bs,b<XE:=by
  rcases(L.get pk).at_.mem with⟨q,_⟩|q
  .cases q
  exact q
 cases e;have ZS5:(h.push (.box m)).at m=.map (Xz Value.string Value.bool l bs) XE:=by rw[KD (Y8 B rfl)];exact B
 have W:Qr XE (Xz Value.string Value.bool l bs)=true:=Zl8 (by rw[ZhN l bs r];exact E) (by rw[ZhN l bs r];exact F);have S:(Xz Value.string Value.bool l bs).length<=1000000:=by unfold Xz;rw[List.length_zipWith,r];omega
 have Q:=Zri (vv:=Value.bool) l bs r X
 have P:nodupB (kbs l)=true:=Znq (by
  unfold kbs;rw[show(fun p:Y×Z=>p.1.data.toList)=(fun s:Y=>s.data.toList)∘(·.1) from rfl,<-Gf];exact List.Pairwise.map _ (fun a b I e=>I (by cases a;cases b;exact congrArg _ (Array.toList_inj.1 e))) D)
 have A:Maps.size (WM (kbs l))<=1000000:=by rw[Zua];simpa[kbs]using hl
 by_cases hn:l=[];.subst hn;have e:Zcv []=[]:=G8 (Zki []);refine⟨V8,_,ZDs C ZS5 W S Q P A rfl,none,0,by rw[e];rfl,?_⟩;rw[e];exact y.nil
 have h1:Zja l≠[]:=fun e=>hn (G8 (by rw[<-Zkj l,e];rfl));have t:(Zja l).length=(Zcv l).length:=by rw[Zkj,Zki]
 refine⟨_,_,ZDr C ZS5 W S Q P A h1 (ZqL l) (Zx1 l),some ⟨(h.push (.box m)).size,0,none⟩,2*(Zcv l).length+1,by rw[t],?_⟩;refine y.new (Up.push V _ _) ⟨rfl,?_,.inr ⟨_,0,(Zja l).map encStr,rfl,y.hw,Jm _ _,by omega,?_,?_⟩⟩ (fun i C=>?_);.rw[Zki];omega
 .rw[G5,t];show 0+_*1<=_;omega
 .rw[ZAe,List.map_eq_flatMap];refine⟨by rw[<-List.map_eq_flatMap,G5];show 0+_*1<=_;omega,fun k x D=>⟨(),?_,trivial⟩⟩;rw[Gc];exact ZfB (Zcv l) (f:=fun x=>[Value.string x]) (sz:=1) (fun _ _=>rfl) D
 have⟨o,ho⟩:=C;cases ho;exact K1 _
end
section
def ZSi:(XX.fns.get 67).isSome=true:=Kq0
def ZSj:(XX.fns.get 66).isSome=true:=Kq0
def ZMy:(XX.fns.get 23).isSome=true:=Kq0
def Zo0(m:MB):Z:=decide ((m.map (·.1)).Nodup)&&m.all (fun p=>decide (p.1.size<=1000000))&&decide (m.length<=1000000)
def ZyT(F:Nat)(t:Term):O (U Y×Int):=(Zcz F t).bind fun e=>bif e !=0 then some ([],e) else(ZbB F t).bind fun m=>bif Zo0 m then some (Zcv m,0) else none
def ZOw{F V:Nat}{h:H}{t:Term}{I G pK:O Addr}{Q P cK:Nat}{r:U Y×Int}(ZG:V<=h.size)(B:Sl Zi V h I Q t.args)(A:Sl Zc V h G P t.qJ)(y:Sl Zt V h pK cK t.qQ)(q:ZyT F t=some r):
 WR XX 27 #[.agg (q1W t I Q G P pK cK).toArray] V h (CP (fun v (Gb:U (Ast V))=>∃(S:O Addr) (X:Nat) (W:Nat),v=.tuple #[.slice S X W,V9 r.2]/\Gb=[ow V ZH S X W r.1]) [] h):=by
 unfold ZyT at q;refine bg Tryz.ntmps27 ZG ZV.nil ?_;intro T K l;refine r3 ?_;rintro _ h3 ⟨b1,eb1,rfl,l⟩;refine r8 ?_;have⟨e,he,q⟩:=bS q;refine WO.cp gN rfl (ZX.fn ZMy (Zb lk Zd)) (Zbd (l.slu B) (l.slu A) (l.slu y) he)<|r8 ?_;refine r1 ?_;refine cn q ?_ ?_;.intro hc q;refine r8 ?_;refine r1 ?_;have l:=l.nil (e:=ZH);have C:=Oi0 q;subst C;exact Yk.gen (vs:=[V8,V9 e]) rfl (Zp lk (Zp lk Zl)) rfl ⟨_,⟨none,0,0,rfl,rfl⟩,K▸l.only (.a .n)⟩
 intro hc q;refine r4 ?_;refine r1 ?_;have⟨m,hm,q⟩:=bS q;refine Ve (ZX.fn Zrr (Zb lk Zd)) l .n (fun g' hz D hO=>Zlw (l.Vh hz) ((l.sl B).mono D) ((l.sl A).mono D) ((l.sl y).mono D) hm) ?_;rintro _ h8 _ ⟨cf,rfl,rfl⟩ l;cases x:Zo0 m;.rw[x]at q;cases q
 rw[x]at q
 have ZMq:((m.map (·.1)).Nodup/\∀p∈m,p.1.size<=1000000)/\m.length<=1000000:=by
  unfold Zo0 at x;simpa only[Ba0,decide_eq_true_eq,Q2]using x
 obtain⟨v,h9,hj,a,L,rfl,E⟩:=ZQV l k0 ZMq.1.1 ZMq.1.2 ZMq.2;refine WO.en gN rfl (ZX.fn ZSi (Zb lk Zd)) ZHN<|WO.en gN rfl (ZX.fn ZSj (Zb lk Zd)) hj<|r4 ?_;refine r1 ?_;have C:=Oi0 q;subst C;exact Yk.gen (vs:=[.slice a (Zcv m).length L,V9 0]) rfl (Zp lk (Zp lk Zl)) rfl ⟨_,⟨a,_,L,rfl,rfl⟩,K▸E.only (.a .n)⟩
end
section
def ZJY:(XX.fns.get 78).isSome=true:=Kq0
def ZSk:(XX.fns.get 54).isSome=true:=Kq0
def ZyO(F:Nat)(taken:MB):O (MB×Y):=(Zsc F taken).bind fun s=>some (Yu taken s true,s)
def ZDe{F V w cf cm:Nat}{fv:FV V}{taken:MB}{h:H}{r:MB×Y}(A:V<=h.size)(x:ZV [wbA V w cf (some cm) fv,tkA V (some cm) taken] h)(p:ZyO F taken=some r):
 WR XX 78 #[pV w] V h (CP (fun v (Gb:U (Ast V))=>v=.string r.2/\Gb=[wbA V w cf (some cm) fv,tkA V (some cm) r.1]) [wbA V w cf (some cm) fv,tkA V (some cm) taken] h):=by
 refine WF.begin (args:=[_]) (fn:=Tryz.f78) Kq0 (by exact rfl) Tryz.ntmps78 (by simp) ?_;simp only[Zv,Zy,Nat.reduceAdd];obtain⟨T,t,l⟩:∃T,T=QA [wbA V w cf (some cm) fv,tkA V (some cm) taken]/\Sp V T h [wbA V w cf (some cm) fv,tkA V (some cm) taken] h:=⟨_,rfl,Sp.start A x⟩;unfold ZyO at p;refine WC.seq<|WC.region<|Vd (YE (JS rfl))<|WO.nil<|Yx.YC<|WC.seq<|WC.region<|Vd (Ye lk)<|Vd (KU lk)<|Vd (Y3 Zli lk)<|Vd (Z0 Zhk lk (Zf3 l k0) (j:=1) rfl (v:=.map (some cm)) rfl) ?_;have⟨s,hs,p⟩:=bS p;refine WO.cp gN rfl (ZX.fn ZSk (Zb lk Zd)) (ZHS (l.get k1).1 hs)<|Vd (YE lk)<|WO.nil<|Yx.YC<|WC.seq<|WC.region<|Vd (Ye lk)<|Vd (KU lk)<|Vd (Y3 Zli lk)<|Vd (Z0 Zhk lk (Zf3 l k0) (j:=1) rfl (v:=.map (some cm)) rfl)<|Vd (Ye lk)<|WO.hu gN (ZLt (v:=true) l k1 ZeK XY lk lk (JS rfl)) ?_;rintro y l;refine WO.nil<|Yx.YC<|WC.seq<|WC.region<|Vd (Ye lk)<|Vd (YE lk)<|WO.nil<|Yx.YC<|WC.ret ?_;have q:=Oi0 p;subst q;exact Yk.XA rfl (Zp lk Zl) ⟨_,⟨rfl,rfl⟩,t▸l.only (.b (.a .n))⟩
end
end Go.Proofs.YtbnepjakjmnadaaGreat
end
end
section
set_option maxRecDepth 20000
noncomputable section
namespace Go.ZU
open Go.Lf
variable{P:V2}
def Zzt{t:J}{x:V0}{a b c}{f:Fn}{h cs:V5 N}(hu:P.underlying t=some (.func a b c)):X9 P .neq t x (.const .nilFunc) (.func f h cs) .nilFunc=some (.val (.bool true),.none):=by
 have l:(plain (.func f h cs)&&plain .nilFunc)=false:=rfl;unfold X9;rw[l,Cq0];have:ZaA P t (.func f h cs) .nilFunc=some false:=by unfold ZaA;rw[hu]
 rw[this];rfl
def ZbN{h:Type}:∀(Ga:U h),Sel Ga Ga []
 | []=>.n
 | _::Ga=>.c .z (ZbN Ga)
def ZAA{h:Type}(A:h)(l:U h):∀Gr:U h,Pk (Gr++A::l) A (Gr++l)
 | []=>.z
 | _::Gr=>.s (ZAA A l Gr)
def ZhH{l:Type}(Gr:U l):∀h:U l,Sel (Gr++h) h Gr
 | []=>by rw[Ge];exact .n
 | A::h=>.c (ZAA A h Gr) (ZhH Gr h)
end Go.ZU
end
end
section
set_option maxRecDepth 20000
noncomputable section
namespace Go.Proofs.YtbnepjakjmnadaaGreat
open Go.ZU Go.Lf
section
abbrev ChL:=MB->U NM->U Y->O MB->O (MB×U Y)
def ZI2(V w cf:Nat)(ct:O Nat)(fv:FV V)(t:V3)(p:U N)(K5:ZiC V)(x:ChL):Prop:=
 ∀{h:H}{S:U SE}{b:Nat}{c:U NM}{names:U Y}{pa:O Addr}{A:Nat}{wv:N}{q:U (Ast V)}{y:O MB}{l taken:MB}{r:MB×U Y},V<=h.size->Rd S (some b) c->Sl ZH V h pa A names->K5 wv q y->x taken c names y=some r->ZV (Ug V w cf ct fv l taken S++q) h ->
   WR XX t ([pV b,.slice pa names.length A,wv]++p).toArray V h (CP (fun v (Gb:U (Ast V))=>∃(a:O Addr) (B:Nat),v=.slice a r.2.length B/\Gb=Z9 V (Yh ZH) (a,B) r.2::(Ug V w cf ct fv l r.1 S++q)) (Ug V w cf ct fv l taken S++q) h)
def U1(F:Nat)(h:ChL):WA:=fun p c names l=>(h p c names l).bind fun y=>(loop F (ZaG names y.2) (0,[])).bind fun m=>some (y.1,m)
def ZDK{F V w cf:Nat}{ct:O Nat}{fv:FV V}{K:V3}{D:U N}{K5:ZiC V}{chL:ChL}(X:fv.v=.func (.func K) #[] D.toArray)(hid:(XX.fns.get K).isSome=true)(hA:∀wv C wi,K5 wv C wi->X4 wv=false)(hC:ZI2 V w cf ct fv K D K5 chL)
 {h:H} {S:U SE} {b:Nat} {c:U NM} {names:U Y} {pa:O Addr} {pc:Nat} {wv:N} {C:U (Ast V)} {wi:O MB} {t taken:MB} {r:MB×NM} (ZG:V<=h.size) (hr:Rd S (some b) c) (W:Sl ZH V h pa pc names) (hW:K5 wv C wi) (P:U1 F chL taken c names wi=some r) (hO:ZV (Ug V w cf ct fv t taken S++C) h):
  WR XX 150 #[pV b,.slice pa names.length pc,wv] V h (CP (fun v (Gb:U (Ast V))=>∃(S':U SE) (b':Nat),(∀e∈S,e∈S')/\v=UD (some b')/\Rd S' (some b') (r.2::c)/\Gb=Ug V w cf ct fv t r.1 S'++C) (Ug V w cf ct fv t taken S++C) h):=by
 refine WF.begin (args:=[_,_,_]) (fn:=Tryz.f150) Kq0 (by exact rfl) Tryz.ntmps150 (by simp) ?_;simp only[Zv,Zy,Nat.reduceAdd];obtain⟨T,hT,l⟩:∃T,T=QA (Ug V w cf ct fv t taken S++C)/\Sp V T h (Ug V w cf ct fv t taken S++C) h:=⟨_,rfl,Sp.start ZG hO⟩;unfold U1 at P;have hwv:=hA _ _ _ hW
 obtain⟨e,he,hbe⟩:∃e,e∈S/\e.b=b:=by
  cases hr with|@cons e c' he hr=>exact⟨e,he,rfl⟩
 subst hbe;refine r16 ?_;refine r1 ?_;refine Vd (Z0 ZaM lk (Zbn l k3 he) (j:=0) rfl (v:=pV w) rfl)<|r2 ?_;refine Vd (Z0 Zqc lk (Zf3 l k0) (j:=2) rfl (v:=fv.v) rfl) ?_;rw[X];have⟨ua,ub,uc,hu⟩:=Zz6;refine Vd (YN lk (JS rfl) (Zzt hu))<|r2 ?_;refine WC.UZ lk (fun hc=>?_) (fun hc=>?_)
 .refine r4 ?_;refine Vd (Z0 ZaM lk (Zbn l k3 he) (j:=0) rfl (v:=pV w) rfl)<|r2 ?_;refine Vd (Z0 Zqc lk (Zf3 l k0) (j:=2) rfl (v:=fv.v) rfl) ?_;rw[X];refine r3 ?_;have⟨y,hy,P⟩:=bS P;refine Ve (ZX.clo (first:=[]) (cap:=D) lk hid (Zb lk (Zb lk (Zb lk Zd))) rfl) l (.a (.a (.a (.a (ZbN _))))) (fun g' hz hf hO=>hC (l.Vh hz) hr (W.mono hf) hW hy hO) ?_;rintro _ h1 _ ⟨ya,yc,rfl,rfl⟩ l;have l:=l.only (.a (.a (.a (.a (.a (ZoC C []))))));refine Vd (YE lk)<|WO.nil<|r6 ?_;refine Vd (Z0 ZaM lk (Zbn l k4 he) (j:=0) rfl (v:=pV w) rfl)<|r1 ?_;refine Vf (Zbo Value.string vvE l) ?_;rintro _ h2 ⟨Q,ebm,rfl,l⟩;refine Vd (YH ZpZ (Zk lk (Zk lk (Zk lk Zz))) rfl (cs':=[pV w,pV e.b,.map (some Q)]) rfl)<|r1 ?_;rintro _ h3 ⟨bs,ebs,rfl,l⟩;refine r12 ?_;have l:=l.add (A:=esA V []) (fun x I=>by cases I) (fun _ z=>z);have⟨m,B,P⟩:=bS P;refine WC.loop (WL.lift B (fun(p:Int×NM)(s:Fs)=>match p with | (i,m)=>∃(L:Fr) (h9:H) (es:U (Y×EV)),s=⟨L,[],h9,none⟩/\Sp V T h (bx V bs [pV w,pV e.b,.map (some Q)]::mp V Value.string vvE (some Q) es::esA V es::Z9 V (Yh ZH) (ya,yc) y.2::(Ug V w cf ct fv t y.1 S++C)) h9/\ZoO es=m/\L.at 7=.slice ya y.2.length yc/\L.at 8=(Va bs)/\L.at 39=.slice pa names.length pc/\L.at 40= V9 (names.length:Int)/\L.at 41= V9 i) ⟨_,_,[],rfl,l.only (.b (.b (.a (.a (.a (.a (.a (.a (ZbN _))))))))),rfl,YQ⟩ ?_);clear B l;rintro KQ ⟨i,m'⟩ s QH B ⟨L,h9,es,rfl,l,rfl,e7,e8,e39,e40,e41⟩;dsimp only[ZaG]at B;refine r6 ?_;refine cn B ?_ ?_
  .intro hc B;refine r6 ?_;refine r1 ?_;have⟨Jh,Ur,B⟩:=bS B;have⟨b23,o24,_,Qo,Qc,Qb,Y9⟩:=Sl.at_ W Ur;refine Vd (ZJ Xk Xo (Zu (Z5 rfl e39) rfl) (Zu (Z5 rfl e41) rfl) rfl Qo Ur)<|Vd (Z0 Uu (Zu fh rfl) (At.fz l.fz Qb Qc) (j:=0) rfl (v:=.string Jh) rfl)<|r4 ?_;refine WC.XU mixed Kq0<|r6 ?_;refine r1 ?_;have⟨x25,hx25,B⟩:=bS B;have⟨b26,o27,_,ZrH,ZrU,ZwL,ZrR⟩:=Sl.at_ (l.Qw k3) hx25;refine Vg (ZJ Xk Xo (Zu (Zj rfl fh) rfl) (Zu fh rfl) rfl ZrH hx25)<|Vg (Z0 Uu (Zu fh rfl) ZrU (j:=0) rfl (v:=.string x25) rfl) ?_;have⟨z,hz,B⟩:=bS B;refine WX.cl0 gN rfl (ZX.fn ZwH (Zb (Zu fh rfl) Zd)) l .n (fun g' hz' hf hO=>ZwX (by rw[hz'];exact l.hw) hz) ?_ rfl rfl;rintro _ h34 _ ⟨G,E,rfl,rfl⟩ l;refine WX.hu gN (Kn (kv:=Value.string) (vv:=vvE) (k:=Jh) (v:=((G,E),z)) l k2 Jd Zkf (Zu (Yy rfl (Z5 rfl fh)) rfl) (Zu (Yy rfl (Zj rfl fh)) rfl) (Zu fh rfl)) ?_ rfl Kq0 [] Kq0 Y2.e;rintro h35 l
   have l:=l.add (A:=esA V (Yu es Jh ((G,E),z))) (fun x I=>by
    rcases ZkD I with q|q
    .exact l.get k3 x q
    rw[q];exact Yd.2 (l.Qw k1)) (fun _ z=>z)
   refine r6 ?_;refine r1 ?_;exact ZQ.YC (QH _ _ B ⟨_,_,Yu es Jh ((G,E),z),rfl,l.only (.e (.b (.a (.d (.d (.d (.d (.d (ZhH [_,_] C))))))))),Znr (fun q:EV=>q.2) es Jh ((G,E),z),YQ⟩)
  intro hc B;refine r12 ?_;have hm':=Oi0 B;subst hm';have hr':=Oi0 P;subst hr';have l:=Zoy (S:=S) (b:=bs) (ar:=some e.b) (m:=some Q) (es:=es) (l.only (.a (.a (.a (.f (.b (.b (.b (ZhH [_] C)))))))));exact Yk.XA rfl (Zp (Zu fh rfl) Zl) ⟨_,⟨⟨bs,some e.b,some Q,es⟩::S,bs,fun x I=>Kd _ I,rfl,Rd.cons (e:=⟨bs,some e.b,some Q,es⟩) Gg (hr.mono fun x I=>Kd _ I),rfl⟩,hT▸l.only (.b (.b (.b (.a (ZbN _)))))⟩
 cases hc
def Zp1{F V w cf:Nat}{ct:O Nat}{fv:FV V}{q:V3}{p:U N}{K5:ZiC V}{t:ChL}(B:fv.v=.func (.func q) #[] p.toArray)(A:(XX.fns.get q).isSome=true)(Q:∀wv x C,K5 wv x C->X4 wv=false)(hC:ZI2 V w cf ct fv q p K5 t):ZiF V w cf ct fv K5 (U1 F t):=by intro h S b c names pa pc wv x C l taken r E G y K P D;obtain⟨e,W,⟨v,rfl,Gb,⟨S',X,h1,h2,T,rfl⟩,L⟩,I⟩:=ZDK (F:=F) B A Q @hC E G y K P (D.perm List.perm_append_comm);refine⟨_,W,⟨v,rfl,_,⟨S',X,h1,h2,T,rfl⟩,?_⟩,I⟩;have s1:Sp V (QA (x++Ug V w cf ct fv l taken S)) h (Ug V w cf ct fv l taken S++x) h:=(Sp.start E D).perm List.perm_append_comm;have s2:=s1.call (ZbN _) L;rw[Ge]at s2;exact s2.perm List.perm_append_comm
def ZlQ(F:Nat)(names:U Y):Int×MB×U Y->(Int×MB×U Y->O (MB×U Y))->O (MB×U Y):=fun(i,l,h) next=>
 bif decide (i<(names.length:Int)) then(ZyO F l).bind fun y=>(app 16 h [y.2]).bind fun z=>next (XD (i+1),y.1,z) else some (l,h)
def Ze7(F:Nat):ChL:=fun h _ names _=>loop F (ZlQ F names) (0,h,[])
def fvC(V w h:Nat):FV V:=⟨.func (.func 134) #[] #[pV h],bx V h [pV w]⟩
def ZMe:(XX.fns.get 134).isSome=true:=Kq0
def ZIc{F V w cf cm x b:Nat}{taken:MB}{h:H}{c:U NM}{Q:O MB}{names:U Y}{pa:O Addr}{P:Nat}{wv:N}{r:MB×U Y}(ZG:V<=h.size)(W:Sl ZH V h pa P names)(t:Ze7 F taken c names Q=some r)(E:ZV [wbA V w cf (some cm) (fvC V w x),tkA V (some cm) taken] h):
 WR XX 134 #[pV b,.slice pa names.length P,wv,pV x] V h (CP (fun v (Gb:U (Ast V))=>∃(a:O Addr) (A:Nat),v=.slice a r.2.length A/\Gb=[Z9 V (Yh ZH) (a,A) r.2,wbA V w cf (some cm) (fvC V w x),tkA V (some cm) r.1]) [wbA V w cf (some cm) (fvC V w x),tkA V (some cm) taken] h):=by
 refine WF.begin (args:=[_,_,_,_]) (fn:=Tryz.f134) Kq0 (by exact rfl) Tryz.ntmps134 (by simp) ?_;simp only[Zv,Zy,Nat.reduceAdd];obtain⟨T,hT,l⟩:∃T,T=QA [wbA V w cf (some cm) (fvC V w x),tkA V (some cm) taken]/\Sp V T h [wbA V w cf (some cm) (fvC V w x),tkA V (some cm) taken] h:=⟨_,rfl,Sp.start ZG E⟩;unfold Ze7 at t;refine r16 ?_;refine r3 ?_;have l:=l.nil (e:=ZH);refine WC.loop (WL.lift t (fun(p:Int×MB×U Y)(s:Fs)=>match p with | (i,L,C)=>∃(B:Fr) (G:H) (a:O Addr) (n A:Nat),s=⟨B,[],G,none⟩/\Sp V T h [ow V ZH a n A C,wbA V w cf (some cm) (fvC V w x),tkA V (some cm) L] G/\B.at 3=pV x/\B.at 8=.slice a n A/\B.at 10= V9 (names.length:Int)/\B.at 11= V9 i) ⟨_,_,none,0,0,rfl,l.only (.a (.a (.a .n))),YQ⟩ ?_);rintro KQ ⟨i,L,C⟩ s QH t ⟨B,G,a,n,A,rfl,l,e3,e8,e10,e11⟩;obtain rfl:=l.on k0;refine r6 ?_;refine cn t ?_ ?_;.intro X t;refine WC.skip<|Yx.YC<|WC.seq<|WC.block<|WC.region<|Vd (Ye lk)<|Vd (Z0 ZaM lk (At.box (l.get k1).2.1) (j:=0) rfl (v:=pV w) rfl) ?_;have⟨y,hy,t⟩:=bS t;refine Ve (ZX.fn ZJY (Zb lk Zd)) l (.b (.b .n)) (fun g' S hf E=>ZDe (l.Vh S) E hy) ?_;rintro _ h1 _ ⟨rfl,rfl⟩ l;refine Vf (X0 (e:=ZH) l Xk Xo JA rfl rfl rfl (Zk lk Zz) rfl [((),y.2)] rfl (xs:=[y.2]) rfl (by intro q hq;exact trivial) rfl) ?_;rintro _ h37 ⟨bk,ebk,rfl,l⟩;have⟨z2,hz2,t⟩:=bS t;refine WO.hv gN rfl (Uc (e:=ZH) l k3 QV lk lk (l.Qi k0) (l.on k0) hz2) ?_;rintro _ h41 ⟨K,I,rfl,l⟩;refine Vd (YE lk)<|WO.nil<|Xh.YC<|Yx.YC<|r4 ?_;exact ZQ.YC (QH _ _ t ⟨_,_,K,z2.length,I,rfl,l.only (.a (.b (.b .n))),YQ⟩)
 intro X t;refine WC.exit<|Yx.exit<|ZQ.exit<|Xh.here<|Yx.YC<|WC.seq<|WC.region<|Vd (Ye lk)<|Vd (YE lk)<|WO.nil<|Yx.YC<|WC.fzn l k0 ?_;rintro h65 ⟨ZSS,l⟩;refine WC.ret ?_;have D:=Oi0 t;subst D;exact Yk.XA rfl (Zp lk Zl) ⟨_,⟨a,A,rfl,rfl⟩,hT▸l.only (.a (.a (.a .n)))⟩
def ZIE{F V w cf cm l:Nat}{K5:ZiC V}:ZI2 V w cf (some cm) (fvC V w l) 134 [pV l] K5 (Ze7 F):=by intro h S b c names pa G wv K E q taken r t I p _ B A;have s1:=Sp.start t A;obtain⟨e,C,⟨v,rfl,Gb,⟨a,D,h1,rfl⟩,y⟩,x⟩:=ZIc (b:=b) (wv:=wv) t p B (s1.Zac (Ga:=[wbA V w cf (some cm) (fvC V w l),tkA V (some cm) taken]) (.a (.b .n)));refine⟨_,C,⟨v,rfl,_,⟨a,D,h1,rfl⟩,?_⟩,x⟩;have s2:=s1.call (Ga:=[wbA V w cf (some cm) (fvC V w l),tkA V (some cm) taken]) (.a (.b .n)) y;exact s2.only (.a (.a (.b (.a (.a (ZbN _))))))
end
section
def ZFA:Y5 XX.P 107=some (.pointer none):=Kq0
instance:Wz XX.P 107 (.pointer none):=⟨ZFA⟩
def ZF4:YO XX.P 107=some 1:=Kq0
instance:SzF XX.P 107 1:=⟨ZF4⟩
def ZF3:YO XX.P 108=some 1:=Kq0
instance:SzF XX.P 108 1:=⟨ZF3⟩
def ZuD(F:Nat)(t:Term):O Term:=(ZbB F t).bind fun m=>((Ze8 F (U1 F (Ze7 F)) (fun _ _=>none) (fun _=>none) (([],m),[[]],t)).bind okP).map fun r=>r.2
def ZuC{F V:Nat}{h:H}{t:Term}{y q pK:O Addr}{C B cK:Nat}{r:Term}(ZG:V<=h.size)(G:Sl Zi V h y C t.args)(E:Sl Zc V h q B t.qJ)(D:Sl Zt V h pK cK t.qQ)(L:ZuD F t=some r):
 WR XX 92 #[.agg (q1W t y C q B pK cK).toArray] V h (CP (fun v (Gb:U (Ast V))=>∃(ZT:O Addr) (ZR:Nat) (UO:O Addr) (UM:Nat) (UN:O Addr) (UL:Nat),v=.agg (q1W r ZT ZR UO UM UN UL).toArray/\Gb=[Z9 V (Yh Zi) (ZT,ZR) r.args,Z9 V (Yh Zc) (UO,UM) r.qJ,Z9 V (Yh Zt) (UN,UL) r.qQ]) [] h):=by
 have hF:Zt.F V h ((y,C),(q,B),(pK,cK)) t:=Xa.2 ⟨G,E,D⟩;unfold ZuD at L;have⟨m,hm,L⟩:=bS L;obtain⟨K,X,rfl⟩:=Zgi L;refine bg Tryz.ntmps92 ZG ZV.nil ?_;intro T hT l;refine r3 ?_;rintro _ h3 ⟨b1,eb1,rfl,l⟩;refine r1 ?_;rintro _ h2 ⟨b2,eb2,rfl,l⟩;refine r4 ?_;refine Vd (Yo Qy Yt lk (l.Jo k1) (j:=0) rfl rfl (ws:=(q1W t y C q B pK cK)) rfl)<|Ve (ZX.fn Zrr (Zb lk Zd)) l .n (fun g' W I hO=>Zlw (l.Vh W) ((l.sl G).mono I) ((l.sl E).mono I) ((l.sl D).mono I) hm) ?_;rintro _ h5 _ ⟨cm,rfl,rfl⟩ l;refine Vd (YH Zl9 (Zk lk Zz) rfl (cs':=[.map none,.map (some cm),.nilFunc]) rfl)<|r1 ?_;rintro _ h4 ⟨bw,ebw,rfl,l⟩;refine r1 ?_;rintro _ h6 ⟨b3,eb3,rfl,l⟩;refine r1 ?_;rintro h7 l;refine r4 ?_;refine r1 ?_;refine Vd (Uj (Zb lk Zd))<|r2 ?_;refine r1 ?_;rintro h8 l;refine r4 ?_;refine r1 ?_;refine Vd (Yo Qy Yt lk (l.Jo k4) (j:=0) rfl rfl (ws:=Qg ((y,C),(q,B),(pK,cK)) t) rfl)<|WO.ks l k2 ?_;rintro h12 l;have l:=l.add (A:=esA V []) (fun x hx=>by cases hx) (fun _ z=>z);have l:=l.add (A:=mp V Value.string vvE none []) ZcF.nil (fun i z=>by cases z);refine Ve (ZX.fn Zrq (Zb lk (Zb lk (Zb (JS rfl) Zd)))) l (.e (.e (.d (.a (.a .n))))) (fun g' W I hO=>PQ.ok (Zlr (F:=F) (w:=bw) (fv:=fvC V bw b3) (K5:=fun wv _ _=>X4 wv=false) (Yr:=U1 F (Ze7 F)) (Ko:=fun _ _=>none) (frL:=fun _=>none) (fun cf=>Zp1 rfl ZMe (fun _ _ _ z=>z) (@ZIE F V bw cf cm b3 _)) (fun _ _ _ _ _ _ _=>rfl) (fun _ _ _=>rfl) (p:=((y,C),(q,B),(pK,cK))) (es:=[]) (l.Vh W) (Zt.mono I (Zt.mono l.fz hF)) hO X)) ?_;rintro _ h9 _ ⟨cf,S1,⟨⟨S,c0⟩,⟨Q,c1⟩,⟨P,c2⟩⟩,rfl,rfl⟩ l;refine r1 ?_;rintro h10 l;refine r3 ?_;have hq:=Xa.1 (l.get k1);have l:=l.add (A:=Z9 V (Yh Zt) (P,c2) K.2.qQ) hq.2.2 (fun _ z=>z);have l:=l.add (A:=Z9 V (Yh Zc) (Q,c1) K.2.qJ) hq.2.1 (fun _ z=>z);have l:=l.add (A:=Z9 V (Yh Zi) (S,c0) K.2.args) hq.1 (fun _ z=>z);exact Yk.XA rfl (Ya YQ (YL Qy Yt (l.Jo k3) (j:=0) rfl rfl (ws:=Qg ((S,c0),(Q,c1),(P,c2)) K.2) rfl) Zl) ⟨_,⟨S,c0,Q,c1,P,c2,rfl,rfl⟩,hT▸l.only (.a (.a (.a .n)))⟩
end
section
def ZDB(F:Nat)(p0:Term):O (Term×Int):=
 (Zcz F p0).bind fun h=>(bif(h !=0) then some ((Term.mk 0 (⟨#[]⟩:Y) [] [] []),h) else(ZuD F p0).bind fun l=>some (l,0))
end
section
def ZOk{F V h}{p0:Term}{Zh Zg Zo Zn Zr Zq}{r}(ZG:V<=h.size)(I:Sl Zi V h Zh Zg p0.args)(Q:Sl Zc V h Zo Zn p0.qJ)(P:Sl Zt V h Zr Zq p0.qQ)(p:ZDB F p0=some r):
 WR XX 43 #[.agg (q1W p0 Zh Zg Zo Zn Zr Zq).toArray] V h (CP (fun v (Gb:U (Ast V))=>∃K L S X W UL,v=.tuple #[.agg (q1W r.1 K L S X W UL).toArray,V9 r.2]/\Gb=[Z9 V (Yh Zi) (K,L) r.1.args,Z9 V (Yh Zc) (S,X) r.1.qJ,Z9 V (Yh Zt) (W,UL) r.1.qQ]) [] h):=by
 refine bg Tryz.ntmps43 ZG ZV.nil ?_;intro T G l;unfold ZDB at p;refine r3 ?_;rintro _ h2 ⟨b1,eb1,rfl,l⟩;refine r1 ?_;rintro _ h4 ⟨b3,eb3,rfl,l⟩;refine r7 ?_;have⟨x5,hx5,p⟩:=bS p;refine WO.cp gN rfl (ZX.fn Zgy (Zb lk Zd)) (Zbd (l.slu I) (l.slu Q) (l.slu P) hx5)<|r9 ?_;refine cn p ?_ ?_;.intro hc p;refine r2 ?_;refine Vd (YH Ze9 Zz rfl (cs':=[V9 0,.string (⟨#[]⟩:Y),V8,V8,V8]) rfl)<|r2 ?_;rintro h6 l;refine r5 ?_;have l:=l.add (A:=Z9 V (Yh Zi) (none,0) []) Sl.nil (fun _ z=>z);have l:=l.add (A:=Z9 V (Yh Zc) (none,0) []) Sl.nil (fun _ z=>z);have l:=l.add (A:=Z9 V (Yh Zt) (none,0) []) Sl.nil (fun _ z=>z);have C:=Oi0 p;subst C;exact Yk.gen (vs:=[.agg #[V9 0,.string (⟨#[]⟩:Y),V8,V8,V8],V9 x5]) rfl (Ya (Xe rfl (Zj rfl fh)) (YL Qy Yt (l.Jo k3) (j:=0) rfl rfl (ws:=[V9 0,.string (⟨#[]⟩:Y),V8,V8,V8]) rfl) (Zp lk Zl)) rfl ⟨_,⟨none,0,none,0,none,0,rfl,rfl⟩,G▸l.only (.d (.b (.a .n)))⟩
 intro hc p;refine r5 ?_;have⟨x7,hx7,p⟩:=bS p;refine Ve (ZX.fn ZBY (Zb lk Zd)) l .n (fun g' hz D hO=>ZuC (l.Vh hz) ((l.sl I).mono D) ((l.sl Q).mono D) ((l.sl P).mono D) hx7) ?_;rintro _ h17 _ ⟨E,x,B,t,y,q,rfl,rfl⟩ l;refine r1 ?_;rintro h19 l;refine r4 ?_;have C:=Oi0 p;subst C;exact Yk.gen (vs:=[.agg (q1W x7 E x B t y q).toArray,V9 0]) rfl (Ya (Xe rfl (Zj rfl fh)) (YL Qy Yt (l.Jo k0) (j:=0) rfl rfl (ws:=(q1W x7 E x B t y q)) rfl) (Zp lk Zl)) rfl ⟨_,⟨E,x,B,t,y,q,rfl,rfl⟩,G▸l.only (.b (.b (.b .n)))⟩
end
section
def ZDc(F:Nat):((U Term)×Term)->(((U Term)×Term)->O (U Term))->O (U Term):=fun(p0,p1) p=>
 (bif(p1.op==1) then some p0 else(bif(p1.op==3) then(Yl p1.qQ 0).bind fun q=>(p (p0,q)).bind fun r=>(Yl p1.qQ 1).bind fun t=>(p (r,t)).bind fun l=>some l else(app 96 p0 [p1]).bind fun h=>some h))
def ZUF(F:Nat)(p0:(U Term))(p1:Term):O (U Term):=
 loop F (ZDc F) (p0,p1)
end
section
def ZHI{F V:Nat}:∀(Fr:Nat)(x:((U Term)×Term))(r:(U Term)),loop Fr (ZDc F) x=some r->(match x with | (p0,p1)=>∀{h:H}{S:O Addr}{W Xc:Nat}{Zx:O Addr}{Zw:Nat}{YB:O Addr}{YA:Nat}{X:O Addr}{YJ:Nat}(ZG:V<=h.size)(ZE:Sl Zi V h Zx Zw p1.args)(Y0:Sl Zc V h YB YA p1.qJ)(Xj:Sl Zt V h X YJ p1.qQ)(y:ZV (V:=V) [ow V Zt S Xc W p0] h),WR XX 89 #[.slice S Xc W,.agg (q1W p1 Zx Zw YB YA X YJ).toArray] V h (CP (fun v (Gb:U (Ast V))=>∃ZT Y6 ZR,v=.slice ZT Y6 ZR/\Gb=[ow V Zt ZT Y6 ZR r]) [ow V Zt S Xc W p0] h)):=by
 refine Xq _ ?_;rintro ZM YM ⟨p0,p1⟩ r p h S W Xc Zx Zw YB YA X YJ ZG ZE Y0 Xj y;refine bg Tryz.ntmps89 ZG y ?_;intro T hT l;obtain rfl:=l.on k0;refine r3 ?_;rintro _ h3 ⟨b2,eb2,rfl,l⟩;refine r16 ?_;refine r1 ?_;refine cn p ?_ ?_;.intro hc p;refine r9 ?_;have A:=Oi0 p;subst A;exact Yk.XA rfl (Zp lk Zl) ⟨_,⟨S,p0.length,W,rfl,rfl⟩,hT▸l.only (.b .n)⟩
 intro hc p;refine r6 ?_;refine cn p ?_ ?_;.intro hc p;refine r1 ?_;refine WC.XU mixed Kq0<|r3 ?_;have⟨x4,hx4,p⟩:=bS p;obtain⟨b5,o6,⟨⟨a7,c8⟩,⟨a9,G⟩,⟨Q,E⟩⟩,ZYt,ZYP,ZYC,ZCp⟩:=Sl.at_ Xj hx4;replace ZCp:=Xa.1 ZCp;refine Vg (ZJ JV Yt lk lk rfl ZYt hx4) ?_;have ZXX:Sl Zi V h a7 c8 x4.args:=ZCp.1;have ZXW:Sl Zc V h a9 G x4.qJ:=ZCp.2.1;have ZBA:Sl Zt V h Q E x4.qQ:=ZCp.2.2;refine Vg (Yo Qy Yt (Zu fh rfl) (At.fz l.fz ZYC ZYP) (j:=0) rfl rfl (ws:=(q1W x4 a7 c8 a9 G Q E)) rfl) ?_;have⟨Jj,Zab,p⟩:=bS p;have ZM7:=l;refine WX.cl gN rfl (ZX.fn ZB0 (Zb lk (Zb lk Zd))) l (.b .n) (fun g' hz t y=>(YM _ _ Zab) (l.Vh hz) ((l.sl ZXX).mono t) ((l.sl ZXW).mono t) ((l.sl ZBA).mono t) y) ?_ rfl rfl [] Kq0 Y2.e;rintro _ h17 _ ⟨a14,n15,c16,rfl,rfl⟩ l;obtain rfl:=l.on k0;refine WX.w gN rfl (Y3 ZgJ lk) ?_ Kq0;refine WX.wrM (fun x=>x=b2) l gN rfl (fun _ _ hR=>Z0 Zmm (Zu fh rfl) (At.eqv (hR b2 rfl) (l.Jo k1)) (j:=4) rfl (v:=.slice X p1.qQ.length YJ) rfl) ?_ rfl (.d (fun x hx e=>ZM7.djs (.a (.a .n)) x hx.1 e) .n);rintro h20 e21 l;have⟨Jh,Ur,p⟩:=bS p;obtain⟨I,o24,⟨⟨P,D⟩,⟨L,C⟩,⟨K,B⟩⟩,Qo,Qc,Qb,Y9⟩:=Sl.at_ Xj Ur;replace Y9:=Xa.1 Y9;refine WX.w gN rfl (ZJ JV Yt lk lk rfl Qo Ur) ?_ Kq0;have WN:Sl Zi V h P D Jh.args:=Y9.1;have ZnB:Sl Zc V h L C Jh.qJ:=Y9.2.1;have ZiT:Sl Zt V h K B Jh.qQ:=Y9.2.2;refine WX.wrM (fun x=>x=I) l gN rfl (fun _ _ hR=>Yo Qy Yt (Zu fh rfl) (At.eqv (hR I rfl) (At.fz l.fz Qb Qc)) (j:=0) rfl rfl (ws:=(q1W Jh P D L C K B)) rfl) ?_ rfl (.d (fun x hx e=>ZM7.nfz (.b .n) (Stb.fz ZM7.fz Qc Qb) x hx.1 e) .n);rintro h31 e32 l;have⟨x33,ZMa,p⟩:=bS p;refine WX.cl gN rfl (ZX.fn ZB0 (Zb lk (Zb lk Zd))) l (.a .n) (fun g' hz t y=>(YM _ _ ZMa) (l.Vh hz) ((l.sl WN).mono t) ((l.sl ZnB).mono t) ((l.sl ZiT).mono t) y) ?_ rfl Kq0 [] Kq0 Y2.e;rintro _ h37 _ ⟨a34,n35,c36,rfl,rfl⟩ l;obtain rfl:=l.on k0;refine WX.w gN rfl (YE lk) ?_ Kq0;refine r5 ?_;have A:=Oi0 p;subst A;exact Yk.XA rfl (Zp lk Zl) ⟨_,⟨a34,x33.length,c36,rfl,rfl⟩,hT▸l.only (.a .n)⟩
 intro hc p;refine r7 ?_;refine Vf (X0 (e:=Zt) l JV Yt U9 rfl rfl rfl (Zk lk Zz) rfl [(((Zx,Zw),(YB,YA),(X,YJ)),p1)] rfl (xs:=[p1]) rfl (by intro q hq;simp only[K2,KB,or_false]at hq;subst hq;exact(Xa.2 ⟨(l.sl ZE),(l.sl Y0),(l.sl Xj)⟩)) rfl) ?_;rintro _ h40 ⟨b39,ZZp,rfl,l⟩;have⟨z41,ZXy,p⟩:=bS p;refine WO.hv gN rfl (Uc (e:=Zt) l k2 ZsY lk lk (l.Qi k0) (l.on k0) ZXy) ?_;rintro _ h44 ⟨a42,c43,rfl,l⟩;refine r4 ?_;have A:=Oi0 p;subst A;exact Yk.XA rfl (Zp lk Zl) ⟨_,⟨a42,z41.length,c43,rfl,rfl⟩,hT▸l.only (.a .n)⟩
def ZNU{F V h}{p0:(U Term)}{p1:Term}{Zh Zg Xc Zx Zw YB YA YK YJ}{r}(y:V<=h.size)(A:Sl Zi V h Zx Zw p1.args)(B:Sl Zc V h YB YA p1.qJ)(C:Sl Zt V h YK YJ p1.qQ)(t:ZV (V:=V) [ow V Zt Zh Xc Zg p0] h)(x:ZUF F p0 p1=some r):
 WR XX 89 #[.slice Zh Xc Zg,.agg (q1W p1 Zx Zw YB YA YK YJ).toArray] V h (CP (fun v (Gb:U (Ast V))=>∃l q p,v=.slice l q p/\Gb=[ow V Zt l q p r]) [ow V Zt Zh Xc Zg p0] h):=
 ZHI F (p0,p1) r x y A B C t
end
section
def ZDC(F:Nat)(p0:Term):O ((U Term)×Int):=
 (Zcz F p0).bind fun h=>(bif(h !=0) then some ([],h) else(ZuF F p0).bind fun l=>(ZUF F [] l).bind fun p=>some (p,0))
end
section
def ZOo{F V h}{p0:Term}{Zh Zg Zo Zn Zr Zq}{r}(ZG:V<=h.size)(E:Sl Zi V h Zh Zg p0.args)(L:Sl Zc V h Zo Zn p0.qJ)(K:Sl Zt V h Zr Zq p0.qQ)(p:ZDC F p0=some r):
 WR XX 39 #[.agg (q1W p0 Zh Zg Zo Zn Zr Zq).toArray] V h (CP (fun v (Gb:U (Ast V))=>∃G I,v=.tuple #[.slice G r.1.length I,V9 r.2]/\Gb=[Z9 V (Yh Zt) (G,I) r.1]) [] h):=by
 refine bg Tryz.ntmps39 ZG ZV.nil ?_;intro T C l;unfold ZDC at p;refine r3 ?_;rintro _ h2 ⟨b1,eb1,rfl,l⟩;refine r8 ?_;have⟨x3,hx3,p⟩:=bS p;refine WO.cp gN rfl (ZX.fn Zgy (Zb lk Zd)) (Zbd (l.slu E) (l.slu L) (l.slu K) hx3)<|r9 ?_;refine cn p ?_ ?_;.intro Q p;refine r9 ?_;have l:=l.add (A:=Z9 V (Yh Zt) (none,0) []) Sl.nil (fun _ z=>z);have B:=Oi0 p;subst B;exact Yk.gen (vs:=[V8,V9 x3]) rfl (Zp lk (Zp lk Zl)) rfl ⟨_,⟨none,0,rfl,rfl⟩,C▸l.only (.a .n)⟩
 intro Q p;refine r5 ?_;have⟨x4,hx4,p⟩:=bS p;refine Ve (ZX.fn ZS7 (Zb lk Zd)) l .n (fun g' y q D=>ZDl (l.Vh y) ((l.sl E).mono q) ((l.sl L).mono q) ((l.sl K).mono q) hx4) ?_;rintro _ X _ ⟨a5,c7,a8,c10,a11,c13,rfl,rfl⟩ l;have⟨Km,hx16,p⟩:=bS p;have l:=l.nil (e:=Zt);refine Ve (ZX.fn ZB0 (Zb lk (Zb lk Zd))) l (.a .n) (fun g' y q D=>ZNU (l.Vh y) ((l.Qw k1).mono q) ((l.Qw k2).mono q) ((l.Qw k3).mono q) D hx16) ?_;rintro _ W _ ⟨x,P,t,rfl,rfl⟩ l;obtain rfl:=l.on k0;refine r4 ?_;refine WC.fzn l k0 ?_;rintro S ⟨Z3J,l⟩;refine r1 ?_;have B:=Oi0 p;subst B;exact Yk.gen (vs:=[.slice x Km.length t,V9 0]) rfl (Zp lk (Zp lk Zl)) rfl ⟨_,⟨x,t,rfl,rfl⟩,C▸l.only (.a .n)⟩
end
section
def ZDg(p0:(U Y)):O (U Y):=
 (app 16 ([]:U Y) p0).bind fun h=>some h
end
section
def ZN1{V h}{p0:(U Y)}{Zh Zg}{r}(I:V<=h.size)(y:Sl ZH V h Zh Zg p0)(p:ZDg p0=some r):
 WR XX 77 #[.slice Zh p0.length Zg] V h (CP (fun v (Gb:U (Ast V))=>∃A C B,v=.slice A C B/\Gb=[ow V ZH A C B r]) [] h):=by
 refine bg Tryz.ntmps77 I ZV.nil ?_;intro T x l;unfold ZDg at p;refine r8 ?_;rcases Sl.cases y with⟨rfl,rfl,rfl⟩|⟨K,rfl⟩
 ·
  refine r1 ?_;refine Vd (YN (Zu fh rfl) (JS rfl) (Zzq Xk))<|r2 ?_;refine WC.Zbg lk rfl ?_;rw[ZPs _ (by decide)]at p;replace p:some []=some r:=p;refine r7 ?_;have l:=l.nil (e:=ZH);have t:=Oi0 p;subst t;exact Yk.XA rfl (Zp lk Zl) ⟨_,⟨none,0,0,rfl,rfl⟩,x▸l.only (.a .n)⟩
 refine r1 ?_;refine Vd (YN (Zu fh rfl) (JS rfl) (Zzr Xk))<|r2 ?_;refine WC.ZaI lk rfl<|r4 ?_;refine Vf (X0 (e:=ZH) l Xk Xo JA rfl rfl rfl Zz rfl [] rfl (xs:=([]:U Y)) rfl (by intro q D;cases D) rfl) ?_;rintro _ h2 ⟨P,E,rfl,l⟩;refine r1 ?_;have⟨z3,hz3,p⟩:=bS p;refine WO.hv gN rfl (Uc (e:=ZH) l k0 QV lk lk (Sl.src (l.sl y)) rfl hz3) ?_;rintro _ L ⟨G,F,rfl,l⟩;refine r4 ?_;have t:=Oi0 p;subst t;exact Yk.XA rfl (Zp lk Zl) ⟨_,⟨G,z3.length,F,rfl,rfl⟩,x▸l.only (.a .n)⟩
end
section
def ZDz(p0:Y):O Zf:=
 some (Zf.mk 2 0 p0 [])
end
section
def ZDy{V h}{p0:Y}{r}(C:V<=h.size)(p:ZDz p0=some r):
 WR XX 51 #[.string p0] V h (CP (fun v (Gb:U (Ast V))=>∃q t,v=.agg (q2W r q t).toArray/\Gb=[Z9 V (Yh Zi) (q,t) r.qQ]) [] h):=by
 refine bg Tryz.ntmps51 C ZV.nil ?_;intro T y l;unfold ZDz at p;refine r3 ?_;rintro _ h2 ⟨E,B,rfl,l⟩;refine r5 ?_;refine Vd (YH Zhe (Zk lk (Zk lk Zz)) rfl (cs':=[V9 2,V9 0,.string p0,V8]) rfl)<|r1 ?_;rintro D l;refine r3 ?_;have l:=l.add (A:=Z9 V (Yh Zi) (none,0) []) Sl.nil (fun _ z=>z);have x:=Oi0 p;subst x;exact Yk.XA rfl (Ya (Z5 rfl fh) (YL QG Yz (l.Jo k1) (j:=0) rfl rfl (ws:=[V9 2,V9 0,.string p0,V8]) rfl) Zl) ⟨_,⟨none,0,rfl,rfl⟩,y▸l.only (.a .n)⟩
end
section
def ZDb(p0:Y)(p1:(U Y)):Int×(U Zf)->(Int×(U Zf)->O ((U Y)×Term))->O ((U Y)×Term):=fun(h,l) ZAR=>
 (bif decide (h<(p1.length:Int)) then(Yl p1 h).bind fun r=>(ZDz r).bind fun q=>(app 56 l [q]).bind fun p=>ZAR (XD (h+1),p) else some (p1,(Term.mk 2 p0 l [] [])))
def ZHE(F:Nat)(p0:Y)(p1:(U Y)):O ((U Y)×Term):=
 loop F (ZDb p0 p1) (0,[])
end
section
def ZDa{F V h}{p0:Y}{p1:(U Y)}{Zx Zw Zv8}{r}(ZG:V<=h.size)(S:ZV (V:=V) [ow V ZH Zx Zv8 Zw p1] h)(t:ZHE F p0 p1=some r):
 WR XX 98 #[.string p0,.slice Zx Zv8 Zw] V h (CP (fun v (Gb:U (Ast V))=>∃ZT ZR UO UM UN UL,v=.agg (q1W r.2 ZT ZR UO UM UN UL).toArray/\Gb=[ow V ZH Zx Zv8 Zw r.1,Z9 V (Yh Zi) (ZT,ZR) r.2.args,Z9 V (Yh Zc) (UO,UM) r.2.qJ,Z9 V (Yh Zt) (UN,UL) r.2.qQ]) [ow V ZH Zx Zv8 Zw p1] h):=by
 refine bg Tryz.ntmps98 ZG S ?_;intro T hT l;unfold ZHE at t;obtain rfl:=l.on k0;refine r3 ?_;rintro _ h2 ⟨X,eb1,rfl,l⟩;refine r5 ?_;refine Vd (YH Ze9 (Zk lk (Zk lk Zz)) rfl (cs':=[V9 2,.string p0,V8,V8,V8]) rfl)<|r1 ?_;rintro _ h4 ⟨W,eb3,rfl,l⟩;refine r1 ?_;rintro h5 l;refine r9 ?_;have l:=l.nil (e:=Zi);refine WC.loop (WL.lift t (fun p s=>match p with | (I,C)=>∃x K B y D,s=⟨x,[],K,none⟩/\Sp V T h [bx V X [V9 0,.string (⟨#[]⟩:Y),V8,V8,V8],ow V Zi B D y C,bx V W [V9 2,.string p0,.slice B D y,V8,V8],ow V ZH Zx p1.length Zw p1] K/\x.at 1=.slice Zx p1.length Zw/\x.at 4=(Va X)/\x.at 5=(Va W)/\x.at 6= V9 I) ⟨_,_,none,0,0,rfl,l.only (.d (.a (.a (.a .n)))),YQ⟩ ?_);rintro ZAR ⟨I,C⟩ s ZG4 t ⟨x,K,B,y,D,rfl,l,e8,e9,e10,e12⟩;obtain rfl:=l.on k1;refine r9 ?_;refine cn t ?_ ?_;.intro hc t;refine r4 ?_;refine WC.XU mixed Kq0<|r4 ?_;have⟨x18,WH,t⟩:=bS t;have⟨b19,o20,_,Zdn,Zdp,KY⟩:=Src.at_ (l.Qi k3) WH;refine Vg (ZJ Xk Xo lk lk rfl Zdn WH)<|Vg (Z0 Uu (Zu fh rfl) Zdp (j:=0) rfl (v:=.string x18) rfl) ?_;have⟨x21,ZBn,t⟩:=bS t;refine WX.cl0 gN rfl (ZX.fn ZKh (Zb lk Zd)) l .n (fun g' hz hf S=>ZDy (l.Vh hz) ZBn) ?_ rfl rfl;rintro _ h25 _ ⟨P,L,rfl,rfl⟩ l;refine WX.hn gN rfl (X0 (e:=Zi) l JM Yz Za4 rfl rfl rfl (Zk lk Zz) rfl [((P,L),x21)] rfl (xs:=[x21]) rfl (by intro q Q;simp only[K2,KB,or_false]at Q;subst Q;exact(Yd.2 (l.Qw k0))) rfl) ?_ rfl;rintro _ h28 ⟨b27,ZUP,rfl,l⟩;have⟨z29,ZLX,t⟩:=bS t;refine WX.hv gN rfl (Uc (e:=Zi) l k3 ZdT lk lk (l.Qi k0) (l.on k0) ZLX) ?_ rfl rfl [] Kq0 Y2.e;rintro _ h32 ⟨G,E,rfl,l⟩;refine WX.w gN rfl (Y3 Zpo lk) ?_ Kq0;refine WX.hu gN (WG l k4 ZhE lk lk (vs:=[.slice G z29.length E]) rfl rfl rfl rfl (cs':=[V9 2,.string p0,.slice G z29.length E,V8,V8]) rfl) ?_ rfl Kq0 [] Kq0 Y2.e;rintro h33 l;refine r8 ?_;exact ZQ.YC (ZG4 _ _ t ⟨_,_,G,E,z29.length,rfl,l.only (.f (.b (.a (.d .n)))),YQ⟩)
 intro hc t;refine r9 ?_;rintro h34 l;refine r2 ?_;refine WC.fzn l k1 ?_;rintro h35 ⟨ZX5,l⟩;refine r1 ?_;have l:=l.add (A:=Z9 V (Yh Zc) (none,0) []) Sl.nil (fun _ z=>z);have l:=l.add (A:=Z9 V (Yh Zt) (none,0) []) Sl.nil (fun _ z=>z);have hr:=Oi0 t;subst hr;exact Yk.XA rfl (Ya (Yy rfl (Zj rfl e9)) (YL Qy Yt (l.Jo k3) (j:=0) rfl rfl (ws:=[V9 2,.string p0,.slice B C.length y,V8,V8]) rfl) Zl) ⟨_,⟨B,y,none,0,none,0,rfl,rfl⟩,hT▸l.only (.g (.d (.b (.a .n))))⟩
end
section
def Zia(F:Nat):O Term:=
 (ZHE F (⟨#[122]⟩:Y) ([(⟨#[97]⟩:Y),(⟨#[98]⟩:Y)])).bind fun l=>(ZHE F (⟨#[121]⟩:Y) []).bind fun h=>some (Term.mk 4 (⟨#[]⟩:Y) [] ([(Za.mk 1 (⟨#[]⟩:Y) ([(ZN.mk (⟨#[120]⟩:Y) ([(⟨#[97]⟩:Y)])),(ZN.mk (⟨#[121]⟩:Y) [])]) [] [l.2]),(Za.mk 2 (⟨#[112]⟩:Y) [] [] ([(Term.mk 6 (⟨#[113]⟩:Y) [] [] ([(Term.mk 2 (⟨#[120]⟩:Y) ([(Zf.mk 1 1 (⟨#[]⟩:Y) [])]) [] [])]))]))]) ([(Term.mk 3 (⟨#[]⟩:Y) [] [] ([h.2,(Term.mk 8 (⟨#[112]⟩:Y) [] [] ([(Term.mk 1 (⟨#[]⟩:Y) [] [] [])]))]))]))
end
section
def ZdC{F V h}{r}(ZG:V<=h.size)(D:Zia F=some r):
 WR XX 50 #[] V h (CP (fun v (Gb:U (Ast V))=>∃ZT ZR UO UM UN UL,v=.agg (q1W r ZT ZR UO UM UN UL).toArray/\Gb=[Z9 V (Yh Zi) (ZT,ZR) r.args,Z9 V (Yh Zc) (UO,UM) r.qJ,Z9 V (Yh Zt) (UN,UL) r.qQ]) [] h):=by
 refine bg Tryz.ntmps50 ZG ZV.nil ?_;intro T hT l;unfold Zia at D;refine r3 ?_;rintro _ h2 ⟨b1,eb1,rfl,l⟩;refine r4 ?_;refine Vf (X0 (e:=ZH) l Xk Xo JA rfl rfl rfl (Zk lk Zz) rfl [((),(⟨#[97]⟩:Y))] rfl (xs:=[(⟨#[97]⟩:Y)]) rfl (by intro q p;simp only[K2,KB,or_false]at p;subst p;exact trivial) rfl) ?_;rintro _ h4 ⟨b3,eb3,rfl,l⟩;refine Vd (YH Zu6 (Zk lk (Zk lk Zz)) rfl (cs':=[.string (⟨#[120]⟩:Y),.slice (some ⟨b3,0,none⟩) 1 2]) rfl)<|Vd (YH Zu6 (Zk lk Zz) rfl (cs':=[.string (⟨#[121]⟩:Y),V8]) rfl) ?_;have E:=l.on k0;rw[E]at l;try rw[E]
 refine WO.fzn l k0 ?_;rintro h6 ⟨hn7,l⟩;refine Vf (X0 (e:=ZO) l JX Xp ZbL rfl rfl rfl (Zk lk (Zk lk Zz)) rfl [(((some ⟨b3,0,none⟩),2),(ZN.mk (⟨#[120]⟩:Y) ([(⟨#[97]⟩:Y)]))),((none,0),(ZN.mk (⟨#[121]⟩:Y) []))] rfl (xs:=[(ZN.mk (⟨#[120]⟩:Y) ([(⟨#[97]⟩:Y)])),(ZN.mk (⟨#[121]⟩:Y) [])]) rfl (by intro q p;simp only[K2,KB,or_false]at p;rcases p with rfl|rfl<;>first|exact(l.Qw k0) | exact Sl.nil) rfl) ?_;rintro _ h9 ⟨b8,eb8,rfl,l⟩;refine Vf (X0 (e:=ZH) l Xk Xo JA rfl rfl rfl (Zk lk (Zk lk Zz)) rfl [((),(⟨#[97]⟩:Y)),((),(⟨#[98]⟩:Y))] rfl (xs:=[(⟨#[97]⟩:Y),(⟨#[98]⟩:Y)]) rfl (by intro q p;simp only[K2,KB,or_false]at p;rcases p with rfl|rfl<;>first|exact trivial) rfl) ?_;rintro _ h11 ⟨b10,ZZx,rfl,l⟩;have⟨x12,Zfv,D⟩:=bS D;refine Ve (ZX.fn ZJ9 (Zb lk (Zb lk Zd))) l (.a .n) (fun g' Q hf S=>ZDa (l.Vh Q) S Zfv) ?_;rintro _ h22 _ ⟨a13,c15,a16,c18,a19,c21,rfl,rfl⟩ l;refine Vf (X0 (e:=Zt) l JV Yt U9 rfl rfl rfl (Zk lk Zz) rfl [(((a13,c15),(a16,c18),(a19,c21)),x12.2)] rfl (xs:=[x12.2]) rfl (by intro q p;simp only[K2,KB,or_false]at p;subst p;exact(Xa.2 ⟨(l.Qw k1),(l.Qw k2),(l.Qw k3)⟩)) rfl) ?_;rintro _ h25 ⟨P,ZZu,rfl,l⟩;refine Vd (YH Zp0 (Zk lk (Zk lk (Zk lk Zz))) rfl (cs':=[V9 1,.string (⟨#[]⟩:Y),.slice (some ⟨b8,0,none⟩) 2 4,V8,.slice (some ⟨P,0,none⟩) 1 2]) rfl)<|r1 ?_;rintro _ h27 ⟨b26,Z5E,rfl,l⟩;refine r1 ?_;rintro h28 l;refine r4 ?_;refine Vd (YH Zhe (Zk lk (Zk lk Zz)) rfl (cs':=[V9 1,V9 1,.string (⟨#[]⟩:Y),V8]) rfl)<|Vf (X0 (e:=Zi) l JM Yz Za4 rfl rfl rfl (Zk lk Zz) rfl [((none,0),(Zf.mk 1 1 (⟨#[]⟩:Y) []))] rfl (xs:=[(Zf.mk 1 1 (⟨#[]⟩:Y) [])]) rfl (by intro q p;simp only[K2,KB,or_false]at p;subst p;exact(Yd.2 Sl.nil)) rfl) ?_;rintro _ h30 ⟨L,Z5D,rfl,l⟩;refine Vd (YH Ze9 (Zk lk (Zk lk (Zk lk Zz))) rfl (cs':=[V9 2,.string (⟨#[120]⟩:Y),.slice (some ⟨L,0,none⟩) 1 2,V8,V8]) rfl)<|r1 ?_;rintro _ h32 ⟨b31,ZOR,rfl,l⟩;refine r1 ?_;rintro h33 l;refine r5 ?_;have ZSO:=l.on k1;rw[ZSO]at l;try rw[ZSO]
 refine WO.fzn l k1 ?_;rintro h35 ⟨ZX5,l⟩;refine Vf (X0 (e:=Zt) l JV Yt U9 rfl rfl rfl (Zk lk Zz) rfl [((((some ⟨L,0,none⟩),2),(none,0),(none,0)),(Term.mk 2 (⟨#[120]⟩:Y) ([(Zf.mk 1 1 (⟨#[]⟩:Y) [])]) [] []))] rfl (xs:=[(Term.mk 2 (⟨#[120]⟩:Y) ([(Zf.mk 1 1 (⟨#[]⟩:Y) [])]) [] [])]) rfl (by intro q p;simp only[K2,KB,or_false]at p;subst p;exact(Xa.2 ⟨(l.Qw k0),Sl.nil,Sl.nil⟩)) rfl) ?_;rintro _ h38 ⟨K,Z5B,rfl,l⟩;refine Vd (YH Ze9 (Zk lk (Zk lk (Zk lk Zz))) rfl (cs':=[V9 6,.string (⟨#[113]⟩:Y),V8,V8,.slice (some ⟨K,0,none⟩) 1 2]) rfl) ?_;have ZSN:=l.on k0;rw[ZSN]at l;try rw[ZSN]
 refine WO.fzn l k0 ?_;rintro h40 ⟨Z3F,l⟩;refine Vf (X0 (e:=Zt) l JV Yt U9 rfl rfl rfl (Zk lk Zz) rfl [(((none,0),(none,0),((some ⟨K,0,none⟩),2)),(Term.mk 6 (⟨#[113]⟩:Y) [] [] ([(Term.mk 2 (⟨#[120]⟩:Y) ([(Zf.mk 1 1 (⟨#[]⟩:Y) [])]) [] [])])))] rfl (xs:=[(Term.mk 6 (⟨#[113]⟩:Y) [] [] ([(Term.mk 2 (⟨#[120]⟩:Y) ([(Zf.mk 1 1 (⟨#[]⟩:Y) [])]) [] [])]))]) rfl (by intro q p;simp only[K2,KB,or_false]at p;subst p;exact(Xa.2 ⟨Sl.nil,Sl.nil,(l.Qw k0)⟩)) rfl) ?_;rintro _ h43 ⟨I,Z5z,rfl,l⟩;refine Vd (YH Zp0 (Zk lk (Zk lk (Zk lk Zz))) rfl (cs':=[V9 2,.string (⟨#[112]⟩:Y),V8,V8,.slice (some ⟨I,0,none⟩) 1 2]) rfl)<|r1 ?_;rintro _ h45 ⟨b44,Z5x,rfl,l⟩;refine r1 ?_;rintro h46 l;refine r4 ?_;refine Vd (YH Ze9 (Zk lk Zz) rfl (cs':=[V9 1,.string (⟨#[]⟩:Y),V8,V8,V8]) rfl)<|Vf (X0 (e:=Zt) l JV Yt U9 rfl rfl rfl (Zk lk Zz) rfl [(((none,0),(none,0),(none,0)),(Term.mk 1 (⟨#[]⟩:Y) [] [] []))] rfl (xs:=[(Term.mk 1 (⟨#[]⟩:Y) [] [] [])]) rfl (by intro q p;simp only[K2,KB,or_false]at p;subst p;exact(Xa.2 ⟨Sl.nil,Sl.nil,Sl.nil⟩)) rfl) ?_;rintro _ h48 ⟨C,Z5w,rfl,l⟩;refine Vd (YH Ze9 (Zk lk (Zk lk (Zk lk Zz))) rfl (cs':=[V9 8,.string (⟨#[112]⟩:Y),V8,V8,.slice (some ⟨C,0,none⟩) 1 2]) rfl)<|r1 ?_;rintro _ h50 ⟨G,Z5u,rfl,l⟩;refine r1 ?_;rintro h51 l;refine r3 ?_;have ZSM:=l.on k1;rw[ZSM]at l;try rw[ZSM]
 refine WC.fzn l k1 ?_;rintro h53 ⟨Z3D,l⟩;refine WC.XU mixed Kq0 ?_;have⟨x55,Zyt,D⟩:=bS D;have l:=l.nil (e:=ZH);have ZYw:=l;refine WX.cl gN rfl (ZX.fn ZJ9 (Zb lk (Zb lk Zd))) l (.a .n) (fun g' Q hf S=>ZDa (l.Vh Q) S Zyt) ?_ rfl rfl [] Kq0 Y2.e;rintro _ h65 _ ⟨a56,c58,a59,X,a62,W,rfl,rfl⟩ l;simp only[Gp,Jn]at l;refine WX.wrM (fun x=>x=G) l gN rfl (fun _ _ hR=>Yo Qy Yt (Zu (Zj rfl fh) rfl) (At.eqv (hR G rfl) (l.Jo k5)) (j:=0) rfl rfl (ws:=[V9 8,.string (⟨#[112]⟩:Y),V8,V8,.slice (some ⟨C,0,none⟩) (([(Term.mk 1 (⟨#[]⟩:Y) [] [] [])]).length) 2]) rfl) ?_ rfl (.d (fun x hx e=>ZYw.djs (.d (.a .n)) x hx.1 e) .n);rintro h68 e69 l;refine WX.hn gN rfl (X0 (e:=Zt) l JV Yt U9 rfl rfl rfl (Zk lk (Zk lk Zz)) rfl [(((a56,c58),(a59,X),(a62,W)),x55.2),(((none,0),(none,0),((some ⟨C,0,none⟩),2)),(Term.mk 8 (⟨#[112]⟩:Y) [] [] ([(Term.mk 1 (⟨#[]⟩:Y) [] [] [])])))] rfl (xs:=[x55.2,(Term.mk 8 (⟨#[112]⟩:Y) [] [] ([(Term.mk 1 (⟨#[]⟩:Y) [] [] [])]))]) rfl (by intro q p;simp only[K2,KB,or_false]at p;rcases p with rfl|rfl<;>first|exact(Xa.2 ⟨(l.Qw k1),(l.Qw k2),(l.Qw k3)⟩) | exact(Xa.2 ⟨Sl.nil,Sl.nil,(l.Qw k4)⟩)) rfl) ?_ rfl;rintro _ h71 ⟨B,Z5o,rfl,l⟩;refine WX.w gN rfl (YH Ze9 (Zk lk (Zk lk Zz)) rfl (cs':=[V9 3,.string (⟨#[]⟩:Y),V8,V8,.slice (some ⟨B,0,none⟩) 2 4]) rfl) ?_ Kq0;refine WX.hn gN rfl (ZeV l U9 (vs:=[V9 0,.string (⟨#[]⟩:Y),V8,V8,V8]) rfl) ?_ rfl;rintro _ h73 ⟨b72,Z5n,rfl,l⟩;refine WX.hu gN (WG l k0 Yt lk lk (vs:=[V9 3,.string (⟨#[]⟩:Y),V8,V8,.slice (some ⟨B,0,none⟩) 2 4]) rfl rfl rfl rfl (cs':=[V9 3,.string (⟨#[]⟩:Y),V8,V8,.slice (some ⟨B,0,none⟩) 2 4]) rfl) ?_ rfl Kq0 [] Kq0 Y2.e;rintro h74 l;refine r6 ?_;have ZSL:=l.on (.s (.s (.s (.s k15))));rw[ZSL]at l;try rw[ZSL]
 refine WO.fzn l (.s (.s (.s (.s k15)))) ?_;rintro h76 ⟨Z3B,l⟩;have ZSK:=l.on k15;rw[ZSK]at l;try rw[ZSK]
 refine WO.fzn l k15 ?_;rintro h79 ⟨Z3A,l⟩;have ZSJ:=l.on k11;rw[ZSJ]at l;try rw[ZSJ]
 refine WO.fzn l k11 ?_;rintro h82 ⟨Z3z,l⟩;refine Vf (X0 (e:=Zc) l QR Yn Kh rfl rfl rfl (Zk lk (Zk lk Zz)) rfl [((((some ⟨b8,0,none⟩),4),(none,0),((some ⟨P,0,none⟩),2)),(Za.mk 1 (⟨#[]⟩:Y) ([(ZN.mk (⟨#[120]⟩:Y) ([(⟨#[97]⟩:Y)])),(ZN.mk (⟨#[121]⟩:Y) [])]) [] [x12.2])),(((none,0),(none,0),((some ⟨I,0,none⟩),2)),(Za.mk 2 (⟨#[112]⟩:Y) [] [] ([(Term.mk 6 (⟨#[113]⟩:Y) [] [] ([(Term.mk 2 (⟨#[120]⟩:Y) ([(Zf.mk 1 1 (⟨#[]⟩:Y) [])]) [] [])]))])))] rfl (xs:=[(Za.mk 1 (⟨#[]⟩:Y) ([(ZN.mk (⟨#[120]⟩:Y) ([(⟨#[97]⟩:Y)])),(ZN.mk (⟨#[121]⟩:Y) [])]) [] [x12.2]),(Za.mk 2 (⟨#[112]⟩:Y) [] [] ([(Term.mk 6 (⟨#[113]⟩:Y) [] [] ([(Term.mk 2 (⟨#[120]⟩:Y) ([(Zf.mk 1 1 (⟨#[]⟩:Y) [])]) [] [])]))]))]) rfl (by intro q p;simp only[K2,KB,or_false]at p;rcases p with rfl|rfl<;>first|exact(ZK.2 ⟨(l.Qw k2),Sl.nil,(l.Qw k1)⟩) | exact(ZK.2 ⟨Sl.nil,Sl.nil,(l.Qw k0)⟩)) rfl) ?_;rintro _ h85 ⟨y,ZUL,rfl,l⟩;refine r1 ?_;have ZSI:=l.on k5;rw[ZSI]at l;try rw[ZSI]
 refine WO.fzn l k5 ?_;rintro h87 ⟨Z3y,l⟩;refine Vf (X0 (e:=Zt) l JV Yt U9 rfl rfl rfl (Zk lk Zz) rfl [(((none,0),(none,0),((some ⟨B,0,none⟩),4)),(Term.mk 3 (⟨#[]⟩:Y) [] [] ([x55.2,(Term.mk 8 (⟨#[112]⟩:Y) [] [] ([(Term.mk 1 (⟨#[]⟩:Y) [] [] [])]))])))] rfl (xs:=[(Term.mk 3 (⟨#[]⟩:Y) [] [] ([x55.2,(Term.mk 8 (⟨#[112]⟩:Y) [] [] ([(Term.mk 1 (⟨#[]⟩:Y) [] [] [])]))]))]) rfl (by intro q p;simp only[K2,KB,or_false]at p;subst p;exact(Xa.2 ⟨Sl.nil,Sl.nil,(l.Qw k0)⟩)) rfl) ?_;rintro _ h90 ⟨t,ZZn,rfl,l⟩;refine Vd (YH Ze9 (Zk lk (Zk lk (Zk lk Zz))) rfl (cs':=[V9 4,.string (⟨#[]⟩:Y),V8,.slice (some ⟨y,0,none⟩) 2 4,.slice (some ⟨t,0,none⟩) 1 2]) rfl)<|WO.hu gN (WG l (.s (.s (.s (.s (.s (.s (.s (.s k15)))))))) Yt lk lk (vs:=[V9 4,.string (⟨#[]⟩:Y),V8,.slice (some ⟨y,0,none⟩) 2 4,.slice (some ⟨t,0,none⟩) 1 2]) rfl rfl rfl rfl (cs':=[V9 4,.string (⟨#[]⟩:Y),V8,.slice (some ⟨y,0,none⟩) 2 4,.slice (some ⟨t,0,none⟩) 1 2]) rfl) ?_;rintro h91 l;refine r2 ?_;have ZSH:=l.on k3;rw[ZSH]at l;try rw[ZSH]
 refine WC.fzn l k3 ?_;rintro h93 ⟨Z3x,l⟩;have ZSG:=l.on k2;rw[ZSG]at l;try rw[ZSG]
 refine WC.fzn l k2 ?_;rintro h96 ⟨Z3w,l⟩;refine r1 ?_;have l:=l.add (A:=Z9 V (Yh Zi) (none,0) []) Sl.nil (fun _ z=>z);have hr:=Oi0 D;subst hr;exact Yk.XA rfl (Ya (Xe rfl (Xe rfl (Xe rfl (Xe rfl (Z5 rfl fh))))) (YL Qy Yt (l.Jo k3) (j:=0) rfl rfl (ws:=[V9 4,.string (⟨#[]⟩:Y),V8,.slice (some ⟨y,0,none⟩) (([(Za.mk 1 (⟨#[]⟩:Y) ([(ZN.mk (⟨#[120]⟩:Y) ([(⟨#[97]⟩:Y)])),(ZN.mk (⟨#[121]⟩:Y) [])]) [] [x12.2]),(Za.mk 2 (⟨#[112]⟩:Y) [] [] ([(Term.mk 6 (⟨#[113]⟩:Y) [] [] ([(Term.mk 2 (⟨#[120]⟩:Y) ([(Zf.mk 1 1 (⟨#[]⟩:Y) [])]) [] [])]))]))]).length) 4,.slice (some ⟨t,0,none⟩) (([(Term.mk 3 (⟨#[]⟩:Y) [] [] ([x55.2,(Term.mk 8 (⟨#[112]⟩:Y) [] [] ([(Term.mk 1 (⟨#[]⟩:Y) [] [] [])]))]))]).length) 2]) rfl) Zl) ⟨_,⟨none,0,(some ⟨y,0,none⟩),4,(some ⟨t,0,none⟩),2,rfl,rfl⟩,hT▸l.only (.a (.b (.a .n)))⟩
end
section
def ZuE:(U (Y×Z))->O (U (Y×Z)):=fun h=>
 some h
def Zdx(x:(Part×(U (Y×Z))->O (Z×(U (Y×Z)))))(l:(U Part)):Int×(U (Y×Z))->(Int×(U (Y×Z))->O (Z×(U (Y×Z))))->O (Z×(U (Y×Z))):=fun(h,q) ZAI=>
 (bif decide (h<(l.length:Int)) then(Yl l h).bind fun r=>(x (r,q)).bind fun(t,p)=>(bif(!t) then some (false,p) else ZAI (XD (h+1),p)) else some (true,q))
def ZDi(r:(Part×(U (Y×Z))->O (Z×(U (Y×Z)))))(l:(U Part)):Int×(U (Y×Z))->(Int×(U (Y×Z))->O (Z×(U (Y×Z))))->O (Z×(U (Y×Z))):=fun(q,ZbM) t=>
 (bif decide (q<(l.length:Int)) then(Yl l q).bind fun p=>(r (p,ZbM)).bind fun(ZFL,h)=>(bif(!ZFL) then some (false,h) else t (XD (q+1),h)) else some (true,ZbM))
def Zls(Zot:Int)(ZjH:(Int×(U (Y×Z))->O (Z×(U (Y×Z)))))(Zhz:ZN):Int×(U (Y×Z))->(Int×(U (Y×Z))->O (Z×(U (Y×Z))))->O (Z×(U (Y×Z))):=fun(ZeJ,h) Zwg=>
 (bif decide (ZeJ<(Zhz.names.length:Int)) then(Yl Zhz.names ZeJ).bind fun Zqx=>Zwg (XD (ZeJ+1),Yu h Zqx true) else ZjH (XD (Zot+1),h))
def ZDh(p:(Part×(U (Y×Z))->O (Z×(U (Y×Z)))))(l:(U Part)):Int×(U (Y×Z))->(Int×(U (Y×Z))->O (Z×(U (Y×Z))))->O (Z×(U (Y×Z))):=fun(h,Zfi) Zwe=>
 (bif decide (h<(l.length:Int)) then(Yl l h).bind fun ZFG=>(p (ZFG,Zfi)).bind fun(ZQN,ZcQ)=>(bif(!ZQN) then some (false,ZcQ) else Zwe (XD (h+1),ZcQ)) else some (true,Zfi))
def Zh5(F:Nat)(q:(Part×(U (Y×Z))->O (Z×(U (Y×Z)))))(l:Za):Int×(U (Y×Z))->(Int×(U (Y×Z))->O (Z×(U (Y×Z))))->O (Z×(U (Y×Z))):=fun(Zot,h) ZjH=>
 (bif decide (Zot<(l.qV.length:Int)) then(Yl l.qV Zot).bind fun Zhz=>loop F (Zls Zot ZjH Zhz) (0,Yu h Zhz.qG true) else(bif(!true) then some (false,h) else(WW F (Part.cl l)).bind fun p=>loop F (ZDh q p) (0,h)))
def Zh4(F:Nat):Part×(U (Y×Z))->(Part×(U (Y×Z))->O (Z×(U (Y×Z))))->O (Z×(U (Y×Z))):=fun(x,h) y=>
 Zkx x (fun p=>(bif(!true) then some (false,Yu h p.qG true) else(WW F (Part.pr p)).bind fun t=>loop F (Zdx y t) (0,Yu h p.qG true))) (fun l=>(bif(!true) then some (false,Yu h l.qG true) else(WW F (Part.ex l)).bind fun r=>loop F (ZDi y r) (0,Yu h l.qG true))) (fun q=>loop F (Zh5 F y q) (0,Yu h q.qG true))
def ZDj(F:Nat)(p0:Term):O (U (Y×Z)):=
 (loop F (Zh4 F) ((Part.pr p0),[])).bind fun(ZWU,ZQM)=>(ZuE) ZQM
end
section
def ZN5{F V:Nat}{h:H}{p0:Term}{K:O Addr}{L:Nat}{G:O Addr}{I:Nat}{D:O Addr}{E:Nat}{r:(U (Y×Z))}(ZG:V<=h.size)(Zm:Sl Zi V h K L p0.args)(ZI:Sl Zc V h G I p0.qJ)(ZL:Sl Zt V h D E p0.qQ)(t:ZDj F p0=some r):
 WR XX 74 #[.agg (q1W p0 K L G I D E).toArray] V h (CP (fun(v:N)(Gb:U (Ast V))=>∃(ZiK:Nat),v=.map (some ZiK)/\Gb=[mp V Value.string Value.bool (some ZiK) r]) [] h):=by
 refine WF.Qj (args:=[_]) (fn:=Tryz.f74) Kq0 (by exact rfl) Tryz.ntmps74 (by simp) ?_;simp only[Zv,Zy,Nat.reduceAdd];obtain⟨T,hT,l⟩:∃T,T=QA (V:=V) []/\Sp V T h [] h:=⟨_,rfl,Sp.start ZG ZV.nil⟩;unfold ZDj at t;refine r3 ?_;rintro _ h2 ⟨b1,eb1,rfl,l⟩;refine r4 ?_;refine r1 ?_;refine Vf (Zbo Value.string Value.bool l) ?_;rintro _ h3 ⟨Q,eb4,rfl,l⟩;refine r1 ?_;rintro _ h6 ⟨b5,eb5,rfl,l⟩;refine r1 ?_;rintro h7 l;refine r6 ?_;refine Vd (YH ZsO (Zk lk Zz) rfl (cs':=(q1W p0 K L G I D E)) rfl) ?_;refine Vd (Zbi lk Kq0) ?_;refine WO.inl gN rfl (ZX.fn ZwG (Zb lk Zd)) (WF.begin (args:=[_]) (fn:=Tryz.f57) Kq0 (by exact rfl) Tryz.ntmps57 (by simp) ?_);simp only[Zv,Zy,Nat.reduceAdd];refine r3 ?_;rintro _ h9 ⟨b8,eb8,rfl,l⟩;refine r4 ?_;refine r1 ?_;refine Vd (Uj (Zb lk Zd)) ?_;refine r4 ?_;refine Yk.XA rfl (Zp lk Zl) ?_;refine r3 ?_;refine WC.ZtT (first:=[]) (cap:=[.pointer (some ⟨b8,0,none⟩)]) l lk Zpf ?_;intro h10 C Zl2 Zmx ZnI l;refine WR.ZGA (r:=r) (fun(v17:(U (Y×Z)))(v:N)(h15:H)=>v=.tuple #[]/\Sp V T h [bx V b1 (q1W p0 K L G I D E),bx V b5 [.map (some Q)],bx V b8 [.iface 78 (.agg (q1W p0 K L G I D E).toArray)],mp V Value.string Value.bool (some Q) v17,ob V C Zmx,ob V Zl2 .deferred] h15) (ZuE) ?_ (WF.begin (args:=[_,_]) (fn:=Tryz.f100) Kq0 (by exact rfl) Tryz.ntmps100 (by simp) ?_);.clear t l;rintro v17 v h15 t ⟨rfl,l⟩;dsimp only[ZuE]at t;refine RgE.sp ZnI l k4 ?_;rintro h18 l;refine r6 ?_;refine r1 ?_;refine r2 ?_;refine Z8.ZfJ l k4 ?_;rintro h19 l;have W:=Oi0 t;subst W;exact Z8.gen rfl (Zp lk Zl) rfl ⟨_,⟨Q,rfl,rfl⟩,hT▸l.only (.e .n)⟩
 skip;simp only[Zv,Zy,Nat.reduceAdd];refine r3 ?_;rintro _ h21 ⟨B,ZZv,rfl,l⟩;refine r4 ?_;refine r1 ?_;rintro _ h23 ⟨y,ZUQ,rfl,l⟩;refine r4 ?_;refine Vd (Uj (Zb lk (Zb lk Zd))) ?_;refine r1 ?_;rintro h24 l;refine r4 ?_;refine r1 ?_;have l:=l.add (A:=Z9 V (Yh Zi) (K,L) p0.args) (l.sl Zm) (fun _ z=>z);have l:=l.add (A:=Z9 V (Yh Zc) (G,I) p0.qJ) (l.sl ZI) (fun _ z=>z);have l:=l.add (A:=Z9 V (Yh Zt) (D,E) p0.qQ) (l.sl ZL) (fun _ z=>z)
 have ZMg:∀(Fr:Nat)(x:Part×(U (Y×Z)))(r:Z×(U (Y×Z))),loop Fr (Zh4 F) x=some r->match x with | (X,v29)=>∀{h:H}(S:PtP),V<=h.size->ZV (V:=V) [Z9 V Z6 S X,bx V b1 (q1W p0 K L G I D E),bx V b5 [.map (some Q)],bx V b8 [.iface 78 (.agg (q1W p0 K L G I D E).toArray)],bx V B [.func (.yield C) #[] #[]],bx V y [.func (.func 101) #[] #[.pointer (some ⟨B,0,none⟩),.pointer (some ⟨y,0,none⟩)]],Z9 V (Yh Zi) (K,L) p0.args,Z9 V (Yh Zc) (G,I) p0.qJ,Z9 V (Yh Zt) (D,E) p0.qQ,mp V Value.string Value.bool (some Q) v29,ob V C Zmx,ob V Zl2 .deferred] h->WR XX 101 #[ifV S X,.pointer (some ⟨B,0,none⟩),.pointer (some ⟨y,0,none⟩)] V h (CP (fun(v:N)(Gb:U (Ast V))=>match r with | (v34,v35)=>v=.bool v34/\Gb=[bx V b1 (q1W p0 K L G I D E),bx V b5 [.map (some Q)],bx V b8 [.iface 78 (.agg (q1W p0 K L G I D E).toArray)],bx V B [.func (.yield C) #[] #[]],bx V y [.func (.func 101) #[] #[.pointer (some ⟨B,0,none⟩),.pointer (some ⟨y,0,none⟩)]],Z9 V (Yh Zi) (K,L) p0.args,Z9 V (Yh Zc) (G,I) p0.qJ,Z9 V (Yh Zt) (D,E) p0.qQ,mp V Value.string Value.bool (some Q) v35,ob V C Zmx,ob V Zl2 .deferred]) [Z9 V Z6 S X,bx V b1 (q1W p0 K L G I D E),bx V b5 [.map (some Q)],bx V b8 [.iface 78 (.agg (q1W p0 K L G I D E).toArray)],bx V B [.func (.yield C) #[] #[]],bx V y [.func (.func 101) #[] #[.pointer (some ⟨B,0,none⟩),.pointer (some ⟨y,0,none⟩)]],Z9 V (Yh Zi) (K,L) p0.args,Z9 V (Yh Zc) (G,I) p0.qJ,Z9 V (Yh Zt) (D,E) p0.qQ,mp V Value.string Value.bool (some Q) v29,ob V C Zmx,ob V Zl2 .deferred] h):=by
  clear t l;refine Xq _ ?_;rintro UE Zgv ⟨X,v29⟩ r t h S ZG hO;dsimp only[Zh4]at t;obtain⟨T,hT,l⟩:∃T,T=QA (V:=V) [Z9 V Z6 S X,bx V b1 (q1W p0 K L G I D E),bx V b5 [.map (some Q)],bx V b8 [.iface 78 (.agg (q1W p0 K L G I D E).toArray)],bx V B [.func (.yield C) #[] #[]],bx V y [.func (.func 101) #[] #[.pointer (some ⟨B,0,none⟩),.pointer (some ⟨y,0,none⟩)]],Z9 V (Yh Zi) (K,L) p0.args,Z9 V (Yh Zc) (G,I) p0.qJ,Z9 V (Yh Zt) (D,E) p0.qQ,mp V Value.string Value.bool (some Q) v29,ob V C Zmx,ob V Zl2 .deferred]/\Sp V T h [Z9 V Z6 S X,bx V b1 (q1W p0 K L G I D E),bx V b5 [.map (some Q)],bx V b8 [.iface 78 (.agg (q1W p0 K L G I D E).toArray)],bx V B [.func (.yield C) #[] #[]],bx V y [.func (.func 101) #[] #[.pointer (some ⟨B,0,none⟩),.pointer (some ⟨y,0,none⟩)]],Z9 V (Yh Zi) (K,L) p0.args,Z9 V (Yh Zc) (G,I) p0.qJ,Z9 V (Yh Zt) (D,E) p0.qQ,mp V Value.string Value.bool (some Q) v29,ob V C Zmx,ob V Zl2 .deferred] h:=⟨_,rfl,Sp.start ZG hO⟩;refine WF.begin (args:=[_,_,_]) (fn:=Tryz.f101) Kq0 (by exact rfl) Tryz.ntmps101 (by simp) ?_;simp only[Zv,Zy,Nat.reduceAdd];refine r8 ?_;refine r1 ?_;refine Vd (Ye (Zu (Yy rfl fh) ZW)) ?_;refine WO.ZKR gN rfl lk (Zb (Zu fh ZW) Zd) l k10 ZnI rfl rfl ?_;refine r1 ?_;refine Vd (YE (Zu fh ZW)) ?_;refine r1 ?_;refine AsK.sp ZnI l k10 ?_;rintro h36 l;refine r2 ?_;refine r1 ?_;refine Vd (Ye (Zu fh ZW)) ?_;refine r4 ?_;refine r1 ?_;rcases X with v37|v38|v39
  .replace t:=Zge t;obtain⟨⟨⟨a40,c41⟩,⟨a42,c43⟩,⟨a44,c45⟩⟩,⟨a46,c47⟩⟩:=S;have l:=l.add (A:=Z9 V (Yh Zi) (a40,c41) v37.args) (ZaQ (l.get k1)).1 (fun _ z=>z);have l:=l.add (A:=Z9 V (Yh Zc) (a42,c43) v37.qJ) (ZaQ (l.get k2)).2.1 (fun _ z=>z);have l:=l.add (A:=Z9 V (Yh Zt) (a44,c45) v37.qQ) (ZaQ (l.get k3)).2.2 (fun _ z=>z);refine Vd (ZaK Tryz.underlying78 rfl (Zu fh rfl)) ?_;refine r4 ?_;refine WC.Zbg (Zu (Zj rfl fh) rfl) rfl ?_;refine r3 ?_;rintro _ h49 ⟨b48,Z5v,rfl,l⟩;refine r1 ?_;rintro h50 l;refine r4 ?_;refine r1 ?_;refine r2 ?_;refine WO.hu gN (Kn (kv:=Value.string) (vv:=Value.bool) (k:=v37.qG) (v:=true) l k14 Jd XY (Zu (Z5 rfl (Zj rfl fh)) rfl) (Zu fh rfl) (JS rfl)) ?_;rintro h51 l;refine r3 ?_;refine BdK.sp ZnI l k5 ?_;rintro h52 l;refine r3 ?_;refine cn t ?_ ?_;.intro P t;refine r6 ?_;refine r1 ?_;have W:=Oi0 t;subst W;exact Yk.XA rfl (Zp lk Zl) ⟨_,⟨rfl,rfl⟩,hT▸l.only (.j (.j (.j (.j (.j (.j (.j (.j (.b (.a (.g .n)))))))))))⟩
   intro P t;refine r4 ?_;refine r1 ?_;refine Vd (Ye (Zu (Yy rfl (Z5 rfl (Zj rfl fh))) ZW)) ?_;have⟨x53,ZL6,t⟩:=bS t;refine WO.W9 gN rfl (Zu fh ZW) l (l.get k6) ZL6 ?_;rintro h56 a54 c55 l;refine r4 ?_;refine r1 ?_;refine WC.loop (WL.lift t (fun(p:Int×(U (Y×Z)))(s:Fs)=>match p with | (v62,v64)=>∃(ZyJ:Fr) (h57:H),s=⟨ZyJ,[],h57,none⟩/\Sp V T h [bx V y [.func (.func 101) #[] #[.pointer (some ⟨B,0,none⟩),.pointer (some ⟨y,0,none⟩)]],bx V B [.func (.yield C) #[] #[]],bx V b1 (q1W p0 K L G I D E),bx V b5 [.map (some Q)],bx V b8 [.iface 78 (.agg (q1W p0 K L G I D E).toArray)],ow V Z6 a54 x53.length c55 x53,Z9 V (Yh Zi) (K,L) p0.args,Z9 V (Yh Zc) (G,I) p0.qJ,Z9 V (Yh Zt) (D,E) p0.qQ,mp V Value.string Value.bool (some Q) v64,ob V C Zmx,ob V Zl2 .deferred] h57/\ZyJ.at 2=.pointer (some ⟨y,0,none⟩)/\ZyJ.at 12=.slice a54 x53.length c55/\ZyJ.at 13=.int .i64 (x53.length:Int)/\ZyJ.at 14=.int .i64 v62) ⟨_,_,rfl,l.only (.c k12 (.c k11 (.c k8 (.c k8 (.c k8 (.a (.j (.j (.j (.b (.a (.g .n)))))))))))),YQ⟩ ?_);clear t l;rintro ZAI ⟨v62,v64⟩ s ZGQ t ⟨ZyJ,h57,rfl,l,e59,e60,e61,e63⟩;dsimp only[Zdx]at t;refine r6 ?_;refine WC.UZ lk (fun P=>?_) (fun P=>?_)
   .replace t:=YS P t;refine r6 ?_;have⟨x66,Zo4,t⟩:=bS t;have⟨b67,o68,q69,ZTs,ZUf,ZTN⟩:=Src.at_ (l.Qi k5) Zo4;refine Vd (ZJ KM Ux lk lk rfl ZTs Zo4) ?_;have l:=l.add (A:=Z9 V Z6 q69 x66) ZTN (fun _ z=>z);refine Vd (Z0 ZdV (Zu fh rfl) ZUf (j:=0) rfl (v:=ifV q69 x66) rfl) ?_;refine Vd (YE (Zu fh ZW)) ?_;refine r4 ?_;refine r1 ?_;refine Vd (Ye (Zu (Zj rfl fh) ZW)) ?_;have⟨⟨v72,v73⟩,ZBi,t⟩:=bS t;dsimp only at t;refine Ve (ZX.clo (first:=[]) (cap:=[.pointer (some ⟨B,0,none⟩),.pointer (some ⟨y,0,none⟩)]) lk Wu (Zb (Zu fh ZW) Zd) rfl) l (.a (.d (.d (.d (.b (.a (.b (.b (.b (.b (.b (.b .n)))))))))))) (fun g' hz hf hO=>Zgv _ _ ZBi q69 (l.Vh hz) hO) ?_;rintro _ h74 _ ⟨rfl,rfl⟩ l;refine r3 ?_;refine WC.UZ lk (fun P=>?_) (fun P=>?_);.replace t:=YS P t;refine r8 ?_;refine r3 ?_;have W:=Oi0 t;subst W;exact Yk.XA rfl (Zp (Zu fh rfl) Zl) ⟨_,⟨rfl,rfl⟩,hT▸l.only (.a (.a (.a (.a (.a (.a (.a (.a (.a (.a (.a .n)))))))))))⟩
    replace t:=YT P t;refine r6 ?_;refine r1 ?_;exact ZQ.YC (ZGQ _ _ t ⟨_,_,rfl,l.only (.f (.e (.a (.a (.a (.i (.a (.a (.a (.a (.a (.a .n)))))))))))),(Xe rfl (Z5 rfl e59)),(Xe rfl (Z5 rfl e60)),(Xe rfl (Z5 rfl e61)),fh⟩)
   replace t:=YT P t;refine r8 ?_;refine r3 ?_;have W:=Oi0 t;subst W;exact Yk.XA rfl (Zp (Zu fh rfl) Zl) ⟨_,⟨rfl,rfl⟩,hT▸l.only (.d (.d (.d (.b (.a (.b (.b (.b (.b (.b (.b .n)))))))))))⟩
  .replace t:=Zgf t;obtain⟨⟨⟨a76,c77⟩,⟨a78,c79⟩,⟨a80,c81⟩⟩,⟨a82,c83⟩⟩:=S;have l:=l.add (A:=Z9 V (Yh Zi) (a82,c83) v38.qQ) (ZjA (l.get k1)) (fun _ z=>z);refine Vd (ZdQ Tryz.underlying78 rfl ZcL Kq0 (Zu fh rfl)) ?_;refine r4 ?_;refine WC.ZaI (Zu (Zj rfl fh) rfl) rfl ?_;refine r2 ?_;refine Vd (ZaK Tryz.underlying88 rfl (Zu (Z5 rfl (Zj rfl fh)) rfl)) ?_;refine r4 ?_;refine WC.Zbg (Zu (Zj rfl fh) rfl) rfl ?_;refine r3 ?_;rintro _ h85 ⟨b84,ZUL,rfl,l⟩;refine r1 ?_;rintro h86 l;refine r6 ?_;refine r1 ?_;refine WO.hu gN (Kn (kv:=Value.string) (vv:=Value.bool) (k:=v38.qG) (v:=true) l k12 Jd XY (Zu (Z5 rfl (Zj rfl fh)) rfl) (Zu fh rfl) (JS rfl)) ?_;rintro h87 l;refine r2 ?_;refine r1 ?_;refine BdK.sp ZnI l k3 ?_;rintro h88 l;refine r3 ?_;refine cn t ?_ ?_;.intro P t;refine r6 ?_;refine r1 ?_;have W:=Oi0 t;subst W;exact Yk.XA rfl (Zp lk Zl) ⟨_,⟨rfl,rfl⟩,hT▸l.only (.g (.g (.g (.g (.g (.g (.g (.g (.b (.a (.e .n)))))))))))⟩
   intro P t;refine r4 ?_;refine r1 ?_;refine Vd (Ye (Zu (Yy rfl (Z5 rfl (Zj rfl fh))) ZW)) ?_;have⟨x89,ZGC,t⟩:=bS t;refine WO.W9 gN rfl (Zu fh ZW) l (l.get k4) ZGC ?_;rintro h92 a90 c91 l;refine r2 ?_;refine r3 ?_;refine WC.loop (WL.lift t (fun(p:Int×(U (Y×Z)))(s:Fs)=>match p with | (WK,ZbM)=>∃(Zds:Fr) (h93:H),s=⟨Zds,[],h93,none⟩/\Sp V T h [bx V y [.func (.func 101) #[] #[.pointer (some ⟨B,0,none⟩),.pointer (some ⟨y,0,none⟩)]],bx V B [.func (.yield C) #[] #[]],bx V b1 (q1W p0 K L G I D E),bx V b5 [.map (some Q)],bx V b8 [.iface 78 (.agg (q1W p0 K L G I D E).toArray)],ow V Z6 a90 x89.length c91 x89,Z9 V (Yh Zi) (K,L) p0.args,Z9 V (Yh Zc) (G,I) p0.qJ,Z9 V (Yh Zt) (D,E) p0.qQ,mp V Value.string Value.bool (some Q) ZbM,ob V C Zmx,ob V Zl2 .deferred] h93/\Zds.at 2=.pointer (some ⟨y,0,none⟩)/\Zds.at 12=.slice a90 x89.length c91/\Zds.at 13=.int .i64 (x89.length:Int)/\Zds.at 14=.int .i64 WK) ⟨_,_,rfl,l.only (.c k10 (.c k9 (.i (.i (.i (.a (.g (.g (.g (.b (.a (.e .n)))))))))))),YQ⟩ ?_);clear t l;rintro Js ⟨WK,ZbM⟩ s Zgw t ⟨Zds,h93,rfl,l,e95,e96,e97,e99⟩;dsimp only[ZDi]at t;refine r6 ?_;refine WC.UZ lk (fun P=>?_) (fun P=>?_)
   .replace t:=YS P t;refine r6 ?_;have⟨x102,hx102,t⟩:=bS t;have⟨Z0j,Z3d,ZLD,ZM6,ZNC,ZNi⟩:=Src.at_ (l.Qi k5) hx102;refine Vd (ZJ KM Ux lk lk rfl ZM6 hx102) ?_;have l:=l.add (A:=Z9 V Z6 ZLD x102) ZNi (fun _ z=>z);refine Vd (Z0 ZdV (Zu fh rfl) ZNC (j:=0) rfl (v:=ifV ZLD x102) rfl) ?_;refine Vd (YE (Zu fh ZW)) ?_;refine r3 ?_;refine r2 ?_;refine Vd (Ye (Zu (Zj rfl fh) ZW)) ?_;have⟨⟨ZFL,v109⟩,ZR8,t⟩:=bS t;dsimp only at t;refine Ve (ZX.clo (first:=[]) (cap:=[.pointer (some ⟨B,0,none⟩),.pointer (some ⟨y,0,none⟩)]) lk Wu (Zb (Zu fh ZW) Zd) rfl) l (.a (.d (.d (.d (.b (.a (.b (.b (.b (.b (.b (.b .n)))))))))))) (fun g' hz hf hO=>Zgv _ _ ZR8 ZLD (l.Vh hz) hO) ?_;rintro _ ZZd _ ⟨rfl,rfl⟩ l;refine r3 ?_;refine cn t ?_ ?_;.intro P t;refine r8 ?_;refine r3 ?_;have W:=Oi0 t;subst W;exact Yk.XA rfl (Zp lk Zl) ⟨_,⟨rfl,rfl⟩,hT▸l.only (.a (.a (.a (.a (.a (.a (.a (.a (.a (.a (.a .n)))))))))))⟩
    intro P t;refine r3 ?_;refine r4 ?_;exact ZQ.YC (Zgw _ _ t ⟨_,_,rfl,l.only (.f (.e (.a (.a (.a (.i (.a (.a (.a (.a (.a (.a .n)))))))))))),(Xe rfl (Z5 rfl e95)),(Xe rfl (Z5 rfl e96)),(Xe rfl (Z5 rfl e97)),fh⟩)
   replace t:=YT P t;refine r8 ?_;refine r3 ?_;have W:=Oi0 t;subst W;exact Yk.XA rfl (Zp (Zu fh rfl) Zl) ⟨_,⟨rfl,rfl⟩,hT▸l.only (.d (.d (.d (.b (.a (.b (.b (.b (.b (.b (.b .n)))))))))))⟩
  replace t:=Zgg t;obtain⟨⟨⟨ZfU,ZfL⟩,⟨Zjq,Zjm⟩,⟨a116,c117⟩⟩,⟨Z0r,c119⟩⟩:=S;have l:=l.add (A:=Z9 V (Yh ZO) (ZfU,ZfL) v39.qV) (ZaR (l.get k1)).1 (fun _ z=>z);have l:=l.add (A:=Z9 V (Yh Zc) (Zjq,Zjm) v39.qJ) (ZaR (l.get k2)).2.1 (fun _ z=>z);have l:=l.add (A:=Z9 V (Yh Zt) (a116,c117) v39.qQ) (ZaR (l.get k3)).2.2 (fun _ z=>z);refine Vd (ZdQ Tryz.underlying78 rfl ZcL Kq0 (Zu fh rfl)) ?_;refine r4 ?_;refine WC.ZaI (Zu (Zj rfl fh) rfl) rfl ?_;refine r2 ?_;refine Vd (ZdQ Tryz.underlying88 rfl Zok Kq0 (Zu (Z5 rfl (Zj rfl fh)) rfl)) ?_;refine r4 ?_;refine WC.ZaI (Zu (Zj rfl fh) rfl) rfl ?_;refine r2 ?_;refine Vd (ZaK Tryz.underlying166 rfl (Zu (Yy rfl (Z5 rfl fh)) rfl)) ?_;refine r4 ?_;refine WC.Zbg (Zu (Zj rfl fh) rfl) rfl ?_;refine r3 ?_;rintro _ ZZb ⟨Z0h,ZUV,rfl,l⟩;refine r1 ?_;rintro h122 l;refine r6 ?_;refine r1 ?_;refine r1 ?_;refine WO.hu gN (Kn (kv:=Value.string) (vv:=Value.bool) (k:=v39.qG) (v:=true) l k14 Jd XY (Zu (Z5 rfl (Zj rfl fh)) rfl) (Zu fh rfl) (JS rfl)) ?_;rintro Z40 l;refine r12 ?_;refine WC.loop (WL.lift t (fun(p:Int×(U (Y×Z)))(s:Fs)=>match p with | (Zot,v131)=>∃(ZnQ:Fr) (ZHk:H),s=⟨ZnQ,[],ZHk,none⟩/\Sp V T h [bx V b5 [.map (some Q)],bx V b1 (q1W p0 K L G I D E),bx V b8 [.iface 78 (.agg (q1W p0 K L G I D E).toArray)],bx V B [.func (.yield C) #[] #[]],bx V y [.func (.func 101) #[] #[.pointer (some ⟨B,0,none⟩),.pointer (some ⟨y,0,none⟩)]],Z9 V (Yh ZO) (ZfU,ZfL) v39.qV,mp V Value.string Value.bool (some Q) v131,Z9 V (Yh Zi) (K,L) p0.args,Z9 V (Yh Zc) (G,I) p0.qJ,Z9 V (Yh Zt) (D,E) p0.qQ,Z9 V (Yh Zc) (Zjq,Zjm) v39.qJ,Z9 V (Yh Zt) (a116,c117) v39.qQ,ob V C (bsy Zmx),ob V Zl2 .deferred] ZHk/\ZnQ.at 3=.pointer (some ⟨b5,0,none⟩)/\ZnQ.at 42=.slice ZfU v39.qV.length ZfL/\ZnQ.at 43=.int .i64 (v39.qV.length:Int)/\ZnQ.at 44=.int .i64 Zot) ⟨_,_,rfl,l.only (.c k8 (.j (.j (.j (.j (.f (.a (.g (.g (.g (.d (.b (.b (.d .n)))))))))))))),YQ⟩ ?_);clear t l;rintro ZjH ⟨Zot,v131⟩ s ZBN t ⟨ZnQ,ZHk,rfl,l,e126,e127,e128,ZOV⟩;dsimp only[Zh5]at t;refine r6 ?_;refine WC.UZ lk (fun P=>?_) (fun P=>?_)
  .replace t:=YS P t;refine r3 ?_;refine r3 ?_;have⟨Zhz,ZJR,t⟩:=bS t;have⟨Z66,Z26,⟨ZeR,ZeQ⟩,ZMZ,ZNv,ZYK,ZNe⟩:=Sl.at_ (l.Qw k5) ZJR;refine Vd (ZJ JX Xp lk lk rfl ZMZ ZJR) ?_;have l:=l.add (A:=Z9 V (Yh ZH) (ZeR,ZeQ) Zhz.names) ZNe (fun _ z=>z);refine Vd (Yo ZaL Xp (Zu fh rfl) ZNv (j:=0) rfl rfl (ws:=[.string Zhz.qG,.slice ZeR Zhz.names.length ZeQ]) rfl) ?_;refine r1 ?_;rintro _ ZCC ⟨Z65,Z1Z,rfl,l⟩;refine r1 ?_;rintro ZY8 l;refine r6 ?_;refine r1 ?_;refine WO.hu gN (Kn (kv:=Value.string) (vv:=Value.bool) (k:=Zhz.qG) (v:=true) l k8 Jd XY (Zu (Z5 rfl fh) rfl) (Zu fh rfl) (JS rfl)) ?_;rintro Z4V l;refine r8 ?_;refine r1 ?_;refine r2 ?_;refine WC.loop (WL.lift t (fun(p:Int×(U (Y×Z)))(s:Fs)=>match p with | (ZeJ,v152)=>∃(ZgG:Fr) (ZHi:H),s=⟨ZgG,[],ZHi,none⟩/\Sp V T h [bx V b5 [.map (some Q)],bx V b1 (q1W p0 K L G I D E),bx V b8 [.iface 78 (.agg (q1W p0 K L G I D E).toArray)],bx V B [.func (.yield C) #[] #[]],bx V y [.func (.func 101) #[] #[.pointer (some ⟨B,0,none⟩),.pointer (some ⟨y,0,none⟩)]],Z9 V (Yh ZO) (ZfU,ZfL) v39.qV,Z9 V (Yh ZH) (ZeR,ZeQ) Zhz.names,mp V Value.string Value.bool (some Q) v152,Z9 V (Yh Zi) (K,L) p0.args,Z9 V (Yh Zc) (G,I) p0.qJ,Z9 V (Yh Zt) (D,E) p0.qQ,Z9 V (Yh Zc) (Zjq,Zjm) v39.qJ,Z9 V (Yh Zt) (a116,c117) v39.qQ,ob V C (bsy Zmx),ob V Zl2 .deferred] ZHi/\ZgG.at 3=.pointer (some ⟨b5,0,none⟩)/\ZgG.at 42=.slice ZfU v39.qV.length ZfL/\ZgG.at 43=.int .i64 (v39.qV.length:Int)/\ZgG.at 44=.int .i64 Zot/\ZgG.at 52=.slice ZeR Zhz.names.length ZeQ/\ZgG.at 53=.int .i64 (Zhz.names.length:Int)/\ZgG.at 54=.int .i64 ZeJ) ⟨_,_,rfl,l.only (.e (.e (.e (.e (.e (.e (.d (.a (.b (.b (.b (.b (.b (.b (.b .n))))))))))))))),YQ⟩ ?_);clear t l;rintro Zwg ⟨ZeJ,v152⟩ s ZBL t ⟨ZgG,ZHi,rfl,l,ZZF,Z52,ZZE,Z51,Z50,Z5Z,Z5Y⟩;dsimp only[Zls]at t;refine r6 ?_;refine WC.UZ lk (fun P=>?_) (fun P=>?_);.replace t:=YS P t;refine r6 ?_;have⟨Zqx,Zwz,t⟩:=bS t;have⟨Z0g,Z22,_,ZMW,ZNs,ZYI,ZYA⟩:=Sl.at_ (l.Qw k6) Zwz;refine Vd (ZJ Xk Xo lk lk rfl ZMW Zwz) ?_;refine Vd (Z0 Uu (Zu fh rfl) ZNs (j:=0) rfl (v:=.string Zqx) rfl) ?_;refine r6 ?_;refine WO.hu gN (Kn (kv:=Value.string) (vv:=Value.bool) (k:=Zqx) (v:=true) l k7 Jd XY (Zu (Zj rfl fh) rfl) (Zu fh rfl) (JS rfl)) ?_;rintro ZY6 l;refine r6 ?_;refine r1 ?_;exact ZQ.YC (ZBL _ _ t ⟨_,_,rfl,l.only (.b (.b (.b (.b (.b (.b (.b (.a (.a (.a (.a (.a (.a (.a (.a .n))))))))))))))),YQ⟩)
   replace t:=YT P t;refine r8 ?_;refine r2 ?_;exact ZQ.YC (ZBN _ _ t ⟨_,_,rfl,l.only (.a (.a (.a (.a (.a (.a (.b (.b (.b (.b (.b (.b (.b (.b .n)))))))))))))),YQ⟩)
  replace t:=YT P t;refine r6 ?_;refine BdK.sp ZnI l k12 ?_;rintro ZY5 l;refine r3 ?_;refine cn t ?_ ?_;.intro P t;refine r6 ?_;refine r1 ?_;have W:=Oi0 t;subst W;exact Yk.XA rfl (Zp (Zu fh rfl) Zl) ⟨_,⟨rfl,rfl⟩,hT▸l.only (.d (.b (.b (.b (.b (.e (.e (.e (.d (.a (.e .n)))))))))))⟩
  intro P t;refine r6 ?_;have⟨x159,hx159,t⟩:=bS t;refine WO.W9 (p:=(Part.cl v39)) (q:=(((ZfU,ZfL),(Zjq,Zjm),(a116,c117)),(none,0))) gN rfl (Zu fh rfl) l (ZJz (l.Qw k6) (l.Qw k11) (l.Qw k12)) hx159 ?_;rintro ZY4 a160 ZEl l;refine r4 ?_;refine r1 ?_;refine WC.loop (WL.lift t (fun(p:Int×(U (Y×Z)))(s:Fs)=>match p with | (v168,Zfi)=>∃(ZnP:Fr) (ZyF:H),s=⟨ZnP,[],ZyF,none⟩/\Sp V T h [bx V y [.func (.func 101) #[] #[.pointer (some ⟨B,0,none⟩),.pointer (some ⟨y,0,none⟩)]],bx V B [.func (.yield C) #[] #[]],bx V b1 (q1W p0 K L G I D E),bx V b5 [.map (some Q)],bx V b8 [.iface 78 (.agg (q1W p0 K L G I D E).toArray)],ow V Z6 a160 x159.length ZEl x159,Z9 V (Yh Zi) (K,L) p0.args,Z9 V (Yh Zc) (G,I) p0.qJ,Z9 V (Yh Zt) (D,E) p0.qQ,mp V Value.string Value.bool (some Q) Zfi,ob V C Zmx,ob V Zl2 .deferred] ZyF/\ZnP.at 2=.pointer (some ⟨y,0,none⟩)/\ZnP.at 12=.slice a160 x159.length ZEl/\ZnP.at 13=.int .i64 (x159.length:Int)/\ZnP.at 14=.int .i64 v168) ⟨_,_,rfl,l.only (.i (.g (.e (.d (.d (.a (.e (.e (.e (.d (.a (.e .n)))))))))))),YQ⟩ ?_);clear t l;rintro Zwe ⟨v168,Zfi⟩ s ZBJ t ⟨ZnP,ZyF,rfl,l,e165,e166,e167,e169⟩;dsimp only[ZDh]at t;refine r6 ?_;refine WC.UZ lk (fun P=>?_) (fun P=>?_)
  .replace t:=YS P t;refine r6 ?_;have⟨ZFG,ZJN,t⟩:=bS t;have⟨Z6Y,Z2Y,ZLC,ZMT,ZNp,ZNd⟩:=Src.at_ (l.Qi k5) ZJN;refine Vd (ZJ KM Ux lk lk rfl ZMT ZJN) ?_;have l:=l.add (A:=Z9 V Z6 ZLC ZFG) ZNd (fun _ z=>z);refine Vd (Z0 ZdV (Zu fh rfl) ZNp (j:=0) rfl (v:=ifV ZLC ZFG) rfl) ?_;refine Vd (YE (Zu fh ZW)) ?_;refine r4 ?_;refine r1 ?_;refine Vd (Ye (Zu (Zj rfl fh) ZW)) ?_;have⟨⟨ZQN,ZcQ⟩,Zwy,t⟩:=bS t;dsimp only at t;refine Ve (ZX.clo (first:=[]) (cap:=[.pointer (some ⟨B,0,none⟩),.pointer (some ⟨y,0,none⟩)]) lk Wu (Zb (Zu fh ZW) Zd) rfl) l (.a (.d (.d (.d (.b (.a (.b (.b (.b (.b (.b (.b .n)))))))))))) (fun g' hz hf hO=>Zgv _ _ Zwy ZLC (l.Vh hz) hO) ?_;rintro _ Z4I _ ⟨rfl,rfl⟩ l;refine r3 ?_;refine cn t ?_ ?_;.intro P t;refine r8 ?_;refine r3 ?_;have W:=Oi0 t;subst W;exact Yk.XA rfl (Zp lk Zl) ⟨_,⟨rfl,rfl⟩,hT▸l.only (.a (.a (.a (.a (.a (.a (.a (.a (.a (.a (.a .n)))))))))))⟩
   intro P t;refine r4 ?_;refine r1 ?_;refine r2 ?_;exact ZQ.YC (ZBJ _ _ t ⟨_,_,rfl,l.only (.f (.e (.a (.a (.a (.i (.a (.a (.a (.a (.a (.a .n)))))))))))),YQ⟩)
  replace t:=YT P t;refine r8 ?_;refine r3 ?_;have W:=Oi0 t;subst W;exact Yk.XA rfl (Zp lk Zl) ⟨_,⟨rfl,rfl⟩,hT▸l.only (.d (.d (.d (.b (.a (.b (.b (.b (.b (.b (.b .n)))))))))))⟩
 have l:=l.add (A:=Z9 V Z6 (((K,L),(G,I),(D,E)),(none,0)) (Part.pr p0)) (Znt (l.Qw k2) (l.Qw k1) (l.Qw k0)) (fun _ z=>z);have⟨⟨ZWU,ZQM⟩,ZR0,t⟩:=bS t;dsimp only at t;refine Ve (ZX.clo (first:=[]) (cap:=[.pointer (some ⟨B,0,none⟩),.pointer (some ⟨y,0,none⟩)]) lk Wu lks rfl) l (.a (.c k10 (.c k8 (.j (.f (.e (.d (.b (.a (.d (.a (.a .n)))))))))))) (fun g' hz hf hO=>ZMg _ _ _ ZR0 (((K,L),(G,I),(D,E)),(none,0)) (l.Vh hz) hO) ?_;rintro _ Z4H _ ⟨rfl,rfl⟩ l;refine r1 ?_;refine Yk.YC ?_;exact Yk.gen (vs:=[]) rfl Zl rfl ⟨_,t,⟨rfl,l.only (.a (.a (.a (.g (.g (.g .n))))))⟩⟩
end
end Go.Proofs.YtbnepjakjmnadaaGreat
end
end
section
set_option maxRecDepth 20000
noncomputable section
namespace Go.ZU
open Go.Lf
variable{P:V2}
def ZER{t e:J}{x:V0}{o:O Nat}(hu:P.underlying t=some (.pointer e)):X9 P .eql t x (.const (.pointer none)) (UD o) (.pointer none)=some (.val (.bool o.isNone),.none):=by
 cases o with
 | some b=>
   have h:(plain (UD (some b))&&plain (.pointer none))=false:=rfl;unfold X9;rw[h,Cq0];have:ZaA P t (UD (some b)) (.pointer none)=some false:=by unfold ZaA;rw[hu];rfl
   rw[this];rfl
 | none=>
   unfold X9;rw[show(plain (UD none)&&plain (.pointer none))=true from rfl,Cq1];unfold Kr
   have h1:ZF P (eqGuard .eql t x (.const (.pointer none)) (UD none) (.pointer none))=some (.ok ()):=by
    cases x<;>rfl
   rw[prb h1]
   have h2:ZF P (Op.equal t (UD none) (.pointer none))=some (.ok true):=by
    show ZF P (Op.equalIn (9999+1) t (.pointer none) (.pointer none))=_;unfold Op.equalIn;rw[prb (YW hu)];rfl
   have:ZF P (binOp .eql t (UD none) (.pointer none))=some (.ok (.bool true)):=by
    show ZF P (do pure (Value.bool (<-Op.equal t (UD none) (.pointer none))):Sem N)=_;rw[prb h2];rfl
   rw[this];rfl
end Go.ZU
end
end
section
set_option maxRecDepth 20000
noncomputable section
namespace Go.Proofs.YtbnepjakjmnadaaGreat
open Go.ZU Go.Lf
section
def Zsa(x:Y):U NM->(U NM->O Z)->O Z:=fun c next=>match c with|[]=>some false|m::r=>bif(ZC m x).isSome then some r.isEmpty else next r
def ZyP(F:Nat)(c:U NM)(x:Y):O Z:=loop F (Zsa x) c
def ZSd:(XX.fns.get 76).isSome=true:=Kq0
def ZSf:(XX.fns.get 73).isSome=true:=Kq0
def Rd.end{S:U SE}{o:O Nat}{c:U NM}(r:Rd S o c):o.isNone=c.isEmpty:=by cases r<;>rfl
def ZN2{F V w:Nat}{S:U SE}{h:H}{o:O Nat}{c:U NM}{x:Y}{r:Z}(I:V<=h.size)(t:Rd S o c)(E:ZV (V:=V) [stA V w S] h)(l:ZyP F c x=some r):
 WR XX 76 #[UD o,.string x] V h (CP (fun(v:N)(Gb:U (Ast V))=>v=.bool r/\Gb=[stA V w S]) [stA V w S] h):=by
 refine WF.begin (args:=[_,_]) (fn:=Tryz.f76) Kq0 (by exact rfl) Tryz.ntmps76 (by simp) ?_;simp only[Zv,Zy,Nat.reduceAdd];obtain⟨T,D,p⟩:∃T,T=QA (V:=V) [stA V w S]/\Sp V T h [stA V w S] h:=⟨_,rfl,Sp.start I E⟩;unfold ZyP at l;repeat refine r1 ?_
 refine WC.loop (WL.lift l (fun(c:U NM)(s:Fs)=>∃(y:Fr) (C:H) (o:O Nat),s=⟨y,[],C,none⟩/\Sp V T h [stA V w S] C/\Rd S o c/\y.at 1=.string x/\y.at 5=UD o) ⟨_,_,o,rfl,p,t,YQ⟩ ?_);clear l p;rintro ZM c s K l ⟨y,C,o,rfl,p,t,X,W⟩;repeat refine r1 ?_
 refine Vd (YN (Zu fh rfl) (JS rfl) (Zs4 ZtC)) ?_;repeat refine r1 ?_
 refine WC.UZ (Zu fh rfl) (fun A=>?_) (fun A=>?_)
 .cases t with|nil=>cases A|@cons e c he t=>
  dsimp only[Zsa]at l;rw[show ZC (ZoO e.es) x=(ZC e.es x).map (·.2) from Znu (fun q:EV=>q.2) e.es x]at l;repeat refine r1 ?_
  refine Vd (KU (Zu fh rfl)) ?_;refine Vd (Y3 Zlh (Zu fh rfl)) ?_;refine Vd (Z0 Zvg (Zu fh rfl) (Zbn p k0 he) (j:=2) rfl (v:=.map e.m) rfl) ?_;repeat refine r1 ?_
  refine Vd (Zp4 Jd Zkf Zvz lk lk (ZAo p k0 he)) ?_;generalize L:(ZC e.es x).getD ev0=q;repeat refine r1 ?_
  rintro _ Q ⟨b7,G,rfl,p⟩;repeat refine r1 ?_
  rintro P p;repeat refine r1 ?_
  rw[show((ZC e.es x).map (·.2)).isSome=(ZC e.es x).isSome by cases ZC e.es x<;>rfl]at l;refine WC.UZ lk (fun A=>?_) (fun A=>?_)
  .replace l:=YS A l;repeat refine r1 ?_
   refine Vd (KU (Zu fh rfl)) ?_;refine Vd (Y3 ZgK (Zu fh rfl)) ?_;refine Vd (Z0 Zqb (Zu fh rfl) (Zbn p k1 he) (j:=1) rfl (v:=UD e.ar) rfl) ?_;refine Vd (YN (Zu fh rfl) (JS rfl) (ZER ZtC)) ?_;repeat refine r1 ?_
   have B:=Oi0 l;subst B;exact Yk.XA rfl (Zp lk Zl) ⟨_,⟨by rw[t.end],rfl⟩,D▸p.only (.b .n)⟩
  replace l:=YT A l;repeat refine r1 ?_
  refine Vd (KU (Zu fh rfl)) ?_;refine Vd (Y3 ZgK (Zu fh rfl)) ?_;refine Vd (Z0 Zqb (Zu fh rfl) (Zbn p k1 he) (j:=1) rfl (v:=UD e.ar) rfl) ?_;repeat refine r1 ?_
  exact ZQ.YC (K _ _ l ⟨_,_,e.ar,rfl,p.only (.b .n),t,YQ⟩)
 cases t with|cons he t=>cases A|nil=>
 dsimp only[Zsa]at l;repeat refine r1 ?_
 have t:=Oi0 l;subst t;exact Yk.XA rfl (Zp lk Zl) ⟨_,⟨rfl,rfl⟩,D▸p⟩
def ZDk(F:Nat)(e:Zf):O MB:=(Zxg F [[]] [] e).map (·.1)
def ZN7{F V:Nat}{h:H}{e:Zf}{pa:O Addr}{q:Nat}{r:MB}(Q:V<=h.size)(D:Sl Zi V h pa q e.qQ)(t:ZDk F e=some r):
 WR XX 73 #[.agg (q2W e pa q).toArray] V h (CP (fun v (Gb:U (Ast V))=>∃(cf:Nat),v=.map (some cf)/\Gb=[mp V Value.string Value.bool (some cf) r]) [] h):=by
 unfold ZDk at t;obtain⟨y,C,rfl⟩:=Option.map_eq_some_iff.1 t;refine WF.begin (args:=[_]) (fn:=Tryz.f73) Kq0 (by exact rfl) Tryz.ntmps73 (by simp) ?_;simp only[Zv,Zy,Nat.reduceAdd];obtain⟨T,G,l⟩:∃T,T=QA (V:=V) []/\Sp V T h [] h:=⟨_,rfl,Sp.start Q ZV.nil⟩;repeat refine r1 ?_
 rintro _ h2 ⟨b1,P,rfl,l⟩;repeat refine r1 ?_
 refine Vf (Zbo Value.string Value.bool l) ?_;rintro _ h3 ⟨cf,K,rfl,l⟩;refine Vd (YH Zl9 (Zk lk Zz) rfl (cs':=[.map (some cf),.map none,.nilFunc]) rfl)<|Vf (Zko l (Zu fh rfl) (vs:=[.map (some cf),.map none,.nilFunc]) rfl) ?_;rintro _ h4 ⟨w,ew,rfl,l⟩;refine Vd (YH ZpZ (Zk lk Zz) rfl (cs':=[pV w,UD none,.map none]) rfl)<|Vf (Zko l (Zu fh rfl) (vs:=[pV w,UD none,.map none]) rfl) ?_;rintro _ h5 ⟨bs,L,rfl,l⟩;have l:=l.add (A:=noA V) trivial (fun i z=>z);have l:=ZzW (fv:=FV0) (ct:=none) (cf:=cf) (w:=w) (l.only (.d (.a (.a (.a (.a .n))))));have l:=l.add (A:=stA V w []) (fun x p=>by cases p) (fun i z=>by have⟨x,p,_⟩:=z;cases p);have l:=l.add (A:=esA V []) (fun x p=>by cases p) (fun _ z=>z);have l:=l.add (A:=mp V Value.string vvE none []) ZcF.nil (fun i z=>by cases z);have l:=Zoy (S:=[]) (b:=bs) (ar:=none) (m:=none) (es:=[]) (l.only (.f (.a (.a (.a (.a (.a (.a .n))))))));have l:=l.add (A:=tkA V none []) ZcF.nil (fun i z=>by cases z);repeat refine r1 ?_
 refine Ve (ZX.fn Zuk (Zb lk (Zb lk Zd))) l (.d (.d (.a (.a .n)))) (fun g' B E I=>Zsn (cf:=cf) (ct:=none) (fv:=FV0) (taken:=[]) (Rd.cons (e:=⟨bs,none,none,[]⟩) Gg Rd.nil) F ([],e) y C (l.Vh B) ((l.sl D).mono E) I) ?_;rintro _ h6 _ ⟨X,W,rfl,rfl⟩ l;repeat refine r1 ?_
 refine Vd (Z0 ZaM lk (Zbn l k4 (e:=⟨bs,none,none,[]⟩) Gg) (j:=0) rfl (v:=pV w) rfl) ?_;repeat refine r1 ?_
 refine Vd (Z0 Zhk lk (Zf3 l k1) (j:=0) rfl (v:=.map (some cf)) rfl) ?_;repeat refine r1 ?_
 exact Yk.XA rfl (Zp lk Zl) ⟨_,⟨cf,rfl,rfl⟩,G▸l.only (.d .n)⟩
end
section
def ZlF(F:Nat)(p0:Term):O Z:=
 (ZHU F p0 (Term.mk 0 (⟨#[]⟩:Y) [] [] [])).bind fun h=>some h
end
section
def ZOr{F V:Nat}{h:H}{p0:Term}{A:O Addr}{B:Nat}{x:O Addr}{y:Nat}{q:O Addr}{t:Nat}{r:Z}(L:V<=h.size)(G:Sl Zi V h A B p0.args)(K:Sl Zc V h x y p0.qJ)(I:Sl Zt V h q t p0.qQ)(p:ZlF F p0=some r):
 WR XX 35 #[.agg (q1W p0 A B x y q t).toArray] V h (CP (fun v (Gb:U (Ast V))=>v=.bool r/\Gb=[]) [] h):=by
 refine WF.begin (args:=[_]) (fn:=Tryz.f35) Kq0 (by exact rfl) Tryz.ntmps35 (by simp) ?_;simp only[Zv,Zy,Nat.reduceAdd];obtain⟨T,D,l⟩:∃T,T=QA (V:=V) []/\Sp V T h [] h:=⟨_,rfl,Sp.start L ZV.nil⟩;unfold ZlF at p;refine WC.seq<|WC.region<|Vf (Zko l (Zu fh rfl) (vs:=(q1W p0 A B x y q t)) rfl) ?_;rintro _ h2 ⟨P,E,rfl,l⟩;refine Vd (YE (JS rfl))<|WO.nil<|Yx.YC<|WC.seq<|WC.region<|Vd (Yo Qy Yt (Zu (Zj rfl fh) rfl) (l.Jo k0) (j:=0) rfl rfl (ws:=(q1W p0 A B x y q t)) rfl)<|Vd (YH Ze9 Zz rfl (cs':=[V9 0,.string (⟨#[]⟩:Y),V8,V8,V8]) rfl) ?_;have⟨x3,hx3,p⟩:=bS p;refine WO.cp gN rfl (ZX.fn ZKk (Zb (Zu (Zj rfl fh) rfl) (Zb (Zu fh rfl) Zd))) (ZOt (p1:=(Term.mk 0 (⟨#[]⟩:Y) [] [] [])) (l.slu G) (l.slu K) (l.slu I) Sl.nil Sl.nil Sl.nil hx3)<|Vd (YE (Zu fh rfl))<|WO.nil<|Yx.YC<|WC.ret ?_;have C:=Oi0 p;subst C;exact Yk.XA rfl (Zp (Zu fh rfl) Zl) ⟨_,⟨rfl,rfl⟩,D▸l.only .n⟩
def ZDD{F:Nat}{h:H}{p0:Term}{x:O Addr}{y:Nat}{q:O Addr}{t:Nat}{l:O Addr}{p:Nat}{r:Z}(B:Sl Zi h.size h x y p0.args)(D:Sl Zc h.size h q t p0.qJ)(C:Sl Zt h.size h l p p0.qQ)(A:ZlF F p0=some r):Pure XX 35 #[.agg (q1W p0 x y q t l p).toArray] h (.bool r):=
 WR.JC rfl (ZOr Vc B D C A)
end
end Go.Proofs.YtbnepjakjmnadaaGreat
end
end
section
noncomputable section
namespace Go.ZU
open Go.Lf
variable{X:Ctx}
end Go.ZU
end
end
section
noncomputable section
namespace Go.Proofs.YtbnepjakjmnadaaGreat
open Go.ZU Go.Lf
end Go.Proofs.YtbnepjakjmnadaaGreat
end
end
section
noncomputable section
namespace Go.ZU
open Go.Lf
end Go.ZU
end
end
section
set_option maxRecDepth 20000
noncomputable section
namespace Go.Proofs.YtbnepjakjmnadaaGreat
open Go.ZU Go.Lf
section
def ZyR(F:Nat)(p0:Zf)(p1:Y)(p2:Zf):O Zf:=
 (ZNT F (Change.mk [p1] [p2]) p0).bind fun h=>some h
end
section
def ZOn{F V h}{p0:Zf}{p1:Y}{p2:Zf}{Zh Zg Wo Wl}{r}(ZG:V<=h.size)(Zm:Sl Zi V h Zh Zg p0.qQ)(Za9:Sl Zi V h Wo Wl p2.qQ)(A:ZyR F p0 p1 p2=some r):
 WR XX 40 #[.agg (q2W p0 Zh Zg).toArray,.string p1,.agg (q2W p2 Wo Wl).toArray] V h (CP (fun v (Gb:U (Ast V))=>∃C D,v=.agg (q2W r C D).toArray/\Gb=[Z9 V (Yh Zi) (C,D) r.qQ]) [] h):=by
 refine bg Tryz.ntmps40 ZG ZV.nil ?_;intro T I l;unfold ZyR at A;refine r3 ?_;rintro _ h2 ⟨b1,eb1,rfl,l⟩;refine r1 ?_;rintro _ h4 ⟨b3,eb3,rfl,l⟩;refine r1 ?_;rintro _ h6 ⟨b5,eb5,rfl,l⟩;refine r5 ?_;refine Vf (X0 (e:=ZH) l Xk Xo JA rfl rfl rfl (Zk (Zu fh rfl) Zz) rfl [((),p1)] rfl (xs:=[p1]) rfl (by intro q t;simp only[K2,KB,or_false]at t;subst t;exact trivial) rfl) ?_;rintro _ h8 ⟨b7,X,rfl,l⟩;refine r1 ?_;refine Vf (X0 (e:=Zi) l JM Yz Za4 rfl rfl rfl (Zk (Zu fh rfl) Zz) rfl [((Wo,Wl),p2)] rfl (xs:=[p2]) rfl (by intro q t;simp only[K2,KB,or_false]at t;subst t;exact(Yd.2 (l.sl Za9))) rfl) ?_;rintro _ S ⟨b9,W,rfl,l⟩;refine Vd (YH ZEp (Zk (Zu (Z5 rfl fh) rfl) (Zk (Zu fh rfl) Zz)) rfl (cs':=[.slice (some ⟨b7,0,none⟩) 1 2,.slice (some ⟨b9,0,none⟩) 1 2]) rfl)<|r1 ?_;have⟨x11,Zfw,A⟩:=bS A;have p:=l.on k1;rw[p]at l;try rw[p]
 refine WO.fzn l k1 ?_;rintro Q ⟨Z3L,l⟩;have ZSP:=l.on k1;rw[ZSP]at l;try rw[ZSP]
 refine WO.fzn l k1 ?_;rintro P ⟨Z3K,l⟩;refine Ve (ZX.fn ZBZ (Zb (Zu (Zj rfl fh) rfl) (Zb (Zu fh rfl) Zd))) l .n (fun g' E B hO=>ZNS (p0:=(Change.mk [p1] [p2])) (l.Vh E) ((l.Qw k1).mono B) ((l.Qw k0).mono B) ((l.sl Zm).mono B) Zfw) ?_;rintro _ L _ ⟨y,x,rfl,rfl⟩ l;refine r1 ?_;rintro K l;refine r3 ?_;have G:=Oi0 A;subst G;exact Yk.XA rfl (Ya (Yy rfl (Z5 rfl (Zj rfl fh))) (YL QG Yz (l.Jo k0) (j:=0) rfl rfl (ws:=(q2W x11 y x)) rfl) Zl) ⟨_,⟨y,x,rfl,rfl⟩,I▸l.only (.b .n)⟩
end
section
def ZjS(p0:(U Y))(p1:(U Y)):Int->(Int->O Z)->O Z:=fun h ZJw=>
 (bif decide (h<(p0.length:Int)) then(Yl p0 h).bind fun p=>(Yl p1 h).bind fun l=>(bif(!decide (p=l)) then some false else ZJw (XD (h+1))) else some true)
def ZlI(F:Nat)(p0:(U Y))(p1:(U Y)):O Z:=
 (bif((p0.length:Int) !=(p1.length:Int)) then some false else loop F (ZjS p0 p1) 0)
def ZlJ(F:Nat)(p0:ZN)(p1:ZN):O Z:=
 (gd (decide (p0.qG=p1.qG)) (ZlI F p0.names p1.names) default).bind fun h=>some ((decide (p0.qG=p1.qG))&&h)
def ZwY(F:Nat)(p0:(U ZN))(p1:(U ZN)):Int->(Int->O Z)->O Z:=fun h ZaU=>
 (bif decide (h<(p0.length:Int)) then(Yl p0 h).bind fun q=>(Yl p1 h).bind fun p=>(ZlJ F q p).bind fun l=>(bif(!l) then some false else ZaU (XD (h+1))) else some true)
def ZlK(F:Nat)(p0:(U ZN))(p1:(U ZN)):O Z:=
 (bif((p0.length:Int) !=(p1.length:Int)) then some false else loop F (ZwY F p0 p1) 0)
def Zxe(p0:(U Zf))(p1:(U Zf))(Znm:((Zf×Zf)->O Z)):Int->(Int->O Z)->O Z:=fun h ZaU=>
 (bif decide (h<(p0.length:Int)) then(Yl p0 h).bind fun q=>(Yl p1 h).bind fun p=>(Znm (q,p)).bind fun l=>(bif(!l) then some false else ZaU (XD (h+1))) else some true)
def Zxf(F:Nat)(Znm:((Zf×Zf)->O Z))(p0:(U Zf))(p1:(U Zf)):O Z:=
 (bif((p0.length:Int) !=(p1.length:Int)) then some false else loop F (Zxe p0 p1 Znm) 0)
def ZdF(F:Nat):(Zf×Zf)->((Zf×Zf)->O Z)->O Z:=fun(p0,p1) l=>
 (bif(((p0.op==p1.op)&&(p0.n==p1.n))&&(decide (p0.qG=p1.qG))) then(Zxf F l p0.qQ p1.qQ).bind fun h=>some h else some false)
def Zw8(p0:(U Term))(p1:(U Term))(Zkz:((Term×Term)->O Z)):Int->(Int->O Z)->O Z:=fun h ZaU=>
 (bif decide (h<(p0.length:Int)) then(Yl p0 h).bind fun p=>(Yl p1 h).bind fun q=>(Zkz (p,q)).bind fun l=>(bif(!l) then some false else ZaU (XD (h+1))) else some true)
def Zw9(F:Nat)(Zkz:((Term×Term)->O Z))(p0:(U Term))(p1:(U Term)):O Z:=
 (bif((p0.length:Int) !=(p1.length:Int)) then some false else loop F (Zw8 p0 p1 Zkz) 0)
end
section
def ZH1{F V h}{p0 p1:(U Y)}{Zh Zg Zx Zw}{r}(B:V<=h.size)(A:Sl ZH V h Zh Zg p0)(C:Sl ZH V h Zx Zw p1)(l:ZlI F p0 p1=some r):
 WR XX 158 #[.slice Zh p0.length Zg,.slice Zx p1.length Zw] V h (CP (fun v (Gb:U (Ast V))=>v=.bool r/\Gb=[]) [] h):=by
 refine bg Tryz.ntmps158 B ZV.nil ?_;intro T x p;unfold ZlI at l;refine r15 ?_;refine cn l ?_ ?_;.intro t l;refine r7 ?_;exact rt l x p
 intro t l;refine WV ?_;refine WC.loop (WL.lift l (fun y s=>∃q h1,s=⟨q,[],h1,none⟩/\Sp V T h [] h1/\q.at 0=.slice Zh p0.length Zg/\q.at 1=.slice Zx p1.length Zw/\q.at 12= V9 (p0.length:Int)/\q.at 13= V9 y) ⟨_,_,rfl,p.only .n,YQ⟩ ?_);rintro ZJw y s ZMl l ⟨q,h1,rfl,p,I,G,E,D⟩;refine r6 ?_;refine cn l ?_ ?_
 .intro t l;refine WV ?_;refine WC.XU mixed Kq0<|r2 ?_;have⟨x9,hx9,l⟩:=bS l;have⟨b10,o11,_,ZTH,ZUv,ZUb,Z1n⟩:=Sl.at_ A hx9;refine Vg (ZJ Xk Xo lk lk rfl ZTH hx9)<|Vg (Z0 Uu (Zu fh rfl) (At.fz p.fz ZUb ZUv) (j:=0) rfl (v:=.string x9) rfl)<|r2 ?_;have⟨x12,Zfv,l⟩:=bS l;have⟨b13,o14,_,ZCl,ZCA,ZCu,ZTT⟩:=Sl.at_ C Zfv;refine Vg (ZJ Xk Xo lk lk rfl ZCl Zfv)<|Vg (Z0 Uu (Zu fh rfl) (At.fz p.fz ZCu ZCA) (j:=0) rfl (v:=.string x12) rfl)<|Vg (YN (Zu (Yy rfl fh) rfl) (Zu fh rfl) UJ)<|r2 ?_;refine cn l ?_ ?_;.intro t l;refine WV ?_;exact rt l x p
  intro t l;refine r7 ?_;exact ZQ.YC (ZMl _ _ l ⟨_,_,rfl,p.only .n,YQ⟩)
 intro t l;refine WV ?_;exact rt l x p
def ZH2{F h}{p0 p1:(U Y)}{Zh Zg Zx Zw}{r}(p:Sl ZH h.size h Zh Zg p0)(q:Sl ZH h.size h Zx Zw p1)(l:ZlI F p0 p1=some r):Pure XX 158 #[.slice Zh p0.length Zg,.slice Zx p1.length Zw] h (.bool r):=
 WR.JC rfl (ZH1 Vc p q l)
def ZH3{F V h}{p0 p1:ZN}{Zh Zg Zx Zw}{r}(B:V<=h.size)(A:Sl ZH V h Zh Zg p0.names)(C:Sl ZH V h Zx Zw p1.names)(q:ZlJ F p0 p1=some r):
 WR XX 157 #[.agg #[.string p0.qG,.slice Zh p0.names.length Zg],.agg #[.string p1.qG,.slice Zx p1.names.length Zw]] V h (CP (fun v (Gb:U (Ast V))=>v=.bool r/\Gb=[]) [] h):=by
 refine bg Tryz.ntmps157 B ZV.nil ?_;intro T t l;unfold ZlJ at q;refine r3 ?_;rintro _ h2 ⟨G,y,rfl,l⟩;refine r1 ?_;rintro _ D ⟨E,x,rfl,l⟩;refine r9 ?_;refine Vd (YN (Zu (Z5 rfl fh) rfl) (Zu fh rfl) XL)<|r5 ?_;have⟨x5,hx5,q⟩:=Xd q;refine WO.gcp (Ze.yes rfl rfl rfl (Yy rfl fh)) rfl (fun p=>(ZX.fn ZMC (Zb (XT (Z5 rfl fh) rfl p) (Zb (XT fh rfl p) Zd)))) (fun p=>ZH2 (l.slu A) (l.slu C) (hx5 p))<|r5 ?_;exact rt q t l
def ZH4{F h}{p0 p1:ZN}{Zh Zg Zx Zw}{r}(p:Sl ZH h.size h Zh Zg p0.names)(q:Sl ZH h.size h Zx Zw p1.names)(l:ZlJ F p0 p1=some r):Pure XX 157 #[.agg #[.string p0.qG,.slice Zh p0.names.length Zg],.agg #[.string p1.qG,.slice Zx p1.names.length Zw]] h (.bool r):=
 WR.JC rfl (ZH3 Vc p q l)
def ZH5{F V h}{p0 p1:(U ZN)}{Zh Zg Zx Zw}{r}(K:V<=h.size)(I:Sl ZO V h Zh Zg p0)(L:Sl ZO V h Zx Zw p1)(l:ZlK F p0 p1=some r):
 WR XX 156 #[.slice Zh p0.length Zg,.slice Zx p1.length Zw,.func (.func 157) #[] #[]] V h (CP (fun v (Gb:U (Ast V))=>v=.bool r/\Gb=[]) [] h):=by
 refine bg Tryz.ntmps156 K ZV.nil ?_;intro T x p;unfold ZlK at l;refine r15 ?_;refine cn l ?_ ?_;.intro t l;refine r7 ?_;exact rt l x p
 intro t l;refine WV ?_;refine WC.loop (WL.lift l (fun y s=>∃q h1,s=⟨q,[],h1,none⟩/\Sp V T h [] h1/\q.at 1=.slice Zx p1.length Zw/\q.at 2=.func (.func 157) #[] #[]/\q.at 15=.slice Zh p0.length Zg/\q.at 16= V9 (p0.length:Int)/\q.at 17= V9 y) ⟨_,_,rfl,p.only .n,YQ⟩ ?_);rintro ZaU y s ZbU l ⟨q,h1,rfl,p,X,W,S,Q,P⟩;refine r6 ?_;refine cn l ?_ ?_
 .intro t l;refine r7 ?_;have⟨x10,Zcx,l⟩:=bS l;have⟨b11,o12,⟨a13,c14⟩,Zgz,ZgC,Zla,WQ⟩:=Sl.at_ I Zcx;refine Vd (ZJ JX Xp lk lk rfl Zgz Zcx) ?_;have Zgu:Sl ZH V h a13 c14 x10.names:=WQ;refine Vd (Yo ZaL Xp (Zu fh rfl) (At.fz p.fz Zla ZgC) (j:=0) rfl rfl (ws:=[.string x10.qG,.slice a13 x10.names.length c14]) rfl)<|r1 ?_;rintro _ D ⟨G,ZUU,rfl,p⟩;refine r2 ?_;rintro C p;refine r6 ?_;have⟨x18,WH,l⟩:=bS l;have⟨b19,o20,⟨a21,c22⟩,Zdn,Zdp,ZgB,KY⟩:=Sl.at_ L WH;refine Vd (ZJ JX Xp lk lk rfl Zdn WH) ?_;have ZiU:Sl ZH V h a21 c22 x18.names:=KY;refine Vd (Yo ZaL Xp (Zu fh rfl) (At.fz p.fz ZgB Zdp) (j:=0) rfl rfl (ws:=[.string x18.qG,.slice a21 x18.names.length c22]) rfl)<|r1 ?_;rintro _ B ⟨E,ZOS,rfl,p⟩;refine r1 ?_;rintro A p;refine r7 ?_;have⟨x26,ZmR,l⟩:=bS l;refine WO.cp gN rfl (ZX.clo (first:=[]) (cap:=[]) lk ZMD lks rfl) (ZH4 (p.slu Zgu) (p.slu ZiU) ZmR)<|r3 ?_;refine cn l ?_ ?_;.intro t l;refine WV ?_;exact rt l x p
  intro t l;refine r7 ?_;exact ZQ.YC (ZbU _ _ l ⟨_,_,rfl,p.only .n,YQ⟩)
 intro t l;refine WV ?_;exact rt l x p
def ZH6{F h}{p0 p1:(U ZN)}{Zh Zg Zx Zw}{r}(p:Sl ZO h.size h Zh Zg p0)(q:Sl ZO h.size h Zx Zw p1)(l:ZlK F p0 p1=some r):Pure XX 156 #[.slice Zh p0.length Zg,.slice Zx p1.length Zw,.func (.func 157) #[] #[]] h (.bool r):=
 WR.JC rfl (ZH5 Vc p q l)
def Zxd{F V}{Znm:((Zf×Zf)->O Z)}(ZMk:∀(x:(Zf×Zf))(r:Z),Znm x=some r->(match x with | (p0,p1)=>∀{h Zh Zg Zx Zw}(G:V<=h.size)(E:Sl Zi V h Zh Zg p0.qQ)(I:Sl Zi V h Zx Zw p1.qQ),WR XX 130 #[.agg (q2W p0 Zh Zg).toArray,.agg (q2W p1 Zx Zw).toArray] V h (CP (fun v (Gb:U (Ast V))=>v=.bool r/\Gb=[]) [] h))){h}{p0 p1:(U Zf)}{Zh Zg Zx Zw}{r}(G:V<=h.size)(E:Sl Zi V h Zh Zg p0)(I:Sl Zi V h Zx Zw p1)(l:Zxf F Znm p0 p1=some r):
 WR XX 129 #[.slice Zh p0.length Zg,.slice Zx p1.length Zw,.func (.func 130) #[] #[]] V h (CP (fun v (Gb:U (Ast V))=>v=.bool r/\Gb=[]) [] h):=by
 refine bg Tryz.ntmps129 G ZV.nil ?_;intro T y p;unfold Zxf at l;refine r15 ?_;refine cn l ?_ ?_;.intro t l;refine r7 ?_;exact rt l y p
 intro t l;refine WV ?_;refine WC.loop (WL.lift l (fun C s=>∃q h1,s=⟨q,[],h1,none⟩/\Sp V T h [] h1/\q.at 1=.slice Zx p1.length Zw/\q.at 2=.func (.func 130) #[] #[]/\q.at 15=.slice Zh p0.length Zg/\q.at 16= V9 (p0.length:Int)/\q.at 17= V9 C) ⟨_,_,rfl,p.only .n,YQ⟩ ?_);rintro ZaU C s ZbU l ⟨q,h1,rfl,p,e3,e4,e5,e6,e8⟩;refine r6 ?_;refine cn l ?_ ?_
 .intro t l;refine r7 ?_;have⟨x10,Zcx,l⟩:=bS l;have⟨b11,o12,⟨a13,c14⟩,Zgz,ZgC,Zla,A⟩:=Sl.at_ E Zcx;replace A:=Yd.1 A;refine Vd (ZJ JM Yz lk lk rfl Zgz Zcx) ?_;have Zgu:Sl Zi V h a13 c14 x10.qQ:=A;refine Vd (Yo QG Yz (Zu fh rfl) (At.fz p.fz Zla ZgC) (j:=0) rfl rfl (ws:=(q2W x10 a13 c14)) rfl)<|r1 ?_;rintro _ W ⟨b15,ZUU,rfl,p⟩;refine r2 ?_;rintro S p;refine r6 ?_;have⟨x18,WH,l⟩:=bS l;have⟨b19,o20,⟨a21,c22⟩,Zdn,Zdp,ZgB,B⟩:=Sl.at_ I WH;replace B:=Yd.1 B;refine Vd (ZJ JM Yz lk lk rfl Zdn WH) ?_;have ZiU:Sl Zi V h a21 c22 x18.qQ:=B;refine Vd (Yo QG Yz (Zu fh rfl) (At.fz p.fz ZgB Zdp) (j:=0) rfl rfl (ws:=(q2W x18 a21 c22)) rfl)<|r1 ?_;rintro _ Q ⟨X,ZOS,rfl,p⟩;refine r1 ?_;rintro P p;refine r7 ?_;have⟨x26,ZmR,l⟩:=bS l;refine Ve (ZX.clo (first:=[]) (cap:=[]) lk ZMG lks rfl) p .n (fun g' K D hO=>(ZMk _ _ ZmR) (p.Vh K) ((p.sl Zgu).mono D) ((p.sl ZiU).mono D)) ?_;rintro _ L _ ⟨rfl,rfl⟩ p;refine r3 ?_;refine cn l ?_ ?_;.intro t l;refine WV ?_;exact rt l y p
  intro t l;refine r7 ?_;exact ZQ.YC (ZbU _ _ l ⟨_,_,rfl,p.only .n,YQ⟩)
 intro t l;refine WV ?_;exact rt l y p
def ZDP{F V:Nat}:∀(Fr:Nat)(x:(Zf×Zf))(r:Z),loop Fr (ZdF F) x=some r->(match x with | (p0,p1)=>∀{h:H}{A:O Addr}{B:Nat}{t:O Addr}{y:Nat}(I:V<=h.size)(G:Sl Zi V h A B p0.qQ)(K:Sl Zi V h t y p1.qQ),WR XX 130 #[.agg (q2W p0 A B).toArray,.agg (q2W p1 t y).toArray] V h (CP (fun v (Gb:U (Ast V))=>v=.bool r/\Gb=[]) [] h)):=by
 refine Xq _ ?_;rintro ZM S ⟨p0,p1⟩ r q h A B t y I G K;refine bg Tryz.ntmps130 I ZV.nil ?_;intro T E p;refine r3 ?_;rintro _ h3 ⟨b2,Q,rfl,p⟩;refine r1 ?_;rintro _ h5 ⟨b4,P,rfl,p⟩;refine r16 ?_;refine r6 ?_;refine WO.gv (Ze.yes rfl rfl rfl (Yy rfl fh)) rfl (fun C=>(YN (XT (Z5 rfl fh) rfl C) (XT fh rfl C) XL))<|r6 ?_;refine WO.QX (Ze.yes rfl rfl rfl (Yy rfl fh)) (fun l=>?_) (fun l=>?_);.replace q:=YS l q;have⟨x7,hx7,q⟩:=bS q;refine WO.cl (Ze.on (Ze.yes rfl rfl rfl (Yy rfl fh)) l) rfl (ZX.fn ZCc (Zb (XT (Z5 rfl fh) rfl l) (Zb (XT fh rfl l) (Zb ZlW Zd)))) p .n (fun g' L D W=>(Zxd S) (p.Vh L) ((p.sl G).mono D) ((p.sl K).mono D) hx7) ?_;rintro _ X _ ⟨rfl,rfl⟩ p;refine Vd (QZ lk l lk)<|r4 ?_;exact rt q E p
 replace q:=YT l q;refine WO.Xm (Ze.yes rfl rfl rfl (Yy rfl fh)) l rfl<|Vd (Qs lk l lk)<|r4 ?_;exact rt q E p
def Zw7{F V}{Zkz:((Term×Term)->O Z)}(ZBE:∀(x:(Term×Term))(r:Z),Zkz x=some r->(match x with | (p0,p1)=>∀{h Zh Zg Zo Zn Zr Zq Zx Zw YB YA YK YJ}(ZG:V<=h.size)(Zm:Sl Zi V h Zh Zg p0.args)(ZI:Sl Zc V h Zo Zn p0.qJ)(ZL:Sl Zt V h Zr Zq p0.qQ)(ZE:Sl Zi V h Zx Zw p1.args)(Y0:Sl Zc V h YB YA p1.qJ)(Xj:Sl Zt V h YK YJ p1.qQ),WR XX 91 #[.agg (q1W p0 Zh Zg Zo Zn Zr Zq).toArray,.agg (q1W p1 Zx Zw YB YA YK YJ).toArray] V h (CP (fun v (Gb:U (Ast V))=>v=.bool r/\Gb=[]) [] h))){h}{p0 p1:(U Term)}{Zh Zg Zx Zw}{r}(ZG:V<=h.size)(Zm:Sl Zt V h Zh Zg p0)(ZE:Sl Zt V h Zx Zw p1)(l:Zw9 F Zkz p0 p1=some r):
 WR XX 133 #[.slice Zh p0.length Zg,.slice Zx p1.length Zw,.func (.func 91) #[] #[]] V h (CP (fun v (Gb:U (Ast V))=>v=.bool r/\Gb=[]) [] h):=by
 refine bg Tryz.ntmps133 ZG ZV.nil ?_;intro T hT p;unfold Zw9 at l;refine r15 ?_;refine cn l ?_ ?_;.intro y l;refine r7 ?_;exact rt l hT p
 intro y l;refine WV ?_;refine WC.loop (WL.lift l (fun v7 s=>∃q h1,s=⟨q,[],h1,none⟩/\Sp V T h [] h1/\q.at 1=.slice Zx p1.length Zw/\q.at 2=.func (.func 91) #[] #[]/\q.at 15=.slice Zh p0.length Zg/\q.at 16= V9 (p0.length:Int)/\q.at 17= V9 v7) ⟨_,_,rfl,p.only .n,YQ⟩ ?_);rintro ZaU v7 s ZbU l ⟨q,h1,rfl,p,e3,e4,e5,e6,e8⟩;refine r6 ?_;refine cn l ?_ ?_
 .intro y l;refine r7 ?_;have⟨x10,Zcx,l⟩:=bS l;obtain⟨b11,o12,⟨⟨S,G⟩,⟨Q,E⟩,⟨P,D⟩⟩,Zgz,ZgC,Zla,X⟩:=Sl.at_ Zm Zcx;replace X:=Xa.1 X;refine Vd (ZJ JV Yt lk lk rfl Zgz Zcx) ?_;have Zgu:Sl Zi V h S G x10.args:=X.1;have Zru:Sl Zc V h Q E x10.qJ:=X.2.1;have ZBz:Sl Zt V h P D x10.qQ:=X.2.2;refine Vd (Yo Qy Yt (Zu fh rfl) (At.fz p.fz Zla ZgC) (j:=0) rfl rfl (ws:=(q1W x10 S G Q E P D)) rfl)<|r1 ?_;rintro _ h20 ⟨b19,ZUS,rfl,p⟩;refine r2 ?_;rintro h21 p;refine r6 ?_;have⟨Jh,Ur,l⟩:=bS l;obtain⟨b23,o24,⟨⟨L,C⟩,⟨K,B⟩,⟨I,A⟩⟩,Qo,Qc,Qb,W⟩:=Sl.at_ ZE Ur;replace W:=Xa.1 W;refine Vd (ZJ JV Yt lk lk rfl Qo Ur) ?_;have WN:Sl Zi V h L C Jh.args:=W.1;have ZnB:Sl Zc V h K B Jh.qJ:=W.2.1;have ZiT:Sl Zt V h I A Jh.qQ:=W.2.2;refine Vd (Yo Qy Yt (Zu fh rfl) (At.fz p.fz Qb Qc) (j:=0) rfl rfl (ws:=(q1W Jh L C K B I A)) rfl)<|r1 ?_;rintro _ h32 ⟨b31,ZOR,rfl,p⟩;refine r1 ?_;rintro h33 p;refine r7 ?_;have⟨x34,hx34,l⟩:=bS l;refine Ve (ZX.clo (first:=[]) (cap:=[]) lk ZKa lks rfl) p .n (fun g' hz t hO=>(ZBE _ _ hx34) (p.Vh hz) ((p.sl Zgu).mono t) ((p.sl Zru).mono t) ((p.sl ZBz).mono t) ((p.sl WN).mono t) ((p.sl ZnB).mono t) ((p.sl ZiT).mono t)) ?_;rintro _ h35 _ ⟨rfl,rfl⟩ p;refine r3 ?_;refine cn l ?_ ?_;.intro y l;refine WV ?_;exact rt l hT p
  intro y l;refine r7 ?_;exact ZQ.YC (ZbU _ _ l ⟨_,_,rfl,p.only .n,YQ⟩)
 intro y l;refine WV ?_;exact rt l hT p
end
section
def Zxb(p0:(U Za))(p1:(U Za))(Znl:((Za×Za)->O Z)):Int->(Int->O Z)->O Z:=fun h ZaU=>
 (bif decide (h<(p0.length:Int)) then(Yl p0 h).bind fun p=>(Yl p1 h).bind fun q=>(Znl (p,q)).bind fun l=>(bif(!l) then some false else ZaU (XD (h+1))) else some true)
def Zxc(F:Nat)(Znl:((Za×Za)->O Z))(p0:(U Za))(p1:(U Za)):O Z:=
 (bif((p0.length:Int) !=(p1.length:Int)) then some false else loop F (Zxb p0 p1 Znl) 0)
def ZdE(F:Nat)(Zkz:((Term×Term)->O Z)):(Za×Za)->((Za×Za)->O Z)->O Z:=fun(p0,p1) q=>
 (gd ((p0.qX==p1.qX)&&(decide (p0.qG=p1.qG))) (ZlK F p0.qV p1.qV) default).bind fun p=>(bif(((p0.qX==p1.qX)&&(decide (p0.qG=p1.qG)))&&p) then(Zxc F q p0.qJ p1.qJ).bind fun l=>(bif l then(Zw9 F Zkz p0.qQ p1.qQ).bind fun h=>some h else some false) else some false)
def ZgO(F:Nat):(Term×Term)->((Term×Term)->O Z)->O Z:=fun(p0,p1) p=>
 (bif((p0.op==p1.op)&&(decide (p0.qG=p1.qG))) then(Zxf F (loop F (ZdF F)) p0.args p1.args).bind fun q=>(bif q then(Zxc F (loop F (ZdE F p)) p0.qJ p1.qJ).bind fun l=>(bif l then(Zw9 F p p0.qQ p1.qQ).bind fun h=>some h else some false) else some false) else some false)
def ZHG(F:Nat)(p0:Term)(p1:Term):O Z:=
 loop F (ZgO F) (p0,p1)
end
section
def Zxa{F V}{Znl:((Za×Za)->O Z)}(ZMj:∀(x:(Za×Za))(r:Z),Znl x=some r->(match x with | (p0,p1)=>∀{h Zh Zg Zo Zn Zr Zq Zx Zw YB YA YK YJ}(ZG:V<=h.size)(Zm:Sl ZO V h Zh Zg p0.qV)(ZI:Sl Zc V h Zo Zn p0.qJ)(ZL:Sl Zt V h Zr Zq p0.qQ)(ZE:Sl ZO V h Zx Zw p1.qV)(Y0:Sl Zc V h YB YA p1.qJ)(Xj:Sl Zt V h YK YJ p1.qQ),WR XX 132 #[.agg (q3W p0 Zh Zg Zo Zn Zr Zq).toArray,.agg (q3W p1 Zx Zw YB YA YK YJ).toArray] V h (CP (fun v (Gb:U (Ast V))=>v=.bool r/\Gb=[]) [] h))){h}{p0 p1:(U Za)}{Zh Zg Zx Zw}{r}(ZG:V<=h.size)(Zm:Sl Zc V h Zh Zg p0)(ZE:Sl Zc V h Zx Zw p1)(l:Zxc F Znl p0 p1=some r):
 WR XX 131 #[.slice Zh p0.length Zg,.slice Zx p1.length Zw,.func (.func 132) #[] #[]] V h (CP (fun v (Gb:U (Ast V))=>v=.bool r/\Gb=[]) [] h):=by
 refine bg Tryz.ntmps131 ZG ZV.nil ?_;intro T hT p;unfold Zxc at l;refine r15 ?_;refine cn l ?_ ?_;.intro y l;refine r7 ?_;exact rt l hT p
 intro y l;refine WV ?_;refine WC.loop (WL.lift l (fun v7 s=>∃q h1,s=⟨q,[],h1,none⟩/\Sp V T h [] h1/\q.at 1=.slice Zx p1.length Zw/\q.at 2=.func (.func 132) #[] #[]/\q.at 15=.slice Zh p0.length Zg/\q.at 16= V9 (p0.length:Int)/\q.at 17= V9 v7) ⟨_,_,rfl,p.only .n,YQ⟩ ?_);rintro ZaU v7 s ZbU l ⟨q,h1,rfl,p,e3,e4,e5,e6,e8⟩;refine r6 ?_;refine cn l ?_ ?_
 .intro y l;refine r7 ?_;have⟨x10,Zcx,l⟩:=bS l;obtain⟨b11,o12,⟨⟨S,G⟩,⟨Q,E⟩,⟨P,D⟩⟩,Zgz,ZgC,Zla,X⟩:=Sl.at_ Zm Zcx;replace X:=ZK.1 X;refine Vd (ZJ QR Yn lk lk rfl Zgz Zcx) ?_;have Zgu:Sl ZO V h S G x10.qV:=X.1;have Zru:Sl Zc V h Q E x10.qJ:=X.2.1;have ZBz:Sl Zt V h P D x10.qQ:=X.2.2;refine Vd (Yo J9 Yn (Zu fh rfl) (At.fz p.fz Zla ZgC) (j:=0) rfl rfl (ws:=(q3W x10 S G Q E P D)) rfl)<|r1 ?_;rintro _ h20 ⟨b19,ZUS,rfl,p⟩;refine r2 ?_;rintro h21 p;refine r6 ?_;have⟨Jh,Ur,l⟩:=bS l;obtain⟨b23,o24,⟨⟨L,C⟩,⟨K,B⟩,⟨I,A⟩⟩,Qo,Qc,Qb,W⟩:=Sl.at_ ZE Ur;replace W:=ZK.1 W;refine Vd (ZJ QR Yn lk lk rfl Qo Ur) ?_;have WN:Sl ZO V h L C Jh.qV:=W.1;have ZnB:Sl Zc V h K B Jh.qJ:=W.2.1;have ZiT:Sl Zt V h I A Jh.qQ:=W.2.2;refine Vd (Yo J9 Yn (Zu fh rfl) (At.fz p.fz Qb Qc) (j:=0) rfl rfl (ws:=(q3W Jh L C K B I A)) rfl)<|r1 ?_;rintro _ h32 ⟨b31,ZOR,rfl,p⟩;refine r1 ?_;rintro h33 p;refine r7 ?_;have⟨x34,hx34,l⟩:=bS l;refine Ve (ZX.clo (first:=[]) (cap:=[]) lk ZMF lks rfl) p .n (fun g' hz t hO=>(ZMj _ _ hx34) (p.Vh hz) ((p.sl Zgu).mono t) ((p.sl Zru).mono t) ((p.sl ZBz).mono t) ((p.sl WN).mono t) ((p.sl ZnB).mono t) ((p.sl ZiT).mono t)) ?_;rintro _ h35 _ ⟨rfl,rfl⟩ p;refine r3 ?_;refine cn l ?_ ?_;.intro y l;refine WV ?_;exact rt l hT p
  intro y l;refine r7 ?_;exact ZQ.YC (ZbU _ _ l ⟨_,_,rfl,p.only .n,YQ⟩)
 intro y l;refine WV ?_;exact rt l hT p
def ZDO{F V:Nat}{Zkz:((Term×Term)->O Z)}(ZBE:∀(x:(Term×Term))(r:Z),Zkz x=some r->(match x with | (p0,p1)=>∀{h:H}{G:O Addr}{I:Nat}{D:O Addr}{E:Nat}{B:O Addr}{C:Nat}{y:O Addr}{A:Nat}{P:O Addr}{Q:Nat}{K:O Addr}{L:Nat}(ZG:V<=h.size)(Zm:Sl Zi V h G I p0.args)(ZI:Sl Zc V h D E p0.qJ)(ZL:Sl Zt V h B C p0.qQ)(ZE:Sl Zi V h y A p1.args)(Y0:Sl Zc V h P Q p1.qJ)(Xj:Sl Zt V h K L p1.qQ),WR XX 91 #[.agg (q1W p0 G I D E B C).toArray,.agg (q1W p1 y A P Q K L).toArray] V h (CP (fun v (Gb:U (Ast V))=>v=.bool r/\Gb=[]) [] h))):∀(Fr:Nat)(x:(Za×Za))(r:Z),loop Fr (ZdE F Zkz) x=some r->(match x with | (p0,p1)=>∀{h:H}{G:O Addr}{I:Nat}{D:O Addr}{E:Nat}{B:O Addr}{C:Nat}{y:O Addr}{A:Nat}{P:O Addr}{Q:Nat}{K:O Addr}{L:Nat}(ZG:V<=h.size)(Zm:Sl ZO V h G I p0.qV)(ZI:Sl Zc V h D E p0.qJ)(ZL:Sl Zt V h B C p0.qQ)(ZE:Sl ZO V h y A p1.qV)(Y0:Sl Zc V h P Q p1.qJ)(Xj:Sl Zt V h K L p1.qQ),WR XX 132 #[.agg (q3W p0 G I D E B C).toArray,.agg (q3W p1 y A P Q K L).toArray] V h (CP (fun v (Gb:U (Ast V))=>v=.bool r/\Gb=[]) [] h)):=by
 refine Xq _ ?_;rintro ZM YM ⟨p0,p1⟩ r q h G I D E B C y A P Q K L ZG Zm ZI ZL ZE Y0 Xj;refine bg Tryz.ntmps132 ZG ZV.nil ?_;intro T X p;refine r3 ?_;rintro _ h3 ⟨b2,eb2,rfl,p⟩;refine r1 ?_;rintro _ h5 ⟨b4,eb4,rfl,p⟩;refine r15 ?_;refine WO.gv (Ze.yes rfl rfl rfl (Yy rfl fh)) rfl (fun t=>(YN (XT (Z5 rfl fh) rfl t) (XT fh rfl t) XL))<|r6 ?_;have⟨x6,hx6,q⟩:=Xd q;refine WO.gcp (Ze.yes rfl rfl rfl (Yy rfl fh)) rfl (fun t=>(ZX.fn ZME (Zb (XT (Z5 rfl fh) rfl t) (Zb (XT fh rfl t) (Zb ZlW Zd))))) (fun t=>ZH6 (p.slu Zm) (p.slu ZE) (hx6 t))<|r6 ?_;refine WO.QX (Ze.yes rfl rfl rfl (Yy rfl fh)) (fun l=>?_) (fun l=>?_)
 .replace q:=YS l q;have⟨x8,hx8,q⟩:=bS q;refine WO.cl (Ze.on (Ze.yes rfl rfl rfl (Yy rfl fh)) l) rfl (ZX.fn ZCb (Zb (XT (Z5 rfl fh) rfl l) (Zb (XT fh rfl l) (Zb ZlW Zd)))) p .n (fun g' W S hO=>(Zxa YM) (p.Vh W) ((p.sl ZI).mono S) ((p.sl Y0).mono S) hx8) ?_;rintro _ h9 _ ⟨rfl,rfl⟩ p;refine Vd (QZ lk l lk)<|r5 ?_;refine WO.QX (Ze.yes rfl rfl rfl (Yy rfl fh)) (fun Zpc=>?_) (fun Zpc=>?_);.replace q:=YS Zpc q;have⟨x12,Zfv,q⟩:=bS q;refine WO.cl (Ze.on (Ze.yes rfl rfl rfl (Yy rfl fh)) Zpc) rfl (ZX.fn ZCa (Zb (XT (Z5 rfl fh) rfl Zpc) (Zb (XT fh rfl Zpc) (Zb ZlW Zd)))) p .n (fun g' W S hO=>(Zw7 ZBE) (p.Vh W) ((p.sl ZL).mono S) ((p.sl Xj).mono S) Zfv) ?_;rintro _ h13 _ ⟨rfl,rfl⟩ p;refine Vd (QZ lk Zpc lk)<|r4 ?_;exact rt q X p
  replace q:=YT Zpc q;refine WO.Xm (Ze.yes rfl rfl rfl (Yy rfl fh)) Zpc rfl<|Vd (Qs lk Zpc lk)<|r4 ?_;exact rt q X p
 replace q:=YT l q;refine WO.Xm (Ze.yes rfl rfl rfl (Yy rfl fh)) l rfl<|Vd (Qs lk l lk)<|r1 ?_;refine WO.Xm (Ze.yes rfl rfl rfl fh) rfl rfl<|WO.Xm (Ze.yes rfl rfl rfl (Zj rfl fh)) rfl rfl<|WO.Xm (Ze.yes rfl rfl rfl (Z5 rfl fh)) rfl rfl<|WO.Xm (Ze.yes rfl rfl rfl (Z5 rfl (Zj rfl fh))) rfl rfl<|WO.Xm (Ze.yes rfl rfl rfl (Yy rfl fh)) rfl rfl<|Vd (Qs lk rfl lk)<|r4 ?_;exact rt q X p
def ZHF{F V:Nat}:∀(Fr:Nat)(x:(Term×Term))(r:Z),loop Fr (ZgO F) x=some r->(match x with | (p0,p1)=>∀{h:H}{L:O Addr}{P:Nat}{I:O Addr}{K:Nat}{E:O Addr}{G:Nat}{C:O Addr}{D:Nat}{W:O Addr}{X:Nat}{Q:O Addr}{S:Nat}(ZG:V<=h.size)(Zm:Sl Zi V h L P p0.args)(ZI:Sl Zc V h I K p0.qJ)(ZL:Sl Zt V h E G p0.qQ)(ZE:Sl Zi V h C D p1.args)(Y0:Sl Zc V h W X p1.qJ)(Xj:Sl Zt V h Q S p1.qQ),WR XX 91 #[.agg (q1W p0 L P I K E G).toArray,.agg (q1W p1 C D W X Q S).toArray] V h (CP (fun v (Gb:U (Ast V))=>v=.bool r/\Gb=[]) [] h)):=by
 refine Xq _ ?_;rintro ZM YM ⟨p0,p1⟩ r p h L P I K E G C D W X Q S ZG Zm ZI ZL ZE Y0 Xj;refine bg Tryz.ntmps91 ZG ZV.nil ?_;intro T B q;refine r3 ?_;rintro _ h3 ⟨b2,eb2,rfl,q⟩;refine r1 ?_;rintro _ h5 ⟨b4,eb4,rfl,q⟩;refine r15 ?_;refine WO.gv (Ze.yes rfl rfl rfl (Yy rfl fh)) rfl (fun hg=>(YN (XT (Z5 rfl fh) rfl hg) (XT fh rfl hg) XL))<|r6 ?_;refine WO.QX (Ze.yes rfl rfl rfl (Yy rfl fh)) (fun t=>?_) (fun t=>?_)
 .replace p:=YS t p;have⟨x7,hx7,p⟩:=bS p;refine WO.cl (Ze.on (Ze.yes rfl rfl rfl (Yy rfl fh)) t) rfl (ZX.fn ZCc (Zb (XT (Z5 rfl fh) rfl t) (Zb (XT fh rfl t) (Zb ZlW Zd)))) q .n (fun g' A y hO=>(Zxd (ZDP F)) (q.Vh A) ((q.sl Zm).mono y) ((q.sl ZE).mono y) hx7) ?_;rintro _ h8 _ ⟨rfl,rfl⟩ q;refine Vd (QZ lk t lk)<|r5 ?_;refine WO.QX (Ze.yes rfl rfl rfl (Yy rfl fh)) (fun l=>?_) (fun l=>?_)
  .replace p:=YS l p;have⟨x11,Zfw,p⟩:=bS p;refine WO.cl (Ze.on (Ze.yes rfl rfl rfl (Yy rfl fh)) l) rfl (ZX.fn ZCb (Zb (XT (Z5 rfl fh) rfl l) (Zb (XT fh rfl l) (Zb ZlW Zd)))) q .n (fun g' A y hO=>(Zxa (ZDO YM F)) (q.Vh A) ((q.sl ZI).mono y) ((q.sl Y0).mono y) Zfw) ?_;rintro _ h12 _ ⟨rfl,rfl⟩ q;refine Vd (QZ lk l lk)<|r5 ?_;refine WO.QX (Ze.yes rfl rfl rfl (Yy rfl fh)) (fun Zpb=>?_) (fun Zpb=>?_);.replace p:=YS Zpb p;have⟨x15,ZhV,p⟩:=bS p;refine WO.cl (Ze.on (Ze.yes rfl rfl rfl (Yy rfl fh)) Zpb) rfl (ZX.fn ZCa (Zb (XT (Z5 rfl fh) rfl Zpb) (Zb (XT fh rfl Zpb) (Zb ZlW Zd)))) q .n (fun g' A y hO=>(Zw7 YM) (q.Vh A) ((q.sl ZL).mono y) ((q.sl Xj).mono y) ZhV) ?_;rintro _ h16 _ ⟨rfl,rfl⟩ q;refine Vd (QZ lk Zpb lk)<|r4 ?_;exact rt p B q
   replace p:=YT Zpb p;refine WO.Xm (Ze.yes rfl rfl rfl (Yy rfl fh)) Zpb rfl<|Vd (Qs lk Zpb lk)<|r4 ?_;exact rt p B q
  replace p:=YT l p;refine WO.Xm (Ze.yes rfl rfl rfl (Yy rfl fh)) l rfl<|Vd (Qs lk l lk)<|r1 ?_;refine WO.Xm (Ze.yes rfl rfl rfl fh) rfl rfl<|WO.Xm (Ze.yes rfl rfl rfl (Zj rfl fh)) rfl rfl<|WO.Xm (Ze.yes rfl rfl rfl (Z5 rfl fh)) rfl rfl<|WO.Xm (Ze.yes rfl rfl rfl (Z5 rfl (Zj rfl fh))) rfl rfl<|WO.Xm (Ze.yes rfl rfl rfl (Yy rfl fh)) rfl rfl<|Vd (Qs lk rfl lk)<|r4 ?_;exact rt p B q
 replace p:=YT t p;refine WO.Xm (Ze.yes rfl rfl rfl (Yy rfl fh)) t rfl<|Vd (Qs lk t lk)<|r1 ?_;refine WO.Xm (Ze.yes rfl rfl rfl fh) rfl rfl<|WO.Xm (Ze.yes rfl rfl rfl (Zj rfl fh)) rfl rfl<|WO.Xm (Ze.yes rfl rfl rfl (Z5 rfl fh)) rfl rfl<|WO.Xm (Ze.yes rfl rfl rfl (Z5 rfl (Zj rfl fh))) rfl rfl<|WO.Xm (Ze.yes rfl rfl rfl (Yy rfl fh)) rfl rfl<|Vd (Qs lk rfl lk)<|r1 ?_;refine WO.Xm (Ze.yes rfl rfl rfl fh) rfl rfl<|WO.Xm (Ze.yes rfl rfl rfl (Zj rfl fh)) rfl rfl<|WO.Xm (Ze.yes rfl rfl rfl (Z5 rfl fh)) rfl rfl<|WO.Xm (Ze.yes rfl rfl rfl (Z5 rfl (Zj rfl fh))) rfl rfl<|WO.Xm (Ze.yes rfl rfl rfl (Yy rfl fh)) rfl rfl<|Vd (Qs lk rfl lk)<|r4 ?_;exact rt p B q
def ZNQ{F V h}{p0 p1:Term}{Zh Zg Zo Zn Zr Zq Zx Zw YB YA YK YJ}{r}(x:V<=h.size)(p:Sl Zi V h Zh Zg p0.args)(t:Sl Zc V h Zo Zn p0.qJ)(q:Sl Zt V h Zr Zq p0.qQ)(y:Sl Zi V h Zx Zw p1.args)(A:Sl Zc V h YB YA p1.qJ)(B:Sl Zt V h YK YJ p1.qQ)(l:ZHG F p0 p1=some r):
 WR XX 91 #[.agg (q1W p0 Zh Zg Zo Zn Zr Zq).toArray,.agg (q1W p1 Zx Zw YB YA YK YJ).toArray] V h (CP (fun v (Gb:U (Ast V))=>v=.bool r/\Gb=[]) [] h):=
 ZHF F (p0,p1) r l x p t q y A B
def ZNR{F h}{p0 p1:Term}{Zh Zg Zo Zn Zr Zq Zx Zw YB YA YK YJ}{r}(p:Sl Zi h.size h Zh Zg p0.args)(t:Sl Zc h.size h Zo Zn p0.qJ)(q:Sl Zt h.size h Zr Zq p0.qQ)(x:Sl Zi h.size h Zx Zw p1.args)(y:Sl Zc h.size h YB YA p1.qJ)(A:Sl Zt h.size h YK YJ p1.qQ)(l:ZHG F p0 p1=some r):Pure XX 91 #[.agg (q1W p0 Zh Zg Zo Zn Zr Zq).toArray,.agg (q1W p1 Zx Zw YB YA YK YJ).toArray] h (.bool r):=
 WR.JC rfl (ZNQ Vc p t q x y A l)
end
section
def ZuI(F:Nat)(p0:Term)(p1:Term):O (Z×Int):=
 (Zcz F p0).bind fun p=>(gd (!(p !=0)) (Zcz F p1) default).bind fun r=>(bif((p !=0)||(r !=0)) then some (false,2) else(ZuD F p0).bind fun q=>(ZuD F p1).bind fun l=>(ZHG F q l).bind fun h=>some (h,0))
end
section
def ZOl{F V h}{p0 p1:Term}{Zh Zg Zo Zn Zr Zq Zx Zw YB YA YK YJ}{r}(ZG:V<=h.size)(B:Sl Zi V h Zh Zg p0.args)(D:Sl Zc V h Zo Zn p0.qJ)(C:Sl Zt V h Zr Zq p0.qQ)(E:Sl Zi V h Zx Zw p1.args)(G:Sl Zc V h YB YA p1.qJ)(I:Sl Zt V h YK YJ p1.qQ)(p:ZuI F p0 p1=some r):
 WR XX 41 #[.agg (q1W p0 Zh Zg Zo Zn Zr Zq).toArray,.agg (q1W p1 Zx Zw YB YA YK YJ).toArray] V h (CP (fun v (Gb:U (Ast V))=>v=.tuple #[.bool r.1,V9 r.2]/\Gb=[]) [] h):=by
 refine bg Tryz.ntmps41 ZG ZV.nil ?_;intro T A l;unfold ZuI at p;refine r3 ?_;rintro _ h2 ⟨b1,X,rfl,l⟩;refine r1 ?_;rintro _ h4 ⟨b3,W,rfl,l⟩;refine r8 ?_;have⟨x5,hx5,p⟩:=bS p;refine WO.cp gN rfl (ZX.fn Zgy (Zb lk Zd)) (Zbd (l.slu B) (l.slu D) (l.slu C) hx5)<|r3 ?_;have⟨x6,hx6,p⟩:=Xd p;refine WO.gcp (Ze.no rfl rfl rfl (Zj rfl fh)) rfl (fun y=>(ZX.fn Zgy (Zb (XT fh rfl y) Zd))) (fun y=>Zbd (l.slu E) (l.slu G) (l.slu I) (hx6 y))<|r4 ?_;refine cn p ?_ ?_;.intro K p;refine r8 ?_;have x:=Oi0 p;subst x;exact Yk.gen (vs:=[.bool false,V9 2]) rfl (Zp lk (Zp lk Zl)) rfl ⟨_,⟨rfl,rfl⟩,A▸l.only .n⟩
 intro K p;refine r3 ?_;refine WC.XU mixed Kq0<|r1 ?_;have⟨x7,hx7,p⟩:=bS p;refine WX.cl0 gN rfl (ZX.fn ZBY (Zb lk Zd)) l .n (fun S t q L=>ZuC (l.Vh t) ((l.sl B).mono q) ((l.sl D).mono q) ((l.sl C).mono q) hx7) ?_ rfl rfl;rintro _ Q _ ⟨a8,c10,a11,c13,a14,c16,rfl,rfl⟩ l;refine r1 ?_;have⟨x19,ZMb,p⟩:=bS p;refine WX.cl0 gN rfl (ZX.fn ZBY (Zb lk Zd)) l .n (fun S t q L=>ZuC (l.Vh t) ((l.sl E).mono q) ((l.sl G).mono q) ((l.sl I).mono q) ZMb) ?_ rfl rfl;rintro _ P _ ⟨a20,c22,a23,c25,a26,c28,rfl,rfl⟩ l;have⟨x31,hx31,p⟩:=bS p;refine WX.cp gN rfl (ZX.fn ZKa (Zb lk (Zb lk Zd))) (ZNR (l.Kv k3) (l.Kv k4) (l.Kv k5) (l.Kv k0) (l.Kv k1) (l.Kv k2) hx31) ?_ rfl rfl;refine r5 ?_;have x:=Oi0 p;subst x;exact Yk.gen (vs:=[.bool x31,V9 0]) rfl (Zp lk (Zp lk Zl)) rfl ⟨_,⟨rfl,rfl⟩,A▸l.only .n⟩
def ZOm{F h}{p0 p1:Term}{Zh Zg Zo Zn Zr Zq Zx Zw YB YA YK YJ}{r}(p:Sl Zi h.size h Zh Zg p0.args)(t:Sl Zc h.size h Zo Zn p0.qJ)(q:Sl Zt h.size h Zr Zq p0.qQ)(x:Sl Zi h.size h Zx Zw p1.args)(y:Sl Zc h.size h YB YA p1.qJ)(A:Sl Zt h.size h YK YJ p1.qQ)(l:ZuI F p0 p1=some r):Pure XX 41 #[.agg (q1W p0 Zh Zg Zo Zn Zr Zq).toArray,.agg (q1W p1 Zx Zw YB YA YK YJ).toArray] h (.tuple #[.bool r.1,V9 r.2]):=
 WR.JC rfl (ZOl Vc p t q x y A l)
end
section
def ZH7{F V b:Nat}{h:H}{t:Term}{p:TmP}{r:MB}(D:V<=h.size)(y:At h b 0 (Qg p t))(E:Stb V h b)(C:Zt.F V h p t)(B:ZbB F t=some r):
 WR XX 151 #[pV b] V h (CP (fun v (Gb:U (Ast V))=>∃(cf:Nat),v=.map (some cf)/\Gb=[mp V Value.string Value.bool (some cf) r]) [] h):=by
 have⟨⟨pA,cA⟩,⟨pD,cD⟩,⟨pK,cK⟩⟩:=p;have⟨hsA,hsD,hsK⟩:=Xa.1 C;dsimp only at hsA hsD hsK;refine WF.begin (args:=[_]) (fn:=Tryz.f151) Kq0 (by exact rfl) Tryz.ntmps151 (by simp) ?_;simp only[Zv,Zy,Nat.reduceAdd];obtain⟨T,A,l⟩:∃T,T=QA (V:=V) []/\Sp V T h [] h:=⟨_,rfl,Sp.start D ZV.nil⟩;repeat refine r1 ?_
 refine Vd (Yo Qy Yt lk y (j:=0) rfl rfl (ws:=(q1W t pA cA pD cD pK cK)) rfl)<|Ve (ZX.fn Zrr (Zb lk Zd)) l .n (fun K x q G=>Zlw (l.Vh x) (hsA.mono q) (hsD.mono q) (hsK.mono q) B) ?_;rintro _ I _ ⟨cm,rfl,rfl⟩ l;repeat refine r1 ?_
 exact Yk.XA rfl (Zp lk Zl) ⟨_,⟨cm,rfl,rfl⟩,A▸l.only (.a .n)⟩
def ZfE(names:U Y):Int×MB->(Int×MB->O MB)->O MB:=fun(i,m) next=>bif decide (i<(names.length:Int)) then(Yl names i).bind fun x=>next (XD (i+1),Zfs m x) else some m
def Zcr(F:Nat)(p:Za)(names:U Y):O MB:=(Yl p.qQ 0).bind fun k=>(ZbB F k).bind fun m=>loop F (ZfE names) (0,m)
def ZHZ{F V b D:Nat}{h:H}{t:Za}{p:TmP}{names:U Y}{a:O Addr}{C:Nat}{r:MB}(ZG:V<=h.size)(ha:At h b 0 (Wi p t))(hb:Stb V h b)(hF:Zc.F V h p t)(X:At h D 0 [.slice a names.length C])(W:Stb V h D)(P:Sl ZH V h a C names)(l:Zcr F t names=some r):
 WR XX 180 #[pV b,pV D] V h (CP (fun v (Gb:U (Ast V))=>∃(cf:Nat),v=.map (some cf)/\Gb=[mp V Value.string Value.bool (some cf) r]) [] h):=by
 have⟨⟨pj,cj⟩,⟨pd,cd⟩,⟨pk,ck⟩⟩:=p;have⟨hsj,hsd,hsk⟩:=ZK.1 hF;dsimp only at hsj hsd hsk;refine WF.begin (args:=[_,_]) (fn:=Tryz.f180) Kq0 (by exact rfl) Tryz.ntmps180 (by simp) ?_;simp only[Zv,Zy,Nat.reduceAdd];obtain⟨T,hT,y⟩:∃T,T=QA (V:=V) []/\Sp V T h [] h:=⟨_,rfl,Sp.start ZG ZV.nil⟩;unfold Zcr at l;repeat refine r1 ?_
 have⟨kd,hkd,l⟩:=bS l;obtain⟨b33,K,⟨⟨I,c1⟩,⟨G,c2⟩,⟨E,c3⟩⟩,ZrG,ZrT,ZwK,ZrQ⟩:=Sl.at_ hsk hkd;have⟨hs1,hs2,hs3⟩:=Xa.1 ZrQ;dsimp only at hs1 hs2 hs3;refine Vd (ZJ JV Yt (Zu fh rfl) (JS rfl) rfl ZrG hkd)<|Vd (Yo Qy Yt (Zu fh rfl) ZrT (j:=0) rfl rfl (ws:=(q1W kd I c1 G c2 E c3)) rfl) ?_;have⟨m,hm,l⟩:=bS l;refine Ve (ZX.fn Zrr (Zb lk Zd)) y .n (fun g' L B hO=>Zlw (y.Vh L) (hs1.mono B) (hs2.mono B) (hs3.mono B) hm) ?_;rintro _ A _ ⟨cm,rfl,rfl⟩ y;repeat refine r1 ?_
 repeat refine r1 ?_
 refine WC.loop (WL.lift l (fun(q:Int×MB)(s:Fs)=>match q with | (i,m)=>∃(x:Fr) (A:H),s=⟨x,[],A,none⟩/\Sp V T h [mp V Value.string Value.bool (some cm) m] A/\x.at 3=.map (some cm)/\x.at 11=.slice a names.length C/\x.at 12= V9 (names.length:Int)/\x.at 13= V9 i) ⟨_,_,rfl,y.only (.a .n),YQ⟩ ?_);rintro ZM ⟨i,m⟩ s YM l ⟨x,A,rfl,y,e3,e11,e12,e13⟩;dsimp only[ZfE]at l;repeat refine r1 ?_
 refine cn l ?_ ?_
 .intro S l;repeat refine r1 ?_
  have⟨Jh,Ur,l⟩:=bS l;have⟨b23,o24,_,Qo,Qc,Qb,Y9⟩:=Sl.at_ P Ur;refine Vd (ZJ Xk Xo (Zu YQ rfl) (Zu YQ rfl) rfl Qo Ur)<|Vd (Z0 Uu (Zu fh rfl) (At.fz y.fz Qb Qc) (j:=0) rfl (v:=.string Jh) rfl) ?_;repeat refine r1 ?_
  refine WO.hw gN (ZLu y k0 Jd rfl XY lk lk) ?_;rintro h9 y;repeat refine r1 ?_
  exact ZQ.YC (YM _ _ l ⟨_,_,rfl,y.only (.a .n),YQ⟩)
 intro S l;repeat refine r1 ?_
 have Q:=Oi0 l;subst Q;exact Yk.XA rfl (Zp lk Zl) ⟨_,⟨cm,rfl,rfl⟩,hT▸y.only (.a .n)⟩
end
end Go.Proofs.YtbnepjakjmnadaaGreat
end
end
section
set_option maxRecDepth 20000
noncomputable section
namespace Go.ZU
open Go.Lf
def jA{V:Nat}(G:U (Ast V)):Ast V where
 P:=fun h=>ZV G h
 fp:=QA G
 loc:=fun f k s=>⟨fun A m=>A.loc f (fun i l=>k i ⟨A,m,l⟩) (s.all A m),s.dis⟩
 own:=fun s l=>s.own l
end Go.ZU
end
end
section
set_option maxRecDepth 20000
noncomputable section
namespace Go.Proofs.YtbnepjakjmnadaaGreat
open Go.ZU Go.Lf
def Zzx{V:Nat}:ZiC V:=fun wv r q=>X4 wv=false/\∃(p:V3) (l:U N),wv=.func (.func p) #[] l.toArray/\(XX.fns.get p).isSome=true/\Zf6 wv=true/\∀{h:H}{m:MB},q=some m->ZV r h ->
 WR XX p l.toArray h.size h (CP (fun(v:N)(Gb:U (Ast h.size))=>∃cf:Nat,v=.map (some cf)/\Gb=[mp h.size Value.string Value.bool (some cf) m]) [] h)
def ZnT(F:Nat)(names:U Y)(mine:MB):Int×MB×U Y->(Int×MB×U Y->O (MB×U Y))->O (MB×U Y):=fun(i,h,to) next=>
 bif decide (i<(names.length:Int)) then(Yl names i).bind fun n=>bif(ZC mine n).getD false then(ZyO F h).bind fun y=>(Yl to i).bind fun _=>next (XD (i+1),y.1,ZoA to i y.2) else next (XD (i+1),h,to) else some (h,to)
def ZgP(F:Nat)(x:Y)(mine:MB):ChL:=fun h c names l=>
 (ZyP F c x).bind fun o=>bif !o then some (h,names) else l.bind fun m=>bif !((ZC m x).getD false) then some (h,names) else(ZDg names).bind fun to=>loop F (ZnT F names mine) (0,h,to)
def fvP(V w p l h cm:Nat)(x:Y)(mine:MB):FV V:=⟨.func (.func 75) #[] #[pV p,pV l,pV h],jA [bx V p [.string x],bx V l [.map (some cm)],bx V h [pV w],mp V Value.string Value.bool (some cm) mine]⟩
def ZSc:(XX.fns.get 77).isSome=true:=Kq0
def ZJZ:(XX.fns.get 75).isSome=true:=Kq0
def ZN3{F V w cf ct cm G D C b:Nat}{x:Y}{mine taken t:MB}{S:U SE}{h:H}{c:U NM}{wi:O MB}{names:U Y}{pa:O Addr}{W:Nat}{wv:N}{E:U (Ast V)}{r:MB×U Y}(ZG:V<=h.size)(hr:Rd S (some b) c)(Q:Sl ZH V h pa W names)(hW:Zzx wv E wi)(p:ZgP F x mine taken c names wi=some r)(hO:ZV (Ug V w cf (some ct) (fvP V w G D C cm x mine) t taken S++E) h):
 WR XX 75 #[pV b,.slice pa names.length W,wv,pV G,pV D,pV C] V h (CP (fun v (Gb:U (Ast V))=>∃(a:O Addr) (cc:Nat),v=.slice a r.2.length cc/\Gb=Z9 V (Yh ZH) (a,cc) r.2::(Ug V w cf (some ct) (fvP V w G D C cm x mine) t r.1 S++E)) (Ug V w cf (some ct) (fvP V w G D C cm x mine) t taken S++E) h):=by
 refine WF.begin (args:=[_,_,_,_,_,_]) (fn:=Tryz.f75) Kq0 (by exact rfl) Tryz.ntmps75 (by simp) ?_;simp only[Zv,Zy,Nat.reduceAdd];obtain⟨T,hT,l⟩:∃T,T=QA (Ug V w cf (some ct) (fvP V w G D C cm x mine) t taken S++E)/\Sp V T h (Ug V w cf (some ct) (fvP V w G D C cm x mine) t taken S++E) h:=⟨_,rfl,Sp.start ZG hO⟩;unfold ZgP at p;obtain⟨hwv,fid,caps,rfl,hid,hsk,hWc⟩:=hW;have ZS3:∀{h:H},(fvP V w G D C cm x mine).A.P h->At h G 0 [.string x]:=fun s=>At.box (s.all (bx V G [.string x]) (by simp)).1;have ZYq:∀{h:H},(fvP V w G D C cm x mine).A.P h->At h D 0 [.map (some cm)]:=fun s=>At.box (s.all (bx V D [.map (some cm)]) (by simp)).1;have ZYp:∀{h:H},(fvP V w G D C cm x mine).A.P h->At h C 0 [pV w]:=fun s=>At.box (s.all (bx V C [pV w]) (by simp)).1;have ZBX:∀{h:H},(fvP V w G D C cm x mine).A.P h->MapAt Value.string Value.bool h (some cm) mine:=fun s=>(s.all (mp V Value.string Value.bool (some cm) mine) (by simp)).at_;repeat refine r1 ?_
 refine WC.XU mixed Kq0 ?_;repeat refine r1 ?_
 refine Vg (Z0 Uu lk (ZS3 (l.get k0).2) (j:=0) rfl (v:=.string x) rfl) ?_;have⟨o,ho,p⟩:=bS p;refine WX.cl gN rfl (ZX.fn ZSd (Zb (Zu (Zj rfl fh) rfl) (Zb (Zu fh rfl) Zd))) l (.e .n) (fun g' hz hf hO=>ZN2 (o:=some b) (l.Vh hz) hr hO ho) ?_ rfl rfl [] Kq0 Y2.e;rintro _ h1 _ ⟨rfl,rfl⟩ l;have l:=l.only (.b (.b (.b (.a (ZbN E)))));refine WX.w gN rfl (Kc (Zu fh rfl)) ?_ Kq0;refine WX.w gN rfl (Ye (Zu fh rfl)) ?_ Kq0;refine WX.QX (Ze.no rfl rfl rfl fh) (fun L=>?_) (fun L=>?_)
 .have K:(!o)=false:=by cases o<;>simp_all
  replace p:=YT K p;have⟨m,hm,p⟩:=bS p;refine WX.w (Ze.on (Ze.no rfl rfl rfl fh) L) rfl (Ye (Zu (Xe rfl YQ) rfl)) ?_ Kq0;refine WX.clR (Ze.on (Ze.noC rfl rfl rfl (Zj rfl fh) (Zf7 rfl (Zf8 fh hsk))) L) rfl (ZX.clo (first:=[]) (cap:=caps) (Zu fh rfl) hid Zd rfl) l.hw (hWc hm (l.Zac (Ga:=E) (ZhH [_,_,_,_] E))) ?_ rfl Kq0;rintro _ h2 _ ⟨cf2,rfl,rfl⟩ hC;have l:=l.clR hC (.c (cvM l.hw) .n);refine WX.w (Ze.on (Ze.no rfl rfl rfl (Z5 rfl fh)) L) rfl (Z0 Uu (Zu YQ rfl) (ZS3 (l.get k1).2) (j:=0) rfl (v:=.string x) rfl) ?_ Kq0;refine WX.w (Ze.on (Ze.no rfl rfl rfl (Z5 rfl (Zj rfl fh))) L) rfl (Kl (kv:=Value.string) (vv:=Value.bool) (k:=x) (z:=false) Jd XY Zcc (Zu (Zj rfl fh) rfl) (Zu fh rfl) (l.get k0).at_ (show ZeN m x false=some ((ZC m x).getD false) from rfl) (w:=.bool ((ZC m x).getD false)) rfl) ?_ Kq0;refine WX.w (Ze.on (Ze.no rfl rfl rfl (Yy rfl fh)) L) rfl (Kc (Zu fh rfl)) ?_ Kq0;refine WX.w gN rfl (Qs (Zu (Yy rfl (Zj rfl fh)) rfl) K (Zu fh rfl)) ?_ Kq0;repeat refine r1 ?_
  refine cn p ?_ ?_
  .intro X p;repeat refine r1 ?_
   have l:=l.add (A:=Z9 V (Yh ZH) (pa,W) names) (l.sl Q) (fun _ z=>z);have I:=Oi0 p;subst I;exact Yk.XA rfl (Zp lk Zl) ⟨_,⟨pa,W,rfl,rfl⟩,hT▸l.only (.a (.b (.b (.b (.b (ZhH [_] E))))))⟩
  intro X p;repeat refine r1 ?_
  have⟨to,hto,p⟩:=bS p;refine Ve (ZX.fn ZSc (Zb lk Zd)) l .n (fun g' hz hf hO=>ZN1 (l.Vh hz) ((l.sl Q).mono hf) hto) ?_;rintro _ h3 _ ⟨ra,rn,rc,rfl,rfl⟩ l;repeat refine r1 ?_
  refine WC.loop (WL.lift p (fun(q:Int×MB×U Y)(s:Fs)=>match q with | (i,tk,to)=>∃(B:Fr) (h5:H),s=⟨B,[],h5,none⟩/\Sp V T h (ow V ZH ra rn rc to::(Ug V w cf (some ct) (fvP V w G D C cm x mine) t tk S++E)) h5/\B.at 4=pV D/\B.at 5=pV C/\B.at 10=.slice ra rn rc/\B.at 27=.slice pa names.length W/\B.at 28= V9 (names.length:Int)/\B.at 29= V9 i) ⟨_,_,rfl,l.only (.a (.b (.b (.b (.b (ZhH [_] E)))))),YQ⟩ ?_);rintro ZM ⟨i,tk,to2⟩ s YM p ⟨B,h5,rfl,l,e4,e5,e10,e27,e28,e29⟩;dsimp only[ZnT]at p;repeat refine r1 ?_
  refine cn p ?_ ?_
  .intro X p;repeat refine r1 ?_
   have⟨Jh,Ur,p⟩:=bS p;have⟨b23,o24,_,Qo,Qc,Qb,Y9⟩:=Sl.at_ Q Ur;refine Vd (ZJ Xk Xo (Zu YQ rfl) (Zu YQ rfl) rfl Qo Ur)<|Vd (Z0 Uu (Zu fh rfl) (At.fz l.fz Qb Qc) (j:=0) rfl (v:=.string Jh) rfl) ?_;repeat refine r1 ?_
   refine Vd (Z0 Zhk (Zu YQ rfl) (ZYq (l.get k1).2) (j:=0) rfl (v:=.map (some cm)) rfl) ?_;repeat refine r1 ?_
   refine Vd (Kl (kv:=Value.string) (vv:=Value.bool) (k:=Jh) (z:=false) Jd XY Zcc lk lk (ZBX (l.get k1).2) (show ZeN mine Jh false=some ((ZC mine Jh).getD false) from rfl) (w:=.bool ((ZC mine Jh).getD false)) rfl) ?_;repeat refine r1 ?_
   refine cn p ?_ ?_
   .intro hc2 p;repeat refine r1 ?_
    refine Vd (Z0 ZaM (Zu YQ rfl) (ZYp (l.get k1).2) (j:=0) rfl (v:=pV w) rfl) ?_;have⟨y,hy,p⟩:=bS p;refine Ve (ZX.fn ZJY (Zb lk Zd)) l (.b (.d .n)) (fun g' hz hf hO=>ZDe (l.Vh hz) hO hy) ?_;rintro _ h7 _ ⟨rfl,rfl⟩ l;have⟨x0,hx0,p⟩:=bS p;have⟨b40,o40,_,ZKo,ZUp,Z1l⟩:=Src.at_ (l.Qi k2) hx0;refine Vd (ZJ Xk Xo (Zu YQ rfl) (Zu YQ rfl) (l.on k2) ZKo hx0)<|WO.hu gN (ZQZ (e:=ZH) y.2 () l k2 Xo (Zu fh rfl) (Zu YQ rfl) ZKo hx0 ZUp (j:=0) rfl (vs:=[.string y.2]) rfl rfl rfl rfl rfl (cs':=[.string y.2]) rfl rfl trivial) ?_;rintro h8 ⟨l,hA8⟩;repeat refine r1 ?_
    exact ZQ.YC (YM _ _ p ⟨_,_,rfl,l.only (.a (.a (.b (.a (.a (ZbN E)))))),YQ⟩)
   intro hc2 p;repeat refine r1 ?_
   exact ZQ.YC (YM _ _ p ⟨_,_,rfl,l,YQ⟩)
  intro X p;refine WC.exit<|Yx.exit<|ZQ.exit<|Xh.here<|Yx.YC<|WC.fzn l k0 ?_;rintro h9 ⟨hn,hS2⟩;subst hn;repeat refine r1 ?_
  have I:=Oi0 p;subst I;exact Yk.XA rfl (Zp lk Zl) ⟨_,⟨ra,rc,rfl,rfl⟩,hT▸hS2⟩
 have K:(!o)=true:=by cases o<;>simp_all
 replace p:=YS K p;refine WX.Xm (Ze.no rfl rfl rfl fh) L rfl ?_ Kq0;refine WX.Xm (Ze.noC rfl rfl rfl (Zj rfl fh) (Zf7 rfl (Zf8 fh rfl))) L rfl ?_ Kq0;refine WX.Xm (Ze.no rfl rfl rfl (Z5 rfl fh)) L rfl ?_ Kq0;refine WX.Xm (Ze.no rfl rfl rfl (Z5 rfl (Zj rfl fh))) L rfl ?_ Kq0;refine WX.Xm (Ze.no rfl rfl rfl (Yy rfl fh)) L rfl ?_ Kq0;refine WX.w gN rfl (QZ (Zu (Yy rfl (Zj rfl fh)) rfl) K (JS rfl)) ?_ Kq0;repeat refine r1 ?_
 refine WC.UZ lk (fun X=>?_) (fun X=>?_)
 .repeat refine r1 ?_
  have l:=l.add (A:=Z9 V (Yh ZH) (pa,W) names) (l.sl Q) (fun _ z=>z);have I:=Oi0 p;subst I;exact Yk.XA rfl (Zp lk Zl) ⟨_,⟨pa,W,rfl,rfl⟩,hT▸l.only (.a (.a (.a (.a (.a (ZbN E))))))⟩
 cases X
end Go.Proofs.YtbnepjakjmnadaaGreat
end
end
section
set_option maxRecDepth 20000
noncomputable section
namespace Go.ZU
open Go.Lf
section
variable{X:Ctx}{n V:Nat}{rd:O Nat}{ops:V5 Oper}{l:U Oper}{rest:Code}
def ZjK{ρ:Ren}(h:V5 Nat){es:U V6}{es':V5 V6}(e:EL ρ es es'.toList):(leftOf es' h).size=(es.filter fun x=>!h.contains x.born).length:=by
 unfold leftOf;rw[<-G6,Array.toList_filter];generalize es'.toList=l at e
 induction e with|nil=>rfl|cons _ _ p _ _ ih=>
   rw[List.filter_cons,List.filter_cons,p];split;.simpa using ih
   exact ih
def Zyj{s:Fs}{id:Nat}{o:Oper}{t it m XE clock d k:Nat}{es:U V6}{T:U Nat}{e:XX}{s2:Fs}(fv:(Nat->Z)->Y->O Z)
 (hops:ops.toList=o::l) (hop:o.op=.next (.tmp t) false) (hgu:o.guard=none) (hfr:s.fr.at t=(Va it)) (hit:s.h.at it=.iter m clock XE none) (hm:s.h.at m=.map es clock) (hck:clock<=XE) (hborn:Qr clock es=true) (ZGI:V<=it) (htT:t∉T) (hd:o.dst=some d) (hdn:d<n) (hdT:d∈T)
 (hk:s.h.at k=.XP (fv fun _=>false)) (hwk:V<=k) (hfv:∀V'' V':Nat->Z,(∀x∈es,V'' x.born=V' x.born)->fv V''=fv V')
 (ZkX:∀(V'':Nat->Z),∀x∈es,∃s3,(s3.ds=s.ds/\(∀t,t∉T->s3.fr.at t=s.fr.at t)/\s3.h.size=s.h.size/\∀j,s3.h.at j=((s.h.put k (.XP (fv fun b=>V'' b||b==x.born))).put it (.Ws m clock clock x.born)).at j)/\
   ∀{ρ:Ren}{F:Fence}{a:Act}{w:V4},Inv ρ n {fr:=U6 (Y4 T s.fr) o.dst (.tuple #[.bool true,x.key,x.val]),ds:=s.ds,h:=(s.h.put k (.XP (fv V''))).put it (.Ws m clock clock x.born),wr:=s.wr} a w->V<=s.h.size->FR' ρ rd F->∀Q':Exit->Act->V4->Prop,
   (∀I a' w',Qz V n ρ ((s.h.put k (.XP (fv V''))).put it (.Ws m clock clock x.born)) w .normal s3 I a' w'->Q' I a' w')->wpListIn F 0 X.P ops (Exit.then (rest.wpIn F 0 X.P Q') Q') l a w)
 (hover:e≠.normal/\∀{ρ:Ren}{F:Fence}{a:Act}{w:V4},Inv ρ n {s with fr:=U6 (Y4 T s.fr) o.dst UQ,h:=(s.h.put k (.XP (fv fun _=>true))).put it .dead} a w->V<=s.h.size->FR' ρ rd F->∀Q':Exit->Act->V4->Prop,
   (∀I a' w',Qz V n ρ ((s.h.put k (.XP (fv fun _=>true))).put it .dead) w e s2 I a' w'->Q' I a' w')->wpListIn F 0 X.P ops (Exit.then (rest.wpIn F 0 X.P Q') Q') l a w):Y7 X (.loop (.seq (.region id ops false) rest) n V rd s) (.code e s2):=by
 refine Zrg.2 ⟨e,s2,rfl,fun ρ0 a0 w0 F ZG hi0 hF=>?_⟩;have Zum:=hi0.fr.val t (by rw[hfr];rfl);rw[hfr]at Zum;generalize hpx:a0.tmps.getD t undef=px at Zum;cases Zum with|@ptr _ bi di _ Zrn=>
 have hoi:=hi0.rel.obj _ _ _ Zrn;rw[hit]at hoi;obtain⟨rfl,bm,ZQX,ZJE,ZBT,_,Zfx⟩:=hoi;have Zfx:=Zfx rfl;subst Zfx;have ZMr:it<s.h.size:=Y8 hit rfl;have ZSW:k<s.h.size:=Y8 hk rfl;have hmi:m≠it:=fun z=>by rw[z,hit]at hm;cases hm
 have hki:k≠it:=fun z=>by rw[z,hit]at hk;cases hk
 have hmk:m≠k:=fun z=>by rw[z,hk]at hm;cases hm
 have L:∀(V'':Nat->Z)(A:Xv) j,((s.h.put k (.XP (fv V''))).put it A).at j=if j=it then A else if j=k then .XP (fv V'') else s.h.at j:=fun V'' A j=>by
  rw[Uf (h:=s.h.put k _) ZMr,Uf ZSW]
 have ZrD:∀j b d,ρ0 j=some (b,d)->b=bi->j≠it->((s.h.at j).live=true->False):=by
  intro j b d hj hbb hne' hl;subst hbb;exact hne' (hi0.rel.inj it j b 0 d Zrn hj (by rw[hit];rfl) hl).symm
 have ZkW:∀{a:Act}{w:V4}{K:Act->V4->Prop}{Q:Exit->Act->V4->Prop}{v:N}{w1:V4},a.tmps.getD t undef=(Va bi)->(Instr.next ((Va bi)) false o.type).run X.P w=.ok v w1 ->
  K (a.put o.dst v) w1->(if Region.wanted o (yielded ops a.tmps) then o.wpIn F 0 X.P a w K Q else(∀f,o.about X.P w a.eval=some f->F.fn f)/\K (a.put o.dst undef) w):=by
  intro a w K Q v w1 ht C hK;have hw:Region.wanted o (yielded ops a.tmps)=true:=by unfold Region.wanted;rw[hgu]
  rw[if_pos hw];refine⟨fun f hab=>(by unfold Oper.about at hab;rw[hop]at hab;cases hab),?_⟩;have Zo5:o.semAt F.round a.eval=execOp a.eval o:=Oper.semAt_eq _ _ _ fun c hc=>by rw[hop]at hc;cases hc
  have he:a.eval (.tmp t)=(Va bi):=ht
  have D:(execOp a.eval o).run X.P w=.ok (.value v) w1:=by
   unfold execOp;rw[hop];simp[he,C]
  rw[Zo5,D];exact hK
 have Zrw:∀{ρ:Ren}(a:Act)(w:V4){h:H},ρ it=some (bi,0)->Inv ρ n {s with fr:=Y4 T s.fr,h:=h} a w->a.tmps.getD t undef=(Va bi):=by
  intro ρ a w h Zfu S;have h0:VR ρ ((Y4 T s.fr).at t) (a.tmps.getD t undef):=S.fr.val t (by show X4 ((Y4 T s.fr).at t)=false;rw[Qd,if_neg htT,hfr];rfl);rw[Qd,if_neg htT,hfr]at h0;generalize a.tmps.getD t undef=y at h0;cases h0 with|ptr _ h1=>rw[Zfu]at h1;cases h1;rfl
 have ZBD:∀(ρ:Ren)(V'':Nat->Z),(∀x∈es,V'' x.born=true)->∀(a:Act)(w:V4),FR' ρ rd F->Inv ρ n {s with fr:=Y4 T s.fr,h:=(s.h.put k (.XP (fv V''))).put it .dead} a w->Stp V ρ0 s.h w0 ρ ((s.h.put k (.XP (fv V''))).put it .dead) w->a.tmps.getD t undef=(Va bi) ->
  (Instr.next ((Va bi)) false o.type).run X.P w=.ok UQ w->LoopIn F 0 X.P (.seq (.region id ops false) rest) (Qz V n ρ0 s.h w0 e s2) a w:=by
  intro ρ V'' hall a w hF S G ht C;rw[hfv V'' (fun _=>true) hall]at S G;have⟨hne,hover⟩:=hover;refine UY (wpIn_seq (wpIn_region_list ?_));rw[hops];refine ZkW ht C ?_
  have hio:Inv ρ n {s with fr:=U6 (Y4 T s.fr) o.dst UQ,h:=(s.h.put k (.XP (fv fun _=>true))).put it .dead} (a.put o.dst UQ) w:=by
   refine⟨S.rel,?_,?_⟩;.rw[hd];exact S.fr.set hdn (VR.ZY rfl)
   rw[hd];exact S.ds
  refine hover hio ZG hF _ fun e3 a3 w3 hp=>?_;have hp2:=Qz.trans hi0.rel.lt G hp;have⟨ρ3,hx3,hi3,Jt⟩:=hp2;cases hx3 with|normal=>exact(hne rfl).elim|exit id=>exact⟨ρ3,.exit id,hi3,Jt⟩|goto id=>exact⟨ρ3,.goto id,hi3,Jt⟩|ret=>exact⟨ρ3,.ret,hi3,Jt⟩|panic hv=>exact⟨ρ3,.panic hv,hi3,Jt⟩
 have head:∀(q:Nat)(ρ:Ren)(r:V5 Nat)(last:Nat)(a:Act)(w:V4),(∀i p,ρ i=some p->ρ0 i=some p)->ρ0.le ρ->(es.filter fun x=>!r.contains x.born).length<=q->clock<=last->w.heap[bi]? =some (.mapIter (some bm) clock r last) ->
  Inv ρ n {s with fr:=Y4 T s.fr,h:=(s.h.put k (.XP (fv fun b=>r.contains b))).put it .dead} a w ->
  Stp V ρ0 s.h w0 ρ ((s.h.put k (.XP (fv fun b=>r.contains b))).put it .dead) w->LoopIn F 0 X.P (.seq (.region id ops false) rest) (Qz V n ρ0 s.h w0 e s2) a w:=by
  intro q;induction q with
  | zero=>
    intro ρ r last a w hback W hq hlast hblk S G;have Zfu:=(W _ _ Zrn).1;have ZmP:=(W _ _ ZJE).1;have ht:=Zrw a w Zfu S;have hom:=S.rel.obj _ _ _ ZmP;rw[L,if_neg hmi,if_neg hmk,hm]at hom;have⟨_,es',ZiV,hes⟩:=hom;have hl0:(leftOf es' r).size=0:=by rw[ZjK r hes];omega
    have hold:∀x∈es'.toList,x.born<clock:=by
     intro x D;have⟨y,hy,_,_,hyb,_⟩:=hes.mem D;rw[hyb];exact Zb4 hborn y hy
    rcases ZjD (P:=X.P) o.type hblk ZiV hold hlast with⟨_,C⟩|⟨I,he',_⟩
    .refine ZBD ρ _ (fun x D=>?_) a w (hF.mono W) S G ht C;have:es.filter (fun x=>!r.contains x.born)=[]:=G8 Vb;have:=List.filter_eq_nil_iff.1 this x D;simpa using this
    have:=G6▸List.length_pos_of_mem he';omega
  | succ q ihq=>
    intro ρ r last a w hback W hq hlast hblk S G;have Zfu:=(W _ _ Zrn).1;have ZmP:=(W _ _ ZJE).1;have ht:=Zrw a w Zfu S;have hom:=S.rel.obj _ _ _ ZmP;rw[L,if_neg hmi,if_neg hmk,hm]at hom;have⟨_,es',ZiV,hes⟩:=hom
    have hold:∀x∈es'.toList,x.born<clock:=by
     intro x D;have⟨y,hy,_,_,hyb,_⟩:=hes.mem D;rw[hyb];exact Zb4 hborn y hy
    rcases ZjD (P:=X.P) o.type hblk ZiV hold hlast with⟨h00,C⟩|⟨I,he',w1,hw1,hsame,C⟩
    .refine ZBD ρ _ (fun x D=>?_) a w (hF.mono W) S G ht C;rw[ZjK r hes]at h00;have:=List.filter_eq_nil_iff.1 (G8 h00) x D;simpa using this
    have⟨hmem,hns⟩:=mem_left he';have⟨x,D,hkey,hkp,hbn,hval⟩:=hes.mem hmem;have⟨s3,⟨ZMu,hwr,ZMc,ZMx⟩,hbody⟩:=ZkX (fun b=>r.contains b) x D;have ZwE:bi<w.heap.size:=(S.rel.dom _ _ _ Zfu).2;obtain⟨w2,hw2⟩:∃w2,w2=w1.putObj bi (.mapIter (some bm) clock (r.push I.born) clock):=⟨_,rfl⟩;rw[<-hw2]at C;have hsz2:w2.heap.size=w.heap.size:=by rw[hw2,World.putObj_size,hw1]
    have hother:∀k,k≠bi->w2.heap[k]? =w.heap[k]?:=fun k hk=>by rw[hw2,World.putObj_heap_other hk,hw1]
    have ZBU:w2.heap[bi]? =some (.mapIter (some bm) clock (r.push I.born) clock):=by rw[hw2];exact World.putObj_heap_same (by rw[hw1];exact ZwE)
    have Zfy:Same w w2:=by rw[hw2];exact⟨hsame.os,hsame.tape,hsame.output⟩
    have hex:∀j b' d,ρ j=some (b',d)->b'=bi->j≠it->((s.h.put k (.XP (fv fun b=>r.contains b))).at j).live=true->False:=fun j b' d hj hb hne hl=>by
     refine ZrD j b' d (hback _ _ hj) hb hne ?_;rw[Uf ZSW]at hl;split at hl;next z=>subst z;rw[hk];rfl
     exact hl
    have hrel:Rel ρ ((s.h.put k (.XP (fv fun b=>r.contains b))).put it (.Ws m clock clock x.born)) w2:=by
     refine Zkr S.rel Zfu hex hother hsz2 ⟨rfl,bm,r.push I.born,ZmP,ZBU,?_⟩;rw[<-hbn];simp
    have hie:Inv ρ n {fr:=U6 (Y4 T s.fr) o.dst (.tuple #[.bool true,x.key,x.val]),ds:=s.ds,h:=(s.h.put k (.XP (fv fun b=>r.contains b))).put it (.Ws m clock clock x.born),wr:=s.wr} (a.put o.dst (.tuple #[.bool true,I.key,I.val])) w2:=by
     refine⟨hrel,?_,?_⟩;.rw[hd];refine S.fr.set hdn (.tuple _ _ rfl fun j y y' p q=>?_);match j,p,q with|0,p,q=>simp at p q;subst p q;exact .bool true|1,p,q=>simp at p q;subst p q;rw[hkey];exact VR.ZY hkp|2,p,q=>simp at p q;subst p q;exact hval|j+3,p,q=>simp at p
     rw[hd];exact S.ds
    refine UY (wpIn_seq (wpIn_region_list ?_));rw[hops];refine ZkW ht C<|hbody hie ZG (hF.mono W) _ fun e3 a3 w3 hp=>?_;have⟨ρ3,hx3,hi3,Jt⟩:=hp;cases hx3
    have hpush:(fun b=>r.contains b||b==x.born)=fun b=>(r.push I.born).contains b:=by
     funext b;rw[contains_push,hbn]
    have ZS4:∀j,s3.h.at j=((s.h.put k (.XP (fv fun b=>(r.push I.born).contains b))).put it (.Ws m clock clock x.born)).at j:=by rw[<-hpush];exact ZMx
    have ZBV:∀i p,ρ3 i=some p->ρ0 i=some p:=fun i p hp=>by
     refine hback i p ?_;cases hc:ρ i with|some p'=>have:=(Jt.ext _ _ hc).1;rw[hp]at this;exact this.symm|none=>
       have h1:=(Jt.Ud i p.1 p.2 hc hp).1;have h2:=(hi3.rel.dom i p.1 p.2 hp).1;rw[ZMc]at h2;exact absurd h2 (Nat.not_lt.2 h1)
    have hle3:ρ0.le ρ3:=Ren.le_trans W Jt.ext
    have Zyy:∀b,b<w.heap.size->(∀i d,V<=i->ρ0 i=some (b,d)->(s.h.at i).own=true->i=it)->w3.heap[b]? =w2.heap[b]?:=fun b hb hno=>by
     refine Jt.frame b (by rw[hsz2];exact hb) fun i d hwi hi' E=>?_;rw[L]at E;by_cases h1:i=it;.rw[if_pos h1]at E;cases E
     rw[if_neg h1]at E;refine h1 (hno i d hwi (hback _ _ hi') ?_);split at E;next z=>subst z;rw[hk];rfl
     exact E
    have ZYm:w3.heap[bi]? =some (.mapIter (some bm) clock (r.push I.born) clock):=by
     rw[Zyy bi ZwE fun i d _ h1 h2=>Decidable.byContradiction fun h3=>ZrD i bi d h1 rfl h3 (Un h2),ZBU]
    have hinv:Inv ρ3 n {s with fr:=Y4 T s.fr,h:=(s.h.put k (.XP (fv fun b=>(r.push I.born).contains b))).put it .dead} a3 w3:=by
     refine⟨?_,⟨hi3.fr.size,fun t B=>?_⟩,?_⟩
     .refine(ZcZ (i:=it) hi3.rel).congr (by simp[ZMc]) fun i=>?_;rw[L,Uf (by rw[ZMc];exact ZMr)];split;.rfl
      rename_i z;rw[ZS4,L,if_neg z]
     .change X4 ((Y4 T s.fr).at t)=false at B;show VR ρ3 ((Y4 T s.fr).at t) _;rw[Qd]at B ⊢;by_cases ZkU:t∈T;.rw[if_pos ZkU]at B;cases B
      rw[if_neg ZkU]at B ⊢;have h1:=hi3.fr.val t (by rw[hwr t ZkU];exact B);rw[hwr t ZkU]at h1;exact h1
     have h1:=hi3.ds;rw[ZMu]at h1;exact h1
    have hlive:∀(i:Nat),(((s.h.put k (.XP (fv fun b=>(r.push I.born).contains b))).put it .dead).at i).own=true->(s.h.at i).own=true:=fun i D=>by
     rw[L]at D;split at D;.cases D
     split at D;next z=>subst z;rw[hk];rfl
     exact D
    have ZMo:∀(i:Nat),(((s.h.put k (.XP (fv fun b=>(r.push I.born).contains b))).put it .dead).at i).live=true->(s.h.at i).live=true:=fun i D=>by
     rw[L]at D;split at D;.cases D
     split at D;next z=>subst z;rw[hk];rfl
     exact D
    have hstp:Stp V ρ0 s.h w0 ρ3 ((s.h.put k (.XP (fv fun b=>(r.push I.born).contains b))).put it .dead) w3:=by
     refine⟨hle3,K1 _,fun i S=>?_,fun i _=>hlive i,fun i _=>ZMo i,Jt.os.trans (Zfy.os.trans G.os),Jt.tape.trans (Zfy.tape.trans G.tape),Jt.output.trans (Zfy.output.trans G.output),
      KK G.XH (by rw[<-hsz2];exact Jt.XH),fun b hb hno=>?_,fun i b d p q=>by rw[ZBV _ _ q]at p;cases p⟩
     .rw[L,if_neg Vb,if_neg Vb]
     have hbb:b≠bi:=fun z=>by subst z;exact hno it 0 ZGI Zrn (by rw[hit];rfl)
     have:=G.XH;rw[Zyy b Vb fun i d h1 h2 h3=>(hno i d h1 h2 h3).elim,hother b hbb,G.frame b hb hno]
    show LoopIn F 0 X.P _ _ a3 w3;refine ihq ρ3 (r.push I.born) clock a3 w3 ZBV hle3 ?_ Vc ZYm hinv hstp;have h1:=left_shrinks es' r I he';rw[ZjK _ hes,ZjK _ hes]at h1;omega
 have ZMd:Stp V ρ0 s.h w0 ρ0 ((s.h.put k (.XP (fv fun _=>false))).put it .dead) w0:=by
  have E:∀(f:Xv->Z),f .dead=false->∀i,f (((s.h.put k (.XP (fv fun _=>false))).put it .dead).at i)=true->f (s.h.at i)=true:=fun f hf i D=>by
   rw[L]at D;split at D;.rw[hf]at D;cases D
   split at D;next z=>subst z;rw[hk];exact D
   exact D
  refine⟨Ren.le_refl _,K1 _,fun i S=>?_,fun i _=>E Xv.own rfl i,fun i _=>E Xv.live rfl i,rfl,rfl,rfl,K1 _,fun _ _ _=>rfl,fun i b d e I=>by rw[e]at I;cases I⟩;rw[L,if_neg Vb,if_neg Vb]
 refine head _ ρ0 #[] XE a0 w0 (fun _ _ h=>h) (Ren.le_refl _) Vc hck ZBT ?_ ?_
 .have e0:(fun b=>(#[]:V5 Nat).contains b)=fun _=>false:=by funext b;simp
  rw[e0];refine⟨(ZcZ (i:=it) hi0.rel).congr rfl fun i=>?_,⟨hi0.fr.size,fun t B=>?_⟩,hi0.ds⟩
  .rw[L,Uf ZMr];split;.rfl
   split;next z=>rw[z,hk]
   rfl
  change X4 ((Y4 T s.fr).at t)=false at B;show VR ρ0 ((Y4 T s.fr).at t) _;rw[Qd]at B ⊢;by_cases ht:t∈T;.rw[if_pos ht]at B;cases B
  rw[if_neg ht]at B ⊢;exact hi0.fr.val t B
 have e0:(fun b=>(#[]:V5 Nat).contains b)=fun _=>false:=by funext b;simp
 rw[e0];exact ZMd
end
section
variable{X:Ctx}{n V:Nat}{rd:O Nat}{ops:V5 Oper}{l:U Oper}{rest:Code}{fr:Fr}{ds:U V7}{h h1 h2 h0:H}{ty:J}{p:String}{af:V5 Edge}{g:O (Nat×Z)}{T0:Nat->Prop}{G G1 Gr:U (Ast V)}{d k:Nat}
def Zm8(h ll:U (Y×Z)):U (Y×Z):=ll.foldl (fun m e=>Yu m e.1 true) h
def Zyi(ll:U (Y×Z))(t:Y):∀h,ZC (Zm8 h ll) t=if ll.any (fun e=>decide (e.1=t)) then some true else ZC h t:=by
 induction ll with|nil=>intro h;rfl|cons e ll ih=>
   intro h;show ZC (Zm8 (Yu h e.1 true) ll) t=_;rw[ih,WZ];by_cases h1:e.1=t;.subst h1;simp
   rw[List.any_cons,decide_eq_false h1,GX,if_neg (c:=t=e.1) fun z=>h1 z.symm]
structure Z0B(T:List Nat)(fr:Fr)(ds:List Deferred)(h:H)(e:XX)(s:Fs):Prop where
 YC:e=.normal
 ds_:s.ds=ds
 fr_:MFr T fr s.fr
 h_:s.h=h
def ZLs{t r q:J}{x y z:V0}{s:Y}{v:Z}{f:Y->O Z}(hw:V<=k)(l:h.at k=.XP f)(A:X.P.underlying r=some .string)(hu:X.P.underlying t=some (.map r q))(D:YI fr x=some (.map (some k)))(C:YI fr y=some (.string s))(B:YI fr z=some (.bool v)):
 HU X V ⟨none,.mapUpdate t x y z,ty,p,af,g⟩ fr h (fun j=>j=k) (fun F=>F=h.put k (.XP fun t=>bif t==s then some v else f t)):=by
 refine⟨.upd k (.XP fun t=>bif t==s then some v else f t),h.put k (.XP fun t=>bif t==s then some v else f t),?_,?_,fun G e=>by cases e;rfl,K1 _,rfl⟩
 .show(match YI fr x,YI fr y,YI fr z with|some m,some k,some x=>sE (XC X.P h t m k x) | _,_,_=>none)=_;rw[D,C,B];dsimp only;have K:=Zd2.str A;have h1:ZcD h (.map (some k))=none:=by unfold ZcD;dsimp only;rw[l]
  have h2:XZ X.P h t (.map (some k)) (.string s) (.bool v)=none:=by
   unfold XZ;rw[h1];split<;>first|rfl|contradiction
  have E:aks X.P h t (.map (some k)) (.string s)=some (q,k,f,s):=by
   unfold aks;rw[hu];dsimp only;rw[l,A];dsimp only;rw[K.ok true s,K.ok false s];rfl
  have:XC X.P h t (.map (some k)) (.string s) (.bool v)=some (.upd k (.XP fun t=>bif t==s then some v else f t)):=by
   unfold XC;rw[h2,E]
  rw[this];rfl
 show(bif Nat.ble V k&&(h.at k).own then some (h.put k _) else none)=_;rw[l,Nm0 hw];rfl
def WL.ZXp{Q:XX->Fs->Prop}{id:Nat}{o:Oper}{t it m XE:Nat}{bs:U Nat}{ll tk:U (Y×Z)}(T:U Nat)(hS:Sp V T0 h0 G h)(pi:Pk G (ob V it (.iter m XE XE none)) G1)(pk:Pk G1 (ks V k tk) Gr)(hat:fr.at t=(Va it))(K:h.at m=.map (Xz Value.string Value.bool ll bs) XE)(hb:bs.length=ll.length/\bs.Nodup/\∀x∈bs,x<XE)
 (hops:ops.toList=o::l) (hop:o.op=.next (.tmp t) false) (hgu:o.guard=none) (hd:o.dst=some d) (hdn:Nat.blt d n=true) (hT:T.contains t=false) (hdT:T.contains d=true)
 (body:∀(x:Y×Z) f h2 q,Agr T fr q->Sp V T0 h0 (ob V k (.XP f)::Gr) h2->Zvv Value.string Value.bool h2 it x->WO X n V rd ops l ⟨Tr.set q d (.tuple #[.bool true,.string x.1,.bool x.2]),ds,h2,none⟩ (Yx X n V rd rest (Z0B T q ds (h2.put k (.XP fun t=>bif t==x.1 then some true else f t)))))
 (S:∀h' q,Agr T fr q->Sp V T0 h0 (ks V k (Zm8 tk ll)::Gr) h'->WO X n V rd ops l ⟨Tr.set q d (.tuple #[.bool false]),ds,h',none⟩ (Yx X n V rd rest (Zzz Q))):WL X n V rd (.seq (.region id ops false) rest) ⟨fr,ds,h,none⟩ Q:=by
 have⟨hb1,hb2,hb3⟩:=hb;have⟨o1,o2,_⟩:=hS.get pi;have⟨u1,u2,_⟩:=(hS.drop pi).get pk
 have ZyA:Agr T fr (Y4 T fr):=fun t' v' r hv'=>by
  rw[Qd,if_neg (fun z=>by rw[<-List.contains_iff_mem]at z;rw[z]at r;cases r),hv']
 have htT:t∉T:=fun z=>by rw[<-List.contains_iff_mem]at z;rw[z]at hT;cases hT
 have ZMv:d∈T:=List.contains_iff_mem.1 hdT;have hil:it<h.size:=Y8 o1 rfl;have hkl:k<h.size:=Y8 u1 rfl;have hmi:m≠it:=fun z=>by rw[z,o1]at K;cases K
 have hki:k≠it:=fun z=>by rw[z,o1]at u1;cases u1
 have hmk:m≠k:=fun z=>by rw[z,u1]at K;cases K
 let fv:(Nat->Z)->Y->O Z:=fun V'' t=>if(ll.zip bs).any (fun e=>V'' e.2&&decide (e.1.1=t)) then some true else ZC tk t
 have ZKK:∀{e:(Y×Z)×Nat},e∈ll.zip bs->∃j,ll[j]? =some e.1/\bs[j]? =some e.2:=fun{e} he=>by
  have⟨j,B⟩:=Gn.1 he;rw[List.getElem?_zip_eq_some]at B;exact⟨j,B⟩
 have L:∀{j:Nat}{y:Y×Z}{b:Nat},ll[j]? =some y->bs[j]? =some b->(y,b)∈ll.zip bs:=fun{j y b} h1 h2=>Gn.2 ⟨j,List.getElem?_zip_eq_some.2 ⟨h1,h2⟩⟩
 have ZYg:fv (fun _=>false)=ZC tk:=by
  funext t;show(if _ then _ else _)=_;rw[if_neg (by simp)]
 have ZYf:fv (fun _=>true)=ZC (Zm8 tk ll):=by
  funext t;show(if _ then _ else _)=_;rw[Zyi]
  have:((ll.zip bs).any fun e=>true&&decide (e.1.1=t))=ll.any fun e=>decide (e.1=t):=by
   rw[Gt,GF,GF];constructor;.rintro⟨e,he,p⟩;have⟨j,h1,_⟩:=ZKK he;exact⟨e.1,Gn.2 ⟨j,h1⟩,by simpa using p⟩
   rintro⟨y,hy,p⟩;have⟨j,B⟩:=Gn.1 hy;have hjl:=(Li0 B).1;exact⟨(y,bs[j]'Vb),L B (Q4 _),by simpa using p⟩
  rw[this]
 have ZYe:∀V'' V':Nat->Z,(∀x∈Xz Value.string Value.bool ll bs,V'' x.born=V' x.born)->fv V''=fv V':=fun V'' V' hV=>by
  funext t
  have:((ll.zip bs).any fun e=>V'' e.2&&decide (e.1.1=t))=(ll.zip bs).any fun e=>V' e.2&&decide (e.1.1=t):=by
   rw[Gt,GF,GF]
   have W:∀e∈ll.zip bs,V'' e.2=V' e.2:=fun e he=>by
    have⟨j,h1,h2⟩:=ZKK he;exact hV _ (Zwk h1 h2)
   constructor;.rintro⟨e,he,p⟩;exact⟨e,he,by rw[<-W e he];exact p⟩
   rintro⟨e,he,p⟩;exact⟨e,he,by rw[W e he];exact p⟩
  show(if _ then _ else _)=if _ then _ else _;rw[this]
 have ZYd:∀(V'':Nat->Z){j:Nat}{y:Y×Z}{b:Nat},ll[j]? =some y->bs[j]? =some b->(fv fun c=>V'' c||c==b)=fun t=>bif t==y.1 then some true else fv V'' t:=fun V'' {j y b} h1 h2=>by
  funext t;rw[Zjn];show(if _ then _ else _)=bif _ then _ else if _ then _ else _;by_cases ht:t=y.1;.rw[decide_eq_true ht,Cq1,if_pos];rw[GF];exact⟨(y,b),L h1 h2,by simp[ht]⟩
  rw[decide_eq_false ht,Cq0]
  have:((ll.zip bs).any fun e=>(V'' e.2||e.2==b)&&decide (e.1.1=t))=(ll.zip bs).any fun e=>V'' e.2&&decide (e.1.1=t):=by
   rw[Gt,GF,GF];constructor
   .rintro⟨e,he,p⟩;refine⟨e,he,?_⟩;rw[Ba0]at p ⊢;refine⟨?_,p.2⟩;rcases Bool.or_eq_true_iff.1 p.1 with z|z
    .exact z
    exfalso;have⟨j',I,E⟩:=ZKK he;have z:e.2=b:=by simpa using z
    rw[z]at E;have⟨l1,e1⟩:=Li0 E;have⟨l2,e2⟩:=Li0 h2;have B:j'=j:=(List.getElem_inj hb2).1 (e1.trans e2.symm);subst B;rw[h1]at I;exact ht ((of_decide_eq_true p.2).symm.trans (congrArg Prod.fst (Oi0 I)).symm)
   rintro⟨e,he,p⟩;refine⟨e,he,?_⟩;rw[Ba0]at p ⊢;exact⟨by rw[p.1];rfl,p.2⟩
  rw[this]
 have Zpd:∀(f:Y->O Z)(A:Xv) j,((h.put k (.XP f)).put it A).at j=if j=it then A else if j=k then .XP f else h.at j:=fun f A j=>by
  rw[Uf (h:=h.put k _) hil,Uf hkl]
 have hsp:∀(f:Y->O Z)(A:Xv),Sp V T0 h0 (ob V k (.XP f)::Gr) ((h.put k (.XP f)).put it A):=fun f A=>by
  refine Sp.step (Ga:=[ob V it (.iter m XE XE none),ks V k tk]) (Gb:=[ob V k (.XP f)]) (t:=fun j=>j=it\/j=k) (hS.perm (pi.perm.trans (List.Perm.cons _ pk.perm))) ⟨K1 _,fun j _ hn=>?_,fun j B=>?_⟩ (fun i hi=>?_) (ZV.one ⟨?_,u2,rfl⟩) fun i ⟨A,mm,f⟩=>?_;.rw[Zpd,if_neg (fun z=>hn (.inl z)),if_neg (fun z=>hn (.inr z))]
  .rcases B with rfl|rfl
   .exact⟨o2,by rw[o1];rfl⟩
   exact⟨u2,by rw[u1];rfl⟩
  .rcases hi with rfl|rfl
   .exact⟨_,Gg,rfl⟩
   exact⟨ks V i tk,by simp,rfl⟩
  .rw[Zpd,if_neg hki,if_pos rfl]
  rw[J1.1 mm]at f;exact .inl ⟨ks V k tk,by simp,f⟩
 have ZkX:∀(V'':Nat->Z),∀x∈Xz Value.string Value.bool ll bs,∃C,(C.ds=ds/\(∀t,t∉T->C.fr.at t=fr.at t)/\C.h.size=h.size/\∀j,C.h.at j=((h.put k (.XP (fv fun b=>V'' b||b==x.born))).put it (.Ws m XE XE x.born)).at j)/\
  ∀{ρ:Ren}{F:Fence}{a:Act}{w:V4},Inv ρ n {fr:=U6 (Y4 T fr) o.dst (.tuple #[.bool true,x.key,x.val]),ds:=ds,h:=(h.put k (.XP (fv V''))).put it (.Ws m XE XE x.born),wr:=none} a w->V<=h.size->FR' ρ rd F->∀D:Exit->Act->V4->Prop,
  (∀e' a' w',Qz V n ρ ((h.put k (.XP (fv V''))).put it (.Ws m XE XE x.born)) w .normal C e' a' w'->D e' a' w')->wpListIn F 0 X.P ops (Exit.then (rest.wpIn F 0 X.P D) D) l a w:=by
  intro V'' x p;obtain⟨j,y,bn,h1,h2,rfl⟩:=ZkF p
  have hent:Zvv Value.string Value.bool ((h.put k (.XP (fv V''))).put it (.Ws m XE XE bn)) it y:=by
   have e1:((h.put k (.XP (fv V''))).put it (.Ws m XE XE bn)).at it=.Ws m XE XE bn:=by rw[Zpd,if_pos rfl]
   have e2:((h.put k (.XP (fv V''))).put it (.Ws m XE XE bn)).at m=.map (Xz Value.string Value.bool ll bs) XE:=by rw[Zpd,if_neg hmi,if_neg hmk,K]
   unfold Zvv Zd0;simp only[e1,e2,Nat.beq_refl,Cq1,ZhM hb2 h1 h2]
  obtain⟨ex,C,⟨rfl,I,E,q3⟩,q4⟩:=WO.body (body y (fv V'') _ (Y4 T fr) ZyA (hsp (fv V'') (.Ws m XE XE bn)) hent);refine⟨C,⟨I,fun t' r=>?_,by rw[q3];rfl,fun j=>?_⟩,?_⟩;.rw[E t' r,Qd,if_neg r]
  .rw[q3,Uf (show k<((h.put k (.XP (fv V''))).put it (.Ws m XE XE bn)).size from hkl),Zpd,Zpd,ZYd V'' h1 h2];by_cases z:j=it;.rw[if_pos z,if_neg (fun y=>hki (y.symm.trans z)),if_pos z]
   rw[if_neg z,if_neg z];split<;>rfl
  rw[hd];intro ρ F a w i1 i2 i3 D i4;exact q4 i1 i2 i3 D i4
 have hov:Sp V T0 h0 (ks V k (Zm8 tk ll)::Gr) ((h.put k (.XP (fv fun _=>true))).put it .dead):=by
  show Sp V T0 h0 (ob V k (.XP (ZC (Zm8 tk ll)))::Gr) _;rw[<-ZYf];exact hsp _ _
 have⟨e,s2,⟨I,E⟩,q3⟩:=WO.body (S _ _ ZyA hov);refine⟨e,s2,E,Zyj (X:=X) (n:=n) (V:=V) (rd:=rd) (rest:=rest) (id:=id) (s:=⟨fr,ds,h,none⟩) (e:=e) (s2:=s2) (T:=T) fv hops hop hgu hat o1 K Vc (Zfq hb2 hb3) o2 htT hd (by rwa[Gd]at hdn) ZMv (by rw[ZYg];exact u1) u2 ZYe ZkX ⟨I,?_⟩⟩;rw[hd];intro ρ F a w i1 i2 i3 D i4;exact q3 i1 i2 i3 D i4
end
section
def ZRv{V:Nat}{T:Nat->Prop}{p h:H}{G Gr:U (Ast V)}(s:Sp V T p (G++Gr) h):Sp V T p (jA G::Gr) h:=
 s.say (Ga:=G) (Gb:=[jA G]) (ZV.one s.hold.left) fun i ⟨A,m,l⟩=>by rw[J1.1 m]at l;exact l
end
end Go.ZU
end
end
section
set_option maxRecDepth 20000
noncomputable section
namespace Go.Proofs.YtbnepjakjmnadaaGreat
open Go.Lf
section
open Go.ZU Go.Lf
def ZEf{F V w cf ct cm q p l:Nat}{x:Y}{mine:MB}:ZI2 V w cf (some ct) (fvP V w q p l cm x mine) 75 [pV q,pV p,pV l] Zzx (ZgP F x mine):=
 fun B r h t A y=>ZN3 B r h t A y
def ZSe:(XX.fns.get 74).isSome=true:=Kq0
def ZvL{F V:Nat}:Zvl (V:=V) Zzx (fun t=>ZbB F t):=fun y q x=>⟨rfl,151,[pV y],rfl,by kernel_rfl,rfl,fun{h m} B r=>by
 have l:=r.all (bx V y (Qg q x)) (by simp);have A:=r.all (Z9 V Zt q x) (by simp);have p:=Y8 l.1 rfl;exact ZH7 Vc (At.box l.1) (.inl p) (Zt.up (KK l.2 (Nat.le_of_lt p)) A) B⟩
def ZvK{F V:Nat}:Zmr (V:=V) Zzx (fun t names=>Zcr F t names):=fun C p x B a c names=>⟨rfl,180,[pV C,pV B],rfl,by kernel_rfl,rfl,fun{h m} G q=>by
 have y:=q.all (bx V C (Wi p x)) (by simp);have E:=q.all (Z9 V Zc p x) (by simp);have l:=q.all (bx V B [.slice a names.length c]) (by simp);have D:=q.all (Z9 V (Yh ZH) (a,c) names) (by simp);have A:=Y8 y.1 rfl;have r:=Y8 l.1 rfl;have hw:=KK y.2 (Nat.le_of_lt A);exact ZHZ Vc (At.box y.1) (.inl A) (Zc.up hw E) (At.box l.1) (.inl r) ((show Sl ZH V h a c names from D).up hw) G⟩
def ZHV(F:Nat)(t:Term)(x:Y)(e:Zf):O (PR Term):=
 (ZDk F e).bind fun mine=>(ZDj F t).bind fun h=>(Ze8 F (U1 F (ZgP F x mine)) (fun t names=>Zcr F t names) (fun t=>ZbB F t) (([],Zm8 (Yu h x true) mine),[[(x,e)]],t)).bind fun p=>JN p (fun k=>some (.Ym k)) fun r=>(Zcz F r.2).bind fun c=>bif c !=0 then some (.Ym 3) else some (.ok r.2)
def Zcy(F:Nat)(t:Term)(x:Y)(e:Zf):O (Term×Int):=
 (Zcz F t).bind fun h=>(gd (!(h !=0)) (ZcA F x) default).bind fun l=>(gd (!((h !=0)||(!l))) (ZuJ F e) default).bind fun q=>bif(((h !=0)||(!l))||(q !=0)) then some (Term.mk 0 (⟨#[]⟩:Y) [] [] [],2) else
 (ZbB F t).bind fun m=>(ZeN m x false).bind fun y=>bif !y then(ZuF F t).bind fun u=>some (u,0) else(ZHV F t x e).bind fun p=>JN p (fun k=>some (Term.mk 0 (⟨#[]⟩:Y) [] [] [],k)) fun u=>some (u,0)
def Zid{F V h}{p0:Term}{p1:Y}{p2:Zf}{Zh Zg Zo Zn Zr Zq Wo Wl}{r}(ZG:V<=h.size)(Zm:Sl Zi V h Zh Zg p0.args)(ZI:Sl Zc V h Zo Zn p0.qJ)(ZL:Sl Zt V h Zr Zq p0.qQ)(Za9:Sl Zi V h Wo Wl p2.qQ)(hL:Zcy F p0 p1 p2=some r):
 WR XX 32 #[.agg (q1W p0 Zh Zg Zo Zn Zr Zq).toArray,.string p1,.agg (q2W p2 Wo Wl).toArray] V h (CP (fun v (Gb:U (Ast V))=>∃ZT ZR UO UM UN UL,v=.tuple #[.agg (q1W r.1 ZT ZR UO UM UN UL).toArray,V9 r.2]/\Gb=[Z9 V (Yh Zi) (ZT,ZR) r.1.args,Z9 V (Yh Zc) (UO,UM) r.1.qJ,Z9 V (Yh Zt) (UN,UL) r.1.qQ]) [] h):=by
 have hF:Zt.F V h ((Zh,Zg),(Zo,Zn),(Zr,Zq)) p0:=Xa.2 ⟨Zm,ZI,ZL⟩;refine WF.Qj (args:=[_,_,_]) (fn:=Tryz.f32) Kq0 (by exact rfl) Tryz.ntmps32 (by simp) ?_;simp only[Zv,Zy,Nat.reduceAdd];obtain⟨T,hT,hS⟩:∃T,T=QA (V:=V) []/\Sp V T h [] h:=⟨_,rfl,Sp.start ZG ZV.nil⟩;unfold Zcy at hL;repeat refine r1 ?_
 rintro _ h1 ⟨b3,eb3,rfl,hS⟩;repeat refine r1 ?_
 rintro _ h2 ⟨b4,eb4,rfl,hS⟩;repeat refine r1 ?_
 rintro _ h3 ⟨b5,eb5,rfl,hS⟩;repeat refine r1 ?_
 rintro _ h4 ⟨b6,eb6,rfl,hS⟩;repeat refine r1 ?_
 rintro _ h5 ⟨b7,eb7,rfl,hS⟩;repeat refine r1 ?_
 have⟨x7,hx7,hL⟩:=bS hL;refine WO.cp gN rfl (ZX.fn Zgy (Zb (Zu fh rfl) Zd)) (Zbd (hS.slu Zm) (hS.slu ZI) (hS.slu ZL) hx7) ?_;repeat refine r1 ?_
 have⟨x8,hx8,hL⟩:=Xd hL;refine WO.gcp (Ze.no rfl rfl rfl (Zj rfl fh)) rfl (fun hg=>(ZX.fn Zdm (Zb (XT fh rfl hg) Zd))) (fun hg=>ZaF (hx8 hg)) ?_;repeat refine r1 ?_
 have⟨x9,hx9,hL⟩:=Xd hL;refine WO.gcp (Ze.no rfl rfl rfl (Zj rfl fh)) rfl (fun hg=>(ZX.fn ZTk (Zb (XT fh rfl hg) Zd))) (fun hg=>ZOz (hS.slu Za9) (hx9 hg)) ?_;repeat refine r1 ?_
 refine cn hL ?_ ?_
 .intro hc hL;repeat refine r1 ?_
  rintro h10 hS;repeat refine r1 ?_
  rintro h11 hS;repeat refine r1 ?_
  have hS:=hS.add (A:=Z9 V (Yh Zi) (none,0) []) Sl.nil (fun _ z=>z);have hS:=hS.add (A:=Z9 V (Yh Zc) (none,0) []) Sl.nil (fun _ z=>z);have hS:=hS.add (A:=Z9 V (Yh Zt) (none,0) []) Sl.nil (fun _ z=>z);have hr:=Oi0 hL;subst hr;exact Z8.gen (vs:=[.agg #[V9 0,.string (⟨#[]⟩:Y),V8,V8,V8],V9 2]) rfl (Ya YQ (YL Qy Yt (hS.Jo k4) (j:=0) rfl rfl (ws:=[V9 0,.string (⟨#[]⟩:Y),V8,V8,V8]) rfl) (Ya YQ (QC Zff (hS.Jo k3) (j:=0) rfl (v:= V9 2) rfl) Zl)) rfl ⟨_,⟨none,0,none,0,none,0,rfl,rfl⟩,hT▸hS.only (.d (.b (.a .n)))⟩
 intro hc hL;have⟨m,hm,hL⟩:=bS hL;repeat refine r1 ?_
 refine WC.XU mixed Kq0 ?_;repeat refine r1 ?_
 refine WX.cl gN rfl (ZX.fn Zrr (Zb (Zu fh rfl) Zd)) hS .n (fun g' hz hf hO=>Zlw (hS.Vh hz) ((hS.sl Zm).mono hf) ((hS.sl ZI).mono hf) ((hS.sl ZL).mono hf) hm) ?_ rfl rfl [] Kq0 Y2.e;rintro _ h10 _ ⟨c0,rfl,rfl⟩ hS;refine WX.wrM (fun x=>x=b4) hS gN rfl (fun _ _ hR=>Z0 Uu (Zu (Xe rfl (Xe rfl (Z5 rfl fh))) rfl) (At.eqv (hR b4 rfl) (hS.Jo k4)) (j:=0) rfl (v:=.string p1) rfl) ?_ rfl (.d (fun x hx e=>(by have⟨A,m,_⟩:=hx.1;cases m)) .n);rintro h11 e11 hS;have⟨y,hy,hL⟩:=bS hL;refine WX.w gN rfl (Kl (kv:=Value.string) (vv:=Value.bool) (k:=p1) (z:=false) Jd XY Zcc (Zu (Zj rfl fh) rfl) (Zu fh rfl) (hS.get k0).at_ hy (w:=.bool y) rfl) ?_ Kq0;refine WX.w gN rfl (Kc (Zu fh rfl)) ?_ Kq0;repeat refine r1 ?_
 refine cn hL ?_ ?_
 .intro hc2 hL;repeat refine r1 ?_
  have⟨u,hu,hL⟩:=bS hL;refine Ve (ZX.fn ZSg (Zb lk Zd)) hS .n (fun g' hz hf hO=>ZDl (hS.Vh hz) ((hS.sl Zm).mono hf) ((hS.sl ZI).mono hf) ((hS.sl ZL).mono hf) hu) ?_;rintro _ h12 _ ⟨a0,e0,a1,e1,a2,e2,rfl,rfl⟩ hS;repeat refine r1 ?_
  rintro h13 hS;repeat refine r1 ?_
  rintro h14 hS;repeat refine r1 ?_
  have hr:=Oi0 hL;subst hr;exact Z8.gen (vs:=[.agg (Qg ((a0,e0),(a1,e1),(a2,e2)) u).toArray,V9 0]) rfl (Ya YQ (YL Qy Yt (hS.Jo k1) (j:=0) rfl rfl (ws:=Qg ((a0,e0),(a1,e1),(a2,e2)) u) rfl) (Ya YQ (QC Zff (hS.Jo k0) (j:=0) rfl (v:= V9 0) rfl) Zl)) rfl ⟨_,⟨a0,e0,a1,e1,a2,e2,rfl,rfl⟩,hT▸hS.only (.d (.d (.d .n)))⟩
 intro hc2 hL;have⟨pp,hpp,hL⟩:=bS hL;unfold ZHV at hpp;have⟨mine,ZST,hpp⟩:=bS hpp;have⟨tk,htk,hpp⟩:=bS hpp;have⟨w0,hw0,hpp⟩:=bS hpp;repeat refine r1 ?_
 refine WO.ZO0 gN ZlW (Zu YQ rfl) ?_;repeat refine r1 ?_
 refine Ve (ZX.fn ZSf (Zb lk Zd)) hS .n (fun g' hz hf hO=>ZN7 (hS.Vh hz) ((hS.sl Za9).mono hf) ZST) ?_;rintro _ h12 _ ⟨cm,rfl,rfl⟩ hS;repeat refine r1 ?_
 rintro _ h13 ⟨b8,eb8,rfl,hS⟩;repeat refine r1 ?_
 rintro h14 hS;repeat refine r1 ?_
 refine Ve (ZX.fn ZSe (Zb lk Zd)) hS .n (fun g' hz hf hO=>ZN5 (hS.Vh hz) ((hS.sl Zm).mono hf) ((hS.sl ZI).mono hf) ((hS.sl ZL).mono hf) htk) ?_;rintro _ h15 _ ⟨ct,rfl,rfl⟩ hS;refine Vd (YH Zl9 (Zk lk Zz) rfl (cs':=[.map none,.map (some ct),.nilFunc]) rfl) ?_;repeat refine r1 ?_
 rintro _ h16 ⟨bw,ebw,rfl,hS⟩;repeat refine r1 ?_
 rintro _ h17 ⟨b9,eb9,rfl,hS⟩;repeat refine r1 ?_
 rintro h18 hS;repeat refine r1 ?_
 refine WC.XU mixed Kq0 ?_;repeat refine r1 ?_
 refine WX.hu gN (Kn (kv:=Value.string) (vv:=Value.bool) (k:=p1) (v:=true) hS k2 Jd XY lk lk (JS rfl)) ?_ rfl Kq0 [] Kq0 Y2.e;rintro h19 hS;repeat refine r1 ?_
 refine WO.ks hS k0 ?_;rintro h20 hS;repeat refine r1 ?_
 refine WO.rng gN rfl hS XY lk (hS.get k4).at_ ?_;rintro h21 b10 bs XE hS ZX8 ZYo;repeat refine r1 ?_
 refine WC.loop (WL.ZXp [10,46,47,48,49,50,51,52,53,54] hS k0 k0 fh ZX8 ZYo rfl rfl rfl rfl rfl rfl rfl ?_ ?_)
 .rintro⟨xk,xv⟩ f h22 Zpm hA hS hE;have e45:=hA.at (t:=45) rfl fh;have e9:Zpm.at 9=(Va b9):=hA.at rfl YQ;repeat refine r1 ?_
  refine WC.Zbg lk rfl ?_;repeat refine r1 ?_
  refine Vd (ZsS lk hE) ?_;repeat refine r1 ?_
  refine WO.hu gN (ZLs (v:=true) (hS.get k0).2.1 (hS.get k0).1 ZeK XY lk lk (JS rfl)) ?_;rintro h23 rfl;repeat refine r1 ?_
  exact⟨rfl,rfl,(by dsimp only;repeat first|exact MFr.z|refine MFr.s rfl ?_),rfl⟩
 rintro h22 Zpm hA hS;have e3:Zpm.at 3=(Va b3):=hA.at rfl YQ;have e4:Zpm.at 4=(Va b4):=hA.at rfl YQ;have e5:Zpm.at 5=(Va b5):=hA.at rfl YQ;have e6:Zpm.at 6=(Va b6):=hA.at rfl YQ;have e7:Zpm.at 7=(Va b7):=hA.at rfl YQ;have e8:Zpm.at 8=(Va b8):=hA.at rfl YQ;have e9:Zpm.at 9=(Va b9):=hA.at rfl YQ;repeat refine r1 ?_
 refine WC.ZaI lk rfl ?_;repeat refine r1 ?_
 refine Zzz.exit ?_;repeat refine r1 ?_
 refine Vd (Uj lks) ?_;repeat refine r1 ?_
 rintro h24 hS;repeat refine r1 ?_
 refine Vf (Zbo Value.string vvE hS) ?_;rintro _ h25 ⟨mm,emm,rfl,hS⟩;repeat refine r1 ?_
 refine WO.hu gN (ZcT (kv:=Value.string) (vv:=vvE) (k:=p1) (v:=((Wo,Wl),p2)) hS k0 Jd Zkf lk lk (Zu fh rfl)) ?_;rintro h26 hS;repeat refine r1 ?_
 have hS:=ZRv (G:=[bx V b4 [.string p1],bx V b8 [.map (some cm)],bx V b9 [pV bw],mp V Value.string Value.bool (some cm) mine]) (hS.perm (Sel.perm (.c (.s (.s (.s k7))) (.f (.e (.e .n))))));have hS:=hS.add (A:=esA V [(p1,((Wo,Wl),p2))]) (fun x hx=>by rw[J1.1 hx];exact Yd.2 (hS.sl Za9)) (fun _ z=>z);rcases w0 with w1|ek
 .replace hpp:=YG hpp;refine Ve (ZX.fn Zrq (Zb lk (Zb (Zu (Yy rfl fh) rfl) (Zb lk Zd)))) hS (.e (.b (.d (.b (.a .n))))) (fun g' hz hf hO=>PQ.ok (Zlr (F:=F) (w:=bw) (ct:=some ct) (cm:=none) (fv:=fvP V bw b4 b8 b9 cm p1 mine) (K5:=Zzx) (Yr:=U1 F (ZgP F p1 mine)) (Ko:=fun t names=>Zcr F t names) (frL:=fun t=>ZbB F t) (fun cf=>Zp1 rfl ZJZ (fun _ _ _ z=>z.1) (@ZEf F V bw cf ct cm b4 b8 b9 p1 mine)) ZvK ZvL (p:=((Zh,Zg),(Zo,Zn),(Zr,Zq))) (es:=[(p1,((Wo,Wl),p2))]) (hS.Vh hz) (Zt.mono hf (Zt.mono hS.fz hF)) hO hw0)) ?_;rintro _ h27 _ ⟨cf,S1,⟨⟨q0,d0⟩,⟨q1,d1⟩,⟨q2,d2⟩⟩,rfl,rfl⟩ hS;repeat refine r1 ?_
  rintro _ h28 ⟨b11,ZUW,rfl,hS⟩;repeat refine r1 ?_
  rintro h29 hS;repeat refine r1 ?_
  have hq:=Xa.1 (hS.get k1);have⟨cc,hcc,hpp⟩:=bS hpp;refine WO.cp gN rfl (ZX.fn Zgy (Zb (Zu fh rfl) Zd)) (Zbd (hq.1.up hS.hw) (hq.2.1.up hS.hw) (hq.2.2.up hS.hw) hcc) ?_;repeat refine r1 ?_
  refine cn hpp ?_ ?_
  .intro hc3 hpp;cases hpp;repeat refine r1 ?_
   refine WO.KC gN (ZX.fn Ze0 (Zb (JS rfl) Zd)) hS .n (fun g' hz hf hO=>Zbc (r:=.Ym 3) (hS.Vh hz) rfl) ?_;rintro h30 hS;repeat first|refine Yx.panic ?_|refine Xh.panic ?_|refine ZQ.panic ?_
   refine Z8.K9<|Xg.ZuV («YF»:=[(Va b7)]) (fn2:=Tryz.f60) Kq0 (by exact rfl) Tryz.ntmps60 (by simp) rfl ?_;simp only[Zv,Zy,Nat.reduceAdd];refine DC.seq<|DC.rec (.rcv (pv 147 3)) (Tr.set (Tr.set (Tr.set .nil 0 ((Va b7))) 5 (.iface 147 (.agg #[V9 3]))) 2 (.iface 147 (.agg #[V9 3]))) (by exact rfl) rfl ?_;refine⟨rfl,?_⟩;refine DC.seq<|DC.rgn rfl ?_;repeat refine r1 ?_
   refine Vd (YN (Zu fh rfl) (JS rfl) (ZeC rfl Zke)) ?_;repeat refine r1 ?_
   refine⟨rfl,?_⟩;refine DC.Zn5 (Zu fh rfl) rfl<|DC.seq<|DC.rgn rfl ?_;repeat refine r1 ?_
   refine Vd (ZaK Tryz.underlying147 rfl (Zu fh rfl)) ?_;repeat refine r1 ?_
   rintro _ h33 ⟨b12,Zy0,rfl,hS⟩;repeat refine r1 ?_
   rintro h34 hS;repeat refine r1 ?_
   refine⟨rfl,?_⟩;refine DC.seq<|DC.seq<|DC.rgn rfl ?_;repeat refine r1 ?_
   refine⟨rfl,?_⟩;refine DC.Zhb (Zu fh rfl) rfl<|DC.skip ?_;refine⟨rfl,?_⟩;refine DC.rgn rfl ?_;repeat refine r1 ?_
   rintro h35 hS;repeat refine r1 ?_
   refine⟨rfl,rfl,?_⟩;refine Xg.ofL ?_ rfl;have hS:=hS.add (A:=Z9 V (Yh Zi) (none,0) []) Sl.nil (fun _ z=>z);have hS:=hS.add (A:=Z9 V (Yh Zc) (none,0) []) Sl.nil (fun _ z=>z);have hS:=hS.add (A:=Z9 V (Yh Zt) (none,0) []) Sl.nil (fun _ z=>z);have hr:=Oi0 hL;subst hr;exact Z8.gen (vs:=[.agg #[V9 0,.string (⟨#[]⟩:Y),V8,V8,V8],V9 3]) rfl (Ya YQ (YL Qy Yt (hS.Jo pk) (j:=0) rfl rfl (ws:=[V9 0,.string (⟨#[]⟩:Y),V8,V8,V8]) rfl) (Ya YQ (QC Zff (hS.Jo pk) (j:=0) rfl (v:= V9 3) rfl) Zl)) rfl ⟨_,⟨none,0,none,0,none,0,rfl,rfl⟩,hT▸hS.only (.d (.b (.a .n)))⟩
  intro hc3 hpp;cases hpp;repeat refine r1 ?_
  rintro h30 hS;repeat refine r1 ?_
  rintro h31 hS;repeat refine r1 ?_
  refine Z8.ofP<|Xg.ZuV («YF»:=[(Va b7)]) (fn2:=Tryz.f60) Kq0 (by exact rfl) Tryz.ntmps60 (by simp) rfl ?_;simp only[Zv,Zy,Nat.reduceAdd];refine DC.seq<|DC.rec .ret (Tr.set (Tr.set (Tr.set .nil 0 ((Va b7))) 5 (.nilIface)) 2 (.nilIface)) (by exact rfl) rfl ?_;refine⟨rfl,?_⟩;refine DC.seq<|DC.rgn rfl ?_;repeat refine r1 ?_
  refine Vd (YN (Zu fh rfl) (JS rfl) (ZfR Zke)) ?_;repeat refine r1 ?_
  refine⟨rfl,?_⟩;refine DC.Zhb (Zu fh rfl) rfl<|DC.skip ?_;refine⟨rfl,rfl,?_⟩;refine Xg.ofL ?_ rfl;have hq:=Xa.1 (hS.get k3);have hS:=hS.add (A:=Z9 V (Yh Zi) (q0,d0) w1.2.args) hq.1 (fun _ z=>z);have hS:=hS.add (A:=Z9 V (Yh Zc) (q1,d1) w1.2.qJ) hq.2.1 (fun _ z=>z);have hS:=hS.add (A:=Z9 V (Yh Zt) (q2,d2) w1.2.qQ) hq.2.2 (fun _ z=>z);have hr:=Oi0 hL;subst hr;exact Z8.gen (vs:=[.agg (Qg ((q0,d0),(q1,d1),(q2,d2)) w1.2).toArray,V9 0]) rfl (Ya YQ (YL Qy Yt (hS.Jo k4) (j:=0) rfl rfl (ws:=Qg ((q0,d0),(q1,d1),(q2,d2)) w1.2) rfl) (Ya YQ (QC Zff (hS.Jo k3) (j:=0) rfl (v:= V9 0) rfl) Zl)) rfl ⟨_,⟨q0,d0,q1,d1,q2,d2,rfl,rfl⟩,hT▸hS.only (.d (.b (.a .n)))⟩
 replace hpp:=Yj hpp;refine WO.KC gN (ZX.fn Zrq (Zb lk (Zb (Zu (Yy rfl fh) rfl) (Zb lk Zd)))) hS (.e (.b (.d (.b (.a .n))))) (fun g' hz hf hO=>Zlr (F:=F) (w:=bw) (ct:=some ct) (cm:=none) (fv:=fvP V bw b4 b8 b9 cm p1 mine) (K5:=Zzx) (Yr:=U1 F (ZgP F p1 mine)) (Ko:=fun t names=>Zcr F t names) (frL:=fun t=>ZbB F t) (fun cf=>Zp1 rfl ZJZ (fun _ _ _ z=>z.1) (@ZEf F V bw cf ct cm b4 b8 b9 p1 mine)) ZvK ZvL (p:=((Zh,Zg),(Zo,Zn),(Zr,Zq))) (es:=[(p1,((Wo,Wl),p2))]) (hS.Vh hz) (Zt.mono hf (Zt.mono hS.fz hF)) hO hw0) ?_;rintro h27 hS;repeat first|refine Yx.panic ?_|refine Xh.panic ?_|refine ZQ.panic ?_
 cases hpp;refine Z8.K9<|Xg.ZuV («YF»:=[(Va b7)]) (fn2:=Tryz.f60) Kq0 (by exact rfl) Tryz.ntmps60 (by simp) rfl ?_;simp only[Zv,Zy,Nat.reduceAdd];refine DC.seq<|DC.rec (.rcv (pv 147 ek)) (Tr.set (Tr.set (Tr.set .nil 0 ((Va b7))) 5 (.iface 147 (.agg #[V9 ek]))) 2 (.iface 147 (.agg #[V9 ek]))) (by exact rfl) rfl ?_;refine⟨rfl,?_⟩;refine DC.seq<|DC.rgn rfl ?_;repeat refine r1 ?_
 refine Vd (YN (Zu fh rfl) (JS rfl) (ZeC rfl Zke)) ?_;repeat refine r1 ?_
 refine⟨rfl,?_⟩;refine DC.Zn5 (Zu fh rfl) rfl<|DC.seq<|DC.rgn rfl ?_;repeat refine r1 ?_
 refine Vd (ZaK Tryz.underlying147 rfl (Zu fh rfl)) ?_;repeat refine r1 ?_
 rintro _ h33 ⟨b12,Zy0,rfl,hS⟩;repeat refine r1 ?_
 rintro h34 hS;repeat refine r1 ?_
 refine⟨rfl,?_⟩;refine DC.seq<|DC.seq<|DC.rgn rfl ?_;repeat refine r1 ?_
 refine⟨rfl,?_⟩;refine DC.Zhb (Zu fh rfl) rfl<|DC.skip ?_;refine⟨rfl,?_⟩;refine DC.rgn rfl ?_;repeat refine r1 ?_
 rintro h35 hS;repeat refine r1 ?_
 refine⟨rfl,rfl,?_⟩;refine Xg.ofL ?_ rfl;have hS:=hS.add (A:=Z9 V (Yh Zi) (none,0) []) Sl.nil (fun _ z=>z);have hS:=hS.add (A:=Z9 V (Yh Zc) (none,0) []) Sl.nil (fun _ z=>z);have hS:=hS.add (A:=Z9 V (Yh Zt) (none,0) []) Sl.nil (fun _ z=>z);have hr:=Oi0 hL;subst hr;exact Z8.gen (vs:=[.agg #[V9 0,.string (⟨#[]⟩:Y),V8,V8,V8],V9 ek]) rfl (Ya YQ (YL Qy Yt (hS.Jo pk) (j:=0) rfl rfl (ws:=[V9 0,.string (⟨#[]⟩:Y),V8,V8,V8]) rfl) (Ya YQ (QC Zff (hS.Jo pk) (j:=0) rfl (v:= V9 ek) rfl) Zl)) rfl ⟨_,⟨none,0,none,0,none,0,rfl,rfl⟩,hT▸hS.only (.d (.b (.a .n)))⟩
end
section
def f9L(F:Nat)(p0:Term)(p1:Two):O Z:=
 (gd (!(((decide ((p1.x.size:Int)>30))||(decide ((p1.y.size:Int)>30)))||(decide (p1.x=p1.y)))) (Zsg F p1.e) default).bind fun L=>(gd (!((((decide ((p1.x.size:Int)>30))||(decide ((p1.y.size:Int)>30)))||(decide (p1.x=p1.y)))||(L !=0))) (Zsg F p1.f) default).bind fun Q=>(bif(!(((((decide ((p1.x.size:Int)>30))||(decide ((p1.y.size:Int)>30)))||(decide (p1.x=p1.y)))||(L !=0))||(Q !=0))) then(ZyS F p1.f).bind fun P=>(Zjj F P p1.x).bind fun K=>(bif K then(ZmY).bind fun I=>some I else(Zcy F p0 p1.x p1.e).bind fun q=>(Zcy F p0 p1.y p1.f).bind fun h=>(bif((q.2 !=0)||(h.2 !=0)) then(ZlF F q.1).bind fun p=>(gd (p==(q.2 !=0)) (ZlF F h.1) default).bind fun A=>(gd ((p==(q.2 !=0))&&(A==(h.2 !=0))) (ZmY) default).bind fun G=>some (((p==(q.2 !=0))&&(A==(h.2 !=0)))&&G) else(Zcy F q.1 p1.y p1.f).bind fun t=>(ZyR F p1.e p1.y p1.f).bind fun E=>(Zcy F h.1 p1.x E).bind fun r=>(bif((t.2 !=0)||(r.2 !=0)) then(ZmY).bind fun D=>some D else(ZuI F t.1 r.1).bind fun l=>(gd (l.1&&(l.2==0)) (ZmY) default).bind fun C=>some ((l.1&&(l.2==0))&&C)))) else(ZmY).bind fun B=>some B)
def Zeq:Z->O Z:=fun h=>
 some h
def Uz(F:Nat):Z->O Z:=fun t=>
 (bif t then some false else(Zia F).bind fun r=>(ZDz (⟨#[120]⟩:Y)).bind fun q=>(Zcy F r (⟨#[98]⟩:Y) q).bind fun h=>(Zia F).bind fun p=>(Zcy F p (⟨#[113]⟩:Y) (Zf.mk 1 2 (⟨#[]⟩:Y) [])).bind fun l=>(Zia F).bind fun ZQJ=>(ZDB F ZQJ).bind fun ZFI=>(Zia F).bind fun Zqx=>(Yl Zqx.qQ 0).bind fun ZmE=>(ZDC F ZmE).bind fun ZK1=>(bif(((((((h.2 !=0)||(l.2 !=7))||(ZFI.2 !=0))||(ZK1.2 !=0))||((h.1.qJ.length:Int) !=2))||((ZFI.1.qJ.length:Int) !=2))||((ZK1.1.length:Int) !=2)) then some false else(Zsd F h.1.qJ).bind fun ZQI=>(ZbC F ZQI ([(⟨#[99]⟩:Y),(⟨#[121]⟩:Y),(⟨#[112]⟩:Y)])).bind fun ZQH=>(bif ZQH then(Zsd F ZFI.1.qJ).bind fun ZQG=>(ZbC F ZQG ([(⟨#[97]⟩:Y),(⟨#[99]⟩:Y),(⟨#[100]⟩:Y)])).bind fun ZFE=>(gd ZFE (ZcA F (⟨#[97,98,99]⟩:Y)) default).bind fun ZK0=>(gd (ZFE&&ZK0) (ZcA F (⟨#[116,104,101,110]⟩:Y)) default).bind fun ZxM=>(bif((ZFE&&ZK0)&&(!ZxM)) then(ZDJ F ([(⟨#[97]⟩:Y),(⟨#[99]⟩:Y)])).bind fun ZQF=>(Zeq) (decide (ZQF=(⟨#[98]⟩:Y))) else(Zeq) false) else(gd false (ZcA F (⟨#[97,98,99]⟩:Y)) default).bind fun ZKZ=>(gd (false&&ZKZ) (ZcA F (⟨#[116,104,101,110]⟩:Y)) default).bind fun ZQE=>(bif((false&&ZKZ)&&(!ZQE)) then(ZDJ F ([(⟨#[97]⟩:Y),(⟨#[99]⟩:Y)])).bind fun ZQD=>(Zeq) (decide (ZQD=(⟨#[98]⟩:Y))) else(Zeq) false))))
def ZnX(F:Nat):O Z:=
 (Zia F).bind fun y=>(ZyV F y).bind fun x=>(Zia F).bind fun t=>(ZyU F t).bind fun p=>(Zia F).bind fun r=>(ZyT F r).bind fun l=>(Zia F).bind fun q=>(ZDE F q).bind fun h=>(bif(!((((((x.2 !=0)||(p.2 !=0))||(l.2 !=0))||(h.2.2 !=0))||(x.1 !=13))||(p.1 !=5))) then(ZbC F l.1 ([(⟨#[98]⟩:Y),(⟨#[113]⟩:Y),(⟨#[122]⟩:Y)])).bind fun ZQC=>(bif(!(!ZQC)) then(ZbC F h.1 ([(⟨#[120]⟩:Y),(⟨#[121]⟩:Y)])).bind fun ZQB=>(bif(!(!ZQB)) then(ZbC F h.2.1 ([(⟨#[112]⟩:Y)])).bind fun ZQA=>(Uz F) (!ZQA) else(Uz F) true) else(bif(!true) then(ZbC F h.2.1 ([(⟨#[112]⟩:Y)])).bind fun ZQz=>(Uz F) (!ZQz) else(Uz F) true)) else(bif(!true) then(ZbC F h.1 ([(⟨#[120]⟩:Y),(⟨#[121]⟩:Y)])).bind fun ZQy=>(bif(!(!ZQy)) then(ZbC F h.2.1 ([(⟨#[112]⟩:Y)])).bind fun ZQx=>(Uz F) (!ZQx) else(Uz F) true) else(Uz F) true))
end
end Go.Proofs.YtbnepjakjmnadaaGreat
end
end
