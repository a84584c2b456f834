/- Part 8. -/
import Derived.WalkKit
import Derived.OpenShut
import Derived.Carry
import Derived.Test.YtbnepjakjmnadaaGreatAh7
set_option linter.all false
set_option maxHeartbeats 2000000
set_option maxRecDepth 100000
noncomputable section
namespace Go.Z9
open Go.Lf
variable{P:GW}
def K8(P:GW){l:Type}(e:WG l)(m:l->Prop)(t:J):Prop:=P.cellsOf t=e.sz/\∀{E:Type}{h:H}{cs:U N}{d:DataW E},AR P h t cs d->∃p x,cs=e.sh p x/\m x/\∀L,e.F L h p x
def K8.int{t:J}{k:IntKind}(hu:P.underlying t=some (.int k))(m:P.cellsOf t=1):K8 P (QL k) (fun n=>(Lit.int k n).wf=true) t:=⟨m,fun a=>by
 cases a with
 | int h l=>rw[hu]at h;cases h;exact⟨(),_,rfl,l,fun _=>trivial⟩
 | bool h=>rw[hu]at h;cases h
 | string h _=>rw[hu]at h;cases h
 | nil h=>rw[hu]at h;cases h
 | empty h=>rw[hu]at h;cases h
 | slice h=>rw[hu]at h;cases h
 | struct h=>rw[hu]at h;cases h⟩
def K8.str{t:J}(hu:P.underlying t=some .string)(m:P.cellsOf t=1):K8 P Zq (fun s=>s.size<=maxLen) t:=⟨m,fun a=>by
 cases a with
 | string h l=>exact⟨(),_,rfl,l,fun _=>trivial⟩
 | bool h=>rw[hu]at h;cases h
 | int h _=>rw[hu]at h;cases h
 | nil h=>rw[hu]at h;cases h
 | empty h=>rw[hu]at h;cases h
 | slice h=>rw[hu]at h;cases h
 | struct h=>rw[hu]at h;cases h⟩
def Zej{r:Type}{e:WG r}{A:r->Prop}{h:H}{β:Type}:∀(l:U (U N×β)),(∀x∈l,∃p y,x.1=e.sh p y/\A y/\∀L,e.F L h p y) ->
 ∃ys:U r,ys.length=l.length/\(∀y∈ys,A y)/\∀(k:Nat)(y:r),ys[k]? =some y->∃x p,l[k]? =some x/\x.1=e.sh p y/\∀L,e.F L h p y
 | [],_=>⟨[],rfl,by simp,fun k y m=>by simp at m⟩
 | x::l,hx=>by
   have⟨ys,h1,hv,h2⟩:=Zej l (fun z t=>hx z (by simp[t]));have⟨p,y,h3,hvy,h4⟩:=hx x Vd;refine⟨y::ys,by simp[h1],fun z t=>?_,fun k z m=>?_⟩
   .rcases Ks.1 t with q|q
    .rw[q];exact hvy
    exact hv z q
   cases k with|zero=>simp at m;subst m;exact⟨x,p,rfl,h3,h4⟩|succ k=>
     have⟨x',p',q1,q2⟩:=h2 k z (by simpa using m);exact⟨x',p',by simpa using q1,q2⟩
def Zmp{h β:Type}{f:h->U β}{sz:Nat}(l:U h)(m:∀x∈l,(f x).length=sz){k:Nat}{x:h}(p:l[k]? =some x):((l.flatMap f).drop (k*sz)).take sz=f x:=by
 have r:(f x).length=sz:=m x (List.mem_of_getElem? p);refine GO fun j=>?_;by_cases q:j<sz;.rw[List.getElem?_take_of_lt q,GS,flat_get l m k j q,p];rfl
 rw[G7 (by rw[Gt];omega),G7 V6]
def K8.slice{E:Type}{e:WG E}{G:E->Prop}{t F:J}(hu:P.underlying t=some (.slice F))(Q:P.cellsOf t=1)(he:K8 P e G F):K8 P (Yz e) (fun l=>∀x∈l,G x) t:=⟨Q,fun a=>by
 cases a with
 | bool h=>rw[hu]at h;cases h
 | int h _=>rw[hu]at h;cases h
 | string h _=>rw[hu]at h;cases h
 | nil h=>exact⟨(none,0),[],rfl,by simp,fun _=>Sl.nil⟩
 | empty h=>exact⟨(some ⟨0,0,some 0⟩,0),[],rfl,by simp,fun _=>⟨by simp,by simp,.inr (.inl ⟨rfl,rfl⟩),.inl rfl⟩⟩
 | @slice S T m rest i cap h I r D B C=>
   rw[hu]at h;cases h;have⟨ys,h1,hv,h2⟩:=Zej (e:=e) m (fun x A=>he.2 (C x A));have q:∀x∈m,x.1.length=e.sz:=fun x A=>(B x A).trans he.1
   refine⟨(some ⟨i,0,none⟩,2*cap),ys,by show [Value.slice _ _ _]=[Value.slice _ _ _];rw[h1],hv,fun L=>⟨?_,?_,.inr (.inr ⟨_,_,rfl⟩),.inr ⟨i,0,_,false,0,rfl,D,.inr rfl,?_,fun k y K=>?_⟩⟩⟩
   .rw[h1];exact KK (KK I r) (by decide)
   .rw[h1];omega
   .rw[h1,G6,Zht m q];exact K2 _
   have⟨x,p,q1,q2,q3⟩:=h2 k y K;refine⟨p,?_,q3 L⟩;rw[G6,Zmp m q q1,q2]
 | struct h=>rw[hu]at h;cases h⟩
def AR.ZzX{E:Type}{h:H}{t:J}{cs:U N}{d:DataW E}{q:GZ Field}(hu:P.underlying t=some (.struct q))(a:AR P h t cs d):
 ∃m:U (U N×DataW E),cs=m.flatMap (·.1)/\m.length=q.toList.length/\∀(i:Nat)(x:U N×DataW E)(f:Field),m[i]? =some x->q.toList[i]? =some f->AR P h f.type x.1 x.2:=by
 cases a with|bool l=>rw[hu]at l;cases l|int l _=>rw[hu]at l;cases l|string l _=>rw[hu]at l;cases l|nil l=>rw[hu]at l;cases l|empty l=>rw[hu]at l;cases l|slice l=>rw[hu]at l;cases l|struct l y r p=>rw[hu]at l;cases l;exact⟨_,rfl,y,p⟩
def ZMB{ρ:Ren}{l cs:U N}(h:LR ρ l cs):VR ρ (.agg l.toArray) (.agg cs.toArray):=
 .agg _ _ (by simpa using h.1) (fun i v v' p m=>h.2 i v v' (by simpa using p) (by simpa using m))
def ZxK{ρ:Ren}{l:U N}{cs:GZ N}(h:LR ρ l (Value.agg cs).cells.toList):VR ρ (.agg l.toArray) (.agg cs):=by have:=ZMB h;rwa[Array.toArray_toList]at this
def Zuu:Ren:=⟨fun _=>none,fun _=>(0,0)⟩
def ZvS:Ziv ⟨.nil,0⟩:=fun i=>by
 have:(⟨.nil,0⟩:H).at i=.dead:=H.Zeg (Gq _);rw[this];rfl
def ZCl(w:GY):Rel Zuu ⟨.nil,0⟩ w:=⟨fun _ _ _ e=>(by cases e),fun _ _ _ e=>(by cases e),fun _ _ _ _ _ e=>(by cases e)⟩
def ZJN{E:Type}{W:GY}(l:U (J×U N×DataW E))(p:∀x∈l,ZpT P W x.1 x.2.1 x.2.2):
 ∃(ρ:Ren) (h:H) (m:U (U N×DataW E)),Rel ρ h W/\Ziv h/\m.length=l.length/\
   ∀(i:Nat)(x:U N×DataW E)(y:J×U N×DataW E),m[i]? =some x->l[i]? =some y->LR ρ x.1 y.2.1/\AR P h y.1 x.1 x.2:=by
 have⟨ρ,h,m,q1,q2,q3,q4,q5,q6,q7⟩:=Zrv l p Zuu ⟨.nil,0⟩ (ZCl W) ZvS;exact⟨ρ,h,m,q3,q4,q6,q7⟩
end Go.Z9
end
section
noncomputable section
namespace Go.Proofs.YtbnepjakjmnadaaGreat
open Go.Proofs.Tryz Go.Z9 Go.Lf
def ZER(F:Nat)(taken:MB):O (MB×Y):=(ZEY F taken).bind fun s=>some (Xh taken s true,s)
def ZPn{F L w cf l:Nat}{fv:FV L}{taken:MB}{h:H}{r:MB×Y}(y:L<=h.size)(t:Z0 [wbA L w cf (some l) fv,tkA L (some l) taken] h)(p:ZER F taken=some r):
 WR XX 78 #[pV w] L h (CP (fun v Gb=>v=.string r.2/\Gb=[wbA L w cf (some l) fv,tkA L (some l) r.1]) [wbA L w cf (some l) fv,tkA L (some l) taken] h):=by
 refine WF.begin (args:=[_]) (fn:=f78) Kq0 Ve ntmps78 Vd ?_;simp[ZM,ZT,Nat.reduceAdd];obtain⟨T,q,m⟩:∃T,T=JO [wbA L w cf (some l) fv,tkA L (some l) taken]/\Sp L T h [wbA L w cf (some l) fv,tkA L (some l) taken] h:=⟨_,rfl,Sp.start y t⟩;unfold ZER at p;refine WC.seq<|WC.region<|V8 (Xb (KP rfl))<|WO.nil<|YL.Yx<|WC.seq<|WC.region<|V8 (YA lk)<|V8 (Zap lk)<|V8 (Y9 Zmn lk)<|V8 (Z4 ZnA lk (ZjT m k0) (j:=1) rfl (v:=.map (some l)) rfl) ?_;have⟨s,hs,p⟩:=bS p;refine WO.cp gN rfl (Yc.f (Zb lk Zf)) (ZI9 (m.get k1).1 hs)<|V8 (Xb lk)<|WO.nil<|YL.Yx<|WC.seq<|WC.region<|V8 (YA lk)<|V8 (Zap lk)<|V8 (Y9 Zmn lk)<|V8 (Z4 ZnA lk (ZjT m k0) (j:=1) rfl (v:=.map (some l)) rfl)<|V8 (YA lk)<|WO.hu gN (ZMU (v:=true) m k1 ZgS Uj lk lk (KP rfl)) ?_;rintro x m;refine WO.nil<|YL.Yx<|WC.seq<|WC.region<|V8 (YA lk)<|V8 (Xb lk)<|WO.nil<|YL.Yx<|WC.ret ?_;obtain rfl:=Oi0 p;exact YG.QM rfl (ZB lk Zp) ⟨_,⟨rfl,rfl⟩,q▸m.only (.b (.a .n))⟩
end Go.Proofs.YtbnepjakjmnadaaGreat
end
end
section
noncomputable section
namespace Go.Z9
open Go.Lf
variable{P:GW}
def ZBi{t:J}{x:GV}{a b c}{f:Fn}{h cs:GZ N}(hu:P.underlying t=some (.func a b c)):Q0 P .neq t x (.const .nilFunc) (.func f h cs) .nilFunc=some (.val (.bool true),.none):=by
 have l:(plain (.func f h cs)&&plain .nilFunc)=false:=rfl;unfold Q0;rw[l,Cq0];have:ZdH P t (.func f h cs) .nilFunc=some false:=by unfold ZdH;rw[hu]
 rw[this];rfl
def ZiL{h:Type}:∀(Ga:U h),Sel Ga Ga []
 | []=>.n
 | _::Ga=>.c .z (ZiL Ga)
def ZCr{h:Type}(A:h)(l:U h):∀Gr:U h,Pk (Gr++A::l) A (Gr++l)
 | []=>.z
 | _::Gr=>.s (ZCr A l Gr)
def ZvJ{l:Type}(Gr:U l):∀h:U l,Sel (Gr++h) h Gr
 | []=>by rw[G8];exact .n
 | A::h=>.c (ZCr A h Gr) (ZvJ Gr h)
end Go.Z9
end
end
section
noncomputable section
namespace Go.Proofs.YtbnepjakjmnadaaGreat
open Go.Proofs.Tryz Go.Z9 Go.Lf
variable{F L cf w:Nat}{h:H}
abbrev ChL:=MB->U NM->U Y->O MB->O (MB×U Y)
def ZRa(L w cf:Nat)(ct:O Nat)(fv:FV L)(q:GX)(m:U N)(WIN:Zkx L)(t:ChL):Prop:=
 ∀{h:H}{S:U SE}{b:Nat}{c:U NM}{l:U Y}{pa:O Addr}{y:Nat}{wv:N}{p:U (Ast L)}{x:O MB}{free taken:MB}{r:MB×U Y},L<=h.size->Rd S (some b) c->Sl Zq L h pa y l->WIN wv p x->t taken c l x=some r->Z0 (Wp L w cf ct fv free taken S++p) h ->
   WR XX q ([pV b,.slice pa l.length y,wv]++m).toArray L h (CP (fun v Gb=>∃(a:O Addr) (A:Nat),v=.slice a r.2.length A/\Gb=Yp L (Yz Zq) (a,A) r.2::(Wp L w cf ct fv free r.1 S++p)) (Wp L w cf ct fv free taken S++p) h)
def ZfD(F:Nat)(l:ChL):Km:=fun q c h p=>(l q c h p).bind fun y=>(loop F (Zbd h y.2) (0,[])).bind fun m=>some (y.1,m)
def ZE5{ct:O Nat}{fv:FV L}{K:GX}{D:U N}{WIN:Zkx L}{chL:ChL}(X:fv.v=.func (.func K) #[] D.toArray)(hid:(XX.fns.get K).isSome=true)(hA:∀wv C wi,WIN wv C wi->Qv wv=false)(hC:ZRa L w cf ct fv K D WIN chL) {S:U SE} {b:Nat} {c:U NM} {t:U Y} {pa:O Addr} {pc:Nat} {wv:N} {C:U (Ast L)} {wi:O MB} {free taken:MB} {r:MB×NM} (ZA:L<=h.size) (hr:Rd S (some b) c) (W:Sl Zq L h pa pc t) (hW:WIN wv C wi) (Q:ZfD F chL taken c t wi=some r) (hO:Z0 (Wp L w cf ct fv free taken S++C) h):
  WR XX 150 #[pV b,.slice pa t.length pc,wv] L h (CP (fun v Gb=>∃(S':U SE) (b':Nat),(∀e∈S,e∈S')/\v=ZdD (some b')/\Rd S' (some b') (r.2::c)/\Gb=Wp L w cf ct fv free r.1 S'++C) (Wp L w cf ct fv free taken S++C) h):=by
 refine WF.begin (args:=[_,_,_]) (fn:=f150) Kq0 Ve ntmps150 Vd ?_;simp only[ZM,ZT,Nat.reduceAdd];obtain⟨T,hT,l⟩:∃T,T=JO (Wp L w cf ct fv free taken S++C)/\Sp L T h (Wp L w cf ct fv free taken S++C) h:=⟨_,rfl,Sp.start ZA hO⟩;unfold ZfD at Q;have hwv:=hA _ _ _ hW
 obtain⟨e,he,hbe⟩:∃e,e∈S/\e.b=b:=by
  cases hr with|@cons e c' he hr=>exact⟨e,he,rfl⟩
 subst hbe;refine r16 ?_;refine r1 ?_;refine V8 (Z4 Zc0 lk (ZgV l k3 he) (j:=0) rfl (v:=pV w) rfl)<|r2 ?_;refine V8 (Z4 ZrU lk (ZjT l k0) (j:=2) rfl (v:=fv.v) rfl) ?_;rw[X];have⟨ua,ub,uc,hu⟩:=ZB1;refine V8 (Xg lk (KP rfl) (ZBi hu))<|r2 ?_;refine WC.Zed lk (fun hc=>?_) (fun hc=>?_)
 .refine r4 ?_;refine V8 (Z4 Zc0 lk (ZgV l k3 he) (j:=0) rfl (v:=pV w) rfl)<|r2 ?_;refine V8 (Z4 ZrU lk (ZjT l k0) (j:=2) rfl (v:=fv.v) rfl) ?_;rw[X];refine r3 ?_;have⟨y,hy,Q⟩:=bS Q;refine V9 (Yc.clo (first:=[]) (cap:=D) lk hid (Zb lk (Zb lk (Zb lk Zf))) rfl) l (.a (.a (.a (.a (ZiL _))))) (fun g' hz hf hO=>hC (l.Vc hz) hr (W.mono hf) hW hy hO) ?_;rintro _ h1 _ ⟨ya,yc,rfl,rfl⟩ l;have l:=l.only (.a (.a (.a (.a (.a (Zqe C []))))));refine V8 (Xb lk)<|WO.nil<|r6 ?_;refine V8 (Z4 Zc0 lk (ZgV l k4 he) (j:=0) rfl (v:=pV w) rfl)<|r1 ?_;refine Va (ZgW Value.string vvE l) ?_;rintro _ h2 ⟨V,ebm,rfl,l⟩;refine V8 (XG Zw7 (Zy lk (Zy lk (Zy lk ZN))) rfl (cs':=[pV w,pV e.b,.map (some V)]) rfl)<|r1 ?_;rintro _ h3 ⟨bs,ebs,rfl,l⟩;refine r12 ?_;have l:=l.add (A:=esA L []) (fun x I=>by cases I) (fun _ z=>z);have⟨m,B,Q⟩:=bS Q;refine WC.loop (WL.lift B (fun(p:Int×NM)(s:Fs)=>match p with | (i,m)=>∃(P:Fr) (h9:H) (es:U (Y×EV)),s=⟨P,[],h9,none⟩/\Sp L T h (bx L bs [pV w,pV e.b,.map (some V)]::mp L Value.string vvE (some V) es::esA L es::Yp L (Yz Zq) (ya,yc) y.2::(Wp L w cf ct fv free y.1 S++C)) h9/\ZsJ es=m/\P.at 7=.slice ya y.2.length yc/\P.at 8=(V5 bs)/\P.at 39=.slice pa t.length pc/\P.at 40= V4 (t.length:Int)/\P.at 41= V4 i) ⟨_,_,[],rfl,l.only (.b (.b (.a (.a (.a (.a (.a (.a (ZiL _))))))))),rfl,YF⟩ ?_);clear B l;rintro Zai ⟨i,m'⟩ s Je B ⟨P,h9,es,rfl,l,rfl,e7,e8,e39,e40,e41⟩;dsimp only[Zbd]at B;refine r6 ?_;refine cn B ?_ ?_
  .intro hc B;refine r6 ?_;refine r1 ?_;have⟨QE,UQ,B⟩:=bS B;have⟨b23,o24,_,JG,JI,JH,XM⟩:=Sl.at_ W UQ;refine V8 (ZF Qc Qi (ZC (Yd rfl e39) rfl) (ZC (Yd rfl e41) rfl) rfl JG UQ)<|V8 (Z4 UA (ZC fh rfl) (At.fz l.fz JH JI) (j:=0) rfl (v:=.string QE) rfl)<|r4 ?_;refine WC.XJ mixed Kq0<|r6 ?_;refine r1 ?_;have⟨x25,hx25,B⟩:=bS B;have⟨b26,o27,_,ZlY,Zmf,Zph,Zhl⟩:=Sl.at_ (l.JJ k3) hx25;refine Vb (ZF Qc Qi (ZC (Zm rfl fh) rfl) (ZC fh rfl) rfl ZlY hx25)<|Vb (Z4 UA (ZC fh rfl) Zmf (j:=0) rfl (v:=.string x25) rfl) ?_;have⟨z,hz,B⟩:=bS B;refine WX.cl0 gN rfl (Yc.fn Zyy (Zb (ZC fh rfl) Zf)) l .n (fun g' hz' hf hO=>ZyL (by rw[hz'];exact l.hw) hz) ?_ rfl rfl;rintro _ h34 _ ⟨G,E,rfl,rfl⟩ l;refine WX.hu gN (Zfn (kv:=Value.string) (vv:=vvE) (k:=QE) (v:=((G,E),z)) l k2 KF ZvC (ZC (Ym rfl (Yd rfl fh)) rfl) (ZC (Ym rfl (Zm rfl fh)) rfl) (ZC fh rfl)) ?_ rfl Kq0 [] Kq0 Yv.e;rintro h35 l
   have l:=l.add (A:=esA L (Xh es QE ((G,E),z))) (fun x I=>by
    rcases ZlF I with q|q
    .exact l.get k3 x q
    rw[q];exact Yj.2 (l.JJ k1)) (fun _ z=>z)
   refine r6 ?_;refine r1 ?_;exact ZR.Yx (Je _ _ B ⟨_,_,Xh es QE ((G,E),z),rfl,l.only (.e (.b (.a (.d (.d (.d (.d (.d (ZvJ [_,_] C))))))))),ZoY (fun q:EV=>q.2) es QE ((G,E),z),YF⟩)
  intro hc B;refine r12 ?_;have hm':=Oi0 B;subst hm';have hr':=Oi0 Q;subst hr';have l:=ZvD (S:=S) (b:=bs) (ar:=some e.b) (m:=some V) (es:=es) (l.only (.a (.a (.a (.f (.b (.b (.b (ZvJ [_] C)))))))));exact YG.QM rfl (ZB (ZC fh rfl) Zp) ⟨_,⟨⟨bs,some e.b,some V,es⟩::S,bs,fun x I=>Kx _ I,rfl,Rd.cons (e:=⟨bs,some e.b,some V,es⟩) GA (hr.mono fun x I=>Kx _ I),rfl⟩,hT▸l.only (.b (.b (.b (.a (ZiL _)))))⟩
 cases hc
def ZJ6{ct:O Nat}{fv:FV L}{m:GX}{l:U N}{WIN:Zkx L}{p:ChL}(A:fv.v=.func (.func m) #[] l.toArray)(y:(XX.fns.get m).isSome=true)(Q:∀wv q B,WIN wv q B->Qv wv=false)(hC:ZRa L w cf ct fv m l WIN p):ZjQ L w cf ct fv WIN (ZfD F p):=by intro h S b c t pa pc wv q B free taken r D E x I P C;obtain⟨e,V,⟨v,rfl,Gb,⟨X,W,h1,h2,T,rfl⟩,K⟩,G⟩:=ZE5 (F:=F) A y Q @hC D E x I P (C.perm List.perm_append_comm);refine⟨_,V,⟨v,rfl,_,⟨X,W,h1,h2,T,rfl⟩,?_⟩,G⟩;have s1:Sp L (JO (q++Wp L w cf ct fv free taken S)) h (Wp L w cf ct fv free taken S++q) h:=(Sp.start D C).perm List.perm_append_comm;have s2:=s1.call (ZiL _) K;rw[G8]at s2;exact s2.perm List.perm_append_comm
def Zm2(F:Nat)(h:U Y):Int×MB×U Y->(Int×MB×U Y->O (MB×U Y))->O (MB×U Y):=fun(i,m,l) next=>
 bif decide (i<(h.length:Int)) then(ZER F m).bind fun y=>(app 16 l [y.2]).bind fun z=>next (Xa (i+1),y.1,z) else some (m,l)
def Zfy(F:Nat):ChL:=fun l _ h _=>loop F (Zm2 F h) (0,l,[])
def fvC(L w h:Nat):FV L:=⟨.func (.func 134) #[] #[pV h],bx L h [pV w]⟩
def ZNE:(XX.fns.get 134).isSome=true:=Kq0
def ZJs{x A b:Nat}{taken:MB}{c:U NM}{V:O MB}{l:U Y}{pa:O Addr}{S:Nat}{wv:N}{r:MB×U Y}(ZA:L<=h.size)(X:Sl Zq L h pa S l)(t:Zfy F taken c l V=some r)(G:Z0 [wbA L w cf (some x) (fvC L w A),tkA L (some x) taken] h):
 WR XX 134 #[pV b,.slice pa l.length S,wv,pV A] L h (CP (fun v Gb=>∃(a:O Addr) (B:Nat),v=.slice a r.2.length B/\Gb=[Yp L (Yz Zq) (a,B) r.2,wbA L w cf (some x) (fvC L w A),tkA L (some x) r.1]) [wbA L w cf (some x) (fvC L w A),tkA L (some x) taken] h):=by
 refine WF.begin (args:=[_,_,_,_]) (fn:=f134) Kq0 Ve ntmps134 Vd ?_;simp[ZM,ZT,Nat.reduceAdd];obtain⟨T,hT,m⟩:∃T,T=JO [wbA L w cf (some x) (fvC L w A),tkA L (some x) taken]/\Sp L T h [wbA L w cf (some x) (fvC L w A),tkA L (some x) taken] h:=⟨_,rfl,Sp.start ZA G⟩;unfold Zfy at t;refine r16 ?_;refine r3 ?_;have m:=m.nil (e:=Zq);refine WC.loop (WL.lift t (fun(p:Int×MB×U Y)(s:Fs)=>match p with | (i,Q,D)=>∃(C:Fr) (I:H) (a:O Addr) (n B:Nat),s=⟨C,[],I,none⟩/\Sp L T h [ow L Zq a n B D,wbA L w cf (some x) (fvC L w A),tkA L (some x) Q] I/\C.at 3=pV A/\C.at 8=.slice a n B/\C.at 10= V4 (l.length:Int)/\C.at 11= V4 i) ⟨_,_,none,0,0,rfl,m.only (.a (.a (.a .n))),YF⟩ ?_);rintro Zai ⟨i,Q,D⟩ s Je t ⟨C,I,a,n,B,rfl,m,e3,e8,e10,e11⟩;obtain rfl:=m.on k0;refine r6 ?_;refine cn t ?_ ?_;.intro hc t;refine WC.skip<|YL.Yx<|WC.seq<|WC.block<|WC.region<|V8 (YA lk)<|V8 (Z4 Zc0 lk (At.box (m.get k1).2.1) (j:=0) rfl (v:=pV w) rfl) ?_;have⟨y,hy,t⟩:=bS t;refine V9 (Yc.f (Zb lk Zf)) m (.b (.b .n)) (fun g' W hf G=>ZPn (m.Vc W) G hy) ?_;rintro _ h1 _ ⟨rfl,rfl⟩ m;refine Va (Jg (e:=Zq) m Qc Qi Zar rfl rfl rfl (Zy lk ZN) rfl [((),y.2)] rfl (xs:=[y.2]) rfl (by intro q hq;exact trivial) rfl) ?_;rintro _ h37 ⟨bk,ebk,rfl,m⟩;have⟨z2,hz2,t⟩:=bS t;refine WO.hv gN rfl (Jd (e:=Zq) m k3 X5 lk lk (m.QA k0) (m.on k0) hz2) ?_;rintro _ h41 ⟨P,K,rfl,m⟩;refine V8 (Xb lk)<|WO.nil<|Xy.Yx<|YL.Yx<|r4 ?_;exact ZR.Yx (Je _ _ t ⟨_,_,P,z2.length,K,rfl,m.only (.a (.b (.b .n))),YF⟩)
 intro hc t;refine WC.exit<|YL.exit<|ZR.exit<|Xy.here<|YL.Yx<|WC.seq<|WC.region<|V8 (YA lk)<|V8 (Xb lk)<|WO.nil<|YL.Yx<|WC.fzn m k0 ?_;rintro h65 ⟨ZTL,m⟩;refine WC.ret ?_;have E:=Oi0 t;subst E;exact YG.QM rfl (ZB lk Zp) ⟨_,⟨a,B,rfl,rfl⟩,hT▸m.only (.a (.a (.a .n)))⟩
def ZJX{F L w cf l m:Nat}{WIN:Zkx L}:ZRa L w cf (some l) (fvC L w m) 134 [pV m] WIN (Zfy F):=by intro h S b c p pa G wv K E free taken r t I q _ B A;have s1:=Sp.start t A;obtain⟨e,C,⟨v,rfl,Gb,⟨a,D,h1,rfl⟩,y⟩,x⟩:=ZJs (b:=b) (wv:=wv) t q B (s1.ZcE (Ga:=[wbA L w cf (some l) (fvC L w m),tkA L (some l) taken]) (.a (.b .n)));refine⟨_,C,⟨v,rfl,_,⟨a,D,h1,rfl⟩,?_⟩,x⟩;have s2:=s1.call (Ga:=[wbA L w cf (some l) (fvC L w m),tkA L (some l) taken]) (.a (.b .n)) y;exact s2.only (.a (.a (.b (.a (.a (ZiL _))))))
instance:Kj XX.P 107 (.pointer none):=⟨Kq0⟩
instance:SzF XX.P 107 1:=⟨Kq0⟩
instance:SzF XX.P 108 1:=⟨Kq0⟩
def ZwE(F:Nat)(t:Term):O Term:=(ZEU F t).bind fun m=>((Zm4 F (ZfD F (Zfy F)) (fun _ _=>none) (fun _=>none) (([],m),[[]],t)).bind okP).map fun r=>r.2
def ZwD{t:Term}{B y q:O Addr}{E D C:Nat}{r:Term}(ZA:L<=h.size)(K:Sl Zg L h B E t.args)(I:Sl Zc L h y D t.qK)(G:Sl Zw L h q C t.qQ)(S:ZwE F t=some r):
 WR XX 92 #[.agg (q1W t B E y D q C).toArray] L h (CP (fun v Gb=>∃(ZL:O Addr) (ZK:Nat) (QI:O Addr) (QH:Nat) (Q6:O Addr) (Q5:Nat),v=.agg (q1W r ZL ZK QI QH Q6 Q5).toArray/\Gb=[Yp L (Yz Zg) (ZL,ZK) r.args,Yp L (Yz Zc) (QI,QH) r.qK,Yp L (Yz Zw) (Q6,Q5) r.qQ]) [] h):=by
 have hF:Zw.F L h ((B,E),(y,D),(q,C)) t:=XR.2 ⟨K,I,G⟩;unfold ZwE at S;have⟨m,hm,S⟩:=bS S;obtain⟨Q,hr',rfl⟩:=Zlv S;refine bg ntmps92 ZA Z0.nil ?_;intro T hT l;refine r3 ?_;rintro _ h3 ⟨b1,eb1,rfl,l⟩;refine r1 ?_;rintro _ h2 ⟨b2,eb2,rfl,l⟩;refine r4 ?_;refine V8 (Yb Q8 YB lk (l.Ug k1) (j:=0) rfl rfl (ws:=(q1W t B E y D q C)) rfl)<|V9 (Yc.f (Zb lk Zf)) l .n (fun g' hz P hO=>ZPq (l.Vc hz) ((l.sl K).mono P) ((l.sl I).mono P) ((l.sl G).mono P) hm) ?_;rintro _ h5 _ ⟨cm,rfl,rfl⟩ l;refine V8 (XG ZFL (Zy lk ZN) rfl (cs':=[.map none,.map (some cm),.nilFunc]) rfl)<|r1 ?_;rintro _ h4 ⟨bw,ebw,rfl,l⟩;refine r1 ?_;rintro _ h6 ⟨b3,eb3,rfl,l⟩;refine r1 ?_;rintro h7 l;refine r4 ?_;refine r1 ?_;refine V8 (Zbh (Zb lk Zf))<|r2 ?_;refine r1 ?_;rintro h8 l;refine r4 ?_;refine r1 ?_;refine V8 (Yb Q8 YB lk (l.Ug k4) (j:=0) rfl rfl (ws:=Uc ((B,E),(y,D),(q,C)) t) rfl)<|WO.ks l k2 ?_;rintro h12 l;have l:=l.add (A:=esA L []) (fun x hx=>by cases hx) (fun _ z=>z);have l:=l.add (A:=mp L Value.string vvE none []) Zr2.nil (fun i z=>by cases z);refine V9 (Yc.f (Zb lk (Zb lk (Zb (KP rfl) Zf)))) l (.e (.e (.d (.a (.a .n))))) (fun g' hz P hO=>PQ.ok (ZEQ (F:=F) (w:=bw) (fv:=fvC L bw b3) (WIN:=fun wv _ _=>Qv wv=false) (YC:=ZfD F (Zfy F)) (rlL:=fun _ _=>none) (frL:=fun _=>none) (fun cf=>ZJ6 rfl ZNE (fun _ _ _ z=>z) (@ZJX F L bw cf cm b3 _)) (fun _ _ _ _ _ _ _=>rfl) (fun _ _ _=>rfl) (p:=((B,E),(y,D),(q,C))) (es:=[]) (l.Vc hz) (Zw.mono P (Zw.mono l.fz hF)) hO hr')) ?_;rintro _ h9 _ ⟨cf,S1,⟨⟨X,c0⟩,⟨W,c1⟩,⟨V,c2⟩⟩,rfl,rfl⟩ l;refine r1 ?_;rintro h10 l;refine r3 ?_;have hq:=XR.1 (l.get k1);have l:=l.add (A:=Yp L (Yz Zw) (V,c2) Q.2.qQ) hq.2.2 (fun _ z=>z);have l:=l.add (A:=Yp L (Yz Zc) (W,c1) Q.2.qK) hq.2.1 (fun _ z=>z);have l:=l.add (A:=Yp L (Yz Zg) (X,c0) Q.2.args) hq.1 (fun _ z=>z);exact YG.QM rfl (YE YF (Xc Q8 YB (l.Ug k3) (j:=0) rfl rfl (ws:=Uc ((X,c0),(W,c1),(V,c2)) Q.2) rfl) Zp) ⟨_,⟨X,c0,W,c1,V,c2,rfl,rfl⟩,hT▸l.only (.a (.a (.a .n)))⟩
def ZE3(F:Nat)(I:Term):O (Term×Int):=
 (Zq6 F I).bind fun h=>(bif(h !=0) then some ((Term.mk 0 (⟨#[]⟩:Y) [] [] []),h) else(ZwE F I).bind fun l=>some (l,0))
def ZPH{F L h}{I:Term}{Ze Zd Zl Zk Zt Zr}{r}(ZA:L<=h.size)(G:Sl Zg L h Ze Zd I.args)(E:Sl Zc L h Zl Zk I.qK)(Q:Sl Zw L h Zt Zr I.qQ)(m:ZE3 F I=some r):
 WR XX 43 #[.agg (q1W I Ze Zd Zl Zk Zt Zr).toArray] L h (CP (fun v Gb=>∃K P S V W X,v=.tuple #[.agg (q1W r.1 K P S V W X).toArray,V4 r.2]/\Gb=[Yp L (Yz Zg) (K,P) r.1.args,Yp L (Yz Zc) (S,V) r.1.qK,Yp L (Yz Zw) (W,X) r.1.qQ]) [] h):=by
 refine bg ntmps43 ZA Z0.nil ?_;intro T D l;unfold ZE3 at m;refine r3 ?_;rintro _ h2 ⟨b1,eb1,rfl,l⟩;refine r1 ?_;rintro _ h4 ⟨b3,eb3,rfl,l⟩;refine r7 ?_;have⟨x5,hx5,m⟩:=bS m;refine WO.cp gN rfl (Yc.f (Zb lk Zf)) (ZwL (l.WI G) (l.WI E) (l.WI Q) hx5)<|r9 ?_;refine cn m ?_ ?_;.intro hc m;refine r2 ?_;refine V8 (XG ZuR ZN rfl (cs':=[V4 0,.string (⟨#[]⟩:Y),V3,V3,V3]) rfl)<|r2 ?_;rintro h6 l;refine r5 ?_;have l:=l.add (A:=Yp L (Yz Zg) (none,0) []) Sl.nil (fun _ z=>z);have l:=l.add (A:=Yp L (Yz Zc) (none,0) []) Sl.nil (fun _ z=>z);have l:=l.add (A:=Yp L (Yz Zw) (none,0) []) Sl.nil (fun _ z=>z);obtain rfl:=Oi0 m;exact YG.gen (vs:=[.agg #[V4 0,.string (⟨#[]⟩:Y),V3,V3,V3],V4 x5]) rfl (YE (Xe rfl (Zm rfl fh)) (Xc Q8 YB (l.Ug k3) (j:=0) rfl rfl (ws:=[V4 0,.string (⟨#[]⟩:Y),V3,V3,V3]) rfl) (ZB lk Zp)) rfl ⟨_,⟨none,0,none,0,none,0,rfl,rfl⟩,D▸l.only (.d (.b (.a .n)))⟩
 intro hc m;refine r5 ?_;have⟨x7,hx7,m⟩:=bS m;refine V9 (Yc.f (Zb lk Zf)) l .n (fun g' hz B hO=>ZwD (l.Vc hz) ((l.sl G).mono B) ((l.sl E).mono B) ((l.sl Q).mono B) hx7) ?_;rintro _ h17 _ ⟨C,t,y,q,x,p,rfl,rfl⟩ l;refine r1 ?_;rintro h19 l;refine r4 ?_;obtain rfl:=Oi0 m;exact YG.gen (vs:=[.agg (q1W x7 C t y q x p).toArray,V4 0]) rfl (YE (Xe rfl (Zm rfl fh)) (Xc Q8 YB (l.Ug k0) (j:=0) rfl rfl (ws:=(q1W x7 C t y q x p)) rfl) (ZB lk Zp)) rfl ⟨_,⟨C,t,y,q,x,p,rfl,rfl⟩,D▸l.only (.b (.b (.b .n)))⟩
def ZhL(F:Nat)(I:Walk)(p1:Change)(h:Y):O (Walk×Y):=
 (bif decide (h=(⟨#[]⟩:Y)) then some (I,h) else(Zuc F p1 h).bind fun l=>some ((Walk.mk I.mode I.x I.free I.taken (I.bad||(!l.2))),l.1))
def Zrf{F L h}{I:Walk}{p1:Change}{p:Y}{Ze Zd Zl Zk Y4 Q9 Zn Zo Z6 Z5}{r}(S:L<=h.size)(t:Sl Zq L h Ze Zd I.free)(Q:Sl Zq L h Zn Zo p1.from_)(V:Sl Zg L h Z6 Z5 p1.JP)(K:Z0 (L:=L) [bx L Q9 [V4 I.mode,.string I.x,.slice Ze I.free.length Zd,.slice Zl Y4 Zk,.bool I.bad],ow L Zq Zl Y4 Zk I.taken] h)(m:ZhL F I p1 p=some r):
 WR XX 120 #[(V5 Q9),.agg #[.slice Zn p1.from_.length Zo,.slice Z6 p1.JP.length Z5],.string p] L h (CP (fun v Gb=>∃y C B E D,v=.string r.2/\Gb=[bx L Q9 [V4 r.1.mode,.string r.1.x,.slice y r.1.free.length C,.slice B E D,.bool r.1.bad],Yp L (Yz Zq) (y,C) r.1.free,ow L Zq B E D r.1.taken]) [bx L Q9 [V4 I.mode,.string I.x,.slice Ze I.free.length Zd,.slice Zl Y4 Zk,.bool I.bad],ow L Zq Zl Y4 Zk I.taken] h):=by
 refine bg ntmps120 S K ?_;intro T q l;unfold ZhL at m;obtain rfl:=l.on k1;refine r3 ?_;rintro _ h2 ⟨X,P,rfl,l⟩;refine r7 ?_;refine V8 (Xg (ZC fh rfl) (KP rfl) QD)<|r2 ?_;refine cn m ?_ ?_;.intro G m;refine r8 ?_;have l:=l.add (A:=Yp L (Yz Zq) (Ze,Zd) I.free) (l.sl t) (fun _ z=>z);obtain rfl:=Oi0 m;exact YG.QM rfl (ZB lk Zp) ⟨_,⟨Ze,Zd,Zl,I.taken.length,Zk,rfl,rfl⟩,q▸l.only (.d (.a (.b .n)))⟩
 intro G m;refine r6 ?_;have⟨x3,hx3,m⟩:=bS m;refine WO.cp gN rfl (Yc.f (Zb lk (Zb lk Zf))) (ZJn (l.WI Q) (l.WI V) hx3)<|r16 ?_;refine r5 ?_;rintro W l;refine r9 ?_;have l:=l.add (A:=Yp L (Yz Zq) (Ze,Zd) I.free) (l.sl t) (fun _ z=>z);obtain rfl:=Oi0 m;exact YG.QM rfl (ZB lk Zp) ⟨_,⟨Ze,Zd,Zl,I.taken.length,Zk,rfl,rfl⟩,q▸l.only (.b (.a (.b .n)))⟩
def Zbz(q:(U Y))(p:Int)(Zcw:((U Y)×Int×(U Y)->O (Walk×(U Y)))):Y×(U Y)->O (Walk×(U Y)):=fun(m,l)=>
 (app 16 q [m]).bind fun h=>Zcw (h,Xa (p+1),l)
def ZhJ(F:Nat)(I:Walk)(p1:(U Y))(y:Z):Lp ((U Y)×Int×(U Y)) (Walk×(U Y)):=fun(t,l,h) Zcw=>
 (bif decide (l<(p1.length:Int)) then(Z7 p1 l).bind fun p=>(gd ((!(I.mode==2))&&((I.mode==1)&&y)) (ZbM F I.free p) default).bind fun r=>(bif((I.mode==2)||(((I.mode==1)&&y)&&r)) then(ZAK F h).bind fun m=>(app 16 h [m]).bind fun q=>(Zbz t l Zcw) (m,q) else(Zbz t l Zcw) (p,h)) else some ((Walk.mk I.mode I.x I.free h I.bad),t))
def Zaw(F:Nat)(I:Walk)(p1:(U Y))(h:Z):O (Walk×(U Y)):=
 loop F (ZhJ F I p1 h) ([],0,I.taken)
def Zrd{F L h}{I:Walk}{p1:(U Y)}{p2:Z}{Ze Zd Zl Zk Y4 Q9 Zn Zo}{r}(ZA:L<=h.size)(Zj:Sl Zq L h Ze Zd I.free)(Zv:Sl Zq L h Zn Zo p1)(hO:Z0 (L:=L) [bx L Q9 [V4 I.mode,.string I.x,.slice Ze I.free.length Zd,.slice Zl Y4 Zk,.bool I.bad],ow L Zq Zl Y4 Zk I.taken] h)(m:Zaw F I p1 p2=some r):
 WR XX 122 #[(V5 Q9),.slice Zn p1.length Zo,.bool p2] L h (CP (fun v Gb=>∃Xx Xv Xw Xt Xu ZL Y3 ZK,v=.slice ZL Y3 ZK/\Gb=[bx L Q9 [V4 r.1.mode,.string r.1.x,.slice Xx r.1.free.length Xv,.slice Xw Xt Xu,.bool r.1.bad],Yp L (Yz Zq) (Xx,Xv) r.1.free,ow L Zq Xw Xt Xu r.1.taken,ow L Zq ZL Y3 ZK r.2]) [bx L Q9 [V4 I.mode,.string I.x,.slice Ze I.free.length Zd,.slice Zl Y4 Zk,.bool I.bad],ow L Zq Zl Y4 Zk I.taken] h):=by
 refine bg ntmps122 ZA hO ?_;intro T hT l;unfold Zaw at m;obtain rfl:=l.on k1;refine r16 ?_;refine r1 ?_;have l:=l.nil (e:=Zq);refine WC.loop (WL.lift m (fun p s=>match p with | (P,E,D)=>∃X h1 a7 c8 n9 y t V,s=⟨X,[],h1,none⟩/\Sp L T h [ow L Zq a7 n9 c8 P,ow L Zq y V t D,bx L Q9 [V4 I.mode,.string I.x,.slice Ze I.free.length Zd,.slice y V t,.bool I.bad]] h1/\X.at 0=(V5 Q9)/\X.at 1=.slice Zn p1.length Zo/\X.at 2=.bool p2/\X.at 7=.slice a7 n9 c8/\X.at 8= V4 E) ⟨_,_,none,0,0,Zl,Zk,I.taken.length,rfl,l.only (.a (.b (.a .n))),YF⟩ ?_);rintro Zcw ⟨P,E,D⟩ s ZqK m ⟨X,h1,a7,c8,n9,y,t,V,rfl,l,e3,e4,e5,e10,e12⟩;obtain rfl:=l.on k0;obtain rfl:=l.on k1;refine r9 ?_;refine cn m ?_ ?_
 .intro hc m;refine r8 ?_;have⟨x18,UR,m⟩:=bS m;have⟨b19,o20,_,Zca,Zcd,Zcc,UM⟩:=Sl.at_ Zv UR;refine V8 (ZF Qc Qi lk lk rfl Zca UR)<|V8 (Z4 UA (ZC fh rfl) (At.fz l.fz Zcc Zcd) (j:=0) rfl (v:=.string x18) rfl)<|r3 ?_;refine WC.KV (r:=r) (fun(p:Y×(U Y)) s=>match p with | (C,Q)=>∃Zho W K G S,s=⟨Zho,[],W,none⟩/\Sp L T h [ow L Zq K S G Q,bx L Q9 [V4 I.mode,.string I.x,.slice Ze I.free.length Zd,.slice K S G,.bool I.bad],ow L Zq a7 P.length c8 P] W/\Zho.at 0=(V5 Q9)/\Zho.at 1=.slice Zn p1.length Zo/\Zho.at 2=.bool p2/\Zho.at 7=.slice a7 P.length c8/\Zho.at 8= V4 E/\Zho.at 9=.string C) (Zbz P E Zcw) ?_ ?_;.rintro⟨C,Q⟩ s m ⟨Zho,W,K,G,S,rfl,l,e23,e24,e25,e26,e27,e29⟩;obtain rfl:=l.on k0;refine r3 ?_;refine Va (Jg (e:=Zq) l Qc Qi Zar rfl rfl rfl (Zy lk ZN) rfl [((),C)] rfl (xs:=[C]) rfl (by intro q hq;simp[Ks,Q2,or_false]at hq;subst hq;exact trivial) rfl) ?_;rintro _ h35 ⟨b34,ZVJ,rfl,l⟩;have⟨z36,ZYl,m⟩:=bS m;refine WO.hv gN rfl (Jd (e:=Zq) l k3 X5 lk lk (l.QA k0) (l.on k0) ZYl) ?_;rintro _ h39 ⟨a37,c38,rfl,l⟩;refine r9 ?_;exact ZR.Yx (ZqK _ _ m ⟨_,_,a37,c38,z36.length,K,G,Q.length,rfl,l.only (.a (.b (.b .n))),YF⟩)
  skip;refine r15 ?_;refine WO.gv (Zh.no rfl rfl rfl (Ym rfl (Yd rfl (Zm rfl fh)))) rfl (fun B=>(Zbi (Xz (Zm rfl fh) rfl B) (Zbf fh B) lk))<|r6 ?_;have⟨x40,ZAu,m⟩:=YS m;refine WO.gcp (Zh.ZGT rfl rfl rfl (Ym rfl (Zm rfl fh))) rfl (fun B=>(Yc.f (Zb (Xz (Zm rfl fh) rfl B) (Zb (Xz fh rfl B) Zf)))) (fun B=>Zal (l.WI Zj) (ZAu B))<|WO.gv (Zh.no rfl rfl rfl (Xe rfl (Ym rfl (Yd rfl (Zm rfl fh))))) rfl (fun B=>(Zbi (Xz (Ym rfl (Yd rfl fh)) rfl B) (Zbf fh B) lk))<|r3 ?_;refine cn m ?_ ?_;.intro hc m;refine r6 ?_;have⟨x41,ZqD,m⟩:=bS m;refine WO.cp gN rfl (Yc.f (Zb lk Zf)) (ZPV (l.ord k1) ZqD)<|r10 ?_;refine Va (Jg (e:=Zq) l Qc Qi Zar rfl rfl rfl (Zy lk ZN) rfl [((),x41)] rfl (xs:=[x41]) rfl (by intro q hq;simp[Ks,Q2,or_false]at hq;subst hq;exact trivial) rfl) ?_;rintro _ h43 ⟨b42,Z6A,rfl,l⟩;have⟨z44,ZYi,m⟩:=bS m;refine WO.hv gN rfl (Jd (e:=Zq) l k2 X5 lk lk (l.QA k0) (l.on k0) ZYi) ?_;rintro _ h47 ⟨a45,c46,rfl,l⟩;refine r3 ?_;rintro h48 l;refine r1 ?_;exact YV.Yx _ m ⟨_,_,a45,c46,z44.length,rfl,l.only (.b (.a (.b .n))),YF⟩
  intro hc m;refine r1 ?_;exact YV.Yx _ m ⟨_,_,y,t,D.length,rfl,l.only (.b (.b (.a .n))),YF⟩
 intro hc m;refine r12 ?_;have l:=l.add (A:=Yp L (Yz Zq) (Ze,Zd) I.free) (l.sl Zj) (fun _ z=>z);obtain rfl:=Oi0 m;exact YG.QM rfl (ZB lk Zp) ⟨_,⟨Ze,Zd,y,D.length,t,a7,P.length,c8,rfl,rfl⟩,hT▸l.only (.e (.a (.b (.a .n))))⟩
end Go.Proofs.YtbnepjakjmnadaaGreat
end
end
section
noncomputable section
namespace Go.Z9
open Go.Lf
variable{P:GW}
end Go.Z9
end
end
section
noncomputable section
namespace Go.Proofs.YtbnepjakjmnadaaGreat
open Go.Proofs.Tryz Go.Z9 Go.Lf
def ZAI(F:Nat)(I:Term):O Z:=
 (Zt8 F I (Term.mk 0 (⟨#[]⟩:Y) [] [] [])).bind fun h=>some h
def ZPN{F L:Nat}{h:H}{I:Term}{y:O Addr}{A:Nat}{t:O Addr}{x:Nat}{p:O Addr}{q:Nat}{r:Z}(K:L<=h.size)(E:Sl Zg L h y A I.args)(D:Sl Zc L h t x I.qK)(G:Sl Zw L h p q I.qQ)(m:ZAI F I=some r):
 WR XX 35 #[.agg (q1W I y A t x p q).toArray] L h (CP (fun v (Gb:U (Ast L))=>v=.bool r/\Gb=[]) [] h):=by
 refine WF.begin (args:=[_]) (fn:=f35) Kq0 Ve ntmps35 Vd ?_;simp[ZM,ZT,Nat.reduceAdd];obtain⟨T,B,l⟩:∃T,T=JO (L:=L) []/\Sp L T h [] h:=⟨_,rfl,Sp.start K Z0.nil⟩;unfold ZAI at m;refine WC.seq<|WC.region<|Va (Zsu l (ZC fh rfl) (vs:=(q1W I y A t x p q)) rfl) ?_;rintro _ h2 ⟨P,C,rfl,l⟩;refine V8 (Xb (KP rfl))<|WO.nil<|YL.Yx<|WC.seq<|WC.region<|V8 (Yb Q8 YB (ZC (Zm rfl fh) rfl) (l.Ug k0) (j:=0) rfl rfl (ws:=(q1W I y A t x p q)) rfl)<|V8 (XG ZuR ZN rfl (cs':=[V4 0,.string (⟨#[]⟩:Y),V3,V3,V3]) rfl) ?_;have⟨x3,hx3,m⟩:=bS m;refine WO.cp gN rfl (Yc.f (Zb (ZC (Zm rfl fh) rfl) (Zb (ZC fh rfl) Zf))) (ZwJ (p1:=(Term.mk 0 (⟨#[]⟩:Y) [] [] [])) (l.WI E) (l.WI D) (l.WI G) Sl.nil Sl.nil Sl.nil hx3)<|V8 (Xb (ZC fh rfl))<|WO.nil<|YL.Yx<|WC.ret ?_;obtain rfl:=Oi0 m;exact YG.QM rfl (ZB (ZC fh rfl) Zp) ⟨_,⟨rfl,rfl⟩,B▸l.only .n⟩
def ZPO{F:Nat}{h:H}{I:Term}{t:O Addr}{x:Nat}{p:O Addr}{q:Nat}{l:O Addr}{m:Nat}{r:Z}(B:Sl Zg h.size h t x I.args)(A:Sl Zc h.size h p q I.qK)(C:Sl Zw h.size h l m I.qQ)(y:ZAI F I=some r):Pure XX 35 #[.agg (q1W I t x p q l m).toArray] h (.bool r):=
 WR.JE rfl (ZPN V7 B A C y)
def Zfz(F:Nat)(I:Walk)(p1:Change):O Z:=
 (bif((I.mode==1)&&(decide ((p1.from_.length:Int)>0))) then(slL p1.from_ 1 p1.from_.length).bind fun h=>(ZbM F h I.x).bind fun l=>some (!l) else some false)
def ZJv{F L h}{I:Walk}{p1:Change}{Ze Zd Zl Zk Q9 po0 Zn Zo Z6 Z5}{r}(B:L<=h.size)(ZIp:At h Q9 po0 [V4 I.mode,.string I.x,.slice Ze I.free.length Zd,.slice Zl I.taken.length Zk,.bool I.bad])(ZIo:Stb L h Q9)(K:Sl Zq L h Ze Zd I.free)(G:Sl Zq L h Zl Zk I.taken)(y:Sl Zq L h Zn Zo p1.from_)(ZUz:Zo % 2=0)(P:Sl Zg L h Z6 Z5 p1.JP)(m:Zfz F I p1=some r):
 WR XX 123 #[.pointer (some ⟨Q9,po0,none⟩),.agg #[.slice Zn p1.from_.length Zo,.slice Z6 p1.JP.length Z5]] L h (CP (fun v (Gb:U (Ast L))=>v=.bool r/\Gb=[]) [] h):=by
 refine bg ntmps123 B Z0.nil ?_;intro T t p;unfold Zfz at m;refine r3 ?_;rintro _ h2 ⟨D,A,rfl,p⟩;refine r4 ?_;refine WC.XJ mixed Kq0<|r3 ?_;refine Vb (Z4 ZKi (ZC fh rfl) (At.fz p.fz ZIo ZIp) (j:=0) rfl (v:= V4 I.mode) rfl)<|r10 ?_;refine WX.Wl (Zh.yes rfl rfl rfl (Yd rfl fh)) (fun l=>?_) (fun l=>?_);.replace m:=Qf l m;have⟨z4,hz4,m⟩:=bS m;refine WX.he (Zh.on (Zh.yes rfl rfl rfl (Yd rfl fh)) l) rfl (ZMV (p.sl y) ZUz rfl Qc Qi (Xz fh rfl l) (KP rfl) hz4) ?_ rfl;rintro _ ⟨E,C,rfl,q⟩;have ZYG:=q.sl y;refine WX.w (Zh.on (Zh.yes rfl rfl rfl (Yd rfl (Zm rfl fh))) l) rfl (YA lk) ?_ rfl;refine WX.w (Zh.on (Zh.yes rfl rfl rfl (Ym rfl fh)) l) rfl (Zap lk) ?_ rfl;refine WX.w (Zh.on (Zh.yes rfl rfl rfl (Ym rfl (Zm rfl fh))) l) rfl (Y9 Zhs lk) ?_ rfl;refine WX.w (Zh.on (Zh.yes rfl rfl rfl (Ym rfl (Yd rfl fh))) l) rfl (Z4 UA (ZC fh rfl) (At.fz p.fz ZIo ZIp) (j:=1) rfl (v:=.string I.x) rfl) ?_ rfl;have⟨x8,hx8,m⟩:=bS m;refine WX.cp (Zh.on (Zh.yes rfl rfl rfl (Ym rfl (Yd rfl (Zm rfl fh)))) l) rfl (Yc.f (Zb lk (Zb lk Zf))) (Zal (p.WI ZYG) hx8) ?_ rfl rfl;refine WX.w (Zh.on (Zh.yes rfl rfl rfl (Xe rfl fh)) l) rfl (ZgC lk) ?_ rfl;refine Vb (Kh lk l lk)<|r4 ?_;exact rt m t p
 replace m:=Qg l m;refine WX.Ql (Zh.yes rfl rfl rfl (Yd rfl fh)) l rfl ?_ rfl;refine WX.Ql (Zh.yes rfl rfl rfl (Yd rfl (Zm rfl fh))) l rfl ?_ rfl;refine WX.Ql (Zh.yes rfl rfl rfl (Ym rfl fh)) l rfl ?_ rfl;refine WX.Ql (Zh.yes rfl rfl rfl (Ym rfl (Zm rfl fh))) l rfl ?_ rfl;refine WX.Ql (Zh.yes rfl rfl rfl (Ym rfl (Yd rfl fh))) l rfl ?_ rfl;refine WX.Ql (Zh.yes rfl rfl rfl (Ym rfl (Yd rfl (Zm rfl fh)))) l rfl ?_ rfl;refine WX.Ql (Zh.yes rfl rfl rfl (Xe rfl fh)) l rfl ?_ rfl;refine Vb (Uf lk l lk)<|r4 ?_;exact rt m t p
end Go.Proofs.YtbnepjakjmnadaaGreat
end
end
noncomputable section
namespace Go.Z9
open Go.Lf
variable{X:Ctx}
def YW.fzS{f:GX}{args:GZ N}{L:Nat}{h t h2:H}{e:Kn}(a:FzS L t h2)(j:YW X (.call f args L h) (.fin e t)):YW X (.call f args L h) (.fin e h2):=by
 induction a with|refl _=>exact j|step hw q _ ih=>
   refine ih fun ρ l w x r hv=>(j ρ l w x r hv).mono ?_;rintro A w' ⟨m,h1,h2,y⟩;exact⟨m,h1,h2.freeze q,Stp.trans (fun i p e=>(r.dom i p.1 p.2 e).1) y ((Stp.refl L m _ w').freeze hw q)⟩
def WR.fzR{f:GX}{args:GZ N}{L:Nat}{h:H}{Ga:U (Ast L)}{K K':N->U (Ast L)->Prop}(w:WR X f args L h (CP K Ga h))
 (t:∀v Gb,K v Gb->∃(l:Type) (e:WG l) (a:O Addr) (m c:Nat) (xs:U l) (Gr:U (Ast L)),Pk Gb (ow L e a m c xs) Gr/\(m=xs.length->K' v (Yp L (Yz e) (a,c) xs::Gr))):WR X f args L h (CP K' Ga h):=by
 obtain⟨e,x,⟨v,rfl,Gb,q,p⟩,r⟩:=w;have⟨l,e,a,m,c,xs,Gr,pk,hk'⟩:=t v Gb q;have⟨h2,f,u,s⟩:=Ko.fzs (p.get pk).2;have⟨hn,hS2⟩:=ZEp p pk u s;exact⟨_,h2,⟨v,rfl,_,hk' hn,hS2⟩,r.fzS f⟩
end Go.Z9
end
noncomputable section
namespace Go.Proofs.YtbnepjakjmnadaaGreat
open Go.Proofs.Tryz Go.Z9 Go.Lf
def Zuf{F L h}{I:Walk}{p1:(U Y)}{Q:Z}{Ze Zd Zl Zk Y4 Q9 Zn Zo}{r}(ZA:L<=h.size)(Zj:Sl Zq L h Ze Zd I.free)(Zv:Sl Zq L h Zn Zo p1)(V:Z0 (L:=L) [bx L Q9 [V4 I.mode,.string I.x,.slice Ze I.free.length Zd,.slice Zl Y4 Zk,.bool I.bad],ow L Zq Zl Y4 Zk I.taken] h)(W:Zaw F I p1 Q=some r):
 WR XX 122 #[(V5 Q9),.slice Zn p1.length Zo,.bool Q] L h (CP (fun v Gb=>∃p t q A y l m,v=.slice l r.2.length m/\Gb=[bx L Q9 [V4 r.1.mode,.string r.1.x,.slice p r.1.free.length t,.slice q A y,.bool r.1.bad],Yp L (Yz Zq) (p,t) r.1.free,ow L Zq q A y r.1.taken,Yp L (Yz Zq) (l,m) r.2]) [bx L Q9 [V4 I.mode,.string I.x,.slice Ze I.free.length Zd,.slice Zl Y4 Zk,.bool I.bad],ow L Zq Zl Y4 Zk I.taken] h):=by
 have w:=WR.fzR (K':=fun v Gb=>∃p t q A y l m,v=.slice l r.2.length m/\Gb=[Yp L (Yz Zq) (l,m) r.2,bx L Q9 [V4 r.1.mode,.string r.1.x,.slice p r.1.free.length t,.slice q A y,.bool r.1.bad],Yp L (Yz Zq) (p,t) r.1.free,ow L Zq q A y r.1.taken]) (Zrd ZA Zj Zv V W) (by
  rintro v Gb ⟨P,E,K,B,D,G,n3,C,rfl,rfl⟩;exact⟨_,_,_,_,_,_,_,k3,fun e=>⟨P,E,K,B,D,G,C,by rw[e],rfl⟩⟩)
 obtain⟨e,X,⟨v,rfl,Gb,⟨P,E,K,B,D,G,C,rfl,rfl⟩,T⟩,S⟩:=w;exact⟨_,X,⟨_,rfl,_,⟨P,E,K,B,D,G,C,rfl,rfl⟩,T.only (.b (.b (.b (.a .n))))⟩,S⟩
end Go.Proofs.YtbnepjakjmnadaaGreat
end
noncomputable section
namespace Go.Z9
open Go.Lf
def VR.ZJJ{ρ:Ren}{a:O Addr}{n c:Nat}{v:N}(h:VR ρ (.slice a n c) v):∃l,l % 2=0/\c / 2<=l / 2/\(Zes a c->Zes a l)/\VR ρ (.slice a n l) v:=by
 cases h with
 | Zad=>exact⟨0,rfl,K2 _,id,.Zad⟩
 | slice o _ _ c' m p=>
   refine⟨2*c',by omega,?_,fun _=>.inr (.inr ⟨_,_,rfl⟩),.slice o _ _ c' m ⟨p.1,?_⟩⟩;.have:=p.2;split at this<;>omega
   rw[if_pos V6];omega
 | QX o q _ m p=>exact⟨0,rfl,by omega,fun _=>.inr (.inr ⟨_,_,rfl⟩),.QX o q 0 m (Gq _)⟩
 | U8 a=>exact⟨0,rfl,K2 _,id,.U8 a⟩
def Sl.cap2{m:Type}{e:WG m}{L:Nat}{h:H}{a:O Addr}{c l:Nat}{xs:U m}(s:Sl e L h a c xs)(p:c / 2<=l / 2)(hn:Zes a c->Zes a l):Sl e L h a l xs:=⟨s.max,KK s.cap p,hn s.nl,s.mem⟩
end Go.Z9
end
section
noncomputable section
namespace Go.Proofs.YtbnepjakjmnadaaGreat
open Go.Proofs.Tryz Go.Z9 Go.Lf
variable{F L:Nat}{I p1:Term}
def Zue{h:H}{I:Walk}{p1:Change}{Ze:O Addr}{Zd:Nat}{W:O Addr}{X Q p:Nat}{D:O Addr}{V:Nat}{K:O Addr}{P:Nat}{r:Z}(ZIp:At h Q p [V4 I.mode,.string I.x,.slice Ze I.free.length Zd,.slice W I.taken.length X,.bool I.bad])(ZIo:Stb h.size h Q)(Zj:Sl Zq h.size h Ze Zd I.free)(Zx:Sl Zq h.size h W X I.taken)(Zv:Sl Zq h.size h D V p1.from_)(Yg:Sl Zg h.size h K P p1.JP)(hL:Zfz F I p1=some r):Pure XX 123 #[.pointer (some ⟨Q,p,none⟩),.agg #[.slice D p1.from_.length V,.slice K p1.JP.length P]] h (.bool r):=by
 intro L ρ l w hl hR hv;have⟨hs,hv⟩:=hv;have hs':l.size=2:=hs.symm;obtain⟨v1,A⟩:∃v1,l[1]? =some v1:=⟨l[1],Gn V6⟩
 have q:=hv 1 _ v1 rfl A;cases q with|agg _ m T S=>
   obtain⟨y,t⟩:∃y,m[0]? =some y:=⟨m[0]'(by rw[<-T];exact Nat.zero_lt_succ 1),Gn _⟩;have⟨c2,h1,h2,h3,h4⟩:=(S 0 _ y rfl t).ZJJ;refine WR.JE rfl (ZJv V7 ZIp ZIo Zj Zx (Zv.cap2 h2 h3) h1 Yg hL) L ρ l w hl hR ⟨hs,fun i v v' B E=>?_⟩;match i with
   | 0=>exact hv 0 v v' B E
   | 1=>
     rw[A]at E;cases E;have B:Value.agg #[.slice D p1.from_.length c2,.slice K p1.JP.length P]=v:=Oi0 B;subst B;refine .agg _ _ T fun j u u' C G=>?_;match j with
     | 0=>
       rw[t]at G;cases G;have C:Value.slice D p1.from_.length c2=u:=Oi0 C;subst C;exact h4
     | 1=>exact S 1 u u' C G
     | k+2=>exact absurd C Vd
   | k+2=>exact absurd B Vd
def ZcK(F:Nat)(p1:Change)(p:Za)(A:((Walk×Change×Term)->O (Walk×Term)))(y:((Walk×Change×Za)->O (Walk×Za)))(q:(Walk×Y))(B:(U Y))(t:(U Y))(r:(U ZU)):Lp (Int×Int×Y×(U Y)×(U Y)×Z×(U Za)) (Walk×Za):=fun(ZzS,m,l,ZzR,ZaB,h,Zse) Zya=>
 (bif decide (ZzS<(p.qK.length:Int)) then(Z7 p.qK ZzS).bind fun ZnZ=>(y ((Walk.mk m l ZzR ZaB h),p1,ZnZ)).bind fun ZnY=>(app 96 Zse [ZnY.2]).bind fun ZBH=>Zya (Xa (ZzS+1),ZnY.1.mode,ZnY.1.x,ZnY.1.free,ZnY.1.taken,ZnY.1.bad,ZBH) else(Zcf F p1 B t).bind fun ZRQ=>(Z7 p.qQ 0).bind fun ZnV=>(A ((Walk.mk m l ZzR ZaB h),ZRQ,ZnV)).bind fun ZzI=>(app 96 ([]:U Term) [ZzI.2]).bind fun ZBF=>some (ZzI.1,(Za.mk p.qV q.2 r Zse ZBF)))
def ZeZ(F:Nat)(p1:Change)(D:Za)(L:((Walk×Change×Term)->O (Walk×Term)))(K:((Walk×Change×Za)->O (Walk×Za)))(I:(Walk×Y))(P:(U Y))(C:(U Y)):Lp (Int×Int×Int×Y×(U Y)×(U Y)×Z×(U ZU)) (Walk×Za):=fun(p,l,B,A,y,t,r,q) ZCB=>
 (bif decide (l<(D.qG.length:Int)) then(Z7 D.qG l).bind fun G=>(ZhL F (Walk.mk B A y t r) p1 G.qJ).bind fun h=>(Z7 D.qG l).bind fun E=>(slL C p (Xa (p+(E.names.length:Int)))).bind fun ZRH=>(app 16 ([]:U Y) ZRH).bind fun m=>(app 40 q [(ZU.mk h.2 m)]).bind fun ZMo=>ZCB (Xa (p+(m.length:Int)),Xa (l+1),h.1.mode,h.1.x,h.1.free,h.1.taken,h.1.bad,ZMo) else loop F (ZcK F p1 D L K I P C q) (0,B,A,y,t,r,[]))
def ZhI(F:Nat)(p1:Change)(x:Za)(A:((Walk×Change×Term)->O (Walk×Term)))(y:((Walk×Change×Za)->O (Walk×Za)))(h:(Walk×Y))(B:(U Y)):(U Y)×Int×Y×(U Y)×(U Y)×Z->O (Walk×Za):=fun(t,r,q,p,m,l)=>
 loop F (ZeZ F p1 x A y h B t) (0,0,r,q,p,m,l,[])
def Zjq(F:Nat)(q:((Walk×Change×Term)->O (Walk×Term))):Lp ((Walk×Change×Za)) (Walk×Za):=fun(I,p1,l) p=>
 (ZhL F I p1 l.qJ).bind fun h=>(ZmW F l.qG).bind fun m=>(Zfz F h.1 p1).bind fun ZGX=>(bif ZGX then(ZyU F (loop F (Zd6 F)) [] [] l).bind fun ZRP=>(ZbM F ZRP h.1.x).bind fun ZRO=>(Zaw F h.1 m ZRO).bind fun ZpX=>(ZhI F p1 l q p h m) (ZpX.2,ZpX.1.mode,ZpX.1.x,ZpX.1.free,ZpX.1.taken,ZpX.1.bad) else(Zaw F h.1 m false).bind fun Zfc=>(ZhI F p1 l q p h m) (Zfc.2,Zfc.1.mode,Zfc.1.x,Zfc.1.free,Zfc.1.taken,Zfc.1.bad))
def ZFd(F:Nat)(l:((Walk×Change×Term)->O (Walk×Term)))(I:Walk)(p1:Change)(h:Za):O (Walk×Za):=
 loop F (Zjq F l) (I,p1,h)
def Zi8(y:Term)(A:((Walk×Change×Term)->O (Walk×Term)))(m:(Walk×Y))(t:(U Zi))(r:(U Y))(q:(U Zi))(p:(U Za)):Lp (Int×Int×Y×(U Y)×(U Y)×Z×(U Term)) (Walk×Term):=fun(ZzQ,l,ZfM,h,ZiG,ZgR,Zp4) Zx8=>
 (bif decide (ZzQ<(y.qQ.length:Int)) then(Z7 y.qQ ZzQ).bind fun ZnX=>(A ((Walk.mk l ZfM h ZiG ZgR),(Change.mk r q),ZnX)).bind fun ZnW=>(app 96 Zp4 [ZnW.2]).bind fun ZBG=>Zx8 (Xa (ZzQ+1),ZnW.1.mode,ZnW.1.x,ZnW.1.free,ZnW.1.taken,ZnW.1.bad,ZBG) else some ((Walk.mk l ZfM h ZiG ZgR),(Term.mk y.op m.2 t p Zp4)))
def Zmz(F:Nat)(G:Term)(I:((Walk×Change×Term)->O (Walk×Term)))(D:(Walk×Y))(E:(U Zi))(C:(U Y))(B:(U Zi)):Lp (Int×Int×Y×(U Y)×(U Y)×Z×(U Za)) (Walk×Term):=fun(l,A,y,t,r,q,p) Zyc=>
 (bif decide (l<(G.qK.length:Int)) then(Z7 G.qK l).bind fun m=>(ZFd F I (Walk.mk A y t r q) (Change.mk C B) m).bind fun h=>(app 96 p [h.2]).bind fun ZBI=>Zyc (Xa (l+1),h.1.mode,h.1.x,h.1.free,h.1.taken,h.1.bad,ZBI) else loop F (Zi8 G I D E C B p) (0,A,y,t,r,q,[]))
def KG(F:Nat)(A:Term)(B:((Walk×Change×Term)->O (Walk×Term)))(h:(Walk×Y))(y:(U Zi)):Int×Y×(U Y)×(U Y)×Z×(U Y)×(U Zi)->O (Walk×Term):=fun(x,t,r,q,p,m,l)=>
 loop F (Zmz F A B h y m l) (0,x,t,r,q,p,[])
def ZdW(F:Nat)(p1:Change)(m:Term)(B:((Walk×Change×Term)->O (Walk×Term)))(h:(Walk×Y)):Lp (Int×(U Zi)) (Walk×Term):=fun(p,l) ZCL=>
 (bif decide (p<(m.args.length:Int)) then(Z7 m.args p).bind fun A=>(ZPf F p1 A).bind fun y=>(app 56 l [y]).bind fun t=>ZCL (Xa (p+1),t) else(bif(m.op==4) then(Zq2 F m.qK).bind fun ZfL=>(Zfz F h.1 p1).bind fun ZzH=>(bif ZzH then(Zt5 F m).bind fun ZzG=>(ZbM F ZzG h.1.x).bind fun ZzF=>(Zaw F h.1 ZfL ZzF).bind fun r=>(Zcf F p1 ZfL r.2).bind fun C=>(KG F m B h l) (r.1.mode,r.1.x,r.1.free,r.1.taken,r.1.bad,C.from_,C.JP) else(Zaw F h.1 ZfL false).bind fun q=>(Zcf F p1 ZfL q.2).bind fun Zdl=>(KG F m B h l) (q.1.mode,q.1.x,q.1.free,q.1.taken,q.1.bad,Zdl.from_,Zdl.JP)) else(KG F m B h l) (h.1.mode,h.1.x,h.1.free,h.1.taken,h.1.bad,p1.from_,p1.JP)))
def Zmy(F:Nat):Lp ((Walk×Change×Term)) (Walk×Term):=fun(I,p1,l) m=>
 (ZhL F I p1 l.qJ).bind fun h=>loop F (ZdW F p1 l m h) (0,[])
def ZIY(F:Nat)(I:Walk)(p1:Change)(h:Term):O (Walk×Term):=
 loop F (Zmy F) (I,p1,h)
theorem ZFc{Wi:((Walk×Change×Term)->Option (Walk×Term))}(ZDy:∀(x:(Walk×Change×Term))(r:(Walk×Term)),Wi x=some r->(match x with | (I,p1,y)=>∀{h:H}{Ze:Option Addr}{Zd:Nat}{Zl:Option Addr}{Zk Y4 G:Nat}{Zn:Option Addr}{Zo:Nat}{Z6:Option Addr}{Z5:Nat}{YU:Option Addr}{YT:Nat}{Xq:Option Addr}{Xo:Nat}{Xp:Option Addr}{Xn:Nat}(ZA:L<=h.size)(Zj:Sl Zq L h Ze Zd I.free)(Zv:Sl Zq L h Zn Zo p1.from_)(Yg:Sl Zg L h Z6 Z5 p1.JP)(XU:Sl Zg L h YU YT y.args)(QB:Sl Zc L h Xq Xo y.qK)(QT:Sl Zw L h Xp Xn y.qQ)(C:Z0 (L:=L) [bx L G [.int .i64 I.mode,.string I.x,.slice Ze I.free.length Zd,.slice Zl Y4 Zk,.bool I.bad],ow L Zq Zl Y4 Zk I.taken] h),WR XX 84 #[.pointer (some ⟨G,0,none⟩),.agg [.slice Zn p1.from_.length Zo,.slice Z6 p1.JP.length Z5].toArray,.agg (q1W y YU YT Xq Xo Xp Xn).toArray] L h (CP (fun(v:Value)(Gb:List (Ast L))=>∃Xx Xv Xw Xt Xu ZL ZK QI QH Q6 Q5,v=.agg (q1W r.2 ZL ZK QI QH Q6 Q5).toArray/\Gb=[bx L G [.int .i64 r.1.mode,.string r.1.x,.slice Xx r.1.free.length Xv,.slice Xw Xt Xu,.bool r.1.bad],Yp L (Yz Zq) (Xx,Xv) r.1.free,ow L Zq Xw Xt Xu r.1.taken,Yp L (Yz Zg) (ZL,ZK) r.2.args,Yp L (Yz Zc) (QI,QH) r.2.qK,Yp L (Yz Zw) (Q6,Q5) r.2.qQ]) [bx L G [.int .i64 I.mode,.string I.x,.slice Ze I.free.length Zd,.slice Zl Y4 Zk,.bool I.bad],ow L Zq Zl Y4 Zk I.taken] h))):∀(Fr:Nat)(x:(Walk×Change×Za))(r:(Walk×Za)),loop Fr (Zjq F Wi) x=some r->(match x with | (I,p1,y)=>∀{h:H}{Ze:Option Addr}{Zd:Nat}{Zl:Option Addr}{Zk Y4 G:Nat}{Zn:Option Addr}{Zo:Nat}{Z6:Option Addr}{Z5:Nat}{YU:Option Addr}{YT:Nat}{Xq:Option Addr}{Xo:Nat}{Xp:Option Addr}{Xn:Nat}(ZA:L<=h.size)(Zj:Sl Zq L h Ze Zd I.free)(Zv:Sl Zq L h Zn Zo p1.from_)(Yg:Sl Zg L h Z6 Z5 p1.JP)(XU:Sl ZG L h YU YT y.qG)(QB:Sl Zc L h Xq Xo y.qK)(QT:Sl Zw L h Xp Xn y.qQ)(C:Z0 (L:=L) [bx L G [.int .i64 I.mode,.string I.x,.slice Ze I.free.length Zd,.slice Zl Y4 Zk,.bool I.bad],ow L Zq Zl Y4 Zk I.taken] h),WR XX 124 #[.pointer (some ⟨G,0,none⟩),.agg [.slice Zn p1.from_.length Zo,.slice Z6 p1.JP.length Z5].toArray,.agg (q3W y YU YT Xq Xo Xp Xn).toArray] L h (CP (fun(v:Value)(Gb:List (Ast L))=>∃Xx Xv Xw Xt Xu ZL ZK QI QH Q6 Q5,v=.agg (q3W r.2 ZL ZK QI QH Q6 Q5).toArray/\Gb=[bx L G [.int .i64 r.1.mode,.string r.1.x,.slice Xx r.1.free.length Xv,.slice Xw Xt Xu,.bool r.1.bad],Yp L (Yz Zq) (Xx,Xv) r.1.free,ow L Zq Xw Xt Xu r.1.taken,Yp L (Yz ZG) (ZL,ZK) r.2.qG,Yp L (Yz Zc) (QI,QH) r.2.qK,Yp L (Yz Zw) (Q6,Q5) r.2.qQ]) [bx L G [.int .i64 I.mode,.string I.x,.slice Ze I.free.length Zd,.slice Zl Y4 Zk,.bool I.bad],ow L Zq Zl Y4 Zk I.taken] h)):=by
 refine YZ _ ?_;rintro Zu Yl ⟨I,p1,y⟩ r m h Ze Zd Zl Zk Y4 G Zn Zo Z6 Z5 YU YT Xq Xo Xp Xn ZA Zj Zv Yg XU QB QT C;refine bg ntmps124 ZA C ?_;intro T hT l;dsimp only[Zjq]at m;obtain rfl:=l.on k1;refine r3 ?_;rintro _ h3 ⟨b2,eb2,rfl,l⟩;refine r1 ?_;rintro _ h5 ⟨b4,eb4,rfl,l⟩;refine r1 ?_;rintro _ h7 ⟨b6,eb6,rfl,l⟩;refine r3 ?_;refine WC.XJ mixed Kq0 ?_;refine r1 ?_;refine WX.wr (fun x=>x=b4) l gN rfl (fun _ _ hR=>Z4 ZjK (ZC fh rfl) (At.eqv (hR b4 rfl) (l.Ug k1)) (j:=0) rfl (v:=.int .i64 y.qV) rfl) ?_ rfl rfl;rintro h8 e9 l;refine r4 ?_;have⟨x10,ZaF,m⟩:=bS m;refine WX.cl gN rfl (Yc.f (Zb lk (Zb lk (Zb lk Zf)))) l (.e (.e .n)) (fun g' S t C=>Zrf (by rw[S];exact l.hw) ((l.sl Zj).mono t) ((l.sl Zv).mono t) ((l.sl Yg).mono t) C ZaF) ?_ rfl rfl [1] Kq0 (.c .z (l.djs (.b (.d (.d .n)))) Yv.e);rintro _ h17 _ ⟨a11,c13,a14,n15,c16,rfl,rfl⟩ l;obtain rfl:=l.on k2;refine WX.w gN rfl (XG Zw8 (Zy lk (Zy lk ZN)) rfl (cs':=[.int .i64 y.qV,.string x10.2,.slice none 0 0,.slice none 0 0,.slice none 0 0]) rfl) ?_ Kq0;refine WX.hn gN rfl (Zc4 l U1 (vs:=[.int .i64 0,.string (⟨#[]⟩:ByteArray),.slice none 0 0,.slice none 0 0,.slice none 0 0]) rfl) ?_ rfl;rintro _ h20 ⟨B,ZJP,rfl,l⟩;refine WX.hu gN (Ud l k0 ZW lk lk (vs:=[.int .i64 y.qV,.string x10.2,.slice none 0 0,.slice none 0 0,.slice none 0 0]) rfl rfl rfl rfl (cs':=[.int .i64 y.qV,.string x10.2,.slice none 0 0,.slice none 0 0,.slice none 0 0]) rfl) ?_ rfl Kq0 [] Kq0 Yv.e;rintro h21 l;refine r6 ?_;have⟨QE,UQ,m⟩:=bS m;refine WO.cl gN rfl (Yc.f (Zb lk Zf)) l .n (fun g' S t C=>ZyN (by rw[S];exact l.hw) ((l.sl XU).mono t) UQ) ?_;rintro _ h26 _ ⟨a23,X,rfl,rfl⟩ l;refine r3 ?_;refine WC.KV (r:=r) (fun(p:(List ByteArray)×Int×ByteArray×(List ByteArray)×(List ByteArray)×Bool) s=>match p with | (Q,v41,v42,v43,v46,v50)=>∃Zfh h28 W V n39 a44 c45 a47 c48 n49,s=⟨Zfh,[],h28,none⟩/\Sp L T h [ow L Zq W n39 V Q,Yp L (Yz Zq) (a44,c45) v43,ow L Zq a47 n49 c48 v46,bx L G [.int .i64 v41,.string v42,.slice a44 v43.length c45,.slice a47 n49 c48,.bool v50],bx L b2 [.slice Zn p1.from_.length Zo,.slice Z6 p1.JP.length Z5],bx L b4 (q3W y YU YT Xq Xo Xp Xn),bx L b6 [.int .i64 0,.string (⟨#[]⟩:ByteArray),.slice none 0 0,.slice none 0 0,.slice none 0 0],bx L B [.int .i64 y.qV,.string x10.2,.slice none 0 0,.slice none 0 0,.slice none 0 0],Yp L (Yz Zq) (a23,X) QE] h28/\Zfh.at 0=.pointer (some ⟨G,0,none⟩)/\Zfh.at 4=.pointer (some ⟨b2,0,none⟩)/\Zfh.at 5=.pointer (some ⟨b4,0,none⟩)/\Zfh.at 6=.pointer (some ⟨b6,0,none⟩)/\Zfh.at 7=.pointer (some ⟨B,0,none⟩)/\Zfh.at 8=.slice a23 QE.length X/\Zfh.at 9=.slice W n39 V) (ZhI F p1 y Wi Zu x10 QE) ?_ ?_
 .clear m l;rintro⟨Q,v41,v42,v43,v46,v50⟩ s m ⟨Zfh,h28,W,V,n39,a44,c45,a47,c48,n49,rfl,l,e30,e31,e32,e33,e34,e35,e40⟩;obtain rfl:=l.on k0;obtain rfl:=l.on k2;dsimp only[ZhI]at m;refine r12 ?_;have l:=l.nil (e:=ZG);refine WC.loop (WL.lift m (fun p s=>match p with | (v60,v62,v64,v65,v66,v69,v73,P)=>∃Zmj h51 a67 c68 a70 c71 n72 E D n77,s=⟨Zmj,[],h51,none⟩/\Sp L T h [Yp L (Yz Zq) (a67,c68) v66,ow L Zq a70 n72 c71 v69,bx L G [.int .i64 v64,.string v65,.slice a67 v66.length c68,.slice a70 n72 c71,.bool v73],bx L b2 [.slice Zn p1.from_.length Zo,.slice Z6 p1.JP.length Z5],bx L b4 (q3W y YU YT Xq Xo Xp Xn),bx L b6 [.int .i64 0,.string (⟨#[]⟩:ByteArray),.slice none 0 0,.slice none 0 0,.slice none 0 0],ow L ZG E n77 D P,bx L B [.int .i64 y.qV,.string x10.2,.slice E n77 D,.slice none 0 0,.slice none 0 0],Yp L (Yz Zq) (a23,X) QE,ow L Zq W Q.length V Q] h51/\Zmj.at 0=.pointer (some ⟨G,0,none⟩)/\Zmj.at 4=.pointer (some ⟨b2,0,none⟩)/\Zmj.at 5=.pointer (some ⟨b4,0,none⟩)/\Zmj.at 6=.pointer (some ⟨b6,0,none⟩)/\Zmj.at 7=.pointer (some ⟨B,0,none⟩)/\Zmj.at 8=.slice a23 QE.length X/\Zmj.at 9=.slice W Q.length V/\Zmj.at 10=.int .i64 v60/\Zmj.at 11=.int .i64 v62) ⟨_,_,a44,c45,a47,c48,v46.length,none,0,0,rfl,l.only (.d (.d (.d (.d (.d (.d (.a (.b (.b (.a .n)))))))))),YF⟩ ?_);clear m l;rintro ZCB ⟨v60,v62,v64,v65,v66,v69,v73,P⟩ s ZHV m ⟨Zmj,h51,a67,c68,a70,c71,n72,E,D,n77,rfl,l,e53,e54,e55,e56,e57,e58,e59,e61,e63⟩;obtain rfl:=l.on k1;obtain rfl:=l.on k6;dsimp only[ZeZ]at m;refine r10 ?_;refine cn m ?_ ?_;.intro hc m;refine r5 ?_;refine WC.XJ mixed Kq0 ?_;refine r5 ?_;have⟨x79,ZSF,m⟩:=bS m;have⟨b80,o81,⟨a82,c83⟩,ZT0,ZU9,ZUF,ZUs⟩:=Sl.at_ XU ZSF;refine WX.w gN rfl (ZF Qy YQ lk lk rfl ZT0 ZSF) ?_ rfl;have Z17:Sl Zq L h a82 c83 x79.names:=ZUs;refine r1 ?_;refine WX.w gN rfl (Z4 UA (ZC fh rfl) (At.fz l.fz ZUF ZU9) (j:=0) rfl (v:=.string x79.qJ) rfl) ?_ rfl;have⟨x84,ZHJ,m⟩:=bS m;refine WX.cl gN rfl (Yc.f (Zb lk (Zb lk (Zb lk Zf)))) l (.d (.b .n)) (fun g' S t C=>Zrf (I:=(Walk.mk v64 v65 v66 v69 v73)) (by rw[S];exact l.hw) ((l.JJ k0).mono t) ((l.sl Zv).mono t) ((l.sl Yg).mono t) C ZHJ) ?_ rfl rfl [] Kq0 Yv.e;rintro _ h91 _ ⟨a85,c87,a88,n89,c90,rfl,rfl⟩ l;obtain rfl:=l.on k2;refine WX.w gN rfl (XG ZFK (Zy lk ZN) rfl (cs':=[.string x84.2,.slice none 0 0]) rfl) ?_ Kq0;refine WX.hn gN rfl (Zc4 l Zbp (vs:=[.string (⟨#[]⟩:ByteArray),.slice none 0 0]) rfl) ?_ rfl;rintro _ h94 ⟨b93,Z6q,rfl,l⟩;refine WX.hu gN (Ud l k0 YQ lk lk (vs:=[.string x84.2,.slice none 0 0]) rfl rfl rfl rfl (cs':=[.string x84.2,.slice none 0 0]) rfl) ?_ rfl Kq0 [] Kq0 Yv.e;rintro h95 l;refine r3 ?_;refine WC.XJ mixed Kq0 ?_;refine r8 ?_;have⟨x96,hx96,m⟩:=bS m;have⟨b97,o98,⟨a99,ZuL⟩,ZTV,ZU4,ZUA,ZUq⟩:=Sl.at_ XU hx96;refine WX.w gN rfl (ZF Qy YQ lk lk rfl ZTV hx96) ?_ rfl;have Z14:Sl Zq L h a99 ZuL x96.names:=ZUq;refine r1 ?_;refine WX.w gN rfl (Z4 Ki (ZC fh rfl) (At.fz l.fz ZUA ZU4) (j:=1) rfl (v:=.slice a99 x96.names.length ZuL) rfl) ?_ rfl;refine r2 ?_;have⟨ZRH,ZSC,m⟩:=bS m;refine WX.he gN rfl (ZCh (l.get k11).2 rfl Qc Qi (ZC (Xe rfl (Yd rfl fh)) rfl) (.inr ⟨_,Zbe (ZC (Xe rfl (Zm rfl fh)) rfl)⟩) (.inr ⟨_,Zbe (ZC fh rfl)⟩) ZSC) ?_ rfl;rintro _ ⟨Z8e,Z7s,rfl,hv104⟩;have⟨z105,ZSB,m⟩:=bS m;have l:=l.nil (e:=Zq);refine WX.hv0 gN rfl (Jd (e:=Zq) l k0 X5 lk lk (hv104.own (l.get k12).2).src rfl ZSB) (fun _ z=>Zx4 z) ?_ rfl rfl;rintro _ ZZQ ⟨ZBo,c107,rfl,l⟩;refine r1 ?_;refine WX.hu gN (Ud l k1 Zds lk lk (vs:=[.slice ZBo z105.length c107]) rfl rfl rfl rfl (cs':=[.string x84.2,.slice ZBo z105.length c107]) rfl) ?_ rfl rfl [] Kq0 Yv.e;rintro ZZP l;refine r16 ?_;refine WO.fzn l k1 ?_;rintro ZZO ⟨Z2j,l⟩;refine WO.hn gN rfl (Jg (e:=ZG) l Qy YQ Zbp rfl rfl rfl (Zy lk ZN) rfl [((ZBo,c107),(ZU.mk x84.2 z105))] rfl (xs:=[(ZU.mk x84.2 z105)]) rfl (by intro q hq;simp[List.mem_cons,List.not_mem_nil,or_false]at hq;subst hq;exact(l.JJ k0)) rfl) ?_;rintro _ ZIz ⟨Z73,Z21,rfl,l⟩;have⟨ZMo,ZSA,m⟩:=bS m;refine WO.hv gN rfl (Jd (e:=ZG) l k10 Znx lk lk (l.QA k0) (l.on k0) ZSA) ?_;rintro _ ZZM ⟨Z1p,c116,rfl,l⟩;refine r2 ?_;rintro ZZL l;refine r8 ?_;exact ZR.Yx (ZHV _ _ m ⟨_,_,a85,c87,a88,c90,x84.1.taken.length,Z1p,c116,ZMo.length,rfl,l.only (.i (.i (.g (.i (.i (.i (.b (.a (.f (.f .n)))))))))),YF⟩)
  intro hc m;refine r12 ?_;have l:=l.nil (e:=Zc);refine WC.loop (WL.lift m (fun p s=>match p with | (ZzS,v130,v131,ZzR,ZaB,v139,Zse)=>∃Zfw h119 Zxs Zw5 ZgI Zgw n138 A Zw4 n143,s=⟨Zfw,[],h119,none⟩/\Sp L T h [Yp L (Yz Zq) (Zxs,Zw5) ZzR,ow L Zq ZgI n138 Zgw ZaB,bx L G [.int .i64 v130,.string v131,.slice Zxs ZzR.length Zw5,.slice ZgI n138 Zgw,.bool v139],bx L b2 [.slice Zn p1.from_.length Zo,.slice Z6 p1.JP.length Z5],bx L b4 (q3W y YU YT Xq Xo Xp Xn),bx L b6 [.int .i64 0,.string (⟨#[]⟩:ByteArray),.slice none 0 0,.slice none 0 0,.slice none 0 0],ow L Zc A n143 Zw4 Zse,bx L B [.int .i64 y.qV,.string x10.2,.slice E P.length D,.slice A n143 Zw4,.slice none 0 0],Yp L (Yz Zq) (a23,X) QE,ow L Zq W Q.length V Q,ow L ZG E P.length D P] h119/\Zfw.at 0=.pointer (some ⟨G,0,none⟩)/\Zfw.at 4=.pointer (some ⟨b2,0,none⟩)/\Zfw.at 5=.pointer (some ⟨b4,0,none⟩)/\Zfw.at 6=.pointer (some ⟨b6,0,none⟩)/\Zfw.at 7=.pointer (some ⟨B,0,none⟩)/\Zfw.at 8=.slice a23 QE.length X/\Zfw.at 9=.slice W Q.length V/\Zfw.at 13=.int .i64 ZzS) ⟨_,_,a67,c68,a70,c71,v69.length,none,0,0,rfl,l.only (.b (.b (.b (.b (.b (.b (.a (.b (.b (.b (.a .n))))))))))),YF⟩ ?_);clear m l;rintro Zya ⟨ZzS,v130,v131,ZzR,ZaB,v139,Zse⟩ s ZDJ m ⟨Zfw,h119,Zxs,Zw5,ZgI,Zgw,n138,A,Zw4,n143,rfl,l,Z0p,Z69,Z0o,Z0n,e125,e126,e127,e129⟩;obtain rfl:=l.on k1;obtain rfl:=l.on k6;dsimp only[ZcK]at m;refine r10 ?_;refine cn m ?_ ?_;.intro hc m;refine r4 ?_;refine WC.XJ mixed Kq0 ?_;refine r1 ?_;refine WX.wr (fun x=>x=B) l gN rfl (fun _ _ hR=>Z4 ZfJ (ZC fh rfl) (At.eqv (hR B rfl) (l.Ug k7)) (j:=3) rfl (v:=.slice A Zse.length Zw4) rfl) ?_ rfl rfl;rintro ZZI Z0i l;refine r5 ?_;have⟨ZnZ,ZLA,m⟩:=bS m;obtain⟨Z7W,Z4e,⟨⟨ZBl,ZA1⟩,⟨a152,Zw3⟩,⟨a154,ZWb⟩⟩,ZOm,ZOQ,ZOE,Zl6⟩:=Sl.at_ QB ZLA;replace Zl6:=ZH.1 Zl6;refine WX.w gN rfl (ZF Qh ZW lk lk rfl ZOm ZLA) ?_ rfl;have ZNO:Sl ZG L h ZBl ZA1 ZnZ.qG:=Zl6.1;have ZNN:Sl Zc L h a152 Zw3 ZnZ.qK:=Zl6.2.1;have ZNM:Sl Zw L h a154 ZWb ZnZ.qQ:=Zl6.2.2;refine WX.w gN rfl (Yb QK ZW (ZC fh rfl) (At.fz l.fz ZOE ZOQ) (j:=0) rfl rfl (ws:=(q3W ZnZ ZBl ZA1 a152 Zw3 a154 ZWb)) rfl) ?_ rfl;have⟨ZnY,ZS7,m⟩:=bS m;refine WX.cl gN rfl (Yc.f (Zb lk (Zb lk (Zb lk Zf)))) l (.d (.b .n)) (fun g' S t C=>(Yl _ _ ZS7) (by rw[S];exact l.hw) ((l.JJ k0).mono t) ((l.sl Zv).mono t) ((l.sl Yg).mono t) ((l.sl ZNO).mono t) ((l.sl ZNN).mono t) ((l.sl ZNM).mono t) C) ?_ rfl rfl [1] Kq0 (.c .z (l.djs (.j (.d (.b .n)))) Yv.e);rintro _ Z5N _ ⟨a157,c159,a160,n161,c162,Z1l,Z0L,ZKr,c168,Z1k,c171,rfl,rfl⟩ l;simp[List.cons_append,List.nil_append]at l;obtain rfl:=l.on k2;refine WX.hn gN rfl (Jg (e:=Zc) l Qh ZW U1 rfl rfl rfl (Zy lk ZN) rfl [(((Z1l,Z0L),(ZKr,c168),(Z1k,c171)),ZnY.2)] rfl (xs:=[ZnY.2]) rfl (by intro q hq;simp[List.mem_cons,List.not_mem_nil,or_false]at hq;subst hq;exact(ZH.2 ⟨(l.JJ k3),(l.JJ k4),(l.JJ k5)⟩)) rfl) ?_ rfl;rintro _ Z5L ⟨Z7Q,Z2R,rfl,l⟩;have⟨ZBH,ZSw,m⟩:=bS m;refine WX.hv gN rfl (Jd (e:=Zc) l k11 Zci lk lk (l.QA k0) (l.on k0) ZSw) ?_ rfl Kq0 [] Kq0 Yv.e;rintro _ Z5K ⟨ZrY,Znl,rfl,l⟩;refine WX.w gN rfl (Y9 ZtV lk) ?_ Kq0;refine WX.hu gN (Ud l k12 Zdr lk lk (vs:=[.slice ZrY ZBH.length Znl]) rfl rfl rfl rfl (cs':=[.int .i64 y.qV,.string x10.2,.slice E P.length D,.slice ZrY ZBH.length Znl,.slice none 0 0]) rfl) ?_ rfl Kq0 [] Kq0 Yv.e;rintro Z5J l;refine r8 ?_;exact ZR.Yx (ZDJ _ _ m ⟨_,_,a157,c159,a160,c162,ZnY.1.taken.length,ZrY,Znl,ZBH.length,rfl,l.only (.f (.f (.e (.j (.j (.j (.b (.a (.g (.g (.g .n))))))))))),YF⟩)
  intro hc m;refine r6 ?_;refine WC.fzn l k9 ?_;rintro Z5I ⟨Z2i,l⟩;refine WC.XJ mixed Kq0 ?_;refine r1 ?_;refine WX.wr (fun x=>x=B) l gN rfl (fun _ _ hR=>Z4 Zin (ZC fh rfl) (At.eqv (hR B rfl) (l.Ug k8)) (j:=4) rfl (v:=.slice none 0 0) rfl) ?_ rfl rfl;rintro Z5H Z0c l;refine r4 ?_;have⟨ZRQ,ZS3,m⟩:=bS m;refine WX.cl0 gN rfl (Yc.f (Zb lk (Zb lk (Zb lk Zf)))) l .n (fun g' S t C=>Zre (by rw[S];exact l.hw) ((l.sl Zv).mono t) ((l.sl Yg).mono t) ((l.JJ k9).mono t) ((l.JJ k0).mono t) ZS3) ?_ rfl rfl;rintro _ ZZE _ ⟨ZQR,Z7r,Z8c,Z7q,rfl,rfl⟩ l;refine r2 ?_;have⟨ZnV,ZLu,m⟩:=bS m;obtain⟨Z7N,Z37,⟨⟨ZWy,c198⟩,⟨ZWx,ZV6⟩,⟨a201,ZV5⟩⟩,ZOg,ZOK,ZOC,Zl2⟩:=Sl.at_ QT ZLu;replace Zl2:=XR.1 Zl2;refine WX.w gN rfl (ZF Uk YB lk lk rfl ZOg ZLu) ?_ rfl;have ZNI:Sl Zg L h ZWy c198 ZnV.args:=Zl2.1;have ZNH:Sl Zc L h ZWx ZV6 ZnV.qK:=Zl2.2.1;have ZNG:Sl Zw L h a201 ZV5 ZnV.qQ:=Zl2.2.2;refine WX.w gN rfl (Yb Q8 YB (ZC fh rfl) (At.fz l.fz ZOC ZOK) (j:=0) rfl rfl (ws:=(q1W ZnV ZWy c198 ZWx ZV6 a201 ZV5)) rfl) ?_ rfl;have⟨ZzI,ZS1,m⟩:=bS m;refine WX.cl gN rfl (Yc.f (Zb lk (Zb lk (Zb lk Zf)))) l (.g (.f .n)) (fun g' S t C=>(ZDy _ _ ZS1) (by rw[S];exact l.hw) ((l.JJ k3).mono t) ((l.JJ k0).mono t) ((l.JJ k1).mono t) ((l.sl ZNI).mono t) ((l.sl ZNH).mono t) ((l.sl ZNG).mono t) C) ?_ rfl rfl [1] Kq0 (.c .z (l.djs (.c k10 (.g (.f .n)))) Yv.e);rintro _ ZZw _ ⟨Z1g,c206,Z1f,n208,Z0I,a210,c212,a213,Z0G,Z1e,c218,rfl,rfl⟩ l;simp[List.cons_append,List.nil_append]at l;obtain rfl:=l.on k2;refine WX.hn gN rfl (Jg (e:=Zw) l Uk YB Zdk rfl rfl rfl (Zy lk ZN) rfl [(((a210,c212),(a213,Z0G),(Z1e,c218)),ZzI.2)] rfl (xs:=[ZzI.2]) rfl (by intro q hq;simp[List.mem_cons,List.not_mem_nil,or_false]at hq;subst hq;exact(XR.2 ⟨(l.JJ k3),(l.JJ k4),(l.JJ k5)⟩)) rfl) ?_ rfl;rintro _ Z5s ⟨Z7G,Z2L,rfl,l⟩;have⟨ZBF,ZSt,m⟩:=bS m;have l:=l.nil (e:=Zw);refine WX.hv0 gN rfl (Jd (e:=Zw) l k0 Znw lk lk (l.QA k1) (l.on k1) ZSt) (fun _ z=>Zx4 z) ?_ rfl Kq0;rintro _ ZZv ⟨ZnG,Znk,rfl,l⟩;refine WX.w gN rfl (Y9 ZdT lk) ?_ Kq0;refine WX.hu gN (Ud l (.s k15) Zlf lk lk (vs:=[.slice ZnG ZBF.length Znk]) rfl rfl rfl rfl (cs':=[.int .i64 y.qV,.string x10.2,.slice E P.length D,.slice A Zse.length Zw4,.slice ZnG ZBF.length Znk]) rfl) ?_ rfl Kq0 [] Kq0 Yv.e;rintro ZZu l;refine r6 ?_;rintro ZZt l;refine r2 ?_;refine WC.fzn l (.s (.s (.s k15))) ?_;rintro ZIs ⟨Z2e,l⟩;refine WC.fzn l (.s (.s k15)) ?_;rintro ZZs ⟨Z2d,l⟩;refine WC.fzn l k4 ?_;rintro Z5q ⟨Z2c,l⟩;refine r1 ?_;obtain rfl:=Oi0 m;exact YG.QM rfl (YE (Xe rfl (Xe rfl (Ym rfl (Zm rfl Z0n)))) (Xc QK ZW (l.Ug k3) (j:=0) rfl rfl (ws:=[.int .i64 y.qV,.string x10.2,.slice E P.length D,.slice A Zse.length Zw4,.slice ZnG ZBF.length Znk]) rfl) Zp) ⟨_,⟨Z1g,c206,Z1f,ZzI.1.taken.length,Z0I,E,D,A,Zw4,ZnG,Znk,rfl,rfl⟩,hT▸l.only (.i (.i (.i (.d (.b (.a .n))))))⟩
 skip;refine WC.XJ mixed Kq0 ?_;refine r4 ?_;have⟨ZGX,ZSU,m⟩:=bS m;refine WX.cp gN rfl (Yc.f (Zb lk (Zb lk Zf))) (Zue (l.Ug k2) (.inl (l.lt k2)) (l.Zba k3) (l.ord k4) (l.WI Zv) (l.WI Yg) ZSU) ?_ rfl rfl;refine r2 ?_;refine WX.Wl (Zh.yes rfl rfl rfl (Zm rfl fh)) (fun K=>?_) (fun K=>?_);.replace m:=Qf K m;have⟨ZRP,ZST,m⟩:=bS m;have l:=l.nil (e:=Zq);have ZUp:=l;refine WX.cl (Zh.on (Zh.yes rfl rfl rfl (Zm rfl fh)) K) rfl (Yc.f (Zb lk (Zb lk (Zb (Xz fh rfl K) Zf)))) l (.a .n) (fun g' S t C=>(ZyT (Zui F)) (by rw[S];exact l.hw) Sl.nil ((l.sl XU).mono t) ((l.sl QB).mono t) ((l.sl QT).mono t) C ZST) ?_ rfl rfl [] Kq0 Yv.e;rintro _ Z5o _ ⟨ZKp,n239,Z7m,rfl,rfl⟩ l;obtain rfl:=l.on k0;refine WX.w (Zh.on (Zh.yes rfl rfl rfl (Yd rfl fh)) K) rfl (YA lk) ?_ Kq0;refine WX.w (Zh.on (Zh.yes rfl rfl rfl (Yd rfl (Zm rfl fh))) K) rfl (Zap lk) ?_ Kq0;refine WX.w (Zh.on (Zh.yes rfl rfl rfl (Ym rfl fh)) K) rfl (Y9 Zhs lk) ?_ Kq0;refine WX.wrM (fun x=>x=G) l (Zh.on (Zh.yes rfl rfl rfl (Ym rfl (Zm rfl fh))) K) rfl (fun _ _ hR=>Z4 UA (ZC fh rfl) (At.eqv (hR G rfl) (l.Ug k3)) (j:=1) rfl (v:=.string x10.1.x) rfl) ?_ rfl (.d (fun x hx e=>ZUp.djs (.e (.a .n)) x hx.1 e) .n);rintro ZZr e245 l;have⟨ZRO,ZSR,m⟩:=bS m;refine WX.cp (Zh.on (Zh.yes rfl rfl rfl (Ym rfl (Yd rfl fh))) K) rfl (Yc.f (Zb lk (Zb lk Zf))) (Zal (l.ord k0) ZSR) ?_ rfl Kq0;refine WX.w gN rfl (Kh lk K lk) ?_ Kq0;have⟨ZpX,ZSQ,m⟩:=bS m;refine WX.cl gN rfl (Yc.f (Zb lk (Zb lk (Zb lk Zf)))) l (.e (.f .n)) (fun g' S t C=>Zrd (by rw[S];exact l.hw) ((l.JJ k4).mono t) ((l.JJ k1).mono t) C ZSQ) ?_ rfl Kq0 [] Kq0 Yv.e;rintro _ Z5i _ ⟨Z1b,Z0D,Z1a,n252,Z0C,ZKm,n255,Z0B,rfl,rfl⟩ l;obtain rfl:=l.on k2;obtain rfl:=l.on k3;refine WX.w gN rfl (Xb lk) ?_ Kq0;refine r1 ?_;exact YV.Yx _ m ⟨_,_,ZKm,Z0B,ZpX.2.length,Z1b,Z0D,Z1a,Z0C,ZpX.1.taken.length,rfl,l.only (.e (.b (.b (.a (.i (.g (.f (.d (.b .n))))))))),YF⟩
 replace m:=Qg K m;refine WX.Ql (Zh.yes rfl rfl rfl (Zm rfl fh)) K rfl ?_ rfl;refine WX.Ql (Zh.yes rfl rfl rfl (Yd rfl fh)) K rfl ?_ rfl;refine WX.Ql (Zh.yes rfl rfl rfl (Yd rfl (Zm rfl fh))) K rfl ?_ rfl;refine WX.Ql (Zh.yes rfl rfl rfl (Ym rfl fh)) K rfl ?_ rfl;refine WX.Ql (Zh.yes rfl rfl rfl (Ym rfl (Zm rfl fh))) K rfl ?_ rfl;refine WX.Ql (Zh.yes rfl rfl rfl (Ym rfl (Yd rfl fh))) K rfl ?_ rfl;refine WX.w gN rfl (Uf lk K lk) ?_ rfl;have⟨Zfc,ZSP,m⟩:=bS m;refine WX.cl gN rfl (Yc.f (Zb lk (Zb lk (Zb lk Zf)))) l (.d (.e .n)) (fun g' S t C=>Zrd (by rw[S];exact l.hw) ((l.JJ k3).mono t) ((l.JJ k0).mono t) C ZSP) ?_ rfl rfl [] Kq0 Yv.e;rintro _ Z5b _ ⟨Z09,Z0A,Z08,n264,ZQm,Z06,n267,Z0z,rfl,rfl⟩ l;obtain rfl:=l.on k2;obtain rfl:=l.on k3;refine WX.w gN rfl (Xb lk) ?_ Kq0;refine r1 ?_;exact YV.Yx _ m ⟨_,_,Z06,Z0z,Zfc.2.length,Z09,Z0A,Z08,ZQm,Zfc.1.taken.length,rfl,l.only (.e (.b (.b (.a (.g (.f (.e (.b (.a .n))))))))),YF⟩
def ZJu{F L}{W:((Walk×Change×Term)->O (Walk×Term))}(ZDy:∀(x:(Walk×Change×Term))(r:(Walk×Term)),W x=some r->(match x with | (I,p1,l)=>∀{h Ze Zd Zl Zk Y4 Q9 Zn Zo Z6 Z5 YU YT Xq Xo Xp Xn}(S:L<=h.size)(Q:Sl Zq L h Ze Zd I.free)(P:Sl Zq L h Zn Zo p1.from_)(T:Sl Zg L h Z6 Z5 p1.JP)(V:Sl Zg L h YU YT l.args)(QB:Sl Zc L h Xq Xo l.qK)(X:Sl Zw L h Xp Xn l.qQ)(K:Z0 (L:=L) [bx L Q9 [V4 I.mode,.string I.x,.slice Ze I.free.length Zd,.slice Zl Y4 Zk,.bool I.bad],ow L Zq Zl Y4 Zk I.taken] h),WR XX 84 #[(V5 Q9),.agg #[.slice Zn p1.from_.length Zo,.slice Z6 p1.JP.length Z5],.agg (q1W l YU YT Xq Xo Xp Xn).toArray] L h (CP (fun v Gb=>∃q y t B A m p C D E G,v=.agg (q1W r.2 m p C D E G).toArray/\Gb=[bx L Q9 [V4 r.1.mode,.string r.1.x,.slice q r.1.free.length y,.slice t B A,.bool r.1.bad],Yp L (Yz Zq) (q,y) r.1.free,ow L Zq t B A r.1.taken,Yp L (Yz Zg) (m,p) r.2.args,Yp L (Yz Zc) (C,D) r.2.qK,Yp L (Yz Zw) (E,G) r.2.qQ]) [bx L Q9 [V4 I.mode,.string I.x,.slice Ze I.free.length Zd,.slice Zl Y4 Zk,.bool I.bad],ow L Zq Zl Y4 Zk I.taken] h))){h}{I:Walk}{p1:Change}{l:Za}{Ze Zd Zl Zk Y4 Q9 Zn Zo Z6 Z5 YU YT Xq Xo Xp Xn}{r}(S:L<=h.size)(Q:Sl Zq L h Ze Zd I.free)(P:Sl Zq L h Zn Zo p1.from_)(T:Sl Zg L h Z6 Z5 p1.JP)(V:Sl ZG L h YU YT l.qG)(QB:Sl Zc L h Xq Xo l.qK)(X:Sl Zw L h Xp Xn l.qQ)(K:Z0 (L:=L) [bx L Q9 [V4 I.mode,.string I.x,.slice Ze I.free.length Zd,.slice Zl Y4 Zk,.bool I.bad],ow L Zq Zl Y4 Zk I.taken] h)(hL:ZFd F W I p1 l=some r):
 WR XX 124 #[(V5 Q9),.agg #[.slice Zn p1.from_.length Zo,.slice Z6 p1.JP.length Z5],.agg (q3W l YU YT Xq Xo Xp Xn).toArray] L h (CP (fun v Gb=>∃q y t B A m p C D E G,v=.agg (q3W r.2 m p C D E G).toArray/\Gb=[bx L Q9 [V4 r.1.mode,.string r.1.x,.slice q r.1.free.length y,.slice t B A,.bool r.1.bad],Yp L (Yz Zq) (q,y) r.1.free,ow L Zq t B A r.1.taken,Yp L (Yz ZG) (m,p) r.2.qG,Yp L (Yz Zc) (C,D) r.2.qK,Yp L (Yz Zw) (E,G) r.2.qQ]) [bx L Q9 [V4 I.mode,.string I.x,.slice Ze I.free.length Zd,.slice Zl Y4 Zk,.bool I.bad],ow L Zq Zl Y4 Zk I.taken] h):=
 ZFc ZDy F (I,p1,l) r hL S Q P T V QB X K
def ZIX:∀(Fr:Nat)(x:(Walk×Change×Term))(r:(Walk×Term)),loop Fr (Zmy F) x=some r->(match x with | (I,p1,E)=>∀{h:H}{Ze:O Addr}{Zd:Nat}{Zl:O Addr}{Zk Y4 Q9:Nat}{Zn:O Addr}{Zo:Nat}{Z6:O Addr}{Z5:Nat}{YU:O Addr}{YT:Nat}{Xq:O Addr}{Xo:Nat}{Xp:O Addr}{Xn:Nat}(ZA:L<=h.size)(Zj:Sl Zq L h Ze Zd I.free)(Zv:Sl Zq L h Zn Zo p1.from_)(Yg:Sl Zg L h Z6 Z5 p1.JP)(XU:Sl Zg L h YU YT E.args)(QB:Sl Zc L h Xq Xo E.qK)(QT:Sl Zw L h Xp Xn E.qQ)(hO:Z0 (L:=L) [bx L Q9 [V4 I.mode,.string I.x,.slice Ze I.free.length Zd,.slice Zl Y4 Zk,.bool I.bad],ow L Zq Zl Y4 Zk I.taken] h),WR XX 84 #[(V5 Q9),.agg #[.slice Zn p1.from_.length Zo,.slice Z6 p1.JP.length Z5],.agg (q1W E YU YT Xq Xo Xp Xn).toArray] L h (CP (fun v Gb=>∃Xx Xv Xw Xt Xu ZL ZK QI QH Q6 Q5,v=.agg (q1W r.2 ZL ZK QI QH Q6 Q5).toArray/\Gb=[bx L Q9 [V4 r.1.mode,.string r.1.x,.slice Xx r.1.free.length Xv,.slice Xw Xt Xu,.bool r.1.bad],Yp L (Yz Zq) (Xx,Xv) r.1.free,ow L Zq Xw Xt Xu r.1.taken,Yp L (Yz Zg) (ZL,ZK) r.2.args,Yp L (Yz Zc) (QI,QH) r.2.qK,Yp L (Yz Zw) (Q6,Q5) r.2.qQ]) [bx L Q9 [V4 I.mode,.string I.x,.slice Ze I.free.length Zd,.slice Zl Y4 Zk,.bool I.bad],ow L Zq Zl Y4 Zk I.taken] h)):=by
 refine YZ _ ?_;rintro Zu Yl ⟨I,p1,E⟩ r m h Ze Zd Zl Zk Y4 Q9 Zn Zo Z6 Z5 YU YT Xq Xo Xp Xn ZA Zj Zv Yg XU QB QT hO;refine bg ntmps84 ZA hO ?_;intro T hT l;obtain rfl:=l.on k1;refine r3 ?_;rintro _ h3 ⟨b2,eb2,rfl,l⟩;refine r1 ?_;rintro _ h5 ⟨b4,eb4,rfl,l⟩;refine r1 ?_;rintro _ h7 ⟨b6,eb6,rfl,l⟩;refine r3 ?_;refine WC.XJ mixed Kq0<|r1 ?_;refine WX.wr (fun x=>x=b4) l gN rfl (fun _ _ hR=>Z4 Zu5 (ZC fh rfl) (At.eqv (hR b4 rfl) (l.Ug k1)) (j:=0) rfl (v:= V4 E.op) rfl) ?_ rfl rfl;rintro h8 e9 l;refine r4 ?_;have⟨x10,ZaF,m⟩:=bS m;refine WX.cl gN rfl (Yc.f (Zb lk (Zb lk (Zb lk Zf)))) l (.e (.e .n)) (fun g' K t hO=>Zrf (l.Vc K) ((l.sl Zj).mono t) ((l.sl Zv).mono t) ((l.sl Yg).mono t) hO ZaF) ?_ rfl rfl [1] Kq0 (.c .z (l.djs (.b (.d (.d .n)))) Yv.e);rintro _ h17 _ ⟨a11,c13,a14,n15,c16,rfl,rfl⟩ l;obtain rfl:=l.on k2;refine WX.w gN rfl (XG ZuR (Zy lk (Zy lk ZN)) rfl (cs':=[V4 E.op,.string x10.2,V3,V3,V3]) rfl) ?_ Kq0;refine WX.hn gN rfl (Zc4 l Zdk (vs:=[V4 0,.string (⟨#[]⟩:Y),V3,V3,V3]) rfl) ?_ rfl;rintro _ h20 ⟨D,ZJP,rfl,l⟩;refine WX.hu gN (Ud l k0 YB lk lk (vs:=[V4 E.op,.string x10.2,V3,V3,V3]) rfl rfl rfl rfl (cs':=[V4 E.op,.string x10.2,V3,V3,V3]) rfl) ?_ rfl Kq0 [] Kq0 Yv.e;rintro h21 l;refine r9 ?_;have l:=l.nil (e:=Zg);refine WC.loop (WL.lift m (fun p s=>match p with | (v29,y)=>∃ZtN h22 C B n34,s=⟨ZtN,[],h22,none⟩/\Sp L T h [bx L Q9 [V4 x10.1.mode,.string x10.1.x,.slice a11 x10.1.free.length c13,.slice a14 x10.1.taken.length c16,.bool x10.1.bad],bx L b2 [.slice Zn p1.from_.length Zo,.slice Z6 p1.JP.length Z5],bx L b4 (q1W E YU YT Xq Xo Xp Xn),bx L b6 [V4 0,.string (⟨#[]⟩:Y),V3,V3,V3],ow L Zg C n34 B y,bx L D [V4 E.op,.string x10.2,.slice C n34 B,V3,V3],Yp L (Yz Zq) (a11,c13) x10.1.free,ow L Zq a14 x10.1.taken.length c16 x10.1.taken] h22/\ZtN.at 0=(V5 Q9)/\ZtN.at 4=(V5 b2)/\ZtN.at 5=(V5 b4)/\ZtN.at 6=(V5 b6)/\ZtN.at 7=(V5 D)/\ZtN.at 8= V4 v29) ⟨_,_,none,0,0,rfl,l.only (.d (.i (.g (.f (.a (.a (.a (.a .n)))))))),YF⟩ ?_);rintro ZCL ⟨v29,y⟩ s ZIa m ⟨ZtN,h22,C,B,n34,rfl,l,e24,e25,e26,e27,e28,e30⟩;obtain rfl:=l.on k4;refine r10 ?_;refine cn m ?_ ?_;.intro hc m;refine r4 ?_;refine WC.XJ mixed Kq0<|r6 ?_;have⟨x36,Zga,m⟩:=bS m;have⟨b37,o38,⟨a39,c40⟩,ZUg,ZVp,ZUV,ZD6⟩:=Sl.at_ XU Zga;replace ZD6:=Yj.1 ZD6;refine Vb (ZF Jw Yo lk lk rfl ZUg Zga) ?_;have ZTv:Sl Zg L h a39 c40 x36.qQ:=ZD6;refine Vb (Yb QR Yo (ZC fh rfl) (At.fz l.fz ZUV ZVp) (j:=0) rfl rfl (ws:=(q2W x36 a39 c40)) rfl) ?_;have⟨x41,ZqD,m⟩:=bS m;refine WX.cl0 gN rfl (Yc.f (Zb lk (Zb lk Zf))) l .n (fun g' K t hO=>ZPe (l.Vc K) ((l.sl Zv).mono t) ((l.sl Yg).mono t) ((l.sl ZTv).mono t) ZqD) ?_ rfl rfl;rintro _ h45 _ ⟨a42,c44,rfl,rfl⟩ l;refine WX.hn gN rfl (Jg (e:=Zg) l Jw Yo ZbH rfl rfl rfl (Zy lk ZN) rfl [((a42,c44),x41)] rfl (xs:=[x41]) rfl (by intro q hq;simp[Ks,Q2,or_false]at hq;subst hq;exact(Yj.2 (l.JJ k0))) rfl) ?_ rfl;rintro _ h48 ⟨b47,Z6z,rfl,l⟩;have⟨z49,ZYg,m⟩:=bS m;refine WX.hv gN rfl (Jd (e:=Zg) l k6 Zbj lk lk (l.QA k0) (l.on k0) ZYg) ?_ rfl rfl [] Kq0 Yv.e;rintro _ h52 ⟨a50,c51,rfl,l⟩;refine WX.w gN rfl (Y9 ZqW lk) ?_ Kq0;refine WX.hu gN (Ud l k7 ZfN lk lk (vs:=[.slice a50 z49.length c51]) rfl rfl rfl rfl (cs':=[V4 E.op,.string x10.2,.slice a50 z49.length c51,V3,V3]) rfl) ?_ rfl Kq0 [] Kq0 Yv.e;rintro h53 l;refine r8 ?_;exact ZR.Yx (ZIa _ _ m ⟨_,_,a50,c51,z49.length,rfl,l.only (.f (.f (.f (.f (.b (.a (.d (.d .n)))))))),YF⟩)
 intro hc m;refine r5 ?_;refine WC.KV (r:=r) (fun(p:Int×Y×(U Y)×(U Y)×Z×(U Y)×(U Zi)) s=>match p with | (v61,v62,v63,v66,v70,X,W)=>∃Zww h54 a64 c65 a67 c68 n69 a72 c73 a75 c76,s=⟨Zww,[],h54,none⟩/\Sp L T h [Yp L (Yz Zq) (a64,c65) v63,ow L Zq a67 n69 c68 v66,bx L Q9 [V4 v61,.string v62,.slice a64 v63.length c65,.slice a67 n69 c68,.bool v70],Yp L (Yz Zq) (a72,c73) X,Yp L (Yz Zg) (a75,c76) W,bx L b2 [.slice a72 X.length c73,.slice a75 W.length c76],bx L b4 (q1W E YU YT Xq Xo Xp Xn),bx L b6 [V4 0,.string (⟨#[]⟩:Y),V3,V3,V3],bx L D [V4 E.op,.string x10.2,.slice C y.length B,V3,V3],ow L Zg C y.length B y] h54/\Zww.at 0=(V5 Q9)/\Zww.at 4=(V5 b2)/\Zww.at 5=(V5 b4)/\Zww.at 6=(V5 b6)/\Zww.at 7=(V5 D)) (KG F E Zu x10 y) ?_ ?_
 .rintro⟨v61,v62,v63,v66,v70,X,W⟩ s m ⟨Zww,h54,a64,c65,a67,c68,n69,a72,c73,a75,c76,rfl,l,e56,e57,e58,e59,e60⟩;obtain rfl:=l.on k1;refine r7 ?_;have l:=l.nil (e:=Zc);refine WC.loop (WL.lift m (fun p s=>match p with | (v84,v86,v87,v88,v91,v95,V)=>∃ZcH h77 a89 c90 a92 c93 n94 Q P n99,s=⟨ZcH,[],h77,none⟩/\Sp L T h [Yp L (Yz Zq) (a89,c90) v88,ow L Zq a92 n94 c93 v91,bx L Q9 [V4 v86,.string v87,.slice a89 v88.length c90,.slice a92 n94 c93,.bool v95],bx L b2 [.slice a72 X.length c73,.slice a75 W.length c76],bx L b4 (q1W E YU YT Xq Xo Xp Xn),bx L b6 [V4 0,.string (⟨#[]⟩:Y),V3,V3,V3],ow L Zc Q n99 P V,bx L D [V4 E.op,.string x10.2,.slice C y.length B,.slice Q n99 P,V3],Yp L (Yz Zq) (a72,c73) X,Yp L (Yz Zg) (a75,c76) W,ow L Zg C y.length B y] h77/\ZcH.at 0=(V5 Q9)/\ZcH.at 4=(V5 b2)/\ZcH.at 5=(V5 b4)/\ZcH.at 6=(V5 b6)/\ZcH.at 7=(V5 D)/\ZcH.at 10= V4 v84) ⟨_,_,a64,c65,a67,c68,v66.length,none,0,0,rfl,l.only (.b (.b (.b (.e (.e (.e (.a (.d (.a (.a (.a .n))))))))))),YF⟩ ?_);rintro Zyc ⟨v84,v86,v87,v88,v91,v95,V⟩ s ZDM m ⟨ZcH,h77,a89,c90,a92,c93,n94,Q,P,n99,rfl,l,e79,e80,e81,e82,e83,e85⟩;obtain rfl:=l.on k1;obtain rfl:=l.on k6;refine r10 ?_;refine cn m ?_ ?_;.intro hc m;refine r4 ?_;refine WC.XJ mixed Kq0<|r1 ?_;refine WX.wr (fun x=>x=D) l gN rfl (fun _ _ hR=>Z4 ZfJ (ZC fh rfl) (At.eqv (hR D rfl) (l.Ug k7)) (j:=3) rfl (v:=.slice Q V.length P) rfl) ?_ rfl rfl;rintro Z6d Z0q l;refine r5 ?_;have⟨x103,ZLI,m⟩:=bS m;obtain⟨Z76,Z4n,⟨⟨ZBo,c107⟩,⟨ZWE,c109⟩,⟨ZBn,ZA2⟩⟩,ZOu,ZOY,ZOF,Zmb⟩:=Sl.at_ QB ZLI;replace Zmb:=ZH.1 Zmb;refine Vb (ZF Qh ZW lk lk rfl ZOu ZLI) ?_;have ZNR:Sl ZG L h ZBo c107 x103.qG:=Zmb.1;have ZNQ:Sl Zc L h ZWE c109 x103.qK:=Zmb.2.1;have ZNP:Sl Zw L h ZBn ZA2 x103.qQ:=Zmb.2.2;refine Vb (Yb QK ZW (ZC fh rfl) (At.fz l.fz ZOF ZOY) (j:=0) rfl rfl (ws:=(q3W x103 ZBo c107 ZWE c109 ZBn ZA2)) rfl) ?_;have⟨x112,hx112,m⟩:=bS m;refine WX.cl gN rfl (Yc.f (Zb lk (Zb lk (Zb lk Zf)))) l (.d (.b .n)) (fun g' K t hO=>(ZJu (I:=(Walk.mk v86 v87 v88 v91 v95)) (p1:=(Change.mk X W)) Yl) (l.Vc K) ((l.JJ k0).mono t) ((l.JJ k8).mono t) ((l.JJ k9).mono t) ((l.sl ZNR).mono t) ((l.sl ZNQ).mono t) ((l.sl ZNP).mono t) hO hx112) ?_ rfl rfl [1] Kq0 (.c .z (l.djs (.j (.d (.b .n)))) Yv.e);rintro _ h128 _ ⟨Z1q,ZrI,a116,n117,Z0Q,a119,Z0P,ZQS,c124,Zeq,c127,rfl,rfl⟩ l;simp[Gx,Jx]at l;obtain rfl:=l.on k2;refine WX.hn gN rfl (Jg (e:=Zc) l Qh ZW U1 rfl rfl rfl (Zy lk ZN) rfl [(((a119,Z0P),(ZQS,c124),(Zeq,c127)),x112.2)] rfl (xs:=[x112.2]) rfl (by intro q hq;simp[Ks,Q2,or_false]at hq;subst hq;exact(ZH.2 ⟨(l.JJ k3),(l.JJ k4),(l.JJ k5)⟩)) rfl) ?_ rfl;rintro _ Z52 ⟨Z7Z,Z2W,rfl,l⟩;have⟨ZBI,ZSy,m⟩:=bS m;refine WX.hv gN rfl (Jd (e:=Zc) l k11 Zci lk lk (l.QA k0) (l.on k0) ZSy) ?_ rfl Kq0 [] Kq0 Yv.e;rintro _ ZZK ⟨Zxs,Zw5,rfl,l⟩;refine WX.w gN rfl (Y9 ZyG lk) ?_ Kq0;refine WX.hu gN (Ud l k12 Zdr lk lk (vs:=[.slice Zxs ZBI.length Zw5]) rfl rfl rfl rfl (cs':=[V4 E.op,.string x10.2,.slice C y.length B,.slice Zxs ZBI.length Zw5,V3]) rfl) ?_ rfl Kq0 [] Kq0 Yv.e;rintro ZZJ l;refine r8 ?_;exact ZR.Yx (ZDM _ _ m ⟨_,_,Z1q,ZrI,a116,Z0Q,x112.1.taken.length,Zxs,Zw5,ZBI.length,rfl,l.only (.f (.f (.e (.j (.j (.j (.b (.a (.g (.g (.g .n))))))))))),YF⟩)
  intro hc m;refine r12 ?_;have l:=l.nil (e:=Zw);refine WC.loop (WL.lift m (fun p s=>match p with | (ZzQ,v146,ZfM,v148,ZiG,ZgR,Zp4)=>∃Zke ZIx ZKt ZJ4 a152 Zw3 n154 G ZA0 n159,s=⟨Zke,[],ZIx,none⟩/\Sp L T h [Yp L (Yz Zq) (ZKt,ZJ4) v148,ow L Zq a152 n154 Zw3 ZiG,bx L Q9 [V4 v146,.string ZfM,.slice ZKt v148.length ZJ4,.slice a152 n154 Zw3,.bool ZgR],bx L b2 [.slice a72 X.length c73,.slice a75 W.length c76],bx L b4 (q1W E YU YT Xq Xo Xp Xn),bx L b6 [V4 0,.string (⟨#[]⟩:Y),V3,V3,V3],ow L Zw G n159 ZA0 Zp4,bx L D [V4 E.op,.string x10.2,.slice C y.length B,.slice Q V.length P,.slice G n159 ZA0],Yp L (Yz Zq) (a72,c73) X,Yp L (Yz Zg) (a75,c76) W,ow L Zg C y.length B y,ow L Zc Q V.length P V] ZIx/\Zke.at 0=(V5 Q9)/\Zke.at 4=(V5 b2)/\Zke.at 5=(V5 b4)/\Zke.at 6=(V5 b6)/\Zke.at 7=(V5 D)/\Zke.at 11= V4 ZzQ) ⟨_,_,a89,c90,a92,c93,v91.length,none,0,0,rfl,l.only (.b (.b (.b (.b (.b (.b (.a (.b (.b (.b (.b (.a .n)))))))))))),YF⟩ ?_);rintro Zx8 ⟨ZzQ,v146,ZfM,v148,ZiG,ZgR,Zp4⟩ s ZDG m ⟨Zke,ZIx,ZKt,ZJ4,a152,Zw3,n154,G,ZA0,n159,rfl,l,Z65,Z64,Z0j,ZVP,e143,Z62⟩;obtain rfl:=l.on k1;obtain rfl:=l.on k6;refine r10 ?_;refine cn m ?_ ?_;.intro hc m;refine r4 ?_;refine WC.XJ mixed Kq0<|r1 ?_;refine WX.wr (fun x=>x=D) l gN rfl (fun _ _ hR=>Z4 Zin (ZC fh rfl) (At.eqv (hR D rfl) (l.Ug k7)) (j:=4) rfl (v:=.slice G Zp4.length ZA0) rfl) ?_ rfl rfl;rintro ZZH Z60 l;refine r5 ?_;have⟨ZnX,ZLz,m⟩:=bS m;obtain⟨Z7R,Z4b,⟨⟨ZKr,c167⟩,⟨a168,ZV9⟩,⟨ZWA,c171⟩⟩,ZOj,ZON,ZOD,Zl4⟩:=Sl.at_ QT ZLz;replace Zl4:=XR.1 Zl4;refine Vb (ZF Uk YB lk lk rfl ZOj ZLz) ?_;have ZNL:Sl Zg L h ZKr c167 ZnX.args:=Zl4.1;have ZNK:Sl Zc L h a168 ZV9 ZnX.qK:=Zl4.2.1;have ZNJ:Sl Zw L h ZWA c171 ZnX.qQ:=Zl4.2.2;refine Vb (Yb Q8 YB (ZC fh rfl) (At.fz l.fz ZOD ZON) (j:=0) rfl rfl (ws:=(q1W ZnX ZKr c167 a168 ZV9 ZWA c171)) rfl) ?_;have⟨ZnW,ZS4,m⟩:=bS m;refine WX.cl gN rfl (Yc.f (Zb lk (Zb lk (Zb lk Zf)))) l (.d (.b .n)) (fun g' K t hO=>(Yl _ _ ZS4) (l.Vc K) ((l.JJ k0).mono t) ((l.JJ k8).mono t) ((l.JJ k9).mono t) ((l.sl ZNL).mono t) ((l.sl ZNK).mono t) ((l.sl ZNJ).mono t) hO) ?_ rfl rfl [1] Kq0 (.c .z (l.djs (.j (.d (.b .n)))) Yv.e);rintro _ Z5G _ ⟨a173,c175,Z1j,n177,Znl,Z1i,Z0K,a182,Z0J,Z1h,ZJ2,rfl,rfl⟩ l;simp[Gx,Jx]at l;obtain rfl:=l.on k2;refine WX.hn gN rfl (Jg (e:=Zw) l Uk YB Zdk rfl rfl rfl (Zy lk ZN) rfl [(((Z1i,Z0K),(a182,Z0J),(Z1h,ZJ2)),ZnW.2)] rfl (xs:=[ZnW.2]) rfl (by intro q hq;simp[Ks,Q2,or_false]at hq;subst hq;exact(XR.2 ⟨(l.JJ k3),(l.JJ k4),(l.JJ k5)⟩)) rfl) ?_ rfl;rintro _ ZZF ⟨Z01,ZVM,rfl,l⟩;have⟨ZBG,ZSv,m⟩:=bS m;refine WX.hv gN rfl (Jd (e:=Zw) l k11 Znw lk lk (l.QA k0) (l.on k0) ZSv) ?_ rfl Kq0 [] Kq0 Yv.e;rintro _ ZZD ⟨a193,c194,rfl,l⟩;refine WX.w gN rfl (Y9 Zhq lk) ?_ Kq0;refine WX.hu gN (Ud l k12 Zlf lk lk (vs:=[.slice a193 ZBG.length c194]) rfl rfl rfl rfl (cs':=[V4 E.op,.string x10.2,.slice C y.length B,.slice Q V.length P,.slice a193 ZBG.length c194]) rfl) ?_ rfl Kq0 [] Kq0 Yv.e;rintro ZZC l;refine r8 ?_;exact ZR.Yx (ZDG _ _ m ⟨_,_,a173,c175,Z1j,Znl,ZnW.1.taken.length,a193,c194,ZBG.length,rfl,l.only (.f (.f (.e (.j (.j (.j (.b (.a (.g (.g (.g (.g .n)))))))))))),YF⟩)
  intro hc m;refine r9 ?_;rintro ZZB l;refine r2 ?_;refine WC.fzn l k10 ?_;rintro Z5E ⟨Z2h,l⟩;refine WC.fzn l k11 ?_;rintro Z5D ⟨Z2g,l⟩;refine WC.fzn l k8 ?_;rintro Z5C ⟨Z2f,l⟩;refine r1 ?_;obtain rfl:=Oi0 m;exact YG.QM rfl (YE (Ym rfl (Yd rfl ZVP)) (Xc Q8 YB (l.Ug k3) (j:=0) rfl rfl (ws:=[V4 E.op,.string x10.2,.slice C y.length B,.slice Q V.length P,.slice G Zp4.length ZA0]) rfl) Zp) ⟨_,⟨ZKt,ZJ4,a152,ZiG.length,Zw3,C,B,Q,P,G,ZA0,rfl,rfl⟩,hT▸l.only (.i (.f (.f (.d (.b (.a .n))))))⟩
 skip;refine r7 ?_;refine cn m ?_ ?_
 .intro hc m;refine r4 ?_;have⟨ZfL,ZS0,m⟩:=bS m;refine V9 (Yc.f (Zb lk Zf)) l .n (fun g' K t hO=>ZE0 (l.Vc K) ((l.sl QB).mono t) ZS0) ?_;rintro _ ZZz _ ⟨Z8b,Z7p,rfl,rfl⟩ l;refine r3 ?_;refine WC.XJ mixed Kq0<|WX.wr (fun x=>x=b2) l gN rfl (fun _ _ hR=>Yb Zxm Zez (ZC (Xe rfl (Ym rfl e25)) rfl) (At.eqv (hR b2 rfl) (l.Ug k2)) (j:=0) rfl rfl (ws:=[.slice Zn p1.from_.length Zo,.slice Z6 p1.JP.length Z5]) rfl) ?_ rfl rfl;rintro Z5x e211 l;refine r5 ?_;have⟨ZzH,ZSY,m⟩:=bS m;refine WX.cp gN rfl (Yc.f (Zb lk (Zb lk Zf))) (Zue (l.Ug k1) (.inl (l.lt k1)) (l.Zba k7) (l.ord k8) (l.WI Zv) (l.WI Yg) ZSY) ?_ rfl rfl;refine r2 ?_;refine WX.Wl (Zh.yes rfl rfl rfl (Zm rfl fh)) (fun S=>?_) (fun S=>?_);.replace m:=Qf S m;have⟨ZzG,ZSX,m⟩:=bS m;refine WX.cl0 (Zh.on (Zh.yes rfl rfl rfl (Zm rfl fh)) S) rfl (Yc.f (Zb (Xz fh rfl S) Zf)) l .n (fun g' K t hO=>ZET (l.Vc K) ((l.sl XU).mono t) ((l.sl QB).mono t) ((l.sl QT).mono t) ZSX) ?_ rfl rfl;rintro _ Z5u _ ⟨Z8a,n216,Z7o,rfl,rfl⟩ l;obtain rfl:=l.on k0;refine WX.w (Zh.on (Zh.yes rfl rfl rfl (Yd rfl fh)) S) rfl (YA lk) ?_ rfl;refine WX.w (Zh.on (Zh.yes rfl rfl rfl (Yd rfl (Zm rfl fh))) S) rfl (Zap lk) ?_ rfl;refine WX.w (Zh.on (Zh.yes rfl rfl rfl (Ym rfl fh)) S) rfl (Y9 Zhs lk) ?_ rfl;refine WX.w (Zh.on (Zh.yes rfl rfl rfl (Ym rfl (Zm rfl fh))) S) rfl (Z4 UA (ZC fh rfl) (l.Ug k2) (j:=1) rfl (v:=.string x10.1.x) rfl) ?_ rfl;have⟨ZzF,ZSV,m⟩:=bS m;refine WX.cp (Zh.on (Zh.yes rfl rfl rfl (Ym rfl (Yd rfl fh))) S) rfl (Yc.f (Zb lk (Zb lk Zf))) (Zal (l.ord k0) ZSV) ?_ rfl rfl;refine Vb (Kh lk S lk) ?_;have⟨KR,Zs5,m⟩:=bS m;refine WX.cl gN rfl (Yc.f (Zb lk (Zb lk (Zb lk Zf)))) l (.d (.c k8 .n)) (fun g' K t hO=>Zuf (l.Vc K) ((l.JJ k8).mono t) ((l.JJ k1).mono t) hO Zs5) ?_ rfl rfl [0] Kq0 (.c .z (l.djs (.e (.d (.j .n)))) Yv.e);rintro _ ZZs _ ⟨a222,Z0F,Z1d,n226,c227,a228,Z7n,rfl,rfl⟩ l;obtain rfl:=l.on k2;have⟨KQ,Zyo,m⟩:=bS m;refine WX.cl0 gN rfl (Yc.f (Zb lk (Zb lk (Zb lk Zf)))) l .n (fun g' K t hO=>Zre (l.Vc K) ((l.sl Zv).mono t) ((l.sl Yg).mono t) ((l.JJ k5).mono t) ((l.JJ k3).mono t) Zyo) ?_ rfl Kq0;rintro _ Z5p _ ⟨a234,c236,ZQQ,Zw2,rfl,rfl⟩ l;refine WX.hu gN (Ud l k8 Zez lk lk (vs:=[.slice a234 KQ.from_.length c236,.slice ZQQ KQ.JP.length Zw2]) rfl rfl rfl rfl (cs':=[.slice a234 KQ.from_.length c236,.slice ZQQ KQ.JP.length Zw2]) rfl) ?_ rfl Kq0 [] Kq0 Yv.e;rintro Z5n l;refine r1 ?_;exact YV.Yx _ m ⟨_,_,a222,Z0F,Z1d,c227,KR.1.taken.length,a234,c236,ZQQ,Zw2,rfl,l.only (.f (.f (.e (.b (.b (.a (.e (.e (.f (.e .n)))))))))),YF⟩
  replace m:=Qg S m;refine WX.Ql (Zh.yes rfl rfl rfl (Zm rfl fh)) S rfl ?_ rfl;refine WX.Ql (Zh.yes rfl rfl rfl (Yd rfl fh)) S rfl ?_ rfl;refine WX.Ql (Zh.yes rfl rfl rfl (Yd rfl (Zm rfl fh))) S rfl ?_ rfl;refine WX.Ql (Zh.yes rfl rfl rfl (Ym rfl fh)) S rfl ?_ rfl;refine WX.Ql (Zh.yes rfl rfl rfl (Ym rfl (Zm rfl fh))) S rfl ?_ rfl;refine WX.Ql (Zh.yes rfl rfl rfl (Ym rfl (Yd rfl fh))) S rfl ?_ rfl;refine Vb (Uf lk S lk) ?_;have⟨WM,ZSS,m⟩:=bS m;refine WX.cl gN rfl (Yc.f (Zb lk (Zb lk (Zb lk Zf)))) l (.b (.j .n)) (fun g' K t hO=>Zuf (l.Vc K) ((l.JJ k7).mono t) ((l.JJ k0).mono t) hO ZSS) ?_ rfl rfl [0] Kq0 (.c .z (l.djs (.d (.b (.i .n)))) Yv.e);rintro _ Z5j _ ⟨Z1c,ZAZ,ZKn,n248,Z0E,ZQP,Z7l,rfl,rfl⟩ l;obtain rfl:=l.on k2;have⟨Zdl,hx255,m⟩:=bS m;refine WX.cl0 gN rfl (Yc.f (Zb lk (Zb lk (Zb lk Zf)))) l .n (fun g' K t hO=>Zre (l.Vc K) ((l.sl Zv).mono t) ((l.sl Yg).mono t) ((l.JJ k4).mono t) ((l.JJ k3).mono t) hx255) ?_ rfl Kq0;rintro _ ZVA _ ⟨ZQO,ZQo,ZQN,ZQn,rfl,rfl⟩ l;refine WX.hu gN (Ud l k7 Zez lk lk (vs:=[.slice ZQO Zdl.from_.length ZQo,.slice ZQN Zdl.JP.length ZQn]) rfl rfl rfl rfl (cs':=[.slice ZQO Zdl.from_.length ZQo,.slice ZQN Zdl.JP.length ZQn]) rfl) ?_ rfl Kq0 [] Kq0 Yv.e;rintro Z5f l;refine r1 ?_;exact YV.Yx _ m ⟨_,_,Z1c,ZAZ,ZKn,Z0E,WM.1.taken.length,ZQO,ZQo,ZQN,ZQn,rfl,l.only (.f (.f (.e (.b (.b (.a (.d (.d (.e (.d .n)))))))))),YF⟩
 intro hc m;refine r1 ?_;have l:=l.add (A:=Yp L (Yz Zq) (Zn,Zo) p1.from_) (l.sl Zv) (fun _ z=>z);have l:=l.add (A:=Yp L (Yz Zg) (Z6,Z5) p1.JP) (l.sl Yg) (fun _ z=>z);exact YV.Yx _ m ⟨_,_,a11,c13,a14,c16,x10.1.taken.length,Zn,Zo,Z6,Z5,rfl,l.only (.c k8 (.c k8 (.d (.b (.a (.a (.a (.a (.b (.a .n)))))))))),YF⟩
def ZPm{F L h}{I:Walk}{p1:Change}{l:Term}{Ze Zd Zl Zk Y4 Q9 Zn Zo Z6 Z5 YU YT Xq Xo Xp Xn}{r}(T:L<=h.size)(S:Sl Zq L h Ze Zd I.free)(Q:Sl Zq L h Zn Zo p1.from_)(V:Sl Zg L h Z6 Z5 p1.JP)(W:Sl Zg L h YU YT l.args)(QB:Sl Zc L h Xq Xo l.qK)(X:Sl Zw L h Xp Xn l.qQ)(K:Z0 (L:=L) [bx L Q9 [V4 I.mode,.string I.x,.slice Ze I.free.length Zd,.slice Zl Y4 Zk,.bool I.bad],ow L Zq Zl Y4 Zk I.taken] h)(P:ZIY F I p1 l=some r):
 WR XX 84 #[(V5 Q9),.agg #[.slice Zn p1.from_.length Zo,.slice Z6 p1.JP.length Z5],.agg (q1W l YU YT Xq Xo Xp Xn).toArray] L h (CP (fun v Gb=>∃q y t B A m p C D E G,v=.agg (q1W r.2 m p C D E G).toArray/\Gb=[bx L Q9 [V4 r.1.mode,.string r.1.x,.slice q r.1.free.length y,.slice t B A,.bool r.1.bad],Yp L (Yz Zq) (q,y) r.1.free,ow L Zq t B A r.1.taken,Yp L (Yz Zg) (m,p) r.2.args,Yp L (Yz Zc) (C,D) r.2.qK,Yp L (Yz Zw) (E,G) r.2.qQ]) [bx L Q9 [V4 I.mode,.string I.x,.slice Ze I.free.length Zd,.slice Zl Y4 Zk,.bool I.bad],ow L Zq Zl Y4 Zk I.taken] h):=
 ZIX F (I,p1,l) r P T S Q V W QB X K
def ZwC(F:Nat)(I:Term):O Term:=
 (Zt5 F I).bind fun h=>(ZIY F (Walk.mk 2 (⟨#[]⟩:Y) [] h false) (Change.mk [] []) I).bind fun l=>some l.2
def ZE2(F:Nat)(I:Term):O (Term×Int):=
 (Zq5 F I).bind fun l=>(bif(l !=0) then some ((Term.mk 0 (⟨#[]⟩:Y) [] [] []),2) else(ZwC F I).bind fun h=>some (h,0))
def ZwB{F L h}{Ze Zd Zl Zk Zt Zr}{r}(ZA:L<=h.size)(G:Sl Zg L h Ze Zd I.args)(E:Sl Zc L h Zl Zk I.qK)(Q:Sl Zw L h Zt Zr I.qQ)(p:ZwC F I=some r):
 WR XX 93 #[.agg (q1W I Ze Zd Zl Zk Zt Zr).toArray] L h (CP (fun v Gb=>∃K P S V W X,v=.agg (q1W r K P S V W X).toArray/\Gb=[Yp L (Yz Zg) (K,P) r.args,Yp L (Yz Zc) (S,V) r.qK,Yp L (Yz Zw) (W,X) r.qQ]) [] h):=by
 refine bg ntmps93 ZA Z0.nil ?_;intro T hT l;unfold ZwC at p;refine r3 ?_;rintro _ h2 ⟨b1,eb1,rfl,l⟩;refine r1 ?_;rintro _ h4 ⟨b3,eb3,rfl,l⟩;refine r5 ?_;have⟨x5,hx5,p⟩:=bS p;refine V9 (Yc.f (Zb (ZC fh rfl) Zf)) l .n (fun g' C m D=>ZET (l.Vc C) ((l.sl G).mono m) ((l.sl E).mono m) ((l.sl Q).mono m) hx5) ?_;rintro _ h9 _ ⟨a6,n7,c8,rfl,rfl⟩ l;obtain rfl:=l.on k0;refine V8 (XG ZQv (Zy (KP rfl) (Zy (ZC fh rfl) ZN)) rfl (cs':=[V4 2,.string (⟨#[]⟩:Y),V3,.slice a6 x5.length c8,.bool false]) rfl)<|r1 ?_;rintro _ h12 ⟨b11,ZQa,rfl,l⟩;refine r6 ?_;refine V8 (XG Zw9 ZN rfl (cs':=[V3,V3]) rfl)<|r1 ?_;have⟨Qk,Ux,p⟩:=bS p;refine V9 (Yc.f (Zb (ZC (Yd rfl fh) rfl) (Zb (ZC (Zm rfl fh) rfl) (Zb (ZC fh rfl) Zf)))) l (.a (.a .n)) (fun g' C m D=>ZPm (I:=(Walk.mk 2 (⟨#[]⟩:Y) [] x5 false)) (p1:=(Change.mk [] [])) (l.Vc C) Sl.nil Sl.nil Sl.nil ((l.sl G).mono m) ((l.sl E).mono m) ((l.sl Q).mono m) D Ux) ?_;rintro _ h29 _ ⟨a14,c16,a17,n18,c19,B,x,A,t,y,q,rfl,rfl⟩ l;obtain rfl:=l.on k2;refine r1 ?_;rintro h31 l;refine r3 ?_;obtain rfl:=Oi0 p;exact YG.QM rfl (YE (Xe rfl (Zm rfl fh)) (Xc Q8 YB (l.Ug k0) (j:=0) rfl rfl (ws:=(q1W Qk.2 B x A t y q)) rfl) Zp) ⟨_,⟨B,x,A,t,y,q,rfl,rfl⟩,hT▸l.only (.f (.f (.f .n)))⟩
def ZPG{F L h}{Ze Zd Zl Zk Zt Zr}{r}(ZA:L<=h.size)(G:Sl Zg L h Ze Zd I.args)(E:Sl Zc L h Zl Zk I.qK)(Q:Sl Zw L h Zt Zr I.qQ)(m:ZE2 F I=some r):
 WR XX 44 #[.agg (q1W I Ze Zd Zl Zk Zt Zr).toArray] L h (CP (fun v Gb=>∃K P S V W X,v=.tuple #[.agg (q1W r.1 K P S V W X).toArray,V4 r.2]/\Gb=[Yp L (Yz Zg) (K,P) r.1.args,Yp L (Yz Zc) (S,V) r.1.qK,Yp L (Yz Zw) (W,X) r.1.qQ]) [] h):=by
 refine bg ntmps44 ZA Z0.nil ?_;intro T D l;unfold ZE2 at m;refine r3 ?_;rintro _ h2 ⟨b1,eb1,rfl,l⟩;refine r1 ?_;rintro _ h4 ⟨b3,eb3,rfl,l⟩;refine r7 ?_;have⟨x5,hx5,m⟩:=bS m;refine WO.cp gN rfl (Yc.f (Zb lk Zf)) (ZwK (l.WI G) (l.WI E) (l.WI Q) hx5)<|r3 ?_;refine cn m ?_ ?_;.intro hc m;refine r2 ?_;refine V8 (XG ZuR ZN rfl (cs':=[V4 0,.string (⟨#[]⟩:Y),V3,V3,V3]) rfl)<|r1 ?_;rintro h6 l;refine r5 ?_;have l:=l.add (A:=Yp L (Yz Zg) (none,0) []) Sl.nil (fun _ z=>z);have l:=l.add (A:=Yp L (Yz Zc) (none,0) []) Sl.nil (fun _ z=>z);have l:=l.add (A:=Yp L (Yz Zw) (none,0) []) Sl.nil (fun _ z=>z);obtain rfl:=Oi0 m;exact YG.gen (vs:=[.agg #[V4 0,.string (⟨#[]⟩:Y),V3,V3,V3],V4 2]) rfl (YE (Ym rfl (Yd rfl fh)) (Xc Q8 YB (l.Ug k3) (j:=0) rfl rfl (ws:=[V4 0,.string (⟨#[]⟩:Y),V3,V3,V3]) rfl) (ZB lk Zp)) rfl ⟨_,⟨none,0,none,0,none,0,rfl,rfl⟩,D▸l.only (.d (.b (.a .n)))⟩
 intro hc m;refine r5 ?_;have⟨x7,hx7,m⟩:=bS m;refine V9 (Yc.f (Zb lk Zf)) l .n (fun g' hz B hO=>ZwB (l.Vc hz) ((l.sl G).mono B) ((l.sl E).mono B) ((l.sl Q).mono B) hx7) ?_;rintro _ h17 _ ⟨C,t,y,q,x,p,rfl,rfl⟩ l;refine r1 ?_;rintro h19 l;refine r4 ?_;obtain rfl:=Oi0 m;exact YG.gen (vs:=[.agg (q1W x7 C t y q x p).toArray,V4 0]) rfl (YE (Ym rfl (Yd rfl (Zm rfl fh))) (Xc Q8 YB (l.Ug k0) (j:=0) rfl rfl (ws:=(q1W x7 C t y q x p)) rfl) (ZB lk Zp)) rfl ⟨_,⟨C,t,y,q,x,p,rfl,rfl⟩,D▸l.only (.b (.b (.b .n)))⟩
def ZAF(F:Nat)(I:Term)(p1:Term):O (Z×Int):=
 (Zq5 F I).bind fun m=>(gd (!(m !=0)) (Zq5 F p1) default).bind fun q=>(bif((m !=0)||(q !=0)) then some (false,2) else(ZwC F I).bind fun p=>(ZwC F p1).bind fun l=>(Zt8 F p l).bind fun h=>some (h,0))
def ZPI{F L h}{Ze Zd Zl Zk Zt Zr Zn Zo Z6 Z5 YJ YI}{r}(ZA:L<=h.size)(B:Sl Zg L h Ze Zd I.args)(y:Sl Zc L h Zl Zk I.qK)(C:Sl Zw L h Zt Zr I.qQ)(A:Sl Zg L h Zn Zo p1.args)(D:Sl Zc L h Z6 Z5 p1.qK)(E:Sl Zw L h YJ YI p1.qQ)(m:ZAF F I p1=some r):
 WR XX 42 #[.agg (q1W I Ze Zd Zl Zk Zt Zr).toArray,.agg (q1W p1 Zn Zo Z6 Z5 YJ YI).toArray] L h (CP (fun v (Gb:U (Ast L))=>v=.tuple #[.bool r.1,V4 r.2]/\Gb=[]) [] h):=by
 refine bg ntmps42 ZA Z0.nil ?_;intro T x l;unfold ZAF at m;refine r3 ?_;rintro _ h2 ⟨b1,W,rfl,l⟩;refine r1 ?_;rintro _ h4 ⟨b3,V,rfl,l⟩;refine r8 ?_;have⟨x5,hx5,m⟩:=bS m;refine WO.cp gN rfl (Yc.f (Zb lk Zf)) (ZwK (l.WI B) (l.WI y) (l.WI C) hx5)<|r3 ?_;have⟨x6,hx6,m⟩:=YS m;refine WO.gcp (Zh.no rfl rfl rfl (Zm rfl fh)) rfl (fun t=>(Yc.f (Zb (Xz fh rfl t) Zf))) (fun t=>ZwK (l.WI A) (l.WI D) (l.WI E) (hx6 t))<|r4 ?_;refine cn m ?_ ?_;.intro G m;refine r8 ?_;obtain rfl:=Oi0 m;exact YG.gen (vs:=[.bool false,V4 2]) rfl (ZB lk (ZB lk Zp)) rfl ⟨_,⟨rfl,rfl⟩,x▸l.only .n⟩
 intro G m;refine r3 ?_;refine WC.XJ mixed Kq0<|r1 ?_;have⟨x7,hx7,m⟩:=bS m;refine WX.cl0 gN rfl (Yc.f (Zb lk Zf)) l .n (fun S q p K=>ZwB (l.Vc q) ((l.sl B).mono p) ((l.sl y).mono p) ((l.sl C).mono p) hx7) ?_ rfl rfl;rintro _ Q _ ⟨a8,c10,a11,c13,a14,c16,rfl,rfl⟩ l;refine r1 ?_;have⟨x19,ZDl,m⟩:=bS m;refine WX.cl0 gN rfl (Yc.f (Zb lk Zf)) l .n (fun S q p K=>ZwB (l.Vc q) ((l.sl A).mono p) ((l.sl D).mono p) ((l.sl E).mono p) ZDl) ?_ rfl rfl;rintro _ P _ ⟨a20,c22,a23,c25,a26,X,rfl,rfl⟩ l;have⟨x31,hx31,m⟩:=bS m;refine WX.cp gN rfl (Yc.f (Zb lk (Zb lk Zf))) (ZwJ (l.Zba k3) (l.Zba k4) (l.Zba k5) (l.Zba k0) (l.Zba k1) (l.Zba k2) hx31) ?_ rfl rfl;refine r5 ?_;obtain rfl:=Oi0 m;exact YG.gen (vs:=[.bool x31,V4 0]) rfl (ZB lk (ZB lk Zp)) rfl ⟨_,⟨rfl,rfl⟩,x▸l.only .n⟩
def ZPJ{F h}{Ze Zd Zl Zk Zt Zr Zn Zo Z6 Z5 YJ YI}{r}(q:Sl Zg h.size h Ze Zd I.args)(m:Sl Zc h.size h Zl Zk I.qK)(t:Sl Zw h.size h Zt Zr I.qQ)(p:Sl Zg h.size h Zn Zo p1.args)(x:Sl Zc h.size h Z6 Z5 p1.qK)(y:Sl Zw h.size h YJ YI p1.qQ)(l:ZAF F I p1=some r):Pure XX 42 #[.agg (q1W I Ze Zd Zl Zk Zt Zr).toArray,.agg (q1W p1 Zn Zo Z6 Z5 YJ YI).toArray] h (.tuple #[.bool r.1,V4 r.2]):=
 WR.JE rfl (ZPI V7 q m t p x y l)
def ZkL(I:(U Y))(p1:(U Y)):Lp (Int) Z:=fun h ZLj=>
 (bif decide (h<(I.length:Int)) then(Z7 I h).bind fun m=>(Z7 p1 h).bind fun l=>(bif(!decide (m=l)) then some false else ZLj (Xa (h+1))) else some true)
def ZmT(F:Nat)(I:(U Y))(p1:(U Y)):O Z:=
 (bif((I.length:Int) !=(p1.length:Int)) then some false else loop F (ZkL I p1) 0)
def ZmU(F:Nat)(I:ZU)(p1:ZU):O Z:=
 (gd (decide (I.qJ=p1.qJ)) (ZmT F I.names p1.names) default).bind fun h=>some ((decide (I.qJ=p1.qJ))&&h)
def ZyM(F:Nat)(I:(U ZU))(p1:(U ZU)):Lp (Int) Z:=fun h Zbu=>
 (bif decide (h<(I.length:Int)) then(Z7 I h).bind fun p=>(Z7 p1 h).bind fun m=>(ZmU F p m).bind fun l=>(bif(!l) then some false else Zbu (Xa (h+1))) else some true)
def ZmV(F:Nat)(I:(U ZU))(p1:(U ZU)):O Z:=
 (bif((I.length:Int) !=(p1.length:Int)) then some false else loop F (ZyM F I p1) 0)
def Zy6(I:(U Zi))(p1:(U Zi))(ZoU:((Zi×Zi)->O Z)):Lp (Int) Z:=fun h Zbu=>
 (bif decide (h<(I.length:Int)) then(Z7 I h).bind fun p=>(Z7 p1 h).bind fun m=>(ZoU (p,m)).bind fun l=>(bif(!l) then some false else Zbu (Xa (h+1))) else some true)
def Zy7(F:Nat)(ZoU:((Zi×Zi)->O Z))(I:(U Zi))(p1:(U Zi)):O Z:=
 (bif((I.length:Int) !=(p1.length:Int)) then some false else loop F (Zy6 I p1 ZoU) 0)
def Zd4(F:Nat):Lp ((Zi×Zi)) Z:=fun(I,p1) l=>
 (bif(((I.op==p1.op)&&(I.n==p1.n))&&(decide (I.qJ=p1.qJ))) then(Zy7 F l I.qQ p1.qQ).bind fun h=>some h else some false)
def Zy0(I:(U Term))(p1:(U Term))(Zlw:((Term×Term)->O Z)):Lp (Int) Z:=fun h Zbu=>
 (bif decide (h<(I.length:Int)) then(Z7 I h).bind fun m=>(Z7 p1 h).bind fun p=>(Zlw (m,p)).bind fun l=>(bif(!l) then some false else Zbu (Xa (h+1))) else some true)
def Zy1(F:Nat)(Zlw:((Term×Term)->O Z))(I:(U Term))(p1:(U Term)):O Z:=
 (bif((I.length:Int) !=(p1.length:Int)) then some false else loop F (Zy0 I p1 Zlw) 0)
def ZJf{F L h}{I p1:(U Y)}{Ze Zd Zn Zo}{r}(B:L<=h.size)(A:Sl Zq L h Ze Zd I)(y:Sl Zq L h Zn Zo p1)(l:ZmT F I p1=some r):
 WR XX 158 #[.slice Ze I.length Zd,.slice Zn p1.length Zo] L h (CP (fun v (Gb:U (Ast L))=>v=.bool r/\Gb=[]) [] h):=by
 refine bg ntmps158 B Z0.nil ?_;intro T t m;unfold ZmT at l;refine r15 ?_;refine cn l ?_ ?_;.intro q l;refine r7 ?_;exact rt l t m
 intro q l;refine UC ?_;refine WC.loop (WL.lift l (fun x s=>∃p h1,s=⟨p,[],h1,none⟩/\Sp L T h [] h1/\p.at 0=.slice Ze I.length Zd/\p.at 1=.slice Zn p1.length Zo/\p.at 12= V4 (I.length:Int)/\p.at 13= V4 x) ⟨_,_,rfl,m.only .n,YF⟩ ?_);rintro ZLj x s ZNX l ⟨p,h1,rfl,m,G,E,D,C⟩;refine r6 ?_;refine cn l ?_ ?_
 .intro q l;refine UC ?_;refine WC.XJ mixed Kq0<|r2 ?_;have⟨x9,hx9,l⟩:=bS l;have⟨b10,o11,_,ZUn,ZVw,ZU3,Z2r⟩:=Sl.at_ A hx9;refine Vb (ZF Qc Qi lk lk rfl ZUn hx9)<|Vb (Z4 UA (ZC fh rfl) (At.fz m.fz ZU3 ZVw) (j:=0) rfl (v:=.string x9) rfl)<|r2 ?_;have⟨x12,ZiU,l⟩:=bS l;have⟨b13,o14,_,ZD3,ZEi,ZEc,ZLX⟩:=Sl.at_ y ZiU;refine Vb (ZF Qc Qi lk lk rfl ZD3 ZiU)<|Vb (Z4 UA (ZC fh rfl) (At.fz m.fz ZEc ZEi) (j:=0) rfl (v:=.string x12) rfl)<|Vb (Xg (ZC (Ym rfl fh) rfl) (ZC fh rfl) UB)<|r2 ?_;refine cn l ?_ ?_;.intro q l;refine UC ?_;exact rt l t m
  intro q l;refine r7 ?_;exact ZR.Yx (ZNX _ _ l ⟨_,_,rfl,m.only .n,YF⟩)
 intro q l;refine UC ?_;exact rt l t m
def ZJg{F h}{I p1:(U Y)}{Ze Zd Zn Zo}{r}(p:Sl Zq h.size h Ze Zd I)(m:Sl Zq h.size h Zn Zo p1)(l:ZmT F I p1=some r):Pure XX 158 #[.slice Ze I.length Zd,.slice Zn p1.length Zo] h (.bool r):=
 WR.JE rfl (ZJf V7 p m l)
def ZJh{F L h}{I p1:ZU}{Ze Zd Zn Zo}{r}(B:L<=h.size)(A:Sl Zq L h Ze Zd I.names)(y:Sl Zq L h Zn Zo p1.names)(p:ZmU F I p1=some r):
 WR XX 157 #[.agg #[.string I.qJ,.slice Ze I.names.length Zd],.agg #[.string p1.qJ,.slice Zn p1.names.length Zo]] L h (CP (fun v (Gb:U (Ast L))=>v=.bool r/\Gb=[]) [] h):=by
 refine bg ntmps157 B Z0.nil ?_;intro T q l;unfold ZmU at p;refine r3 ?_;rintro _ h2 ⟨E,x,rfl,l⟩;refine r1 ?_;rintro _ C ⟨D,t,rfl,l⟩;refine r9 ?_;refine V8 (Xg (ZC (Yd rfl fh) rfl) (ZC fh rfl) QD)<|r5 ?_;have⟨x5,hx5,p⟩:=YS p;refine WO.gcp (Zh.yes rfl rfl rfl (Ym rfl fh)) rfl (fun m=>(Yc.f (Zb (Xz (Yd rfl fh) rfl m) (Zb (Xz fh rfl m) Zf)))) (fun m=>ZJg (l.WI A) (l.WI y) (hx5 m))<|r5 ?_;exact rt p q l
def ZJi{F h}{I p1:ZU}{Ze Zd Zn Zo}{r}(p:Sl Zq h.size h Ze Zd I.names)(m:Sl Zq h.size h Zn Zo p1.names)(l:ZmU F I p1=some r):Pure XX 157 #[.agg #[.string I.qJ,.slice Ze I.names.length Zd],.agg #[.string p1.qJ,.slice Zn p1.names.length Zo]] h (.bool r):=
 WR.JE rfl (ZJh V7 p m l)
def ZJj{F L h}{I p1:(U ZU)}{Ze Zd Zn Zo}{r}(P:L<=h.size)(K:Sl ZG L h Ze Zd I)(G:Sl ZG L h Zn Zo p1)(l:ZmV F I p1=some r):
 WR XX 156 #[.slice Ze I.length Zd,.slice Zn p1.length Zo,.func (.func 157) #[] #[]] L h (CP (fun v (Gb:U (Ast L))=>v=.bool r/\Gb=[]) [] h):=by
 refine bg ntmps156 P Z0.nil ?_;intro T t m;unfold ZmV at l;refine r15 ?_;refine cn l ?_ ?_;.intro q l;refine r7 ?_;exact rt l t m
 intro q l;refine UC ?_;refine WC.loop (WL.lift l (fun x s=>∃p h1,s=⟨p,[],h1,none⟩/\Sp L T h [] h1/\p.at 1=.slice Zn p1.length Zo/\p.at 2=.func (.func 157) #[] #[]/\p.at 15=.slice Ze I.length Zd/\p.at 16= V4 (I.length:Int)/\p.at 17= V4 x) ⟨_,_,rfl,m.only .n,YF⟩ ?_);rintro Zbu x s ZcF l ⟨p,h1,rfl,m,X,W,V,S,Q⟩;refine r6 ?_;refine cn l ?_ ?_
 .intro q l;refine r7 ?_;have⟨x10,ZaF,l⟩:=bS l;have⟨b11,o12,⟨a13,c14⟩,Zhk,Zhm,Zmd,Ku⟩:=Sl.at_ K ZaF;refine V8 (ZF Qy YQ lk lk rfl Zhk ZaF) ?_;have ZdM:Sl Zq L h a13 c14 x10.names:=Ku;refine V8 (Yb ZbP YQ (ZC fh rfl) (At.fz m.fz Zmd Zhm) (j:=0) rfl rfl (ws:=[.string x10.qJ,.slice a13 x10.names.length c14]) rfl)<|r1 ?_;rintro _ C ⟨E,ZVO,rfl,m⟩;refine r2 ?_;rintro B m;refine r6 ?_;have⟨x18,UR,l⟩:=bS l;have⟨b19,o20,⟨a21,c22⟩,Zca,Zcd,Zcc,UM⟩:=Sl.at_ G UR;refine V8 (ZF Qy YQ lk lk rfl Zca UR) ?_;have Zc7:Sl Zq L h a21 c22 x18.names:=UM;refine V8 (Yb ZbP YQ (ZC fh rfl) (At.fz m.fz Zcc Zcd) (j:=0) rfl rfl (ws:=[.string x18.qJ,.slice a21 x18.names.length c22]) rfl)<|r1 ?_;rintro _ A ⟨D,ZP8,rfl,m⟩;refine r1 ?_;rintro y m;refine r7 ?_;have⟨x26,ZlR,l⟩:=bS l;refine WO.cp gN rfl (Yc.clo (first:=[]) (cap:=[]) lk ZN8 lks rfl) (ZJi (m.WI ZdM) (m.WI Zc7) ZlR)<|r3 ?_;refine cn l ?_ ?_;.intro q l;refine UC ?_;exact rt l t m
  intro q l;refine r7 ?_;exact ZR.Yx (ZcF _ _ l ⟨_,_,rfl,m.only .n,YF⟩)
 intro q l;refine UC ?_;exact rt l t m
def ZJk{F h}{I p1:(U ZU)}{Ze Zd Zn Zo}{r}(p:Sl ZG h.size h Ze Zd I)(m:Sl ZG h.size h Zn Zo p1)(l:ZmV F I p1=some r):Pure XX 156 #[.slice Ze I.length Zd,.slice Zn p1.length Zo,.func (.func 157) #[] #[]] h (.bool r):=
 WR.JE rfl (ZJj V7 p m l)
def Zy5{F L}{ZoU:((Zi×Zi)->O Z)}(ZNW:∀(x:(Zi×Zi))(r:Z),ZoU x=some r->(match x with | (I,p1)=>∀{h Ze Zd Zn Zo}(G:L<=h.size)(E:Sl Zg L h Ze Zd I.qQ)(D:Sl Zg L h Zn Zo p1.qQ),WR XX 130 #[.agg (q2W I Ze Zd).toArray,.agg (q2W p1 Zn Zo).toArray] L h (CP (fun v (Gb:U (Ast L))=>v=.bool r/\Gb=[]) [] h))){h}{I p1:(U Zi)}{Ze Zd Zn Zo}{r}(G:L<=h.size)(E:Sl Zg L h Ze Zd I)(D:Sl Zg L h Zn Zo p1)(l:Zy7 F ZoU I p1=some r):
 WR XX 129 #[.slice Ze I.length Zd,.slice Zn p1.length Zo,.func (.func 130) #[] #[]] L h (CP (fun v (Gb:U (Ast L))=>v=.bool r/\Gb=[]) [] h):=by
 refine bg ntmps129 G Z0.nil ?_;intro T t m;unfold Zy7 at l;refine r15 ?_;refine cn l ?_ ?_;.intro q l;refine r7 ?_;exact rt l t m
 intro q l;refine UC ?_;refine WC.loop (WL.lift l (fun B s=>∃p h1,s=⟨p,[],h1,none⟩/\Sp L T h [] h1/\p.at 1=.slice Zn p1.length Zo/\p.at 2=.func (.func 130) #[] #[]/\p.at 15=.slice Ze I.length Zd/\p.at 16= V4 (I.length:Int)/\p.at 17= V4 B) ⟨_,_,rfl,m.only .n,YF⟩ ?_);rintro Zbu B s ZcF l ⟨p,h1,rfl,m,e3,e4,e5,e6,e8⟩;refine r6 ?_;refine cn l ?_ ?_
 .intro q l;refine r7 ?_;have⟨x10,ZaF,l⟩:=bS l;have⟨b11,o12,⟨a13,c14⟩,Zhk,Zhm,Zmd,A⟩:=Sl.at_ E ZaF;replace A:=Yj.1 A;refine V8 (ZF Jw Yo lk lk rfl Zhk ZaF) ?_;have ZdM:Sl Zg L h a13 c14 x10.qQ:=A;refine V8 (Yb QR Yo (ZC fh rfl) (At.fz m.fz Zmd Zhm) (j:=0) rfl rfl (ws:=(q2W x10 a13 c14)) rfl)<|r1 ?_;rintro _ W ⟨b15,ZVO,rfl,m⟩;refine r2 ?_;rintro V m;refine r6 ?_;have⟨x18,UR,l⟩:=bS l;have⟨b19,o20,⟨a21,c22⟩,Zca,Zcd,Zcc,y⟩:=Sl.at_ D UR;replace y:=Yj.1 y;refine V8 (ZF Jw Yo lk lk rfl Zca UR) ?_;have Zc7:Sl Zg L h a21 c22 x18.qQ:=y;refine V8 (Yb QR Yo (ZC fh rfl) (At.fz m.fz Zcc Zcd) (j:=0) rfl rfl (ws:=(q2W x18 a21 c22)) rfl)<|r1 ?_;rintro _ S ⟨X,ZP8,rfl,m⟩;refine r1 ?_;rintro Q m;refine r7 ?_;have⟨x26,ZlR,l⟩:=bS l;refine V9 (Yc.clo (first:=[]) (cap:=[]) lk ZOa lks rfl) m .n (fun g' K C hO=>(ZNW _ _ ZlR) (m.Vc K) ((m.sl ZdM).mono C) ((m.sl Zc7).mono C)) ?_;rintro _ P _ ⟨rfl,rfl⟩ m;refine r3 ?_;refine cn l ?_ ?_;.intro q l;refine UC ?_;exact rt l t m
  intro q l;refine r7 ?_;exact ZR.Yx (ZcF _ _ l ⟨_,_,rfl,m.only .n,YF⟩)
 intro q l;refine UC ?_;exact rt l t m
def ZFb:∀(Fr:Nat)(x:(Zi×Zi))(r:Z),loop Fr (Zd4 F) x=some r->(match x with | (I,p1)=>∀{h:H}{y:O Addr}{A:Nat}{t:O Addr}{q:Nat}(K:L<=h.size)(G:Sl Zg L h y A I.qQ)(E:Sl Zg L h t q p1.qQ),WR XX 130 #[.agg (q2W I y A).toArray,.agg (q2W p1 t q).toArray] L h (CP (fun v (Gb:U (Ast L))=>v=.bool r/\Gb=[]) [] h)):=by
 refine YZ _ ?_;rintro Zu V ⟨I,p1⟩ r p h y A t q K G E;refine bg ntmps130 K Z0.nil ?_;intro T D m;refine r3 ?_;rintro _ h3 ⟨b2,S,rfl,m⟩;refine r1 ?_;rintro _ h5 ⟨b4,Q,rfl,m⟩;refine r16 ?_;refine r6 ?_;refine WO.gv (Zh.yes rfl rfl rfl (Ym rfl fh)) rfl (fun B=>(Xg (Xz (Yd rfl fh) rfl B) (Xz fh rfl B) QD))<|r6 ?_;refine WO.Wl (Zh.yes rfl rfl rfl (Ym rfl fh)) (fun l=>?_) (fun l=>?_);.replace p:=Qf l p;have⟨x7,hx7,p⟩:=bS p;refine WO.cl (Zh.on (Zh.yes rfl rfl rfl (Ym rfl fh)) l) rfl (Yc.f (Zb (Xz (Yd rfl fh) rfl l) (Zb (Xz fh rfl l) (Zb Zrm Zf)))) m .n (fun g' P C W=>(Zy5 V) (m.Vc P) ((m.sl G).mono C) ((m.sl E).mono C) hx7) ?_;rintro _ X _ ⟨rfl,rfl⟩ m;refine V8 (Kh lk l lk)<|r4 ?_;exact rt p D m
 replace p:=Qg l p;refine WO.Ql (Zh.yes rfl rfl rfl (Ym rfl fh)) l rfl<|V8 (Uf lk l lk)<|r4 ?_;exact rt p D m
def ZyZ{F L}{Zlw:((Term×Term)->O Z)}(ZDx:∀(x:(Term×Term))(r:Z),Zlw x=some r->(match x with | (I,p1)=>∀{h Ze Zd Zl Zk Zt Zr Zn Zo Z6 Z5 YJ YI}(ZA:L<=h.size)(Zj:Sl Zg L h Ze Zd I.args)(Zx:Sl Zc L h Zl Zk I.qK)(ZE:Sl Zw L h Zt Zr I.qQ)(Zv:Sl Zg L h Zn Zo p1.args)(Yg:Sl Zc L h Z6 Z5 p1.qK)(Xf:Sl Zw L h YJ YI p1.qQ),WR XX 91 #[.agg (q1W I Ze Zd Zl Zk Zt Zr).toArray,.agg (q1W p1 Zn Zo Z6 Z5 YJ YI).toArray] L h (CP (fun v (Gb:U (Ast L))=>v=.bool r/\Gb=[]) [] h))){h}{I p1:(U Term)}{Ze Zd Zn Zo}{r}(ZA:L<=h.size)(Zj:Sl Zw L h Ze Zd I)(Zv:Sl Zw L h Zn Zo p1)(l:Zy1 F Zlw I p1=some r):
 WR XX 133 #[.slice Ze I.length Zd,.slice Zn p1.length Zo,.func (.func 91) #[] #[]] L h (CP (fun v (Gb:U (Ast L))=>v=.bool r/\Gb=[]) [] h):=by
 refine bg ntmps133 ZA Z0.nil ?_;intro T hT m;unfold Zy1 at l;refine r15 ?_;refine cn l ?_ ?_;.intro t l;refine r7 ?_;exact rt l hT m
 intro t l;refine UC ?_;refine WC.loop (WL.lift l (fun v7 s=>∃p h1,s=⟨p,[],h1,none⟩/\Sp L T h [] h1/\p.at 1=.slice Zn p1.length Zo/\p.at 2=.func (.func 91) #[] #[]/\p.at 15=.slice Ze I.length Zd/\p.at 16= V4 (I.length:Int)/\p.at 17= V4 v7) ⟨_,_,rfl,m.only .n,YF⟩ ?_);rintro Zbu v7 s ZcF l ⟨p,h1,rfl,m,e3,e4,e5,e6,e8⟩;refine r6 ?_;refine cn l ?_ ?_
 .intro t l;refine r7 ?_;have⟨x10,ZaF,l⟩:=bS l;obtain⟨b11,o12,⟨⟨V,E⟩,⟨S,D⟩,⟨Q,C⟩⟩,Zhk,Zhm,Zmd,X⟩:=Sl.at_ Zj ZaF;replace X:=XR.1 X;refine V8 (ZF Uk YB lk lk rfl Zhk ZaF) ?_;have ZdM:Sl Zg L h V E x10.args:=X.1;have Zj8:Sl Zc L h S D x10.qK:=X.2.1;have ZDt:Sl Zw L h Q C x10.qQ:=X.2.2;refine V8 (Yb Q8 YB (ZC fh rfl) (At.fz m.fz Zmd Zhm) (j:=0) rfl rfl (ws:=(q1W x10 V E S D Q C)) rfl)<|r1 ?_;rintro _ h20 ⟨b19,ZJP,rfl,m⟩;refine r2 ?_;rintro h21 m;refine r6 ?_;have⟨QE,UQ,l⟩:=bS l;obtain⟨b23,o24,⟨⟨P,B⟩,⟨K,A⟩,⟨G,y⟩⟩,JG,JI,JH,W⟩:=Sl.at_ Zv UQ;replace W:=XR.1 W;refine V8 (ZF Uk YB lk lk rfl JG UQ) ?_;have WY:Sl Zg L h P B QE.args:=W.1;have Zpc:Sl Zc L h K A QE.qK:=W.2.1;have Zj7:Sl Zw L h G y QE.qQ:=W.2.2;refine V8 (Yb Q8 YB (ZC fh rfl) (At.fz m.fz JH JI) (j:=0) rfl rfl (ws:=(q1W QE P B K A G y)) rfl)<|r1 ?_;rintro _ h32 ⟨b31,ZVK,rfl,m⟩;refine r1 ?_;rintro h33 m;refine r7 ?_;have⟨x34,hx34,l⟩:=bS l;refine V9 (Yc.clo (first:=[]) (cap:=[]) lk ZTU lks rfl) m .n (fun g' hz q hO=>(ZDx _ _ hx34) (m.Vc hz) ((m.sl ZdM).mono q) ((m.sl Zj8).mono q) ((m.sl ZDt).mono q) ((m.sl WY).mono q) ((m.sl Zpc).mono q) ((m.sl Zj7).mono q)) ?_;rintro _ h35 _ ⟨rfl,rfl⟩ m;refine r3 ?_;refine cn l ?_ ?_;.intro t l;refine UC ?_;exact rt l hT m
  intro t l;refine r7 ?_;exact ZR.Yx (ZcF _ _ l ⟨_,_,rfl,m.only .n,YF⟩)
 intro t l;refine UC ?_;exact rt l hT m
def Zy3(I:(U Za))(p1:(U Za))(ZoT:((Za×Za)->O Z)):Lp (Int) Z:=fun h Zbu=>
 (bif decide (h<(I.length:Int)) then(Z7 I h).bind fun m=>(Z7 p1 h).bind fun p=>(ZoT (m,p)).bind fun l=>(bif(!l) then some false else Zbu (Xa (h+1))) else some true)
def Zy4(F:Nat)(ZoT:((Za×Za)->O Z))(I:(U Za))(p1:(U Za)):O Z:=
 (bif((I.length:Int) !=(p1.length:Int)) then some false else loop F (Zy3 I p1 ZoT) 0)
def Zd3(F:Nat)(Zlw:((Term×Term)->O Z)):Lp ((Za×Za)) Z:=fun(I,p1) p=>
 (gd ((I.qV==p1.qV)&&(decide (I.qJ=p1.qJ))) (ZmV F I.qG p1.qG) default).bind fun m=>(bif(((I.qV==p1.qV)&&(decide (I.qJ=p1.qJ)))&&m) then(Zy4 F p I.qK p1.qK).bind fun l=>(bif l then(Zy1 F Zlw I.qQ p1.qQ).bind fun h=>some h else some false) else some false)
def Zhu(F:Nat):Lp ((Term×Term)) Z:=fun(I,p1) m=>
 (bif((I.op==p1.op)&&(decide (I.qJ=p1.qJ))) then(Zy7 F (loop F (Zd4 F)) I.args p1.args).bind fun p=>(bif p then(Zy4 F (loop F (Zd3 F m)) I.qK p1.qK).bind fun l=>(bif l then(Zy1 F m I.qQ p1.qQ).bind fun h=>some h else some false) else some false) else some false)
def ZIR(F:Nat)(I:Term)(p1:Term):O Z:=
 loop F (Zhu F) (I,p1)
def Zy2{F L}{ZoT:((Za×Za)->O Z)}(ZNV:∀(x:(Za×Za))(r:Z),ZoT x=some r->(match x with | (I,p1)=>∀{h Ze Zd Zl Zk Zt Zr Zn Zo Z6 Z5 YJ YI}(ZA:L<=h.size)(Zj:Sl ZG L h Ze Zd I.qG)(Zx:Sl Zc L h Zl Zk I.qK)(ZE:Sl Zw L h Zt Zr I.qQ)(Zv:Sl ZG L h Zn Zo p1.qG)(Yg:Sl Zc L h Z6 Z5 p1.qK)(Xf:Sl Zw L h YJ YI p1.qQ),WR XX 132 #[.agg (q3W I Ze Zd Zl Zk Zt Zr).toArray,.agg (q3W p1 Zn Zo Z6 Z5 YJ YI).toArray] L h (CP (fun v (Gb:U (Ast L))=>v=.bool r/\Gb=[]) [] h))){h}{I p1:(U Za)}{Ze Zd Zn Zo}{r}(ZA:L<=h.size)(Zj:Sl Zc L h Ze Zd I)(Zv:Sl Zc L h Zn Zo p1)(l:Zy4 F ZoT I p1=some r):
 WR XX 131 #[.slice Ze I.length Zd,.slice Zn p1.length Zo,.func (.func 132) #[] #[]] L h (CP (fun v (Gb:U (Ast L))=>v=.bool r/\Gb=[]) [] h):=by
 refine bg ntmps131 ZA Z0.nil ?_;intro T hT m;unfold Zy4 at l;refine r15 ?_;refine cn l ?_ ?_;.intro t l;refine r7 ?_;exact rt l hT m
 intro t l;refine UC ?_;refine WC.loop (WL.lift l (fun v7 s=>∃p h1,s=⟨p,[],h1,none⟩/\Sp L T h [] h1/\p.at 1=.slice Zn p1.length Zo/\p.at 2=.func (.func 132) #[] #[]/\p.at 15=.slice Ze I.length Zd/\p.at 16= V4 (I.length:Int)/\p.at 17= V4 v7) ⟨_,_,rfl,m.only .n,YF⟩ ?_);rintro Zbu v7 s ZcF l ⟨p,h1,rfl,m,e3,e4,e5,e6,e8⟩;refine r6 ?_;refine cn l ?_ ?_
 .intro t l;refine r7 ?_;have⟨x10,ZaF,l⟩:=bS l;obtain⟨b11,o12,⟨⟨V,E⟩,⟨S,D⟩,⟨Q,C⟩⟩,Zhk,Zhm,Zmd,X⟩:=Sl.at_ Zj ZaF;replace X:=ZH.1 X;refine V8 (ZF Qh ZW lk lk rfl Zhk ZaF) ?_;have ZdM:Sl ZG L h V E x10.qG:=X.1;have Zj8:Sl Zc L h S D x10.qK:=X.2.1;have ZDt:Sl Zw L h Q C x10.qQ:=X.2.2;refine V8 (Yb QK ZW (ZC fh rfl) (At.fz m.fz Zmd Zhm) (j:=0) rfl rfl (ws:=(q3W x10 V E S D Q C)) rfl)<|r1 ?_;rintro _ h20 ⟨b19,ZJP,rfl,m⟩;refine r2 ?_;rintro h21 m;refine r6 ?_;have⟨QE,UQ,l⟩:=bS l;obtain⟨b23,o24,⟨⟨P,B⟩,⟨K,A⟩,⟨G,y⟩⟩,JG,JI,JH,W⟩:=Sl.at_ Zv UQ;replace W:=ZH.1 W;refine V8 (ZF Qh ZW lk lk rfl JG UQ) ?_;have WY:Sl ZG L h P B QE.qG:=W.1;have Zpc:Sl Zc L h K A QE.qK:=W.2.1;have Zj7:Sl Zw L h G y QE.qQ:=W.2.2;refine V8 (Yb QK ZW (ZC fh rfl) (At.fz m.fz JH JI) (j:=0) rfl rfl (ws:=(q3W QE P B K A G y)) rfl)<|r1 ?_;rintro _ h32 ⟨b31,ZVK,rfl,m⟩;refine r1 ?_;rintro h33 m;refine r7 ?_;have⟨x34,hx34,l⟩:=bS l;refine V9 (Yc.clo (first:=[]) (cap:=[]) lk ZN9 lks rfl) m .n (fun g' hz q hO=>(ZNV _ _ hx34) (m.Vc hz) ((m.sl ZdM).mono q) ((m.sl Zj8).mono q) ((m.sl ZDt).mono q) ((m.sl WY).mono q) ((m.sl Zpc).mono q) ((m.sl Zj7).mono q)) ?_;rintro _ h35 _ ⟨rfl,rfl⟩ m;refine r3 ?_;refine cn l ?_ ?_;.intro t l;refine UC ?_;exact rt l hT m
  intro t l;refine r7 ?_;exact ZR.Yx (ZcF _ _ l ⟨_,_,rfl,m.only .n,YF⟩)
 intro t l;refine UC ?_;exact rt l hT m
def ZFa{Zlw:((Term×Term)->O Z)}(ZDx:∀(x:(Term×Term))(r:Z),Zlw x=some r->(match x with | (I,p1)=>∀{h:H}{E:O Addr}{G:Nat}{C:O Addr}{D:Nat}{t:O Addr}{y:Nat}{B:O Addr}{A:Nat}{K:O Addr}{P:Nat}{Q:O Addr}{S:Nat}(ZA:L<=h.size)(Zj:Sl Zg L h E G I.args)(Zx:Sl Zc L h C D I.qK)(ZE:Sl Zw L h t y I.qQ)(Zv:Sl Zg L h B A p1.args)(Yg:Sl Zc L h K P p1.qK)(Xf:Sl Zw L h Q S p1.qQ),WR XX 91 #[.agg (q1W I E G C D t y).toArray,.agg (q1W p1 B A K P Q S).toArray] L h (CP (fun v (Gb:U (Ast L))=>v=.bool r/\Gb=[]) [] h))):∀(Fr:Nat)(x:(Za×Za))(r:Z),loop Fr (Zd3 F Zlw) x=some r->(match x with | (I,p1)=>∀{h:H}{E:O Addr}{G:Nat}{C:O Addr}{D:Nat}{t:O Addr}{y:Nat}{B:O Addr}{A:Nat}{K:O Addr}{P:Nat}{Q:O Addr}{S:Nat}(ZA:L<=h.size)(Zj:Sl ZG L h E G I.qG)(Zx:Sl Zc L h C D I.qK)(ZE:Sl Zw L h t y I.qQ)(Zv:Sl ZG L h B A p1.qG)(Yg:Sl Zc L h K P p1.qK)(Xf:Sl Zw L h Q S p1.qQ),WR XX 132 #[.agg (q3W I E G C D t y).toArray,.agg (q3W p1 B A K P Q S).toArray] L h (CP (fun v (Gb:U (Ast L))=>v=.bool r/\Gb=[]) [] h)):=by
 refine YZ _ ?_;rintro Zu Yl ⟨I,p1⟩ r p h E G C D t y B A K P Q S ZA Zj Zx ZE Zv Yg Xf;refine bg ntmps132 ZA Z0.nil ?_;intro T X m;refine r3 ?_;rintro _ h3 ⟨b2,eb2,rfl,m⟩;refine r1 ?_;rintro _ h5 ⟨b4,eb4,rfl,m⟩;refine r15 ?_;refine WO.gv (Zh.yes rfl rfl rfl (Ym rfl fh)) rfl (fun q=>(Xg (Xz (Yd rfl fh) rfl q) (Xz fh rfl q) QD))<|r6 ?_;have⟨x6,hx6,p⟩:=YS p;refine WO.gcp (Zh.yes rfl rfl rfl (Ym rfl fh)) rfl (fun q=>(Yc.f (Zb (Xz (Yd rfl fh) rfl q) (Zb (Xz fh rfl q) (Zb Zrm Zf))))) (fun q=>ZJk (m.WI Zj) (m.WI Zv) (hx6 q))<|r6 ?_;refine WO.Wl (Zh.yes rfl rfl rfl (Ym rfl fh)) (fun l=>?_) (fun l=>?_)
 .replace p:=Qf l p;have⟨x8,hx8,p⟩:=bS p;refine WO.cl (Zh.on (Zh.yes rfl rfl rfl (Ym rfl fh)) l) rfl (Yc.f (Zb (Xz (Yd rfl fh) rfl l) (Zb (Xz fh rfl l) (Zb Zrm Zf)))) m .n (fun g' W V hO=>(Zy2 Yl) (m.Vc W) ((m.sl Zx).mono V) ((m.sl Yg).mono V) hx8) ?_;rintro _ h9 _ ⟨rfl,rfl⟩ m;refine V8 (Kh lk l lk)<|r5 ?_;refine WO.Wl (Zh.yes rfl rfl rfl (Ym rfl fh)) (fun ZqP=>?_) (fun ZqP=>?_);.replace p:=Qf ZqP p;have⟨x12,ZiU,p⟩:=bS p;refine WO.cl (Zh.on (Zh.yes rfl rfl rfl (Ym rfl fh)) ZqP) rfl (Yc.f (Zb (Xz (Yd rfl fh) rfl ZqP) (Zb (Xz fh rfl ZqP) (Zb Zrm Zf)))) m .n (fun g' W V hO=>(ZyZ ZDx) (m.Vc W) ((m.sl ZE).mono V) ((m.sl Xf).mono V) ZiU) ?_;rintro _ h13 _ ⟨rfl,rfl⟩ m;refine V8 (Kh lk ZqP lk)<|r4 ?_;exact rt p X m
  replace p:=Qg ZqP p;refine WO.Ql (Zh.yes rfl rfl rfl (Ym rfl fh)) ZqP rfl<|V8 (Uf lk ZqP lk)<|r4 ?_;exact rt p X m
 replace p:=Qg l p;refine WO.Ql (Zh.yes rfl rfl rfl (Ym rfl fh)) l rfl<|V8 (Uf lk l lk)<|r1 ?_;refine WO.Ql (Zh.yes rfl rfl rfl fh) rfl rfl<|WO.Ql (Zh.yes rfl rfl rfl (Zm rfl fh)) rfl rfl<|WO.Ql (Zh.yes rfl rfl rfl (Yd rfl fh)) rfl rfl<|WO.Ql (Zh.yes rfl rfl rfl (Yd rfl (Zm rfl fh))) rfl rfl<|WO.Ql (Zh.yes rfl rfl rfl (Ym rfl fh)) rfl rfl<|V8 (Uf lk rfl lk)<|r4 ?_;exact rt p X m
def ZIQ:∀(Fr:Nat)(x:(Term×Term))(r:Z),loop Fr (Zhu F) x=some r->(match x with | (I,p1)=>∀{h:H}{P:O Addr}{Q:Nat}{G:O Addr}{K:Nat}{B:O Addr}{C:Nat}{E:O Addr}{D:Nat}{S:O Addr}{V:Nat}{W:O Addr}{X:Nat}(ZA:L<=h.size)(Zj:Sl Zg L h P Q I.args)(Zx:Sl Zc L h G K I.qK)(ZE:Sl Zw L h B C I.qQ)(Zv:Sl Zg L h E D p1.args)(Yg:Sl Zc L h S V p1.qK)(Xf:Sl Zw L h W X p1.qQ),WR XX 91 #[.agg (q1W I P Q G K B C).toArray,.agg (q1W p1 E D S V W X).toArray] L h (CP (fun v (Gb:U (Ast L))=>v=.bool r/\Gb=[]) [] h)):=by
 refine YZ _ ?_;rintro Zu Yl ⟨I,p1⟩ r m h P Q G K B C E D S V W X ZA Zj Zx ZE Zv Yg Xf;refine bg ntmps91 ZA Z0.nil ?_;intro T A p;refine r3 ?_;rintro _ h3 ⟨b2,eb2,rfl,p⟩;refine r1 ?_;rintro _ h5 ⟨b4,eb4,rfl,p⟩;refine r15 ?_;refine WO.gv (Zh.yes rfl rfl rfl (Ym rfl fh)) rfl (fun hg=>(Xg (Xz (Yd rfl fh) rfl hg) (Xz fh rfl hg) QD))<|r6 ?_;refine WO.Wl (Zh.yes rfl rfl rfl (Ym rfl fh)) (fun q=>?_) (fun q=>?_)
 .replace m:=Qf q m;have⟨x7,hx7,m⟩:=bS m;refine WO.cl (Zh.on (Zh.yes rfl rfl rfl (Ym rfl fh)) q) rfl (Yc.f (Zb (Xz (Yd rfl fh) rfl q) (Zb (Xz fh rfl q) (Zb Zrm Zf)))) p .n (fun g' y t hO=>(Zy5 (ZFb F)) (p.Vc y) ((p.sl Zj).mono t) ((p.sl Zv).mono t) hx7) ?_;rintro _ h8 _ ⟨rfl,rfl⟩ p;refine V8 (Kh lk q lk)<|r5 ?_;refine WO.Wl (Zh.yes rfl rfl rfl (Ym rfl fh)) (fun l=>?_) (fun l=>?_)
  .replace m:=Qf l m;have⟨x11,ZiV,m⟩:=bS m;refine WO.cl (Zh.on (Zh.yes rfl rfl rfl (Ym rfl fh)) l) rfl (Yc.f (Zb (Xz (Yd rfl fh) rfl l) (Zb (Xz fh rfl l) (Zb Zrm Zf)))) p .n (fun g' y t hO=>(Zy2 (ZFa Yl F)) (p.Vc y) ((p.sl Zx).mono t) ((p.sl Yg).mono t) ZiV) ?_;rintro _ h12 _ ⟨rfl,rfl⟩ p;refine V8 (Kh lk l lk)<|r5 ?_;refine WO.Wl (Zh.yes rfl rfl rfl (Ym rfl fh)) (fun ZqO=>?_) (fun ZqO=>?_);.replace m:=Qf ZqO m;have⟨x15,ZlS,m⟩:=bS m;refine WO.cl (Zh.on (Zh.yes rfl rfl rfl (Ym rfl fh)) ZqO) rfl (Yc.f (Zb (Xz (Yd rfl fh) rfl ZqO) (Zb (Xz fh rfl ZqO) (Zb Zrm Zf)))) p .n (fun g' y t hO=>(ZyZ Yl) (p.Vc y) ((p.sl ZE).mono t) ((p.sl Xf).mono t) ZlS) ?_;rintro _ h16 _ ⟨rfl,rfl⟩ p;refine V8 (Kh lk ZqO lk)<|r4 ?_;exact rt m A p
   replace m:=Qg ZqO m;refine WO.Ql (Zh.yes rfl rfl rfl (Ym rfl fh)) ZqO rfl<|V8 (Uf lk ZqO lk)<|r4 ?_;exact rt m A p
  replace m:=Qg l m;refine WO.Ql (Zh.yes rfl rfl rfl (Ym rfl fh)) l rfl<|V8 (Uf lk l lk)<|r1 ?_;refine WO.Ql (Zh.yes rfl rfl rfl fh) rfl rfl<|WO.Ql (Zh.yes rfl rfl rfl (Zm rfl fh)) rfl rfl<|WO.Ql (Zh.yes rfl rfl rfl (Yd rfl fh)) rfl rfl<|WO.Ql (Zh.yes rfl rfl rfl (Yd rfl (Zm rfl fh))) rfl rfl<|WO.Ql (Zh.yes rfl rfl rfl (Ym rfl fh)) rfl rfl<|V8 (Uf lk rfl lk)<|r4 ?_;exact rt m A p
 replace m:=Qg q m;refine WO.Ql (Zh.yes rfl rfl rfl (Ym rfl fh)) q rfl<|V8 (Uf lk q lk)<|r1 ?_;refine WO.Ql (Zh.yes rfl rfl rfl fh) rfl rfl<|WO.Ql (Zh.yes rfl rfl rfl (Zm rfl fh)) rfl rfl<|WO.Ql (Zh.yes rfl rfl rfl (Yd rfl fh)) rfl rfl<|WO.Ql (Zh.yes rfl rfl rfl (Yd rfl (Zm rfl fh))) rfl rfl<|WO.Ql (Zh.yes rfl rfl rfl (Ym rfl fh)) rfl rfl<|V8 (Uf lk rfl lk)<|r1 ?_;refine WO.Ql (Zh.yes rfl rfl rfl fh) rfl rfl<|WO.Ql (Zh.yes rfl rfl rfl (Zm rfl fh)) rfl rfl<|WO.Ql (Zh.yes rfl rfl rfl (Yd rfl fh)) rfl rfl<|WO.Ql (Zh.yes rfl rfl rfl (Yd rfl (Zm rfl fh))) rfl rfl<|WO.Ql (Zh.yes rfl rfl rfl (Ym rfl fh)) rfl rfl<|V8 (Uf lk rfl lk)<|r4 ?_;exact rt m A p
def ZPc{F L h}{Ze Zd Zl Zk Zt Zr Zn Zo Z6 Z5 YJ YI}{r}(x:L<=h.size)(q:Sl Zg L h Ze Zd I.args)(m:Sl Zc L h Zl Zk I.qK)(t:Sl Zw L h Zt Zr I.qQ)(p:Sl Zg L h Zn Zo p1.args)(y:Sl Zc L h Z6 Z5 p1.qK)(A:Sl Zw L h YJ YI p1.qQ)(l:ZIR F I p1=some r):
 WR XX 91 #[.agg (q1W I Ze Zd Zl Zk Zt Zr).toArray,.agg (q1W p1 Zn Zo Z6 Z5 YJ YI).toArray] L h (CP (fun v (Gb:U (Ast L))=>v=.bool r/\Gb=[]) [] h):=
 ZIQ F (I,p1) r l x q m t p y A
def ZPd{F h}{Ze Zd Zl Zk Zt Zr Zn Zo Z6 Z5 YJ YI}{r}(q:Sl Zg h.size h Ze Zd I.args)(m:Sl Zc h.size h Zl Zk I.qK)(t:Sl Zw h.size h Zt Zr I.qQ)(p:Sl Zg h.size h Zn Zo p1.args)(x:Sl Zc h.size h Z6 Z5 p1.qK)(y:Sl Zw h.size h YJ YI p1.qQ)(l:ZIR F I p1=some r):Pure XX 91 #[.agg (q1W I Ze Zd Zl Zk Zt Zr).toArray,.agg (q1W p1 Zn Zo Z6 Z5 YJ YI).toArray] h (.bool r):=
 WR.JE rfl (ZPc V7 q m t p x y l)
def ZAH(F:Nat)(I:Term)(p1:Term):O (Z×Int):=
 (Zq6 F I).bind fun m=>(gd (!(m !=0)) (Zq6 F p1) default).bind fun q=>(bif((m !=0)||(q !=0)) then some (false,2) else(ZwE F I).bind fun p=>(ZwE F p1).bind fun l=>(ZIR F p l).bind fun h=>some (h,0))
def ZPK{F L h}{Ze Zd Zl Zk Zt Zr Zn Zo Z6 Z5 YJ YI}{r}(ZA:L<=h.size)(B:Sl Zg L h Ze Zd I.args)(y:Sl Zc L h Zl Zk I.qK)(C:Sl Zw L h Zt Zr I.qQ)(A:Sl Zg L h Zn Zo p1.args)(D:Sl Zc L h Z6 Z5 p1.qK)(E:Sl Zw L h YJ YI p1.qQ)(m:ZAH F I p1=some r):
 WR XX 41 #[.agg (q1W I Ze Zd Zl Zk Zt Zr).toArray,.agg (q1W p1 Zn Zo Z6 Z5 YJ YI).toArray] L h (CP (fun v (Gb:U (Ast L))=>v=.tuple #[.bool r.1,V4 r.2]/\Gb=[]) [] h):=by
 refine bg ntmps41 ZA Z0.nil ?_;intro T x l;unfold ZAH at m;refine r3 ?_;rintro _ h2 ⟨b1,W,rfl,l⟩;refine r1 ?_;rintro _ h4 ⟨b3,V,rfl,l⟩;refine r8 ?_;have⟨x5,hx5,m⟩:=bS m;refine WO.cp gN rfl (Yc.f (Zb lk Zf)) (ZwL (l.WI B) (l.WI y) (l.WI C) hx5)<|r3 ?_;have⟨x6,hx6,m⟩:=YS m;refine WO.gcp (Zh.no rfl rfl rfl (Zm rfl fh)) rfl (fun t=>(Yc.f (Zb (Xz fh rfl t) Zf))) (fun t=>ZwL (l.WI A) (l.WI D) (l.WI E) (hx6 t))<|r4 ?_;refine cn m ?_ ?_;.intro G m;refine r8 ?_;obtain rfl:=Oi0 m;exact YG.gen (vs:=[.bool false,V4 2]) rfl (ZB lk (ZB lk Zp)) rfl ⟨_,⟨rfl,rfl⟩,x▸l.only .n⟩
 intro G m;refine r3 ?_;refine WC.XJ mixed Kq0<|r1 ?_;have⟨x7,hx7,m⟩:=bS m;refine WX.cl0 gN rfl (Yc.f (Zb lk Zf)) l .n (fun S q p K=>ZwD (l.Vc q) ((l.sl B).mono p) ((l.sl y).mono p) ((l.sl C).mono p) hx7) ?_ rfl rfl;rintro _ Q _ ⟨a8,c10,a11,c13,a14,c16,rfl,rfl⟩ l;refine r1 ?_;have⟨x19,ZDl,m⟩:=bS m;refine WX.cl0 gN rfl (Yc.f (Zb lk Zf)) l .n (fun S q p K=>ZwD (l.Vc q) ((l.sl A).mono p) ((l.sl D).mono p) ((l.sl E).mono p) ZDl) ?_ rfl rfl;rintro _ P _ ⟨a20,c22,a23,c25,a26,X,rfl,rfl⟩ l;have⟨x31,hx31,m⟩:=bS m;refine WX.cp gN rfl (Yc.f (Zb lk (Zb lk Zf))) (ZPd (l.Zba k3) (l.Zba k4) (l.Zba k5) (l.Zba k0) (l.Zba k1) (l.Zba k2) hx31) ?_ rfl rfl;refine r5 ?_;obtain rfl:=Oi0 m;exact YG.gen (vs:=[.bool x31,V4 0]) rfl (ZB lk (ZB lk Zp)) rfl ⟨_,⟨rfl,rfl⟩,x▸l.only .n⟩
def ZPL{F h}{Ze Zd Zl Zk Zt Zr Zn Zo Z6 Z5 YJ YI}{r}(q:Sl Zg h.size h Ze Zd I.args)(m:Sl Zc h.size h Zl Zk I.qK)(t:Sl Zw h.size h Zt Zr I.qQ)(p:Sl Zg h.size h Zn Zo p1.args)(x:Sl Zc h.size h Z6 Z5 p1.qK)(y:Sl Zw h.size h YJ YI p1.qQ)(l:ZAH F I p1=some r):Pure XX 41 #[.agg (q1W I Ze Zd Zl Zk Zt Zr).toArray,.agg (q1W p1 Zn Zo Z6 Z5 YJ YI).toArray] h (.tuple #[.bool r.1,V4 r.2]):=
 WR.JE rfl (ZPK V7 q m t p x y l)
def ZAL(F:Nat)(I:Term)(p1:Term):O Z:=
 (ZAH F I p1).bind fun m=>(ZAF F I p1).bind fun l=>(ZE3 F I).bind fun h=>(ZE2 F I).bind fun r=>(gd ((m.1==l.1)&&(m.2==l.2)) (Zt8 F h.1 r.1) default).bind fun p=>(gd (((((m.1==l.1)&&(m.2==l.2))&&p)&&(h.2==r.2))&&(!(h.2==0))) (ZAI F h.1) default).bind fun q=>(gd (((((m.1==l.1)&&(m.2==l.2))&&p)&&(h.2==r.2))&&((h.2==0)||q)) (ZVD) default).bind fun t=>some ((((((m.1==l.1)&&(m.2==l.2))&&p)&&(h.2==r.2))&&((h.2==0)||q))&&t)
def ZPZ{F L h}{Ze Zd Zl Zk Zt Zr Zn Zo Z6 Z5 YJ YI}{r}(ZA:L<=h.size)(x:Sl Zg L h Ze Zd I.args)(t:Sl Zc L h Zl Zk I.qK)(y:Sl Zw L h Zt Zr I.qQ)(B:Sl Zg L h Zn Zo p1.args)(C:Sl Zc L h Z6 Z5 p1.qK)(D:Sl Zw L h YJ YI p1.qQ)(m:ZAL F I p1=some r):
 WR XX 10 #[.agg (q1W I Ze Zd Zl Zk Zt Zr).toArray,.agg (q1W p1 Zn Zo Z6 Z5 YJ YI).toArray] L h (CP (fun v (Gb:U (Ast L))=>v=.bool r/\Gb=[]) [] h):=by
 refine bg ntmps10 ZA Z0.nil ?_;intro T E l;unfold ZAL at m;refine r3 ?_;rintro _ h2 ⟨b1,eb1,rfl,l⟩;refine r1 ?_;rintro _ h4 ⟨b3,eb3,rfl,l⟩;refine r7 ?_;have⟨x5,hx5,m⟩:=bS m;refine WO.cp gN rfl (Yc.f (Zb lk (Zb lk Zf))) (ZPL (l.WI x) (l.WI t) (l.WI y) (l.WI B) (l.WI C) (l.WI D) hx5)<|UC ?_;have⟨x6,hx6,m⟩:=bS m;refine WO.cp gN rfl (Yc.f (Zb lk (Zb lk Zf))) (ZPJ (l.WI x) (l.WI t) (l.WI y) (l.WI B) (l.WI C) (l.WI D) hx6)<|r10 ?_;have⟨x7,hx7,m⟩:=bS m;refine V9 (Yc.f (Zb lk Zf)) l .n (fun X A q G=>ZPH (l.Vc A) ((l.sl x).mono q) ((l.sl t).mono q) ((l.sl y).mono q) hx7) ?_;rintro _ W _ ⟨a8,c10,a11,c13,a14,c16,rfl,rfl⟩ l;refine r4 ?_;rintro _ V ⟨b19,ZJP,rfl,l⟩;refine r1 ?_;rintro S l;refine r6 ?_;have⟨QE,UQ,m⟩:=bS m;refine V9 (Yc.f (Zb lk Zf)) l .n (fun X A q G=>ZPG (l.Vc A) ((l.sl x).mono q) ((l.sl t).mono q) ((l.sl y).mono q) UQ) ?_;rintro _ Q _ ⟨a23,c25,a26,c28,a29,c31,rfl,rfl⟩ l;refine r4 ?_;rintro _ P ⟨b34,ZVJ,rfl,l⟩;refine r1 ?_;rintro K l;refine r7 ?_;refine V8 (Xg lk lk (ZpN ZRT))<|r8 ?_;have⟨x37,ZNA,m⟩:=YS m;refine WO.gcp (Zh.yes rfl rfl rfl (Yd rfl fh)) rfl (fun p=>(Yc.f (Zb (Xz (Zm rfl fh) rfl p) (Zb (Xz fh rfl p) Zf)))) (fun p=>ZwJ (l.Zba k5) (l.Zba k6) (l.Zba k7) (l.Zba k1) (l.Zba k2) (l.Zba k3) (ZNA p))<|UC ?_;have⟨x38,hx38,m⟩:=YS m;refine WO.gcp (Zh.no2 rfl rfl rfl (Zm rfl fh)) rfl (fun p=>(Yc.f (Zb (Xz fh rfl p) Zf))) (fun p=>ZPO (l.Zba k5) (l.Zba k6) (l.Zba k7) (hx38 p))<|WO.gv (Zh.yes rfl rfl rfl (Ym rfl (Zm rfl fh))) rfl (fun p=>(Zii (Xz (Yd rfl fh) rfl p) lk (Zbf fh p)))<|r2 ?_;have⟨x39,hx39,m⟩:=YS m;refine WO.gcp (Zh.yes rfl rfl rfl fh) rfl (fun p=>(Yc.f Zf)) (fun p=>ZPY (hx39 p))<|r5 ?_;exact rt m E l
def ZP0{F h}{Ze Zd Zl Zk Zt Zr Zn Zo Z6 Z5 YJ YI}{r}(q:Sl Zg h.size h Ze Zd I.args)(m:Sl Zc h.size h Zl Zk I.qK)(t:Sl Zw h.size h Zt Zr I.qQ)(p:Sl Zg h.size h Zn Zo p1.args)(x:Sl Zc h.size h Z6 Z5 p1.qK)(y:Sl Zw h.size h YJ YI p1.qQ)(l:ZAL F I p1=some r):Pure XX 10 #[.agg (q1W I Ze Zd Zl Zk Zt Zr).toArray,.agg (q1W p1 Zn Zo Z6 Z5 YJ YI).toArray] h (.bool r):=
 WR.JE rfl (ZPZ V7 q m t p x y l)
end Go.Proofs.YtbnepjakjmnadaaGreat
end
end
section
noncomputable section
namespace Go.Z9
open Go.Lf
end Go.Z9
end
end
section
noncomputable section
namespace Go.Proofs.YtbnepjakjmnadaaGreat
open Go.Proofs.Tryz Go.Z9 Go.Lf
end Go.Proofs.YtbnepjakjmnadaaGreat
end
end
section
noncomputable section
namespace Go.Z9
open Go.Lf
end Go.Z9
end
end
section
noncomputable section
namespace Go.Proofs.YtbnepjakjmnadaaGreat
open Go.Proofs.Tryz Go.Lf
end Go.Proofs.YtbnepjakjmnadaaGreat
end
end
namespace Go.Lf
def ZBR{k:Nat}(h:k<4611686018427387904):Xa ((k:Int)+1)=((k+1:Nat):Int):=by rw[Ky V6 V6];rfl
def Zsa{k:Nat}(h:k<4611686018427387904)(l:0<k):Xa ((k:Int)-1)=((k-1:Nat):Int):=by rw[Ky V6 V6];omega
def XY{l:Type}{by_:Nat}{xs ys:U l}(h:xs.length+ys.length<=1000000)(m:by_<=1000):app by_ xs ys=some (xs++ys):=
 Zxf (KK (Nat.mul_le_mul (show 2*(xs.length+ys.length)+1000<=2001000 by omega) m) (by decide))
def iter{m β h:Type}(g:Nat->m->h->(h->O β)->O β)(d:h->O β):Nat->U m->h->O β
 | _,[],s=>d s
 | i,x::l,s=>g i x s (fun s'=>iter g d (i+1) l s')
end Go.Lf
noncomputable section
namespace Go.Proofs.YtbnepjakjmnadaaGreat
open Go.Proofs.Tryz Go.Lf
variable{F b n v:Nat}{h:Type}{l:U Y}{p:Part}{s:Y}{t:Term}
variable{β γ:Type}
def ZeQ{body:γ->(γ->O β)->O β}{r:O β}(S:Nat->γ)(l:n<F)(h:∀k,k<n->∀next,body (S k) next=next (S (k+1)))(he:∀next,body (S n) next=r):loop F body (S 0)=r:=by
 have:∀j F,j<=n->n-j<F->loop F body (S j)=r:=by
  intro j F m l;obtain⟨d,p⟩:∃d,d=n-j:=⟨_,rfl⟩;induction d generalizing j F with
  | zero=>
    have:j=n:=V6;subst this;cases F with|zero=>omega|succ F=>rw[ZV];exact he _
  | succ d ih=>
    cases F with|zero=>omega|succ F=>rw[ZV,h j V6];exact ih (j+1) F V6 V6 V6
 exact this 0 F (Gq _) V6
def Zhb{body:γ->(γ->O β)->O β}{r1 r2:O β}(S:Nat->γ)(c:Nat->Z)(A:n<F)(r:∀k,k<n->∀next,body (S k) next=bif c k then r1 else next (S (k+1)))(he:∀next,body (S n) next=r2):loop F body (S 0)=bif(List.range n).any c then r1 else r2:=by
 cases h:(List.range n).any c with
 | false=>
   rw[List.any_eq_false]at h;refine ZeQ S A (fun k l next=>?_) he;have:=h k (GN.2 l);rw[r k l,Gm.2 this];rfl
 | true=>
   have p:∃k,k<n/\c k=true:=by
    have⟨k,h1,h2⟩:=GR.1 h;exact⟨k,GN.1 h1,h2⟩
   have x:∃m,(m<n/\c m=true)/\∀k,k<m->c k=false:=by
    have⟨k,l⟩:=p
    induction k using Nat.strongRecOn with|_ k ih=>
      by_cases t:∃j,j<k/\c j=true;.have⟨j,h1,h2⟩:=t;exact ih j h1 ⟨by omega,h2⟩
      exact⟨k,l,fun j y=>Gm.2 fun q=>t ⟨j,y,q⟩⟩
   have⟨m,⟨h1,h2⟩,h3⟩:=x;refine ZeQ S (n:=m) V6 (fun k l next=>?_) (fun next=>?_);.rw[r k V6,h3 k l];rfl
   rw[r m h1,h2];rfl
def ZiE{k:Nat}(h:k<4611686018427387904):Xa ((k:Int)+1)=((k+1:Nat):Int):=ZBR h
def Qj{k:Nat}(h:k<9223372036854775807):Xa ((k:Int)+1)=((k+1:Nat):Int):=by rw[Ky V6 V6];omega
def ZO{k:Nat}(h:k<n):decide ((k:Int)<(n:Int))=true:=decide_eq_true V6
def ZI(n:Nat):decide ((n:Int)<(n:Int))=false:=decide_eq_false V6
def QY{m:Type}{l:U m}{k:Nat}(h:k<l.length):Z7 l (k:Int)=some l[k]:=by rw[ZdQ,G4 h]
def app1{m:Type}{l:U m}{x:m}(h:l.length<=900000)(p:b<=1000):app b l [x]=some (l++[x]):=XY Vf p
def Zg8[BEq h][LawfulBEq h](a:h):(a !=a)=false:=by simp
instance:LawfulBEq ByteArray where
 eq_of_beq {a b} h:=by
  cases a with|mk a=>cases b with|mk b=>
  have h:(a==b)=true:=h;rw[eq_of_beq h]
 rfl {a}:=by
  cases a with|mk a=>
  show(a==a)=true;simp
def kws:U Y:=[(⟨#[97,110,100]⟩:Y),(⟨#[100,101,102]⟩:Y),(⟨#[101,108,115,101]⟩:Y),(⟨#[103,111]⟩:Y),(⟨#[105,102]⟩:Y),(⟨#[105,110]⟩:Y),(⟨#[112,108,97,99,101]⟩:Y),(⟨#[115,116,111,112]⟩:Y),(⟨#[116,104,101,110]⟩:Y),(⟨#[119,97,116,99,104]⟩:Y)]
def Zig(s:Y)(k:Nat):Z:=decide (((s.data.getD k 0).toNat:Int)<97)||decide (((s.data.getD k 0).toNat:Int)>122)
def X7(s:Y):Z:=decide (0<s.size)&&decide (s.size<=8) && !((List.range s.size).any (Zig s)) && !decide (s∈kws)
def ZxM{k:Nat}(h:k<s.size):ZjU s (k:Int)=some ((s.data.getD k 0).toNat:Int):=by
 have l:k<s.data.size:=h
 have e:s[((k:Int)).toNat]? =some (s.data[k]):=by
  rw[Int.toNat_natCast];show s.data[k]? =_;rw[Gn l]
 unfold ZjU;rw[if_pos V6,e,Q3,Gn l];rfl
def has_eq(F:Nat)(l:U Y)(s:Y)(h:l.length<F)(q:l.length<4000000000000000000):ZbM F l s=some (decide (s∈l)):=by
 have:=Zhb (body:=Zjl l s) (r1:=some true) (r2:=some false) (fun k:Nat=>(k:Int)) (fun k=>decide (l[k]? =some s)) (n:=l.length) h
  (fun k m next=>by
    simp only[Zjl,ZO m,Cq1,QY m,Bq0,ZiE (show k<4611686018427387904 by omega)];rw[G4 m];simp)
  (fun next=>by simp[Zjl])
 rw[show ZbM F l s=loop F (Zjl l s) 0 from rfl];rw[show(0:Int)=((0:Nat):Int) from rfl,this]
 have e:(List.range l.length).any (fun k=>decide (l[k]? =some s))=decide (s∈l):=by
  rw[Gu,GR,decide_eq_true_iff];constructor;.rintro⟨k,_,m⟩;rw[decide_eq_true_iff]at m;exact List.mem_of_getElem? m
  intro p;have⟨k,m,hs⟩:=List.getElem_of_mem p;exact⟨k,GN.2 m,by rw[decide_eq_true_iff,G4 m,hs]⟩
 rw[e];cases decide (s∈l)<;>rfl
def setOf(l:U Y):U (Y×Z):=l.foldl (fun m s=>Xh m s true) []
def Zz3(l:U Y)(s:Y):(ZQ (setOf l) s).getD false=decide (s∈l):=by
 have gen:∀(l:U Y)(m:U (Y×Z)),(ZQ (l.foldl (fun m s=>Xh m s true) m) s).getD false=(decide (s∈l)||(ZQ m s).getD false):=by
  intro l
  induction l with|nil=>intro m;simp|cons x l ih=>
    intro m;rw[Gh,ih,ZaN];by_cases h:s=x;.subst h;simp
    rw[if_neg h];simp[h]
 have:=gen l [];unfold setOf;rw[this];simp[ZQ,Yt]
def ZNi(s:Y):(ZEZ.bind fun m=>(Zkq m s false).bind fun x=>some (!x))=some (!decide (s∈kws)):=by have e:ZEZ=some (setOf kws):=rfl;rw[e];show some (!((ZQ (setOf kws) s).getD false))=_;rw[Zz3]
def ZsO(F:Nat)(s:Y)(h:s.size<F)(r:s.size<=9223372036854775807):Zjp F s=some (X7 s):=by
 have:=Zhb (body:=Zjo s) (r1:=some false) (r2:=some (decide (0<s.size)&&decide (s.size<=8) && !decide (s∈kws))) (fun k:Nat=>(k:Int)) (Zig s) (n:=s.size) h
  (fun k m next=>by
    simp only[Zjo,ZO m,Cq1,ZxM m,Bq0,Qj (show k<9223372036854775807 by omega)];unfold Zig;cases h1:decide (((s.data.getD k 0).toNat:Int)<97)<;>simp[gd])
  (fun next=>by
    simp only[Zjo,ZI,Cq0];rw[ZNi]
    have q:decide ((s.size:Int)>0)=decide (0<s.size):=by
     by_cases l:0<s.size;.rw[decide_eq_true l,decide_eq_true V6]
     rw[decide_eq_false l,decide_eq_false V6]
    have p:decide ((s.size:Int)<=8)=decide (s.size<=8):=by
     by_cases l:s.size<=8;.rw[decide_eq_true l,decide_eq_true V6]
     rw[decide_eq_false l,decide_eq_false V6]
    rw[q,p];cases (decide (0<s.size)&&decide (s.size<=8))<;>simp)
 show loop F (Zjo s) ((0:Nat):Int)=_;rw[this];unfold X7;cases (List.range s.size).any (Zig s)<;>simp
def ZsN(F:Nat)(s:Y)(h:s.size<F)(h2:20<=F):Zon F s=some (X7 s):=by
 unfold Zon;by_cases p:0<s.size/\s.size<=8
 .have⟨l,z2⟩:=p;rw[decide_eq_false V6,decide_eq_false V6];simp only[Bool.or_false,Cq0]
  have:=Zhb (body:=Zjm F s) (r1:=some false) (r2:=some (!decide (s∈kws))) (fun k:Nat=>(k:Int)) (Zig s) (n:=s.size) h
   (fun k m next=>by
     simp only[Zjm,ZO m,Cq1,ZxM m,Bq0,ZiE (show k<4611686018427387904 by omega)];unfold Zig;cases h1:decide (((s.data.getD k 0).toNat:Int)<97)<;>simp[gd])
   (fun next=>by
     simp only[Zjm,ZI,Cq0];have e:=has_eq F kws s (by show 10<F;omega) (by decide);unfold kws at e;rw[e];rfl)
  show loop F (Zjm F s) ((0:Nat):Int)=_;rw[this];unfold X7;rw[decide_eq_true l,decide_eq_true z2];cases (List.range s.size).any (Zig s)<;>simp
 have:X7 s=false:=by
  unfold X7;by_cases l:0<s.size;.rw[decide_eq_false (show ¬ s.size<=8 by omega)];simp
  rw[decide_eq_false l];simp
 rw[this];by_cases l:s.size<1;.rw[decide_eq_true V6];rfl
 rw[decide_eq_true (show(s.size:Int)>8 by omega)];simp
def ZgU(xs:U Int):Y:=⟨(xs.map fun n=>UInt8.ofNat n.toNat).toArray⟩
def ZzY(x:Int)(xs:U Int):ZB8 (x::xs)=some (ZgU (x::xs)):=rfl
def ZbU(xs:U Int):(ZgU xs).size=xs.length:=by show((xs.map fun n=>UInt8.ofNat n.toNat).toArray).size=_;simp
def Zsj(x:Int)(xs:U Int)(h:xs.length<=1000):Zla (ZgU [x]) (ZgU xs)=some (ZgU (x::xs)):=by unfold Zla;rw[if_neg (by rw[ZbU,ZbU];simp;omega)];congr 1
def ZK7(l:0<v)(h:v<=1000000):ZvM (Xa ((v:Int)-1)) 26=some (((v-1) % 26:Nat):Int):=by rw[Zsa V6 l];unfold ZvM;simp only[show((26:Int)==0)=false from rfl,Cq0];rw[show(26:Int)=((26:Nat):Int) from rfl,Int.ofNat_tmod]
def ZLd(l:0<v)(h:v<=1000000):ZvO (Xa ((v:Int)-1)) 26=some (((v-1) / 26:Nat):Int):=by rw[Zsa V6 l];unfold ZvO;simp only[show((26:Int)==0)=false from rfl,Cq0];rw[show(26:Int)=((26:Nat):Int) from rfl,<-Int.ofNat_tdiv,Ky V6 V6]
def ZKP{m:Nat}(h:m<26):IntKind.wrap .u8 (Xa (97+(m:Int)))=((97+m:Nat):Int):=by
 rw[Ky V6 V6];unfold IntKind.wrap;have p:(2 ^ IntKind.u8.bits:Int)=256:=by decide
 have l:IntKind.u8.signed=false:=rfl;simp only[p,l];simp;omega
def ZEk(h:0<v):decide ((v:Int)>0)=true:=decide_eq_true V6
def bs(n:Nat):U Int:=if n<=26 then [((97+(n-1) % 26:Nat):Int)] else [((97+((n-1) / 26-1) % 26:Nat):Int),((97+(n-1) % 26:Nat):Int)]
def ZCV(n:Nat):n % 26<26:=Nat.mod_lt _ (by decide)
def ZHo:∀(n:Nat)(f:Nat->Nat),(∀i,i<=n->f i<n)->∃i j,i<j/\j<=n/\f i=f j:=by
 intro n
 induction n with|zero=>intro f h;exact absurd (h 0 V7) (Nat.not_lt_zero _)|succ n ih=>
   intro f h;by_cases t:∃i,i<=n/\f i=f (n+1);.have⟨i,h1,h2⟩:=t;exact⟨i,n+1,by omega,K2 _,h2⟩
   have l:∀i,i<=n->f i≠f (n+1):=fun i r q=>t ⟨i,r,q⟩;have x:=h (n+1) V7
   have⟨i,j,h1,h2,h3⟩:=ih (fun i=>if f i<f (n+1) then f i else f i-1) (fun i r=>by
    have:=h i V6;have:=l i r;by_cases q:f i<f (n+1);.rw[if_pos q];omega
    rw[if_neg q];omega)
   refine⟨i,j,h1,by omega,?_⟩;have A:=l i V6;have y:=l j h2;by_cases p:f i<f (n+1)<;>by_cases m:f j<f (n+1);.rwa[if_pos p,if_pos m]at h3
   .rw[if_pos p,if_neg m]at h3;omega
   .rw[if_neg p,if_pos m]at h3;omega
   rw[if_neg p,if_neg m]at h3;omega
def wl(n:Nat):U Int:=if h:n=0 then [] else wl ((n-1) / 26)++[((97+(n-1) % 26:Nat):Int)]
termination_by n
decreasing_by omega
def Zex:wl 0=[]:=by rw[wl,dif_pos rfl]
def ZiD(h:0<n):wl n=wl ((n-1) / 26)++[((97+(n-1) % 26:Nat):Int)]:=by rw[wl,dif_neg V6]
def Zk2:∀(k n:Nat),n<26 ^ k->(wl n).length<=k:=by
 intro k;induction k with
 | zero=>intro n h;have:n=0:=by simpa using h
         subst this;rw[Zex];exact K2 _
 | succ k ih=>
   intro n h;by_cases l:n=0;.subst l;rw[Zex];exact Gq _
   rw[ZiD V6,K1,GK];have:=ih ((n-1) / 26) (by rw[Nat.pow_succ]at h;omega);omega
def ZKQ(h:0<n):wl n≠[]:=by rw[ZiD h];simp
def Zvy:∀(n:Nat),∀x∈wl n,∃d:Nat,d<26/\x=((97+d:Nat):Int):=by
 intro n
 induction n using Nat.strongRecOn with|_ n ih=>
   intro x h;by_cases l:n=0;.subst l;rw[Zex]at h;cases h
   rw[ZiD V6,J0,Gf]at h;rcases h with h|h
   .exact ih ((n-1) / 26) V6 x h
   exact⟨_,ZCV _,h⟩
def ZMC(s:Y):Nat:=s.data.toList.foldl (fun v c=>26*v+(c.toNat-96)) 0
def ZoL(l:U Int)(h:∀x∈l,∃d:Nat,d<26/\x=((97+d:Nat):Int)):ZMC (ZgU l)=l.foldl (fun v x=>26*v+(x.toNat-96)) 0:=by
 unfold ZMC ZgU;show((l.map fun n=>UInt8.ofNat n.toNat).toArray.toList).foldl _ 0=_;rw[List.foldl_map]
 have:∀(l:U Int)(v:Nat),(∀x∈l,∃d:Nat,d<26/\x=((97+d:Nat):Int))->l.foldl (fun v x=>26*v+((UInt8.ofNat x.toNat).toNat-96)) v=l.foldl (fun v x=>26*v+(x.toNat-96)) v:=by
  intro l
  induction l with|nil=>intro _ _;rfl|cons x l ih=>
    intro v h;obtain⟨d,p,rfl⟩:=h x Vd
    have e:(UInt8.ofNat (((97+d:Nat):Int).toNat)).toNat=(((97+d:Nat):Int).toNat):=by
     rw[Int.toNat_natCast];simp[UInt8.toNat_ofNat'];omega
    rw[Gh,Gh,e];exact ih _ fun y m=>h y (Kx _ m)
 exact this l 0 h
def ZBT(n:Nat):(wl n).foldl (fun v x=>26*v+(x.toNat-96)) 0=n:=by
 induction n using Nat.strongRecOn with|_ n ih=>
   by_cases h:n=0;.subst h;rw[Zex];rfl
   rw[ZiD V6,GE,ih ((n-1) / 26) V6,Gh,List.foldl_nil,Int.toNat_natCast];omega
def Wn(k:Nat):Y:=ZgU (wl (k+1))
def ZQX{a:Nat}(h:Wn a=Wn b):a=b:=by have e:=congrArg ZMC h;unfold Wn at e;rw[ZoL _ (Zvy _),ZoL _ (Zvy _),ZBT,ZBT]at e;omega
def ZrZ{k:Nat}(h:k<1000000):(Wn k).size<=5:=by unfold Wn;rw[ZbU];exact Zk2 5 _ V6
def ZQW(k:Nat):0<(Wn k).size:=by unfold Wn;rw[ZbU];exact List.length_pos_iff.2 (ZKQ V6)
def ZQY(k:Nat):((List.range (Wn k).size).any (Zig (Wn k)))=false:=by
 rw[List.any_eq_false];intro i h;have h:=GN.1 h;unfold Wn at h;rw[ZbU]at h;have l:(wl (k+1))[i]∈wl (k+1):=GG h;have⟨d,hd,e⟩:=Zvy _ _ l
 have p:(Wn k).data.getD i 0=UInt8.ofNat ((wl (k+1))[i]).toNat:=by
  unfold Wn ZgU;show(((wl (k+1)).map fun n=>UInt8.ofNat n.toNat).toArray).getD i 0=_;rw[Q3,List.getElem?_toArray,GD,G4 h];rfl
 unfold Zig;rw[p,e,Int.toNat_natCast];have m:(UInt8.ofNat (97+d)).toNat=97+d:=by simp[UInt8.toNat_ofNat'];omega
 rw[m,decide_eq_false V6,decide_eq_false V6];simp
def ZCR{k:Nat}(h:k<1000000):X7 (Wn k)= !decide (Wn k∈kws):=by unfold X7;rw[ZQY,decide_eq_true (ZQW k),decide_eq_true (by have:=ZrZ h;omega)];simp
def Zbx(l:U Y)(k:Nat):Z:=X7 (Wn k) && !decide (Wn k∈l)
def ZHG:kws.length=10:=rfl
def Zri(C:l.length<=900000):∃k,k<l.length+11/\Zbx l k=true:=by
 apply Classical.byContradiction;intro q
 have p:∀k,k<l.length+11->Wn k∈kws++l:=by
  intro k r;rw[J0];by_cases h1:Wn k∈kws;.exact .inl h1
  refine .inr (Classical.byContradiction fun A=>q ⟨k,r,?_⟩);unfold Zbx;rw[ZCR V6,decide_eq_false h1,decide_eq_false A];rfl
 have D:(kws++l).length=l.length+10:=by rw[K1,ZHG];omega
 have m:∀k,k<l.length+11->∃i,i<l.length+10/\(kws++l)[i]? =some (Wn k):=fun k r=>by
  have⟨i,h1,h2⟩:=List.getElem_of_mem (p k r);exact⟨i,by omega,by rw[G4 h1,h2]⟩
 have⟨i,j,h1,h2,h3⟩:=ZHo (l.length+10) (fun k=>if h:k<l.length+11 then(m k h).choose else 0) (fun i t=>by
  have h:i<l.length+11:=V6;show(if h:i<l.length+11 then(m i h).choose else 0)<_;rw[dif_pos h];exact(m i h).choose_spec.1)
 have t:i<l.length+11:=V6;have x:j<l.length+11:=V6;simp[dif_pos t,dif_pos x]at h3;have y:=(m i t).choose_spec.2;have B:=(m j x).choose_spec.2;rw[h3,B]at y;have:=ZQX (Oi0 y);omega
def Xj(l:U Y):Y:=Wn (((List.range (l.length+11)).find? (Zbx l)).getD 0)
def KY(p:l.length<=900000):∃m,m<l.length+11/\Zbx l m=true/\(∀k,k<m->Zbx l k=false)/\Xj l=Wn m:=by
 have⟨k,hk,hf⟩:=Zri p;cases e:(List.range (l.length+11)).find? (Zbx l) with
 | none=>
   rw[List.find?_eq_none]at e;exact absurd hf (e k (GN.2 hk))
 | some m=>
   have h:=e;rw[List.find?_range_eq_some]at h;have⟨h1,h2,h3⟩:=h;exact⟨m,GN.1 h2,h1,fun j q=>by have:=h3 j q;simpa using this,by unfold Xj;rw[e];rfl⟩
def Zkc(p:l.length<=900000):X7 (Xj l)=true/\Xj l∉l:=by have⟨m,_,h,_,e⟩:=KY p;rw[e];unfold Zbx at h;rw[Ba0,Bool.not_eq_true',decide_eq_false_iff_not]at h;exact h
def ZC8{body:U Int×Int->(U Int×Int->O β)->O β}{r:O β}(h2:n<=1000000)
 (p:∀(b:U Int)(v:Nat),b.length<=5->0<v->v<=1000000->∀next,body (b,(v:Int)) next=next (((97+(v-1) % 26:Nat):Int)::b,(((v-1) / 26:Nat):Int)))
 (he:∀next,body (wl n,0) next=r) (x:6<=F):loop F body ([],(n:Int))=r:=by
 have l:∀(F v:Nat)(b:U Int),v<=1000000->wl v++b=wl n->(wl v).length<F->loop F body (b,(v:Int))=r:=by
  intro F
  induction F with|zero=>intro v b _ _ h;omega|succ F ih=>
    intro v b hv hw m;rw[ZV];by_cases t:v=0;.subst t;rw[Zex,Jx]at hw;subst hw;exact he _
    have q:b.length<=5:=by
     have:=congrArg List.length hw;rw[K1]at this;have:=Zk2 5 n V6;omega
    rw[p b v q V6 hv];rw[ZiD V6]at hw m;rw[K1,GK]at m;exact ih _ _ V6 (by rw[<-hw];simp) V6
 exact l F n [] h2 Vd (by have:=Zk2 5 n V6;omega)
def ZBO(h2:n<=1000000)(r:6<=F):ZEX F (n:Int)=some (ZgU (wl n)):=by
 have l:∀(F v:Nat)(b:U Int),v<=1000000->wl v++b=wl n->(wl v).length<F->loop F ZqZ ((v:Int),ZgU b)=some (ZgU (wl n)):=by
  intro F
  induction F with|zero=>intro v b _ _ h;omega|succ F ih=>
    intro v b hv hw m;rw[ZV];by_cases p:v=0;.subst p;rw[Zex,Jx]at hw;subst hw;rfl
    have q:b.length<=5:=by
     have:=congrArg List.length hw;rw[K1]at this;have:=Zk2 5 n V6;omega
    simp only[ZqZ,ZEk (show 0<v by omega),Cq1,ZK7 (show 0<v by omega) hv,ZLd (show 0<v by omega) hv,Bq0,ZKP (ZCV _),ZzY,Zsj _ b V6];rw[ZiD V6]at hw m;rw[K1,GK]at m;exact ih _ _ V6 (by rw[<-hw];simp) V6
 exact l F n [] h2 Vd (by have:=Zk2 5 n V6;omega)
def ZG7(h:0<n):ZB8 (wl n)=some (ZgU (wl n)):=by cases e:wl n with|nil=>exact absurd e (ZKQ h)|cons x l=>rfl
def ZoO(t:1000<=F)(q:l.length<=900000)(h:l.length<F)(k:Nat)(r:k<999000)(next:Int->O Y):
 ZmS F l ((k+1:Nat):Int) next=bif Zbx l k then some (Wn k) else next ((k+2:Nat):Int):=by
 have p:=ZrZ (k:=k) V6;simp only[ZmS];rw[ZBO (n:=k+1) V6 V6,show ZgU (wl (k+1))=Wn k from rfl,Bq0];rw[ZsN F (Wn k) V6 V6,Bq0,has_eq F l (Wn k) h V6,ZiE V6];show(gd (X7 (Wn k)) (some (decide (Wn k∈l))) default).bind (fun m=>bif X7 (Wn k) && !m then some (Wn k) else next ((k+1+1:Nat):Int))=_;unfold Zbx;cases X7 (Wn k)<;>rfl
def Zlp{m:U (Y×Z)}(q:∀x,(ZQ m x).getD false=decide (x∈l))(A:1000<=F)(k:Nat)(t:k<999000)(next:Int×Y×Z->O Y):
 Zq1 F m (((k+1:Nat):Int),⟨#[]⟩,false) next=bif Zbx l k then some (Wn k) else next (((k+2:Nat):Int),⟨#[]⟩,false):=by
 have r:=ZrZ (k:=k) V6;show loop F (ZmP F m ((k+1:Nat):Int) ⟨#[]⟩ false next) ([],((k+1:Nat):Int))=_;refine ZC8 V6 (fun b v y h h1 p=>?_) (fun p=>?_) V6;.simp only[ZmP,ZEk h,Cq1,ZK7 h V6,ZLd h V6,Bq0,ZKP (ZCV _)];rw[Zxf Vf];rfl
 simp only[ZmP];rw[show decide ((0:Int)>0)=false from rfl,Cq0,ZG7 V6,Bq0,Cq0];show(Zjp F (Wn k)).bind _=_;rw[ZsO F (Wn k) V6 V6,Bq0];show(gd (X7 (Wn k)) (some ((ZQ m (Wn k)).getD false)) default).bind _=_;rw[q,ZiE V6];unfold Zbx;cases X7 (Wn k);.rfl
 cases decide (Wn k∈l)<;>rfl
def ZEM{m:U (Y×Z)}(h:∀x,(ZQ m x).getD false=decide (x∈l))(r:1000000<=F)(p:l.length<=900000):ZEY F m=some (Xj l):=by
 have⟨j,h1,h2,h3,e⟩:=KY p;rw[e];refine ZeQ (body:=Zq1 F m) (S:=fun k=>(((k+1:Nat):Int),(⟨#[]⟩:Y),false)) (n:=j) V6 (fun k q next=>?_) (fun next=>?_);.rw[Zlp h V6 k V6,h3 k q];rfl
 rw[Zlp h V6 j V6,h2];rfl
def ZAz(p:1000000<=F)(h:l.length<=900000):ZAK F l=some (Xj l):=by
 have⟨j,h1,h2,h3,e⟩:=KY h;rw[e];refine ZeQ (body:=ZmS F l) (S:=fun k=>((k+1:Nat):Int)) (n:=j) V6 (fun k m next=>?_) (fun next=>?_);.rw[ZoO V6 h V6 k V6,h3 k m];rfl
 rw[ZoO V6 h V6 j V6,h2];rfl
def Ya:Part->U Part
 | .pr t=>t.args.map .ex++t.qK.map .cl++t.qQ.map .pr
 | .ex e=>e.qQ.map .ex
 | .cl c=>c.qK.map .cl++c.qQ.map .pr
def pz:Part->Nat
 | .pr t=>SizeOf.sizeOf t
 | .ex e=>SizeOf.sizeOf e
 | .cl c=>SizeOf.sizeOf c
def WW{k:Part}(h:k∈Ya p):pz k<pz p:=by
 cases p with
 | pr t=>
   have⟨op,tx,ags,ds,ks⟩:=t;simp only[Ya,J0,Ge]at h;rcases h with(⟨x,l,rfl⟩|⟨x,l,rfl⟩) | ⟨x,l,rfl⟩<;>(have:=List.sizeOf_lt_of_mem l;simp only[pz,Term.mk.sizeOf_spec];omega)
 | ex e=>
   have⟨op,n,tx,ks⟩:=e;simp only[Ya,Ge]at h;obtain⟨x,l,rfl⟩:=h;have:=List.sizeOf_lt_of_mem l;simp only[pz,Zi.mk.sizeOf_spec];omega
 | cl c=>
   have⟨fm,tx,js,ds,ks⟩:=c;simp only[Ya,J0,Ge]at h;rcases h with⟨x,l,rfl⟩|⟨x,l,rfl⟩<;>(have:=List.sizeOf_lt_of_mem l;simp only[pz,Za.mk.sizeOf_spec];omega)
def ZbY{P:Part->Prop}(h:∀p,(∀k∈Ya p,P k)->P p)(p:Part):P p:=by
 have:∀n p,pz p<n->P p:=by
  intro n;induction n with|zero=>intro p l;omega|succ n ih=>intro p l;exact h p fun k m=>ih k (by have:=WW m;omega)
 exact this _ p (Nat.lt_succ_self _)
def Wx(l:U h)(f:h->U β):(l.attach.flatMap fun k=>f k.1)=l.flatMap f:=by
 conv=>rhs;rw[<-List.attach_map_subtype_val l]
 rw[List.flatMap_map]
def attach_map(l:U h)(f:h->β):(l.attach.map fun k=>f k.1)=l.map f:=by
 conv=>rhs;rw[<-List.attach_map_subtype_val l]
 rw[List.map_map];rfl
def pre(p:Part):U Part:=p::(Ya p).attach.flatMap fun k=>pre k.1
termination_by pz p
decreasing_by exact WW k.2
def pre_eq(p:Part):pre p=p::(Ya p).flatMap pre:=by rw[pre,Wx (Ya p) pre]
def Zf6(l:U Nat):Nat:=l.foldr max 0
def dep(p:Part):Nat:=Zf6 ((Ya p).attach.map fun k=>dep k.1)+1
termination_by pz p
decreasing_by exact WW k.2
def Zry(p:Part):dep p=Zf6 ((Ya p).map dep)+1:=by rw[dep,attach_map (Ya p) dep]
def ZeP(x:Nat)(l:U Nat):Zf6 (x::l)=max x (Zf6 l):=rfl
def Qe(p:Part):(pre p).length=((Ya p).flatMap pre).length+1:=by rw[pre_eq];rfl
def Y7(p:Part):1<=(pre p).length:=by rw[Qe];omega
def Wv{k:Part}{l:U Part}(h:k∈l):(pre k).length<=(l.flatMap pre).length:=by
 induction l with|nil=>cases h|cons x l ih=>
   rw[Kf,K1];rcases Ks.1 h with rfl|h
   .omega
   have:=ih h;omega
def ZY{k:Part}(h:k∈Ya p):(pre k).length<(pre p).length:=by have:=Wv h;rw[Qe p];omega
def Ww(l:U Part):l.length<=(l.flatMap pre).length:=by induction l with|nil=>simp|cons x l ih=>rw[Kf,K1,Kd];have:=Y7 x;omega
def Uv(p:Part):(Ya p).length<(pre p).length:=by have:=Ww (Ya p);rw[Qe p];omega
def ZQd(p:Part):dep p<=(pre p).length:=by
 induction p using ZbY with|h p ih=>
   rw[Zry,Qe]
   have:∀l:U Part,(∀k∈l,dep k<=(pre k).length)->Zf6 (l.map dep)<=(l.flatMap pre).length:=by
    intro l
    induction l with|nil=>intro _;simp[Zf6]|cons x l m=>
      intro h;rw[JT,ZeP,Kf,K1];have h1:=h x Vd;have h2:=m fun k q=>h k (Kx _ q);omega
   have:=this _ ih;omega
def Yf{x k:Part}(l:k∈Ya p)(h:x∈pre k):x∈pre p:=by rw[pre_eq p];exact Kx _ (G0.2 ⟨k,l,h⟩)
def Yy(p:Part):p∈pre p:=by rw[pre_eq];exact GA
def Z8{A q y:Type}{body:y->(y->O β)->O β}(r:Nat->q->y)(l:U A)(Pre:U A->q->Prop)(h:U A->q->O β)
 (I:∀s t,Pre [] s->body (r l.length s) t=h [] s)
 (h1:∀(k:Nat) x rest s t,x∈l->k<l.length->Z7 l (k:Int)=some x->Pre (x::rest) s->(∀s',Pre rest s'->t (r (k+1) s')=h rest s')->body (r k s) t=h (x::rest) s) (D:l.length<F) (s:q) (p:Pre l s):loop F body (r 0 s)=h l s:=by
 have B:∀(d j F:Nat)(s:q),j+d=l.length->d<F->Pre (l.drop j) s->loop F body (r j s)=h (l.drop j) s:=by
  intro d;induction d with
  | zero=>
    intro j F s E D p;obtain⟨F,rfl⟩:∃G,F=G+1:=⟨F-1,by omega⟩;obtain rfl:j=l.length:=V6;rw[List.drop_length]at p ⊢;rw[ZV,I _ _ p]
  | succ d ih=>
    intro j F s E D p;obtain⟨F,rfl⟩:∃G,F=G+1:=⟨F-1,by omega⟩;have m:j<l.length:=V6;rw[List.drop_eq_getElem_cons m]at p ⊢;rw[ZV];exact h1 j _ _ s _ (GG m) m (QY m) p fun s' C=>ih (j+1) F s' V6 V6 C
 have:=B l.length 0 F s V6 D (by simpa using p);simpa using this
abbrev E0:Y:=⟨#[]⟩
def BB:Nat:=9223372036854775807
def KU(e:Zi):Z:=
 bif e.op==1 then decide (e.n >=-1000000000)&&decide (e.n<=1000000000)&&decide (e.qJ=E0)&&(e.qQ.length==0)
 else bif e.op==2 then X7 e.qJ&&(e.n==0)&&(e.qQ.length==0)
 else decide (e.op >=3)&&decide (e.op<=7)&&decide (e.qJ=E0)&&(e.n==0)&&(e.qQ.length==2)
def szs(t:Term)(a d k:Nat):Z:=(t.args.length==a)&&(t.qK.length==d)&&(t.qQ.length==k)
def Zff(t:Term):Z:=
 (bif(t.op==1)||(t.op==7) then szs t 0 0 0
  else bif t.op==2 then decide (t.args.length<=3)&&szs t t.args.length 0 0
  else bif t.op==3 then szs t 0 0 2
  else bif t.op==4 then decide (0<t.qK.length)&&decide (t.qK.length<=5)&&szs t 0 t.qK.length 1
  else bif t.op==5 then szs t 1 0 2
  else((t.op==6)||(t.op==8))&&szs t 0 0 1) &&
 (bif((t.op==2)||(t.op==6))||(t.op==8) then X7 t.qJ else decide (t.qJ=E0))
def nWb(hn:Y->Z):U Y->Z
 | []=>true
 | x::xs=>(X7 x && !hn x)&&nWb (fun s=>hn s||decide (s=x)) xs
def jW(h hn:Y->Z):U ZU->Z
 | []=>true
 | m::js=>(X7 m.qJ && !h m.qJ&&decide (m.names.length<=3))&&(nWb hn m.names&&jW (fun s=>h s||decide (s=m.qJ)) (fun s=>hn s||decide (s∈m.names)) js)
def U9(c:Za):Z:=
 (c.qQ.length==1)&&(bif c.qV==2 then X7 c.qJ&&(c.qG.length==0)&&decide (c.qK.length<=5)
 else(c.qV==1)&&decide (c.qJ=E0)&&(c.qK.length==0)&&decide (0<c.qG.length)&&decide (c.qG.length<=3)&&jW (fun _=>false) (fun _=>false) c.qG)
def UF:Part->Z
 | .pr t=>Zff t
 | .ex e=>KU e
 | .cl c=>U9 c
def Loc:Part->Prop
 | .pr t=>t.qJ.size<=BB/\t.args.length<=BB/\t.qK.length<=BB/\t.qQ.length<=BB
 | .ex e=>e.qJ.size<=BB/\e.qQ.length<=BB
 | .cl c=>c.qJ.size<=BB/\c.qG.length<=BB/\c.qK.length<=BB/\c.qQ.length<=BB/\∀m∈c.qG,m.qJ.size<=BB/\m.names.length<=BB/\∀s∈m.names,s.size<=BB
def BS:Nat:=1048576
def Lo(p:Part):Prop:=∀x∈pre p,Loc x
def Sm(p:Part):Prop:=(pre p).length<=BS/\Lo p
def Lo.kid{k:Part}(h:Lo p)(m:k∈Ya p):Lo k:=fun x l=>h x (Yf m l)
def Lo.loc(h:Lo p):Loc p:=h p (Yy p)
def Sm.kid{k:Part}(h:Sm p)(l:k∈Ya p):Sm k:=⟨by have:=ZY l;have:=h.1;omega,fun x m=>h.2 x (Yf l m)⟩
def Sm.loc(h:Sm p):Loc p:=h.2 p (Yy p)
def Ui(b:Z):Uy b=some (bif b then .ok () else .Yq 2):=by cases b<;>rfl
def U5(a b:Nat):((a:Int)==(b:Int))=(a==b):=by rw[Gu,beq_iff_eq,beq_iff_eq];omega
def ZxY{e:Int}{p:Int->O β}{k:h->O β}:UJ (.Yq e) p k=p e:=rfl
def nameP(l:10^19<=F)(h:s.size<=BB):Zjp F s=some (X7 s):=ZsO F s (by unfold BB at h;omega) (by unfold BB at h;omega)
def ZCS(l:10^19<=F)(h:s.size<=BB):Zon F s=some (X7 s):=ZsN F s (by unfold BB at h;omega) V6
def ZNc(l:10^19<=F)(h:s.size<=BB)(b:Z):ZhZ F s b=some (bif b then X7 s else decide (s=E0)):=by
 unfold ZhZ;cases b;.simp[gd,E0]
 simp[gd,ZCS l h]
def Zss(p:10^19<=F)(e:Zi)(h:Loc (.ex e)):Zpt F e=some (bif KU e then .ok () else .Yq 2):=by
 have⟨op,n,tx,ks⟩:=e;have hn:=nameP p h.1;dsimp only at hn;have h2:((ks.length:Int)==2)=(ks.length==2):=U5 _ 2;have m:((ks.length:Int)==0)=(ks.length==0):=U5 _ 0;have l:op=1\/op=2\/op=3\/op=4\/op=5\/op=6\/op=7\/op<1\/7<op:=V6;unfold Zpt KU;dsimp only
 have j:∀op:Int,ZaG ⟨op,n,tx,ks⟩ true=some (bif decide (tx=E0)&&(n==0)&&(ks.length==2) then .ok () else .Yq 2):=fun op=>by
  simp[ZaG,Cq1,Ui,h2,Bq0];cases (decide (tx=E0)&&(n==0)&&(ks.length==2))<;>rfl
 rcases l with rfl|rfl|rfl|rfl|rfl|rfl|rfl|l
 .simp only[Ui,m,Bq0];cases (decide (n >=-1000000000)&&decide (n<=1000000000)&&decide (tx=E0)&&(ks.length==0))<;>rfl
 .show(Zjp F tx).bind _=some (bif(X7 tx&&(n==0)&&(ks.length==0)) then _ else _);rw[hn];simp[Ui,m,Bq0];cases (X7 tx&&(n==0)&&(ks.length==0))<;>rfl
 .exact j 3
 .exact j 4
 .exact j 5
 .exact j 6
 .exact j 7
 have C:(op==1)=false:=by simp;omega
 have B:(op==2)=false:=by simp;omega
 have A:(op==3)=false:=by simp;omega
 have y:(op==4)=false:=by simp;omega
 have x:(op==5)=false:=by simp;omega
 have t:(op==6)=false:=by simp;omega
 have r:(op==7)=false:=by simp;omega
 have q:(decide (op >=3)&&decide (op<=7))=false:=by
  rcases l with l|l
  .rw[decide_eq_false (show ¬ op >=3 by omega)];rfl
  rw[decide_eq_false (show ¬ op<=7 by omega)];simp
 rw[C,B,A,y,x,t,r,q];rfl
def ZbV(t:Term)(a d k:Nat):Zav t (a:Int) (d:Int) (k:Int)=some (bif szs t a d k then .ok () else .Yq 2):=by unfold Zav szs;rw[Ui,U5,U5,U5,Bq0];cases ((t.args.length==a)&&(t.qK.length==d)&&(t.qQ.length==k))<;>rfl
def ZG5(l:10^19<=F)(t:Term)(h:t.qJ.size<=BB):(Kc F t) ()=some (bif(bif((t.op==2)||(t.op==6))||(t.op==8) then X7 t.qJ else decide (t.qJ=E0)) then .ok () else .Yq 2):=by unfold Kc ZeY;rw[nameP l h];simp[Ui,Bq0,E0];cases t.op==2<;>cases t.op==6<;>cases t.op==8<;>cases X7 t.qJ<;>cases decide (t.qJ=(⟨#[]⟩:Y))<;>rfl
def seq2{a b:Z}:(UJ (bif a then PR.ok () else PR.Yq 2) (fun e=>some (.Yq e)) (fun _=>some (bif b then PR.ok () else PR.Yq 2)):O (PR Unit))=some (bif a&&b then .ok () else .Yq 2):=by cases a<;>rfl
def ZR0{a b:Z}:(UJ (bif a then PR.ok () else PR.Yq 2) (fun _=>some (.Yq 2)) (fun _=>some (bif b then PR.ok () else PR.Yq 2)):O (PR Unit))=some (bif a&&b then .ok () else .Yq 2):=by cases a<;>rfl
def Zko(A:10^19<=F)(t:Term)(h:Loc (.pr t)):Zpu F t=some (bif Zff t then .ok () else .Yq 2):=by
 have x:=ZG5 A t h.1
 have y:decide ((t.args.length:Int)<=3)=decide (t.args.length<=3):=by
  by_cases z:t.args.length<=3;.rw[decide_eq_true z,decide_eq_true V6]
  rw[decide_eq_false z,decide_eq_false V6]
 have m:decide ((t.qK.length:Int)>0)=decide (0<t.qK.length):=by
  by_cases z:0<t.qK.length;.rw[decide_eq_true z,decide_eq_true V6]
  rw[decide_eq_false z,decide_eq_false V6]
 have l:decide ((t.qK.length:Int)<=5)=decide (t.qK.length<=5):=by
  by_cases z:t.qK.length<=5;.rw[decide_eq_true z,decide_eq_true V6]
  rw[decide_eq_false z,decide_eq_false V6]
 have ZXS:Zav t 0 0 0=_:=ZbV t 0 0 0;have ZXR:Zav t 0 0 1=_:=ZbV t 0 0 1;have ZXQ:Zav t 0 0 2=_:=ZbV t 0 0 2;have ZXP:Zav t 1 0 2=_:=ZbV t 1 0 2;have r:Zav t t.args.length 0 0=_:=ZbV t t.args.length 0 0;have q:Zav t 0 t.qK.length 1=_:=ZbV t 0 t.qK.length 1
 have p:∀b,(ZeX F t) b=some (bif(bif b then szs t 0 0 0
  else bif t.op==2 then decide (t.args.length<=3)&&szs t t.args.length 0 0
  else bif t.op==3 then szs t 0 0 2
  else bif t.op==4 then decide (0<t.qK.length)&&decide (t.qK.length<=5)&&szs t 0 t.qK.length 1
  else bif t.op==5 then szs t 1 0 2
  else((t.op==6)||(t.op==8))&&szs t 0 0 1) &&
 (bif((t.op==2)||(t.op==6))||(t.op==8) then X7 t.qJ else decide (t.qJ=E0)) then .ok () else .Yq 2):=by
   intro b;unfold ZeX ZhE;simp[Ui,ZXS,ZXR,ZXQ,ZXP,r,q,Bq0,y,m,l,x,seq2,Zt4];cases b<;>cases t.op==2<;>cases t.op==3<;>cases t.op==4<;>cases t.op==5<;>cases t.op==6<;>cases t.op==8<;>simp[Cq1,Cq0,Bool.true_or,Bool.or_true,Bool.or_false,Gk,G3,Gp,ZxY,seq2,ZR0,Bool.and_assoc]
 unfold Zpu Zff;rw[p,p];cases t.op==1<;>cases t.op==7<;>rfl
def has(m:U (Y×Z)):Y->Z:=fun s=>(ZQ m s).getD false
def Zb9(m:U (Y×Z))(x:Y):has (Xh m x true)=fun s=>has m s||decide (s=x):=by
 funext s;unfold has;rw[ZaN];by_cases h:s=x;.subst h;simp
 rw[if_neg h];simp[h]
def Zae(m:U (Y×Z))(l:U Y):U (Y×Z):=l.foldl (fun m s=>Xh m s true) m
def ZlW(l:U Y):∀m,has (Zae m l)=fun s=>has m s||decide (s∈l):=by
 induction l with|nil=>intro m;funext s;simp[Zae]|cons x l ih=>
   intro m;have:Zae m (x::l)=Zae (Xh m x true) l:=rfl;rw[this,ih,Zb9];funext s;by_cases h1:s=x<;>by_cases h2:s∈l<;>simp[h1,h2]
def ZqR:has []=fun _=>false:=by funext s;rfl
def ZdF(m:U (Y×Z))(x:Y):Zkq m x false=some (has m x):=rfl
def Zg1{b:Z}{p:Int->O β}{k:Unit->O β}:UJ (bif b then PR.ok () else PR.Yq 2) p k=bif b then k () else p 2:=by cases b<;>rfl
def le3(n:Nat):decide ((n:Int)<=3)=decide (n<=3):=by
 by_cases z:n<=3;.rw[decide_eq_true z,decide_eq_true V6]
 rw[decide_eq_false z,decide_eq_false V6]
def gt0(n:Nat):decide ((n:Int)>0)=decide (0<n):=by
 by_cases z:0<n;.rw[decide_eq_true z,decide_eq_true V6]
 rw[decide_eq_false z,decide_eq_false V6]
def le5(n:Nat):decide ((n:Int)<=5)=decide (n<=5):=by
 by_cases z:n<=5;.rw[decide_eq_true z,decide_eq_true V6]
 rw[decide_eq_false z,decide_eq_false V6]
def ZvX(C:10^19<=F)(k:Int)(p:U (Y×Z))(l:Int×(U (Y×Z))×(U (Y×Z))->O (PR Unit))(x:ZU)(q:x.names.length<=BB)(t:∀s∈x.names,s.size<=BB)(m:U (Y×Z)):
 loop F (ZhC F k p l x) (0,m)=bif nWb (has m) x.names then l (Xa (k+1),Xh p x.qJ true,Zae m x.names) else some (.Yq 2):=by
 refine Z8 (fun(k:Nat)(m:U (Y×Z))=>((k:Int),m)) x.names (fun _ _=>True) (fun rest m=>bif nWb (has m) rest then l (Xa (k+1),Xh p x.qJ true,Zae m rest) else some (.Yq 2)) ?_ ?_ (by unfold BB at q;omega) m trivial;.intro s h _;simp only[ZhC,ZI,Cq0];rfl
 intro j y rest s h r A B _ ih;simp only[ZhC,ZO A,Cq1,B,Bq0,nameP C (t y r),Ui,Zg1,ZdF];rw[Qj (by unfold BB at q;omega)];simp only[ih _ trivial,nWb,Zb9];cases hn:X7 y;.simp[gd]
 .cases D:has s y;.simp only[ZcG,Bq0,G9,G3,Cq1];rfl
  simp[gd]
 all_goals omega
def Zv3(q:10^19<=F)(c:Za)(h:Loc (.cl c)):(ZhB F c) ()=some (bif jW (fun _=>false) (fun _=>false) c.qG then .ok () else .Yq 2):=by
 have⟨h1,h2,h3,h4,h5⟩:=h;have:=Z8 (body:=ZhD F c) (fun(k:Nat)(m:U (Y×Z)×U (Y×Z))=>((k:Int),m.1,m.2)) c.qG (fun _ _=>True) (fun rest m=>some (bif jW (has m.1) (has m.2) rest then PR.ok () else .Yq 2)) (F:=F) ?_ ?_ (by unfold BB at h2;omega) ([],[]) trivial;.rw[ZqR]at this;exact this
 .intro s p _;simp only[ZhD,ZI,Cq0];rfl
 intro j y rest s p r t x _ ih;have⟨q1,q2,q3⟩:=h5 y r;simp only[ZhD,ZO t,Cq1,x,Bq0,nameP q q1,Ui,Zg1,ZdF,le3,ZvX q _ _ _ y q2 q3];rw[Qj (by unfold BB at h2;omega)];have l:=fun a b=>ih (a,b) trivial;simp only at l;simp only[l,jW,Zb9,ZlW];cases hn:X7 y.qJ;.simp[gd]
 cases A:has s.1 y.qJ;.simp only[ZcG,Bq0,G9,G3,Cq1];cases decide (y.names.length<=3)<;>cases nWb (has s.2) y.names<;>rfl
 simp[gd]
def Zlg(l:10^19<=F)(c:Za)(h:Loc (.cl c)):Zps F c=some (bif U9 c then .ok () else .Yq 2):=by
 have p:=Zv3 l c h;have⟨h1,h2,h3,h4,h5⟩:=h;have t:((c.qG.length:Int)==0)=(c.qG.length==0):=U5 _ 0;have r:((c.qQ.length:Int)==1)=(c.qQ.length==1):=U5 _ 1;have q:((c.qK.length:Int)==0)=(c.qK.length==0):=U5 _ 0;unfold Zps U9;simp[Ui,Bq0,Zg1,p,nameP l h1,t,r,q,le5,le3,gt0,Zt4,ZxY];cases c.qQ.length==1;.rfl
 by_cases m:c.qV=2;.rw[m];simp[Int.reduceBEq,Cq1,G3];cases (X7 c.qJ&&(c.qG.length==0)&&decide (c.qK.length<=5))<;>rfl
 have:(c.qV==2)=false:=by simpa using m
 rw[this];cases c.qV==1<;>cases (decide (c.qJ=E0))<;>cases (c.qK.length==0)<;>cases (decide (0<c.qG.length))<;>cases (decide (c.qG.length<=3))<;>cases (jW (fun _=>false) (fun _=>false) c.qG)<;>rfl
def ZCf(l:10^19<=F)(p:Part)(h:Loc p):Zuj F p=some (bif UF p then .ok () else .Yq 2):=by
 unfold Zuj;cases p with
 | pr t=>
   show(Zpu F t).bind _=_;rw[Zko l t h];show UJ _ _ _=some (bif Zff t then _ else _);cases Zff t<;>rfl
 | ex e=>
   show(Zpt F e).bind _=_;rw[Zss l e h];show UJ _ _ _=some (bif KU e then _ else _);cases KU e<;>rfl
 | cl c=>
   show(Zps F c).bind _=_;rw[Zlg l c h];show UJ _ _ _=some (bif U9 c then _ else _);cases U9 c<;>rfl
def ZNf(h:U Y)(x:Y):(fun s=>decide (s∈h++[x]))=fun s=>decide (s∈h)||decide (s=x):=by funext s;by_cases h1:s∈h<;>by_cases h2:s=x<;>simp[h1,h2]
def ZX5(h l:U Y):(fun s=>decide (s∈h++l))=fun s=>decide (s∈h)||decide (s∈l):=by funext s;by_cases h1:s∈h<;>by_cases h2:s∈l<;>simp[h1,h2]
def ZAe(K:10^19<=F)(r:U ZU)(k:Nat)(y:ZU)(A:Z7 r (k:Int)=some y)(L:y.names.length<=3)(C:∀s∈y.names,s.size<=BB)(q:(U Y)×(U Y)×Int->O Z)(z:U Y)(h:U Y)(G:h.length<=100):
 loop F (ZhF F r (k:Int) q z) (h,0)=bif nWb (fun s=>decide (s∈h)) y.names then q (z,h++y.names,Xa ((k:Int)+1)) else some false:=by
 refine Z8 (fun(k:Nat)(m:U Y)=>(m,(k:Int))) y.names (fun rest m=>m.length+rest.length<=200) (fun rest m=>bif nWb (fun s=>decide (s∈m)) rest then q (z,m++rest,Xa ((k:Int)+1)) else some false) ?_ ?_ V6 h V6;.intro s p _;simp only[ZhF,A,Bq0,ZI,Cq0,G8];rfl
 intro j x rest s p B I l E ih;have D:s.length+rest.length+1<=200:=by have:=E;simp only[Kd]at this;omega
 simp only[ZhF,A,ZO I,Cq1,l,Bq0,ZCS K (C x B)];rw[Qj V6,app1 V6 V6];simp only[Bq0,nWb];cases hn:X7 x;.simp[gd]
 simp only[Q1,G9,gd,Cq1,Bq0,l];rw[has_eq F s x V6 V6];by_cases t:x∈s;.simp[t]
 have e:decide (x∈s)=false:=decide_eq_false t;simp only[gd,e,Q1,G9,Bool.or_false,Cq1,Cq0,Bq0,Bool.and_true,G3];rw[ih (s++[x]) Vf,ZNf,Q4];rfl
def ZAq(A:10^19<=F)(h:U ZU)(h2:h.length<=BB)(E:∀m∈h,m.qJ.size<=BB/\m.names.length<=BB/\∀s∈m.names,s.size<=BB):Zpv F h=some (decide (0<h.length)&&decide (h.length<=3)&&jW (fun _=>false) (fun _=>false) h):=by
 unfold Zpv;by_cases x:0<h.length/\h.length<=3
 .rw[decide_eq_false (show ¬ (h.length:Int)<1 by omega),decide_eq_false (show ¬ (h.length:Int)>3 by omega),decide_eq_true x.1,decide_eq_true x.2];simp only[Bool.or_false,Cq0,G3];have:=Z8 (body:=ZhG F h) (fun(k:Nat)(m:U Y×U Y)=>(m.1,m.2,(k:Int))) h (fun rest m=>m.1.length+rest.length<=3/\m.2.length+3*rest.length<=9) (fun rest m=>some (jW (fun s=>decide (s∈m.1)) (fun s=>decide (s∈m.2)) rest)) (F:=F) ?_ ?_ V6 ([],[]) ⟨by simp;omega,by simp;omega⟩;.simpa using this
  .intro s l _;simp only[ZhG,ZI,Cq0];rfl
  intro j y rest s l B D q C ih;have⟨q1,q2,q3⟩:=E y B;have⟨p1,p2⟩:=C;simp only[Kd]at p1 p2;simp only[ZhG,ZO D,Cq1,q,Bq0,ZCS A q1];rw[app1 V6 V6];simp only[Bq0,jW];cases hn:X7 y.qJ;.simp[gd]
  simp only[Q1,G9,gd,Cq1,Bq0,q];rw[has_eq F s.1 y.qJ V6 V6];by_cases t:y.qJ∈s.1;.simp[t]
  have e:decide (y.qJ∈s.1)=false:=decide_eq_false t;simp only[gd,e,Q1,G9,Bool.or_false,Cq1,Cq0,Bq0,Bool.and_true,G3,Gk];by_cases r:y.names.length<=3;.rw[decide_eq_false (show ¬ (y.names.length:Int)>3 by omega),decide_eq_true r,Cq0,ZAe A h j y q r q3 l _ s.2 V6,Qj V6];have:=ih (s.1++[y.qJ],s.2++y.names) ⟨by simp;omega,by simp;omega⟩;simp only at this;rw[this,ZNf,ZX5];cases nWb (fun p=>decide (p∈s.2)) y.names<;>rfl
  rw[decide_eq_true (show(y.names.length:Int)>3 by omega),decide_eq_false r];rfl
 have:(decide ((h.length:Int)<1)||decide ((h.length:Int)>3))=true:=by
  by_cases z:0<h.length;.rw[decide_eq_true (show(h.length:Int)>3 by omega)];simp
  rw[decide_eq_true (show(h.length:Int)<1 by omega)];rfl
 rw[this,Cq1];by_cases z:0<h.length;.rw[decide_eq_true z,decide_eq_false (show ¬ h.length<=3 by omega)];rfl
 rw[decide_eq_false z];rfl
abbrev NDB:=Nat×Nat×Z
def WN(s:Z×Nat×Nat)(r:NDB):Z×Nat×Nat:=(s.1&&r.2.2,s.2.1+r.1,max s.2.2 r.2.1)
def Zi5(s:Z×Nat×Nat):NDB:=(s.2.1,s.2.2+1,s.1)
def R(p:Part):NDB:=bif UF p then Zi5 (((Ya p).attach.map fun k=>R k.1).foldl WN (true,1,0)) else(1,1,false)
termination_by pz p
decreasing_by exact WW k.2
def ZKz(p:Part):R p=bif UF p then Zi5 (((Ya p).map R).foldl WN (true,1,0)) else(1,1,false):=by rw[R,attach_map (Ya p) R]
def ZPb(l:U NDB):∀s,l.foldl WN s=(s.1&&l.all (·.2.2),s.2.1+(l.map (·.1)).sum,max s.2.2 (Zf6 (l.map (·.2.1)))):=by
 induction l with|nil=>intro s;simp[Zf6]|cons x l ih=>
   intro s;rw[Gh,ih];simp[WN,List.all_cons,JT,List.sum_cons,ZeP,Bool.and_assoc,GI,Nat.max_assoc]
def ZGm(p:Part):(R p).2.2=(pre p).all UF/\((pre p).all UF=true->(R p).1=(pre p).length/\(R p).2.1=dep p)/\(R p).1<=(pre p).length/\(R p).2.1<=(pre p).length:=by
 induction p using ZbY with|h p ih=>
   have q:∀l:U Part,(∀k∈l,(R k).2.2=(pre k).all UF/\((pre k).all UF=true->(R k).1=(pre k).length/\(R k).2.1=dep k)/\(R k).1<=(pre k).length/\(R k).2.1<=(pre k).length) ->
    (l.map R).all (·.2.2)=(l.flatMap pre).all UF/\((l.flatMap pre).all UF=true->((l.map R).map (·.1)).sum=(l.flatMap pre).length/\Zf6 ((l.map R).map (·.2.1))=Zf6 (l.map dep))/\((l.map R).map (·.1)).sum<=(l.flatMap pre).length/\Zf6 ((l.map R).map (·.2.1))<=(l.flatMap pre).length:=by
    intro l
    induction l with|nil=>intro _;simp[Zf6]|cons x l r=>
      intro h;have⟨a1,a2,a3,a4⟩:=h x Vd;have⟨b1,b2,b3,b4⟩:=r fun k t=>h k (Kx _ t);simp only[JT,List.all_cons,Kf,List.all_append,List.sum_cons,ZeP,K1,a1,b1];refine⟨trivial,fun m=>?_,by omega,by omega⟩;rw[Ba0]at m;have⟨c1,c2⟩:=a2 m.1;have⟨d1,d2⟩:=b2 m.2;exact⟨by rw[c1,d1],by rw[c2,d2]⟩
   have⟨k1,k2,k3,k4⟩:=q (Ya p) ih;rw[ZKz,ZPb,pre_eq p];simp only[List.all_cons,Kd];cases y:UF p;.simp
   simp only[Cq1,Zi5,G3,k1,Nat.zero_max];refine⟨trivial,fun m=>?_,by omega,by omega⟩;have⟨c1,c2⟩:=k2 m;exact⟨by rw[c1];omega,by rw[c2,Zry]⟩
def Jm{x:Part}(h:x∈pre p):(pre x).length<=(pre p).length:=by
 induction p using ZbY with|h p ih=>
   rw[pre_eq p]at h;rcases Ks.1 h with rfl|h
   .exact K2 _
   have⟨k,hk,hx⟩:=G0.1 h;have:=ih k hk hx;have:=ZY hk;omega
def Jt{x y:Part}(h:x∈pre y)(l:y∈pre p):x∈pre p:=by
 induction p using ZbY with|h p ih=>
   rw[pre_eq p]at l;rcases Ks.1 l with rfl|l
   .exact h
   have⟨k,hk,hyk⟩:=G0.1 l;exact Yf hk (ih k hk hyk)
def Sm.mem{x:Part}(h:Sm p)(l:x∈pre p):Sm x:=⟨by have:=Jm l;have:=h.1;omega,fun y m=>h.2 y (Jt m l)⟩
def out(r:NDB):Int×Int×Z:=((r.1:Int),(r.2.1:Int),r.2.2)
def Zqw(a b:Nat){i:Decidable ((b:Int)>(a:Int))}:@ite Int ((b:Int)>(a:Int)) i (b:Int) (a:Int)=((max a b:Nat):Int):=by
 by_cases h:b>a;·rw[if_pos V6,Nat.max_eq_right V6]
 rw[if_neg V6,Nat.max_eq_left V6]
def ZXF(h:n<=4000000000000000000):Xa (n:Int)=(n:Int):=Ky V6 V6
def ZBQ{a:Nat}(h:a+b<=4000000000000000000):Xa ((a:Int)+(b:Int))=((a+b:Nat):Int):=by rw[<-ZXF h,Int.natCast_add]
def ZWK(c:h->Part)(B0:Nat)(rest:U h)(s:Z×Nat×Nat):Prop:=s.2.1+((rest.map c).flatMap pre).length<=B0/\s.2.2<=1000000000
def ZlL{p:Type}{body:Z×Int×Int×Int->(Z×Int×Int×Int->O (Int×Int×Z))->O (Int×Int×Z)}(l:U p)(c:p->Part)(g:p->O (Int×Int×Z))(fin:Z×Nat×Nat->O (Int×Int×Z))(A:l.length<=BB){B0:Nat}(G:B0<=1000000000)
 (C:∀x∈l,g x=some (out (R (c x))))
 (D:∀b (n d i:Int) h,body (b,n,d,i) h=bif decide (i<(l.length:Int)) then(Z7 l i).bind fun x=>(g x).bind fun y=>h ((b&&y.2.2),Xa (n+y.1),(if y.2.1>d then y.2.1 else d),Xa (i+1)) else body (b,n,d,(l.length:Int)) h)
 (he:∀s h,s.2.1<=B0->s.2.2<=1000000000->body (s.1,(s.2.1:Int),(s.2.2:Int),(l.length:Int)) h=fin s) (E:10^19<=F) (s:Z×Nat×Nat) (m:ZWK c B0 l s) (q:∀x∈l,(pre (c x)).length<=BS):loop F body (s.1,(s.2.1:Int),(s.2.2:Int),0)=fin ((l.map fun x=>R (c x)).foldl WN s):=by
 refine Z8 (fun(k:Nat)(s:Z×Nat×Nat)=>(s.1,(s.2.1:Int),(s.2.2:Int),(k:Int))) l (ZWK c B0) (fun rest s=>fin ((rest.map fun x=>R (c x)).foldl WN s)) ?_ ?_ (by unfold BB at A;omega) s m;.intro s h m;exact he s h (by have:=m.1;omega) m.2
 intro k x rest s h t B r m ih;have⟨p1,p2⟩:=m;simp only[JT,Kf,K1]at p1;have⟨_,_,r1,r2⟩:=ZGm (c x);have h2:=q x t;unfold BS at h2;unfold BB at A;show body (s.1,(s.2.1:Int),(s.2.2:Int),(k:Int)) h=_;rw[D,ZO B,Cq1,r,Bq0,C x t,Bq0];show h (s.1&&(R (c x)).2.2,Xa ((s.2.1:Int)+((R (c x)).1:Int)),(if((R (c x)).2.1:Int)>(s.2.2:Int) then((R (c x)).2.1:Int) else(s.2.2:Int)),Xa ((k:Int)+1))=_;rw[ZBQ V6,Zqw,Qj V6];have:=ih (WN s (R (c x))) ⟨by simp only[WN];omega,by simp only[WN];omega⟩;simp only[WN]at this;rw[this];rfl
def ZuV(a:Nat):((a:Int)==0)=(a==0):=U5 a 0
def ZuU(a:Nat):((a:Int)==1)=(a==1):=U5 a 1
def ZFM(a:Nat):((a:Int)==2)=(a==2):=U5 a 2
def ZJ8(a:Nat):((a:Int)==-1)=false:=by rw[beq_eq_false_iff_ne];omega
def nmW(g b:Z)(s:Y):Z:=g&&(bif b then X7 s else decide (s=E0))
def Zwo(l:10^19<=F)(h:s.size<=BB)(g b:Z):gd g (ZhZ F s b) default=some (nmW g b s):=by rw[ZNc l h];cases g<;>rfl
def ZP1(e:Zi)(v:Nat)(hv:v=(if 3<=e.op/\e.op<=7 then 2 else 0)):(((((((decide (e.op >=1))&&(decide (e.op<=7)))&&nmW ((decide (e.op >=1))&&(decide (e.op<=7))) (e.op==2) e.qJ)&&((e.qQ.length:Int)==(v:Int)))&&((e.op==1)||(e.n==0)))&&(decide (e.n >=(-1000000000))))&&(decide (e.n<=1000000000)))=KU e:=by
 have⟨op,n,tx,ks⟩:=e;dsimp only at hv ⊢;rw[U5];have l:op=1\/op=2\/op=3\/op=4\/op=5\/op=6\/op=7\/op<1\/7<op:=V6
 have p:∀X:Z,((X&&(n==0))&&decide (n >=-1000000000)&&decide (n<=1000000000))=(X&&(n==0)):=fun X=>by
  by_cases h:n=0;.subst h;simp
  have:(n==0)=false:=by simpa using h
  rw[this];simp
 rcases l with rfl|rfl|rfl|rfl|rfl|rfl|rfl|l
 .rw[if_neg V6]at hv;subst hv;unfold KU nmW;simp only[Int.reduceBEq,Cq1,Cq0,Bool.true_or,Bool.and_true];have m:(decide ((1:Int) >=1)&&decide ((1:Int)<=7))=true:=by decide
  rw[m];cases decide (n >=-1000000000)<;>cases decide (n<=1000000000)<;>cases decide (tx=E0)<;>cases ks.length==0<;>rfl
 .rw[if_neg V6]at hv;subst hv;unfold KU nmW;simp only[Int.reduceBEq,Cq1,Cq0,Gk];have m:(decide ((2:Int) >=1)&&decide ((2:Int)<=7))=true:=by decide
  rw[m,p];cases X7 tx<;>cases n==0<;>cases ks.length==0<;>rfl
 all_goals first
  | (rw[if_pos V6]at hv;subst hv
     unfold KU nmW;simp only[Int.reduceBEq,Cq1,Cq0,Gk];rw[p];simp only[ge_iff_le,Int.reduceLE,decide_true,Bool.and_self,G3];cases decide (tx=E0)<;>cases n==0<;>cases ks.length==2<;>rfl)
  | (have q:(decide (op >=1)&&decide (op<=7))=false:=by
      rcases l with l|l
      .rw[decide_eq_false (show ¬ op >=1 by omega)];rfl
      rw[decide_eq_false (show ¬ op<=7 by omega)];simp
     have x:(op==1)=false:=by simp;omega
     have t:(op==2)=false:=by simp;omega
     have r:(decide (op >=3)&&decide (op<=7))=false:=by
      rcases l with l|l
      .rw[decide_eq_false (show ¬ op >=3 by omega)];rfl
      rw[decide_eq_false (show ¬ op<=7 by omega)];simp
     unfold KU;rw[q,x,t,r];rfl)
def Xd{e x:Zi}(h:x∈e.qQ):Part.ex x∈Ya (.ex e):=Gi h
def QV{x:Zi}(h:x∈t.args):Part.ex x∈Ya (.pr t):=GH _ (GH _ (Gi h))
def YP{x:Za}(h:x∈t.qK):Part.cl x∈Ya (.pr t):=GH _ (Gz _ (Gi h))
def Y0{x:Term}(h:x∈t.qQ):Part.pr x∈Ya (.pr t):=Gz _ (Gi h)
def Yw{c x:Za}(h:x∈c.qK):Part.cl x∈Ya (.cl c):=GH _ (Gi h)
def Y5{c:Za}{x:Term}(h:x∈c.qQ):Part.pr x∈Ya (.cl c):=Gz _ (Gi h)
def ZyH(s:Z×Nat×Nat)(h:s.2.2<=1000000000):(some ((s.2.1:Int),Xa ((s.2.2:Int)+1),s.1):O (Int×Int×Z))=some (out (Zi5 s)):=by rw[Qj V6];rfl
def ZJE(t:10^19<=F):∀n e,Sm (.ex e)->(pre (.ex e)).length<=n->∀Fr,n<=Fr->loop Fr (Zhv F) e=some (out (R (.ex e))):=by
 intro n
 induction n with|zero=>intro e l hn;have:=Y7 (.ex e);omega|succ n ih=>
   intro e l hn Fr B;obtain⟨G,rfl⟩:∃G,Fr=G+1:=⟨Fr-1,by omega⟩;rw[ZV];have r:=l.loc;have q:=Qe (.ex e);have p:=l.1
   have j:∀v:Nat,v=(if 3<=e.op/\e.op<=7 then 2 else 0)->(Zjf F e (loop G (Zhv F))) (v:Int)=some (out (R (.ex e))):=by
    intro v hv;unfold Zjf;rw[Zwo t r.1,Bq0,ZP1 e v hv,ZKz];show _=some (out (bif KU e then _ else _));cases A:KU e;.rfl
    simp only[Q1,Cq0,Cq1]
    have:=ZlL (body:=Zjg e (loop G (Zhv F))) e.qQ .ex (loop G (Zhv F)) (fun s=>some (out (Zi5 s))) r.2 V7 (fun x m=>ih x (l.kid (Xd m)) (by have:=ZY (Xd m);omega) G V6)
     (fun b n d i y=>by simp only[Zjg,ZI,Cq0]) (fun s y _ h2=>by simp only[Zjg,ZI,Cq0];exact ZyH s h2) t (true,1,0) ⟨by show 1+((Ya (.ex e)).flatMap pre).length<=_;unfold BS at p;omega,Gq _⟩ (fun x m=>(l.kid (Xd m)).1)
    show loop F (Zjg e (loop G (Zhv F))) (true,((1:Nat):Int),((0:Nat):Int),0)=_;rw[this];show some (out (Zi5 ((e.qQ.map fun x=>R (.ex x)).foldl WN (true,1,0))))=some (out (Zi5 (((e.qQ.map .ex).map R).foldl WN (true,1,0))));rw[List.map_map];rfl
   unfold Zhv;by_cases h:3<=e.op/\e.op<=7;.rw[decide_eq_true (show e.op >=3 from h.1),decide_eq_true h.2];exact j 2 (by rw[if_pos h])
   have:(decide (e.op >=3)&&decide (e.op<=7))=false:=by
    rw[Gm,Ne,Ba0,decide_eq_true_iff,decide_eq_true_iff];exact h
   rw[this];exact j 0 (by rw[if_neg h])
def ZAQ(c:Za)(p:Z)(h:c.qV=1->p=(decide (0<c.qG.length)&&decide (c.qG.length<=3)&&jW (fun _=>false) (fun _=>false) c.qG)\/((((((((c.qV==1)||(c.qV==2))&&nmW ((c.qV==1)||(c.qV==2)) (!(c.qV==1)) c.qJ)&&((c.qQ.length:Int)==1))&&(decide ((c.qK.length:Int)<=5)))&&(!(!(c.qV==1))))&&((c.qK.length:Int)==0))=false)):
 (((((((c.qV==1)||(c.qV==2))&&nmW ((c.qV==1)||(c.qV==2)) (!(c.qV==1)) c.qJ)&&((c.qQ.length:Int)==1))&&(decide ((c.qK.length:Int)<=5)))&&((!(c.qV==1))||(((c.qK.length:Int)==0)&&p)))&&((c.qV==1)||((c.qG.length:Int)==0)))=U9 c:=by
 unfold U9 nmW;simp only[ZuU,ZuV,le5]at h ⊢;by_cases m:c.qV=1
 .have h:=h m;rw[m]at h ⊢;simp only[Int.reduceBEq,Bool.true_or,Q1,Gk,Cq1,Cq0,G3,Bool.and_true,nmW,G9]at h ⊢;rcases h with rfl|h
  .cases decide (c.qJ=E0)<;>cases c.qQ.length==1<;>cases l:(c.qK.length==0)<;>simp;intro _;have:c.qK.length=0:=by simpa using l
   omega
  cases t:(c.qQ.length==1)<;>cases r:decide (c.qJ=E0)<;>cases l:(c.qK.length==0)<;>rw[t,r,l]at h<;>simp at h ⊢;have:c.qK.length=0:=by simpa using l
  omega
 have y:(c.qV==1)=false:=by simpa using m
 by_cases q:c.qV=2;.rw[q];simp only[Int.reduceBEq,Gk,G9,Bool.true_or,Cq1,G3,Bool.and_true];cases X7 c.qJ<;>cases c.qQ.length==1<;>cases decide (c.qK.length<=5)<;>cases c.qG.length==0<;>rfl
 have x:(c.qV==2)=false:=by simpa using q
 rw[y,x];cases c.qQ.length==1<;>rfl
def Zdn(h:Int):Int×Int×Int:=
 bif h==2 then(-1,0,0) else bif h==3 then(0,2,0) else bif h==4 then(0,1,-1) else bif h==5 then(1,2,0) else bif(h==6)||(h==8) then(0,1,0) else(0,0,0)
def ZG6(t:Term):((((((decide (t.op >=1))&&(decide (t.op<=8)))&&nmW ((decide (t.op >=1))&&(decide (t.op<=8))) (((t.op==2)||(t.op==6))||(t.op==8)) t.qJ)&&((t.qQ.length:Int)==(Zdn t.op).2.1))&&(((decide ((Zdn t.op).1<0))&&(decide ((t.args.length:Int)<=3)))||((t.args.length:Int)==(Zdn t.op).1)))&&((((decide ((Zdn t.op).2.2<0))&&(decide ((t.qK.length:Int)>0)))&&(decide ((t.qK.length:Int)<=5)))||((t.qK.length:Int)==(Zdn t.op).2.2)))=Zff t:=by
 have l:t.op=1\/t.op=2\/t.op=3\/t.op=4\/t.op=5\/t.op=6\/t.op=7\/t.op=8\/t.op<1\/8<t.op:=V6;unfold Zff szs nmW;rcases l with h|h|h|h|h|h|h|h|h
 case inr.inr.inr.inr.inr.inr.inr.inr=>
  have q:(decide (t.op >=1)&&decide (t.op<=8))=false:=by
   rcases h with h|h
   .rw[decide_eq_false (show ¬ t.op >=1 by omega)];rfl
   rw[decide_eq_false (show ¬ t.op<=8 by omega)];simp
  have C:(t.op==1)=false:=by simp;omega
  have B:(t.op==2)=false:=by simp;omega
  have A:(t.op==3)=false:=by simp;omega
  have y:(t.op==4)=false:=by simp;omega
  have x:(t.op==5)=false:=by simp;omega
  have r:(t.op==6)=false:=by simp;omega
  have p:(t.op==7)=false:=by simp;omega
  have m:(t.op==8)=false:=by simp;omega
  rw[q,C,B,A,y,x,r,p,m];rfl
 all_goals
  rw[h];simp[Zdn,Int.reduceBEq,Cq1,Cq0,Bool.true_or,Bool.or_true,Gk,Bool.or_false,ge_iff_le,Int.reduceLE,Int.reduceLT,decide_true,decide_false,G3,Gp,Bool.and_true,ZuV,ZuU,ZFM,ZJ8,le3,le5,gt0,beq_self_eq_true,Int.reduceNeg];ac_rfl
def Zzu(c:h->Part)(l:U h):(l.map fun x=>R (c x))=(l.map c).map R:=by rw[List.map_map];rfl
def ZBP(F:Nat)(t:Term)(h:Term->O (Int×Int×Z)):ZmN F t h=(ZbL F t h) (Zdn t.op):=by unfold ZmN ZmO Zdn;cases t.op==2<;>cases t.op==3<;>cases t.op==4<;>cases t.op==5<;>cases t.op==6<;>cases t.op==8<;>rfl
def CT(F n:Nat):Prop:=∀t,Sm (.pr t)->(pre (.pr t)).length<=n->∀Fr,n<=Fr->loop Fr (ZmN F) t=some (out (R (.pr t)))
def CC(F n:Nat):Prop:=∀c next,Sm (.cl c)->(pre (.cl c)).length<=n->(∀t,Part.pr t∈pre (.cl c)->next t=some (out (R (.pr t))))->∀Fr,n<=Fr->loop Fr (Zgr F next) c=some (out (R (.cl c)))
def c0W(c:Za):Z:=((((((((c.qV==1)||(c.qV==2))&&nmW ((c.qV==1)||(c.qV==2)) (!(c.qV==1)) c.qJ)&&((c.qQ.length:Int)==1))&&(decide ((c.qK.length:Int)<=5)))&&(!(!(c.qV==1))))&&((c.qK.length:Int)==0)))
def ZKK(I:10^19<=F)(ih:CC F n):CC F (n+1):=by
 intro c next C hn h Fr hFr;obtain⟨G,rfl⟩:∃G,Fr=G+1:=⟨Fr-1,by omega⟩
 rw[ZV];obtain⟨T,S,Q,l4,P⟩:=C.loc;have r:=Qe (.cl c);have B:=C.1;have A:∀x∈c.qK,loop G (Zgr F next) x=some (out (R (.cl x))):=fun x q=>ih x next (C.kid (Yw q)) (by have:=ZY (Yw q);omega) (fun t V=>h t (Yf (Yw q) V)) G V6
 generalize loop G (Zgr F next)=l at A;unfold Zgr;rw[Zwo I T,Bq0,ZAq I c.qG S P];have D:∀(b:Z)(x:Z),gd b (some x) default=some (b&&x):=fun b x=>by cases b<;>rfl
 rw[D,Bq0]
 have K:=ZAQ c (c0W c&&(decide (0<c.qG.length)&&decide (c.qG.length<=3)&&jW (fun _=>false) (fun _=>false) c.qG)) (fun _=>by
  cases X:c0W c
  ·exact .inr X
  exact .inl rfl)
 unfold c0W at K;rw[K,ZKz];show _=some (out (bif U9 c then _ else _));cases m:U9 c
 ·rfl
 simp[Q1,Cq0,Cq1]
 obtain⟨k0,p⟩:∃k0,c.qQ=[k0]:=by
  unfold U9 at m;rw[Ba0]at m;have:=m.1;rw[beq_iff_eq]at this
  match hk:c.qQ,this with|[k0],_=>exact⟨k0,rfl⟩
 have ZYY:Part.pr k0∈Ya (.cl c):=Y5 (by rw[p];simp);have y:Ya (.cl c)=c.qK.map .cl++[.pr k0]:=by show c.qK.map Part.cl++c.qQ.map Part.pr=_;rw[p];rfl
 have W:(pre (.cl c)).length=((c.qK.map Part.cl).flatMap pre).length+(pre (.pr k0)).length+1:=by rw[r,y,QQ];simp
 obtain⟨_,_,r1,r2⟩:=ZGm (.pr k0)
 have:=ZlL (body:=Ze3 c next l) c.qK .cl l (fun s=>some (out (Zi5 (WN s (R (.pr k0)))))) Q (B0:=1+((c.qK.map Part.cl).flatMap pre).length) (by unfold BS at B;omega)
  A
  (fun b n d i L=>by simp[Ze3,ZI,Cq0])
  (fun s L h1 h2=>by
    simp[Ze3,ZI,Cq0];have E:Z7 c.qQ 0=some k0:=by rw[p];rfl
    rw[E,Bq0,h k0 (Yf ZYY (Yy _)),Bq0];unfold BS at B;show some (Xa ((s.2.1:Int)+((R (.pr k0)).1:Int)),Xa ((if((R (.pr k0)).2.1:Int)>(s.2.2:Int) then((R (.pr k0)).2.1:Int) else(s.2.2:Int))+1),(s.1&&(R (.pr k0)).2.2))=_;rw[ZBQ V6,Zqw,Qj V6];rfl)
  I (true,1,0) ⟨K2 _,Gq _⟩ (fun x q=>(C.kid (Yw q)).1)
 show loop F (Ze3 c next l) (true,((1:Nat):Int),((0:Nat):Int),0)=_;rw[this,y,GQ,GE,Zzu];rfl
def ZKJ(A:10^19<=F)(D:n<=F)(ih:CT F n)(B:CC F n):CT F (n+1):=by
 intro t m hn Fr hFr;obtain⟨G,rfl⟩:∃G,Fr=G+1:=⟨Fr-1,by omega⟩
 rw[ZV,ZBP];obtain⟨S,Q,P,L⟩:=m.loc;have q:=Qe (.pr t);have E:=m.1;have r:Ya (.pr t)=t.args.map .ex++t.qK.map .cl++t.qQ.map .pr:=rfl;have X:(pre (.pr t)).length=((t.args.map Part.ex).flatMap pre).length+((t.qK.map Part.cl).flatMap pre).length+((t.qQ.map Part.pr).flatMap pre).length+1:=by rw[q,r,QQ,QQ,K1,K1]
 unfold ZbL;dsimp only;rw[Zwo A S,Bq0];rw[ZG6 t,ZKz];show _=some (out (bif Zff t then _ else _));cases T:Zff t
 ·rfl
 simp only[Q1,Cq0,Cq1];generalize C:loop G (ZmN F)=next;have l:∀x,Part.pr x∈pre (.pr t)->(pre (.pr x)).length<=n->next x=some (out (R (.pr x))):=fun x h V=>by rw[<-C];exact ih x (m.mem h) V G V6
 unfold BS at E
 have W:∀s:Z×Nat×Nat,s.2.1+((t.qQ.map Part.pr).flatMap pre).length<=1000000000->s.2.2<=1000000000->loop F (Zji t next) (s.1,(s.2.1:Int),(s.2.2:Int),0)=some (out (Zi5 (((t.qQ.map .pr).map R).foldl WN s))):=by
  intro s h1 h2
  have:=ZlL (body:=Zji t next) t.qQ .pr next (fun s=>some (out (Zi5 s))) L V7 (fun x h=>l x (Yf (Y0 h) (Yy _)) (by have:=ZY (Y0 h);omega))
   (fun b n d i p=>by simp only[Zji,ZI,Cq0]) (fun s p _ h2=>by simp only[Zji,ZI,Cq0];exact ZyH s h2) A s ⟨h1,h2⟩ (fun x h=>(m.kid (Y0 h)).1)
  rw[this,Zzu]
 have hd:∀s:Z×Nat×Nat,s.2.1+((t.qK.map Part.cl).flatMap pre).length+((t.qQ.map Part.pr).flatMap pre).length<=1000000000->s.2.2<=1000000000->loop F (Zjj F t next) (s.1,(s.2.1:Int),(s.2.2:Int),0)=some (out (Zi5 (((t.qQ.map .pr).map R).foldl WN (((t.qK.map .cl).map R).foldl WN s)))):=by
  intro s h1 h2
  have:=ZlL (body:=Zjj F t next) t.qK .cl (fun x=>ZFl F next x) (fun s=>some (out (Zi5 (((t.qQ.map .pr).map R).foldl WN s)))) P (B0:=s.2.1+((t.qK.map Part.cl).flatMap pre).length) V6
   (fun x h=>B x next (m.kid (YP h)) (by have:=ZY (YP h);omega) (fun y K=>l y (Yf (YP h) K) (by have:=Jm K;have:=ZY (YP h);omega)) F D)
   (fun b n d i p=>by simp only[Zjj,ZI,Cq0]) (fun s' p h3 I=>by simp only[Zjj,ZI,Cq0];exact W s' V6 I) A s ⟨K2 _,h2⟩ (fun x h=>(m.kid (YP h)).1)
  rw[this,Zzu]
 have:=ZlL (body:=Zjk F t next) t.args .ex (fun x=>ZI0 F x) (fun s=>some (out (Zi5 (((t.qQ.map .pr).map R).foldl WN (((t.qK.map .cl).map R).foldl WN s))))) Q (B0:=1+((t.args.map Part.ex).flatMap pre).length) V6
  (fun x h=>ZJE A _ x (m.kid (QV h)) V7 F (by have:=(m.kid (QV h)).1;unfold BS at this;omega))
  (fun b n d i p=>by simp only[Zjk,ZI,Cq0]) (fun s' p h3 I=>by simp only[Zjk,ZI,Cq0];exact hd s' V6 I) A (true,1,0) ⟨K2 _,Gq _⟩ (fun x h=>(m.kid (QV h)).1)
 show loop F (Zjk F t next) (true,((1:Nat):Int),((0:Nat):Int),0)=_;rw[this,r,GQ,GQ,GE,GE,Zzu]
def CTC(h:10^19<=F):∀n,n<=F->CT F n/\CC F n:=by
 intro n;induction n with
 | zero=>intro _;exact⟨fun t l hn=>by have:=Y7 (.pr t);omega,fun c m l hn=>by have:=Y7 (.cl c);omega⟩
 | succ n ih=>intro hn;have⟨a,b⟩:=ih V6;exact⟨ZKJ h V6 a b,ZKK h b⟩
def ZB6(l:10^19<=F)(t:Term)(h:Sm (.pr t)):ZI8 F t=some (out (R (.pr t))):=
 (CTC l _ (by have:=h.1;unfold BS at this;omega)).1 t h V7 F (by have:=h.1;unfold BS at this;omega)
end Go.Proofs.YtbnepjakjmnadaaGreat
end
