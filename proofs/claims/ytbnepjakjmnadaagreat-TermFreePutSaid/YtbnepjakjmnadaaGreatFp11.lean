/- Part 11. -/
import Derived.Laws.Strings
import Derived.Test.YtbnepjakjmnadaaGreatFp10
set_option linter.all false
set_option maxHeartbeats 2000000
section
noncomputable section
namespace Go.ZF
open Go.Lf
section
variable{X:Ctx}{P:V7}{h:H}{ev:V6->O N}{d:O Tmp}{ty:J}{p:String}{af:Va Edge}{g:O (Nat×Z)}
def Zdy{x:V6}{t:J}{s:Y}(hu:X.P.underlying t=some .string)(hx:ev x=some (.string s)):
 Xm X h ev ⟨d,.call {callee:=.builtin .len,args:=#[x],argTypes:=#[t]},ty,p,af,g⟩=some (.val (Ve (s.size:Int)),.none):=by
 have he:evs ev [x]=some [.string s]:=Zb hx Zd;rw[Uy]
 show(match evs ev [x] with
  | some args=>J7 X.P h .len #[t] ty args
  | none=>none)=_
 rw[he];show vN (Ztx X.P h t (.string s))=_;unfold Ztx;rw[hu];rfl
def ZmJ{x y:V6}{t:J}{s:Y}{i z:Int}(hu:X.P.underlying t=some .string)(hx:ev x=some (.string s))(hy:ev y=some (Ve i))(hz:ZlQ s i=some z):
 Xm X h ev ⟨d,.index t x y,ty,p,af,g⟩=some (.val (.int .u8 z),.none):=by
 show(match ev x,ev y with
  | some x,some i=>bif plain x&&plain i then pN (U0 X.P (Instr.index t x i)) else vN (ZiB X.P t x i)
  | _,_=>none)=_
 rw[hx,hy];show pN (U0 X.P (Instr.index t (.string s) (Ve i)))=_
 have:Zr X.P (Instr.index t (.string s) (Ve i))=some (.ok (.int .u8 z)):=by
  unfold Instr.index;show Zr X.P (underlying t >>=_)=_;rw[prb (Yx hu)];unfold ZlQ at hz;dsimp only;generalize (if 0<=i then s[i.toNat]? else none)=o at hz ⊢;cases o with
  | some b=>cases hz;rfl
  | none=>cases hz
 unfold U0;rw[this];rfl
def ZFJ(a b:Y):(a.toList==b.toList)=decide (a=b):=by
 rw[GM,decide_eq_true_iff,beq_iff_eq,ByteArray.toList_eq,ByteArray.toList_eq];exact⟨fun e=>by cases a;cases b;simp at e;simp[e],fun e=>by rw[e]⟩
def ZkR{op:BinOp}{t:J}{x y:V6}{a b:Y}{r:Z}(ho:Op.stringOp op a b=pure (.bool r))(hq:op=.eql\/op=.neq\/op=.lss):XT P op t x y (.string a) (.string b)=some (.val (.bool r),.none):=by
 have hp:(plain (.string a)&&plain (.string b))=true:=rfl;unfold XT;rw[hp,Cq1]
 have hb:binOp op t (.string a) (.string b)=pure (.bool r):=by
  rcases hq with rfl|rfl|rfl<;>exact ho
 have hg:(do eqGuard op t x y (.string a) (.string b);binOp op t (.string a) (.string b):Sem N)=pure (.bool r):=by
  rw[hb];rcases hq with rfl|rfl|rfl<;>rfl
 rw[hg];rfl
def Ww{t:J}{x y:V6}{a b:Y}:XT P .eql t x y (.string a) (.string b)=some (.val (.bool (decide (a=b))),.none):=ZkR (by rw[<-ZFJ];rfl) (.inl rfl)
def Ul{t:J}{x y:V6}{a b:Y}:XT P .neq t x y (.string a) (.string b)=some (.val (.bool (!decide (a=b))),.none):=ZkR (by rw[<-ZFJ];rfl) (.inr (.inl rfl))
def ZtF{t:J}{x y:V6}{a b:Y}:XT P .lss t x y (.string a) (.string b)=some (.val (.bool (ZdV a b)),.none):=ZkR (by unfold ZdV;rw[<-ByteArray.toList_eq,<-ByteArray.toList_eq];rfl) (.inr (.inr rfl))
def ZcY.str{kt:J}(hu:P.underlying kt=some .string):ZcY P kt Value.string where
 pl:=fun _=>rfl
 ok:=fun e x=>by
  unfold Kk;rw[show(10000:Nat)=9999+1 from rfl,ZJG hu];rfl
 same:=fun x=>by simp[Instr.sameBits,Zh5]
 eq:=fun x y=>by
  have:=ZJs (P:=P) (d:=9999) (a:=x) (b:=y) hu;rw[Zh5]at this;exact this
 kind:=⟨_,hu,.inr fun x y=>by simp only[Instr.sameNow,Zh5]⟩
def bytesOf_map:∀(xs:U Int),bytesOf (xs.map (Value.int .u8))=some (xs.map fun n=>UInt8.ofNat n.toNat):=by
 intro xs
 induction xs with
 | nil=>rfl
 | cons x xs ih=>
   show(match bytesOf (xs.map (Value.int .u8)) with
    | some l=>some (UInt8.ofNat x.toNat::l)
    | none=>none)=_
   rw[ih];rfl
def QR.ints{k:IntKind}{wm:Nat}{cs:U N}{o:Nat}{xs:U Int}(e:QR (Zi7 k) wm h cs o xs):(cs.drop o).take xs.length=xs.map (Value.int k):=by
 have hl:=e.len;have hl:o+xs.length*1<=cs.length:=hl;apply GO;intro j;by_cases hj:j<xs.length
 ·obtain⟨q,h1,_⟩:=e.get j _ (J0 hj);have h1:(cs.drop (o+j*1)).take 1=[.int k xs[j]]:=h1
  have h2:(cs.drop (o+j*1))[0]? =some (.int k xs[j]):=by
   rw[<-GD (i:=0) (j:=1) Vg,h1];rfl
  rw[GB]at h2;rw[GD hj,GB,GN,J0 hj]
  simpa using h2
 ·rw[Jx (by simp;omega),Jx (by simp;omega)]
def Zw1{s t e:J}{x:V6}{wm n:Nat}{a:O Addr}{c:Nat}{xs:U Int}{z:Y}(hs:X.P.underlying s=some (.slice e))(he:X.P.underlying e=some (.int .u8))(ht:X.P.underlying t=some .string)(hx:ev x=some (.slice a n c))(hn:n=xs.length)(sr:Src (Zi7 .u8) wm h a c xs)(hz:ZG8 xs=some z):
 Xm X h ev ⟨d,.convert s t x,ty,p,af,g⟩=some (.val (.string z),.none):=by
 subst hn;have hne:xs≠[]:=fun e=>by subst e;cases hz
 have hz:z=⟨(xs.map fun n=>UInt8.ofNat n.toNat).toArray⟩:=by
  cases xs with
  | nil=>cases hz
  | cons _ _=>cases hz;rfl
 subst hz;rcases sr.mem with h0|⟨i,o,cs,own,q,rfl,hat,hel⟩
 ·exact absurd h0 hne
 ·show(match ev x with
   | some a=>bif plain a then pN (U0 X.P (convert s t a)) else vN (Zhm X.P h s t a)
   | none=>none)=_
  rw[hx];have hp:plain (.slice (some ⟨i,o,none⟩) xs.length c)=false:=rfl;dsimp only;rw[hp,Cq0];have hl:=hel.len;have hl:o+xs.length*1<=cs.length:=hl;have hpos:0<xs.length:=List.length_pos_iff.2 hne
  have hb:(Nat.ble 1 xs.length&&Nat.ble (o+xs.length) cs.length)=true:=by
   rw[Ba0,Nat.ble_eq,Nat.ble_eq];omega
  unfold Zhm;rw[hs,ht];dsimp only;rw[he,hat];dsimp only;rw[hb,Cq1,hel.ints,bytesOf_map]
  rfl
end
section
variable{X:Ctx}{n wm:Nat}{rd:O Nat}{ops:Va Oper}{l:U Oper}{rest:Code}{bs:U Nat}
variable{G Gr:U (Ast wm)}{h h0:H}{T0:Nat->Prop}{fr:Fr}{ds:U Vc}{ty:J}{p:String}{af:Va Edge}{g:O (Nat×Z)}{κ ν:Type}{kv:κ->N}{vv:ν->N}{ll:U (κ×ν)}{d:Nat}
def At.rk{it:Nat}{h h2:H}{b o:Nat}{vs:U N}(s:At h b o vs)(k:RK it h h2):At h2 b o vs:=by
 obtain⟨cs,own,z,h1,h2',h3⟩:=s;obtain⟨a,b',c,d,e1⟩:=k.it_;exact⟨cs,own,z,by rw[k.at_ b fun z'=>(by rw[z',e1]at h1;cases h1)];exact h1,h2',h3⟩
def WL.ZLt{Q:XX->Fs->Prop}{id:Nat}{o:Oper}{t it m Y6:Nat}{bs:U Nat}{b:κ->ν->O Z}{q:Z}(T:U Nat)(v:N)(hq:Zl3 b ll=some q)(hS:Sp wm T0 h0 G h)(pi:Pk G (ob wm it (.iter m Y6 Y6 none)) Gr)(hat:fr.at t=(Vf it))(hm:h.at m=.map (Xc kv vv ll bs) Y6)(hb:bs.length=ll.length/\bs.Nodup/\∀x∈bs,x<Y6)
 (hops:ops.toList=o::l) (hop:o.op=.next (.tmp t) false) (hgu:o.guard=none) (hd:o.dst=some d) (hdn:Nat.blt d n=true) (hT:T.contains t=false) (hdT:T.contains d=true) (hv:plain v=true)
 (body:∀(x:κ×ν)(p:Z),b x.1 x.2=some p->∀h2 fr',Agr T fr fr'->RK it h h2->Sp h.size (Qm ([]:U (Ast h.size))) h2 [] h2->ZtP kv vv h2 it x->WO X n h.size rd ops l ⟨Tr.set fr' d (.tuple #[.bool true,kv x.1,vv x.2]),ds,h2,none⟩ (Yl X n h.size rd rest (ZtM T fr' ds v p)))
 (over:q=false->∀h' fr',Agr T fr fr'->Sp wm T0 h0 Gr h'->WO X n wm rd ops l ⟨Tr.set fr' d (.tuple #[.bool false]),ds,h',none⟩ (Yl X n wm rd rest (Zxn Q)))
 (ZX:q=true->∀h' fr',Agr T fr fr'->Sp wm T0 h0 Gr h'->Q (.panic v) ⟨fr',ds,h',none⟩):WL X n wm rd (.seq (.region id ops false) rest) ⟨fr,ds,h,none⟩ Q:=by
 obtain⟨hb1,hb2,hb3⟩:=hb;obtain⟨o1,o2,o3⟩:=hS.get pi;obtain⟨m1,m2⟩:=Zjo hq
 have Zwt:Agr T fr (ZU T fr):=fun t' v' ht' hv'=>by
  rw[YV,if_neg (fun z=>by rw[<-Gs]at z;rw[z]at ht';cases ht'),hv']
 have htT:t∉T:=fun z=>by rw[<-Gs]at z;rw[z]at hT;cases hT
 have ZHY:d∈T:=Gs.1 hdT;have ZQ9:m≠it:=fun z=>by rw[z,o1]at hm;cases hm
 classical
 let pn:Nat->Z:=fun bn=>decide (∃(j:Nat) (y:κ×ν),ll[j]? =some y/\bs[j]? =some bn/\b y.1 y.2=some true)
 have Znp:∀(j:Nat)(y:κ×ν)(bn:Nat),ll[j]? =some y->bs[j]? =some bn->∀p,b y.1 y.2=some p->pn bn=p:=by
  intro j y bn h1 h2 p hp;cases p with
  | true=>exact decide_eq_true ⟨j,y,h1,h2,hp⟩
  | false=>
    refine decide_eq_false ?_;rintro⟨j',y',h1',h2',hp'⟩
    have hj:j'=j:=by
     obtain⟨q1,e1⟩:=Li0 h2';obtain⟨q2,e2⟩:=Li0 h2;exact(List.getElem_inj hb2).1 (e1.trans e2.symm)
    subst hj;rw[h1]at h1';cases h1';rw[hp]at hp';cases hp'
 have ZF7:Sp wm T0 h0 Gr (h.put it .dead):=
  Sp.step (Ga:=[ob wm it (.iter m Y6 Y6 none)]) (Gb:=[]) (hS.perm pi.perm) (Up.put o2 (by rw[o1];rfl)) (fun i e=>⟨_,Q2.2 rfl,e⟩) Z7.nil fun i ⟨A,mm,f⟩=>by simp at mm
 have Zcn:∀x∈Xc kv vv ll bs,∃ex s3,(s3.ds=ds/\(∀t,t∉T->s3.fr.at t=fr.at t)/\(ex=.normal/\pn x.born=false\/ex=.panic v/\pn x.born=true))/\∀{ρ:Ren}{F:Fence}{a:Act}{w:V9},Inv ρ n {fr:=QI (ZU T fr) o.dst (.tuple #[.bool true,x.key,x.val]),ds:=ds,h:=h.put it (.iter m Y6 Y6 (some x.born)),wr:=none} a w->h.size<=(h.put it (.iter m Y6 Y6 (some x.born))).size->KO ρ rd F->∀Q':Exit->Act->V9->Prop,
  (∀e' a' w',Xj h.size n ρ (h.put it (.iter m Y6 Y6 (some x.born))) w ex s3 e' a' w'->Q' e' a' w')->wpListIn F 0 X.P ops (Exit.then (rest.wpIn F 0 X.P Q') Q') l a w:=by
  intro x hx;obtain⟨j,y,bn,h1,h2,rfl⟩:=Zjp hx;obtain⟨p,hp⟩:=m1 y (Gp.2 ⟨j,h1⟩);have hpn:=Znp j y bn h1 h2 p hp;have hsz:(h.put it (.iter m Y6 Y6 (some bn))).size=h.size:=H.size_put _ _ _;have e1:(h.put it (.iter m Y6 Y6 (some bn))).at it=.iter m Y6 Y6 (some bn):=Z4 (YH o1 rfl) _;have e2:(h.put it (.iter m Y6 Y6 (some bn))).at m=.map (Xc kv vv ll bs) Y6:=by rw[Xg ZQ9,hm]
  have hent:ZtP kv vv (h.put it (.iter m Y6 Y6 (some bn))) it y:=by
   unfold ZtP ZcT;simp only[e1,e2,V4,Cq1,ZgD hb2 h1 h2]
  obtain⟨ex,s3,⟨q1,q2,q3⟩,q4⟩:=WO.body (body y p hp (h.put it (.iter m Y6 Y6 (some bn))) (ZU T fr) Zwt ⟨⟨_,_,_,_,o1⟩,fun i hi=>Xg hi _⟩ (Sp.start (Nat.le_of_eq hsz.symm) Z7.nil) hent);refine⟨ex,s3,⟨q1,fun t' ht'=>?_,?_⟩,?_⟩
  ·rw[q2 t' ht',YV,if_neg ht']
  ·dsimp only;rw[hpn];exact q3
  ·rw[hd];intro ρ F a w i1 i2 i3 Q' i4;exact q4 i1 i2 i3 Q' i4
 have key:=fun(e:XX)(s2:Fs)=>ZyS (X:=X) (n:=n) (wm:=wm) (rd:=rd) (rest:=rest) (id:=id) (s:=⟨fr,ds,h,none⟩) (e:=e) (s2:=s2) (T:=T) (v:=v) pn hops hop hgu hat o1 hm Vh (Zep hb2 hb3) o2 htT hd (by rwa[G6]at hdn) ZHY hv Zcn
 cases q with
 | true=>
   refine⟨.panic v,⟨ZU T fr,ds,h.put it .dead,none⟩,ZX rfl _ _ Zwt ZF7,key _ _ (fun hall=>?_) fun _=>⟨rfl,rfl⟩⟩;exfalso;obtain⟨y,hy,hyb⟩:=m2.1 rfl;obtain⟨j,hj⟩:=Gp.1 hy;have hjl:=(Li0 hj).1;have h2:bs[j]? =some (bs[j]'Vg):=J0 _;have:=hall _ (Zuq hj h2);rw[Znp j y _ hj h2 true hyb]at this;cases this
 | false=>
   obtain⟨e,s2,⟨q1,q2⟩,q3⟩:=WO.body (over rfl _ _ Zwt ZF7);refine⟨e,s2,q2,key e s2 (fun _=>⟨q1,?_⟩) fun⟨x,hx,hp⟩=>?_⟩
   ·rw[hd];intro ρ F a w i1 i2 i3 Q' i4;exact q3 i1 i2 i3 Q' i4
   ·exfalso;obtain⟨j,y,bn,h1,h2,rfl⟩:=Zjp hx;obtain⟨p,hp'⟩:=m1 y (Gp.2 ⟨j,h1⟩);have hpn:=Znp j y bn h1 h2 p hp';rw[show pn bn=true from hp]at hpn;subst hpn;exact absurd (m2.2 ⟨y,Gp.2 ⟨j,h1⟩,hp'⟩) (by simp)
def YU.Zf5{T:Nat->Prop}{df:Nat}{fn:Func}{pm:PM}{R:U4->H->Prop}(hS:Sp wm T h0 G h)(pk:Pk G (ob wm df .deferred) Gr)(k:∀h',Sp wm T h0 Gr h'->YU X fn wm R pm ⟨fr,ds,h',none⟩):YU X fn wm R pm ⟨fr,⟨.collected df,#[]⟩::ds,h,none⟩:=by
 obtain⟨h1,h2,h3⟩:=hS.get pk;have hu:Up wm (fun i=>i=df) h (h.put df .dead):=Up.put h2 (by rw[h1];rfl);obtain⟨E,h',hR,hj⟩:=k _ (Sp.step (Ga:=[ob wm df .deferred]) (Gb:=[]) (hS.perm pk.perm) hu (fun i e=>⟨_,Q2.2 rfl,e⟩) Z7.nil fun i ⟨A,m,f⟩=>by simp at m);exact⟨E,h',hR,Zl8 h1 h2 hj⟩
section
variable{fn:Func}{R:U4->H->Prop}{s:Fs}{v:N}{pm:PM}
def YU.Ztc{f:V8}{fn2:Func}{c:Code}{Yf:U N}{n2:Nat}(hf:X.fns.get f=some fn2)(hb:fn2.body=some c)(hnt:fn2.ntmps=n2)(hn:Yf.length<=n2)(hr:fn2.results.toList=[])
 (k:DC X n2 wm c pm ⟨X0 Yf 0 .nil,[],h,none⟩ (DEn X fn wm R fr ds)):YU X fn wm R pm ⟨fr,⟨.fn (.func f) #[],Yf.toArray⟩::ds,h,none⟩:=by
 subst hnt;obtain⟨e,Ku,s',⟨rfl,hno,E,h',hR,jl⟩,jd⟩:=k;obtain⟨fr',ds',h2,wr'⟩:=s';dsimp only at hno jl;subst hno
 have jc:Yq X (.dcall f (Yf++([]:U N)).toArray pm wm h) (.ZdQ Ku h2):=by
  refine Zd7 (C:=cfg X fun _=>false) (ih:=QK (.Xx c fn2.ntmps wm pm ⟨X0 Yf 0 .nil,[],h,none⟩) (.Xx .normal Ku ⟨fr',[],h2,wr'⟩)) (Y9 jd) ?_;unfold ZfY;have hf':(cfg X fun _=>false).X.fns.get f=some fn2:=hf;rw[hf'];dsimp only;rw[hb];dsimp only;have e1:Nat.ble (Yf++([]:U N)).toArray.toList.length fn2.ntmps=true:=Nm0 (by rw[Gn];exact hn);rw[e1,Cq1];rw[Gn,Xa];unfold ZA7;dsimp only;have e3:QJ (cfg X fun _=>false).X.P fn2 fr' h2=some (.tuple #[]):=by unfold QJ;rw[hr];rfl
  rw[e3]
 refine⟨E,h',hR,?_⟩
 classical
 let ih:Qn->O YP:=fun j=>if j=.dcall f (Yf++([]:U N)).toArray pm wm h then some (.ZdQ Ku h2) else if j=.leave fn wm (Zic Ku) ⟨fr,ds,h2,none⟩ then some (.fin E h') else none
 refine Jh (C:=cfg X fun _=>false) (ih:=ih) ?_ ?_
 ·intro j r e;dsimp only[ih]at e;split at e
  ·rename_i hj;cases e;rw[hj];exact jc
  ·split at e
   ·rename_i hj;cases e;rw[hj];exact jl
   ·cases e
 ·unfold Ua;dsimp only;have hf':(cfg X fun _=>false).X.fns.get f=some fn2:=hf;rw[hf'];dsimp only;have i1:ih (.dcall f (Yf.toArray.toList++(#[]:Va N).toList).toArray pm wm h)=some (.ZdQ Ku h2):=by dsimp only[ih];rw[if_pos rfl]
  rw[i1];dsimp only[ih];rw[if_neg (by intro q;cases q),if_pos rfl]
end
def WO.ZJC{Q:XX->Fs->Prop}{fo x:V6}{ts:Va J}{f:V8}{v:N}(hg:ZP ops ⟨none,.defer {callee:=.value fo,args:=#[x],argTypes:=ts},ty,p,af,g⟩ fr)(hf:Yo fr fo=some (.func (.func f) #[] #[]))(hx:Yo fr x=some v)
 (k:WO X n wm none ops l ⟨fr,⟨.fn (.func f) #[],#[v]⟩::ds,h,none⟩ Q):WO X n wm none ops (⟨none,.defer {callee:=.value fo,args:=#[x],argTypes:=ts},ty,p,af,g⟩::l) ⟨fr,ds,h,none⟩ Q:=by
 refine WO.cons (Zar X) (s1:=⟨fr,⟨.fn (.func f) #[],#[v]⟩::ds,h,none⟩) ?_ k;have he:evs (Yo fr) [x]=some [v]:=Zb hx Zd
 have ha:Xm X h (Yo fr) ⟨none,.defer {callee:=.value fo,args:=#[x],argTypes:=ts},ty,p,af,g⟩=some (.dfr ⟨.fn (.func f) #[],#[v]⟩,.none):=by
  show(match Callee.value fo,evs (Yo fr) [x] with
   | .value f,some args=>match Yo fr f with
     | some (.func (.func g) first cap)=>some (AN.dfr {target:=.fn (.func g) cap,args:=first++args.toArray},Eff.none)
     | _=>none
   | _,_=>none)=_
  rw[he];dsimp only;rw[hf];rfl
 unfold JS;rw[hg.1,hg.2];dsimp only[QP,Cq0,Cq1];rw[ha]
 rfl
section
variable{P:V7}
def ZdB{t a:J}{x:V6}{v:N}{ms}(hp:plain (.iface a v)=true)(hu:P.underlying t=some (.interface ms)):XT P .neq t x (.const .nilIface) (.iface a v) .nilIface=some (.val (.bool true),.none):=by
 have hpp:(plain (.iface a v)&&plain .nilIface)=true:=by rw[hp];rfl
 unfold XT;rw[hpp,Cq1];unfold U0
 have h1:Zr P (eqGuard .neq t x (.const .nilIface) (.iface a v) .nilIface)=some (.ok ()):=by
  cases x<;>rfl
 rw[prb h1]
 have h2:Zr P (Op.equal t (.iface a v) .nilIface)=some (.ok false):=by
  show Zr P (Op.equalIn (9999+1) t (.iface a v) .nilIface)=_;unfold Op.equalIn;rw[prb (Yx hu)];rfl
 have:Zr P (binOp .neq t (.iface a v) .nilIface)=some (.ok (.bool true)):=by
  show Zr P (do pure (Value.bool (!(<-Op.equal t (.iface a v) .nilIface))):Sem N)=_;rw[prb h2];rfl
 rw[this];rfl
def ZeO{t:J}{x:V6}{ms}(hu:P.underlying t=some (.interface ms)):XT P .neq t x (.const .nilIface) .nilIface .nilIface=some (.val (.bool false),.none):=by
 unfold XT;rw[show(plain .nilIface&&plain .nilIface)=true from rfl,Cq1];unfold U0
 have h1:Zr P (eqGuard .neq t x (.const .nilIface) .nilIface .nilIface)=some (.ok ()):=by
  cases x<;>rfl
 rw[prb h1]
 have h2:Zr P (Op.equal t .nilIface .nilIface)=some (.ok true):=by
  show Zr P (Op.equalIn (9999+1) t .nilIface .nilIface)=_;unfold Op.equalIn;rw[prb (Yx hu)];rfl
 have:Zr P (binOp .neq t .nilIface .nilIface)=some (.ok (.bool false)):=by
  show Zr P (do pure (Value.bool (!(<-Op.equal t .nilIface .nilIface))):Sem N)=_;rw[prb h2];rfl
 rw[this];rfl
end
end
section
variable{X:Ctx}{n wm:Nat}{rd:O Nat}{ops:Va Oper}{ol:U Oper}{fr:Fr}{ds:U Vc}{h h0:H}{ty:J}{p:String}{af:Va Edge}{g:O (Nat×Z)}{T:Nat->Prop}{G Gr:U (Ast wm)}{d l df:Nat}{LO:YD}{ps:Va Tmp}{Yf bd:Code}
def RP(K Z':N->H->Prop):U4->H->Prop:=fun e h'=>match e with
 | .ret v=>K v h'
 | .ZX v=>Z' v h'
section
variable{fn:Func}{K Z':N->H->Prop}{v:N}{s:Fs}
def ZI.Zww{rs:U ResultVar}{vs:U N}(hr:fn.results.toList=rs)(hv:ZcK X.P fr h rs=some vs)(hl:(match vs with | [v]=>v|vs=>.tuple vs.toArray)=v)(k:K v h):ZI X fn wm (RP K Z') .ret ⟨fr,[],h,none⟩:=by
 obtain⟨pm,E,h',h1,⟨v',rfl,h2⟩,h3⟩:=(ZI.gen (X:=X) (wm:=wm) (R:=K) hr hv hl k).out;exact⟨⟨pm,.ret v',h',h1,h2,h3⟩⟩
def YU.ZHr(k:Z' v h):YU X fn wm (RP K Z') (.ZX v) ⟨fr,[],h,none⟩:=YU.ZX k
def WF.Zy7{f:V8}{args:Va N}{α β:Type}{r:β}(I:α->N->H->Prop)(j:α->O β)(k:∀x v h',j x=some r->I x v h'->K v h')(hc:WF X f args wm h (RP (fun v h'=>∃x,j x=some r/\I x v h') Z')):WF X f args wm h (RP K Z'):=
 hc.mono fun e h' hq=>by
   cases e with
   | ret v=>obtain⟨x,h1,h2⟩:=hq;exact k x v h' h1 h2
   | ZX v=>exact hq
end
def WO.ZHD{Q:XX->Fs->Prop}{op:Op}{f:V8}{args:Va N}(hg:ZP ops ⟨some d,op,ty,p,af,g⟩ fr)(hd:Nat.blt d n=true)(he:Yh X fr ⟨some d,op,ty,p,af,g⟩ f args)
 (k:WF X f args wm h (RP (fun v h'=>WO X n wm rd ops ol ⟨Tr.set fr d v,ds,h',none⟩ Q) (fun v h'=>Q (.panic v) ⟨fr,ds,h',none⟩))):WO X n wm rd ops (⟨some d,op,ty,p,af,g⟩::ol) ⟨fr,ds,h,none⟩ Q:=by
 obtain⟨e,h',hk,hj⟩:=k;cases e with
 | ret v=>exact WO.en hg hd he hj hk
 | ZX v=>exact WO.ZkD hg (he h) rfl hj hk
structure BdZ(n lo l:Nat)(fr:Fr)(ps:Array Tmp)(Yf bd:Code)(df:Nat)(R:Bool->H->Prop)(Z':Value->H->Prop)(e:XX)(s:Fs):Prop where
 out:BdS n lo l fr ps Yf bd df R e s\/∃v,s.h.at l=.loop .busy none fr n ps Yf bd df/\e=.panic v/\s.ds=[]/\Z' v s.h
structure AsZ(X:Ctx)(n wm lo l:Nat)(fr:Fr)(ps:Array Tmp)(Yf bd:Code)(df:Nat)(R:Bool->H->Prop)(Z':Value->H->Prop)(e:XX)(s:Fs):Prop where
 out:e=.normal/\s.h.at l=.loop .ready none fr n ps Yf bd df/\∀h1,(lo<=l->Up lo (fun i=>i=l) s.h h1)->h1.at l=.loop .busy none fr n ps Yf bd df->WC X n wm (some l) bd ⟨s.fr,s.ds,h1,s.wr⟩ (BdZ n lo l fr ps Yf bd df R Z')
def RdZ(X:Ctx)(l:Nat)(args:Va N)(wm:Nat)(h:H)(R:Z->H->Prop)(Z':N->H->Prop):Prop:=
 ZrD X l args wm h R\/∃v h',Z' v h'/\Yq X (.round l args wm h) (.fin (.ZX v) h')
def RdZ.mk{l:Nat}{args:U N}{fr WY:Fr}{ps:Va Tmp}{Yf bd:Code}{df:Nat}{R:Z->H->Prop}{Z':N->H->Prop}(lo:Nat)(hat:h.at l=.loop .ready none fr n ps Yf bd df)(hw:wm<=l)(hl:Nat.beq args.length ps.toList.length=true)(hs:XJ (ps.toList.zip args) n fr=some WY)
 (k:WC X n wm (some l) Yf ⟨WY,[],h,none⟩ (AsZ X n wm lo l fr ps Yf bd df R Z')):RdZ X l args.toArray wm h R Z':=by
 obtain⟨e1,s1,⟨rfl,h1,k1⟩,j1⟩:=k;have o1:(s1.h.at l).own=true:=by rw[h1];rfl
 have s1l:=YH h1 rfl;obtain⟨e2,s2,⟨k2⟩,j2⟩:=k1 (s1.h.put l (.loop .busy none fr n ps Yf bd df)) (fun hl=>Up.put hl o1) (Z4 s1l _)
 have h2:s2.h.at l=.loop .busy none fr n ps Yf bd df:=by
  rcases k2 with k2|⟨v,h2,_⟩
  ·exact k2.out.1
  ·exact h2
 have o2:(s2.h.at l).own=true:=by rw[h2];rfl
 have s2l:=YH h2 rfl
 have key:(∃b A,R b (s2.h.put l A)/\QE l e2 s2=some (.fin (.ret (.bool b)) (s2.h.put l A)))\/∃v,Z' v s2.h/\QE l e2 s2=some (.fin (.ZX v) s2.h):=by
  rcases k2 with⟨_,⟨rfl,k2⟩|⟨c,hx,k2⟩⟩|⟨v,_,rfl,hd,hz⟩
  ·refine .inl ⟨true,_,k2 _ (fun hl=>Up.put hl o2) (Z4 s2l _),?_⟩;unfold QE;rw[h2]
  ·refine .inl ⟨false,_,k2 _ (fun hl=>Up.put hl o2) (Z4 s2l _),?_⟩;unfold QE;rw[h2];cases hx<;>rfl
  ·refine .inr ⟨v,hz,?_⟩;unfold QE;rw[h2];dsimp only;rw[hd]
 classical
 let ih:Qn->O YP:=fun j=>if j=.code Yf n wm (some l) ⟨WY,[],h,none⟩ then some (.code .normal s1) else QK (.code bd n wm (some l) {s1 with h:=s1.h.put l (.loop .busy none fr n ps Yf bd df)}) (.code e2 s2) j
 have HI:∀j r,ih j=some r->Yq X j r:=by
  intro j r e;dsimp only[ih]at e;split at e
  ·rename_i hj;cases e;rw[hj];exact j1
  ·exact Y9 (X:=X) j2 j r e
 have fin:∀r,QE l e2 s2=some r->Yq X (.round l args.toArray wm h) r:=fun r hev=>by
  refine WA (C:=cfg X fun _=>false) (ih:=ih) HI ?_;unfold Zbx;rw[hat];have hl':Nat.beq args.toArray.toList.length ps.toList.length=true:=hl;dsimp only;rw[Nm0 hw,hl'];simp only[Bool.and_self,Cq1];have hs':XJ (ps.toList.zip args.toArray.toList) n fr=some WY:=hs;rw[hs'];dsimp only;have i1:ih (.code Yf n wm (some l) {fr:=WY,ds:=[],h:=h})=some (.code .normal s1):=by dsimp only[ih];rw[if_pos rfl]
  rw[i1];show UQ ih l bd n wm .normal s1=_;unfold UQ;dsimp only;rw[h1];dsimp only
  have i2:ih (.code bd n wm (some l) {s1 with h:=s1.h.put l (.loop .busy none fr n ps Yf bd df)})=some (.code e2 s2):=by
   dsimp only[ih];split
   ·rename_i hj;exfalso;injection hj with _ _ _ _ hs
    have:({s1 with h:=s1.h.put l (.loop .busy none fr n ps Yf bd df)}:Fs).h.at l=h.at l:=by rw[hs]
    dsimp only at this;rw[Z4 s1l,hat]at this;cases this
   ·exact Xa _ _
  rw[i2];exact hev
 rcases key with⟨b,A,hR,hev⟩|⟨v,hz,hev⟩
 ·exact .inl ⟨b,_,hR,fin _ hev⟩
 ·exact .inr ⟨v,_,hz,fin _ hev⟩
def WO.Zpp{Q:XX->Fs->Prop}{o:Oper}{args:Va N}{E:Eff}{v:N}{h1 h2:H}(hg:ZP ops o fr)(ha:Xm X h (Yo fr) o=some (.round l args,E))(hE:E.apply wm h=some h1)
 (hc:Yq X (.round l args wm h1) (.fin (.ZX v) h2)) (k:Q (.panic v) ⟨fr,ds,h2,none⟩):WO X n wm rd ops (o::ol) ⟨fr,ds,h,none⟩ Q:=by
 refine WO.panics (Y9 hc) ?_ k;unfold JS;rw[hg.1,hg.2];dsimp only[QP,Cq0,Cq1];rw[ha];dsimp only[QP,Cq0,Cq1];rw[hE];unfold Kn;dsimp only[Jz,Cq0];rw[Xa]
 rfl
def WO.ZGH{Q:XX->Fs->Prop}{fo:V6}{xs:Va V6}{ts:Va J}{vs:U N}{n2:Nat}{Qp WY:Fr}{as2 bd2:Code}(hg:ZP ops ⟨some d,.call {callee:=.value fo,args:=xs,argTypes:=ts},ty,p,af,g⟩ fr)(hd:Nat.blt d n=true)(hf:Yo fr fo=some (.func (.yield l) #[] #[]))(hx:evs (Yo fr) xs.toList=some vs)
 (hS:Sp wm T h0 G h) (pk:Pk G (ob wm l LO) Gr) (hLO:LO=.loop .ready none Qp n2 ps as2 bd2 df) (hl:Nat.beq vs.length ps.toList.length=true) (hs:XJ (ps.toList.zip vs) n2 Qp=some WY)
 (k:WC X n2 wm (some l) as2 ⟨WY,[],h,none⟩ (AsZ X n2 wm wm l Qp ps as2 bd2 df (fun b h'=>WO X n wm rd ops ol ⟨Tr.set fr d (.bool b),ds,h',none⟩ Q) (fun v h'=>Q (.panic v) ⟨fr,ds,h',none⟩))):
 WO X n wm rd ops (⟨some d,.call {callee:=.value fo,args:=xs,argTypes:=ts},ty,p,af,g⟩::ol) ⟨fr,ds,h,none⟩ Q:=by
 obtain⟨h1,h2,h3⟩:=hS.get pk;have hat:=h1.trans hLO;rcases RdZ.mk (lo:=wm) hat h2 hl hs k with hr|⟨v,h',hz,hj⟩
 ·exact WO.yld hg hd hf hx hat (Nb0 hl) hr fun b h' hk=>hk
 ·refine WO.Zpp (E:=.none) hg ?_ rfl hj hz;rw[Zdz,hx];dsimp only;rw[hf];dsimp only;unfold Uz;dsimp only;rw[hat];dsimp only;rw[hl];rfl
section
variable{Qp:Fr}{R:Z->H->Prop}{Z':N->H->Prop}
def AsZ.sp(hLO:LO=.loop .ready none fr n ps Yf bd df)(hS:Sp wm T h0 G h)(pk:Pk G (ob wm l LO) Gr)(k:∀h1,Sp wm T h0 (ob wm l (bsy LO)::Gr) h1->WC X n wm (some l) bd ⟨Qp,ds,h1,none⟩ (BdZ n wm l fr ps Yf bd df R Z')):AsZ X n wm wm l fr ps Yf bd df R Z' .normal ⟨Qp,ds,h,none⟩:=by
 obtain⟨h1,h2,h3⟩:=hS.get pk;refine⟨⟨rfl,h1.trans hLO,fun h' u e=>k h' ?_⟩⟩;exact hS.one pk (u h2) (fun _ q=>q) ⟨by rw[e,hLO];rfl,h2,by rw[hLO];rfl⟩ fun _ q=>.inl q
def BdZ.sp(hLO:LO=.loop .ready none fr n ps Yf bd df)(hS:Sp wm T h0 G h)(pk:Pk G (ob wm l (bsy LO)) Gr)(k:∀h1,Sp wm T h0 (ob wm l LO::Gr) h1->R true h1):BdZ n wm l fr ps Yf bd df R Z' .normal ⟨Qp,ds,h,none⟩:=⟨.inl (BdS.sp hLO hS pk k)⟩
def BdZ.ZX{v:N}(hLO:LO=.loop .ready none fr n ps Yf bd df)(hS:Sp wm T h0 G h)(pk:Pk G (ob wm l (bsy LO)) Gr)(k:Z' v h):BdZ n wm l fr ps Yf bd df R Z' (.panic v) ⟨Qp,[],h,none⟩:=by
 obtain⟨h1,h2,h3⟩:=hS.get pk;exact⟨.inr ⟨v,h1.trans (by rw[hLO];rfl),rfl,rfl,k⟩⟩
end
def WC.Zsm{Q:XX->Fs->Prop}{gg:V6}{f:V8}{first cap:U N}(hS:Sp wm T h0 G h)(hg:Yo fr gg=some (.func (.func f) first.toArray cap.toArray))(hf:(X.fns.get f).isSome=true)
 (k:∀h' l df LO,LO=YD.loop .ready none fr n ps Yf bd df->Sp wm T h0 (ob wm l LO::ob wm df .deferred::G) h'->WF X f (first++([Value.func (.yield l) #[] #[]]++cap)).toArray wm h' (RP (fun _ h2=>RgS X wm l fr n ps Yf bd df ds Q h2) (fun v h2=>Q (.panic v) ⟨fr,⟨.collected df,#[]⟩::ds,h2,none⟩))):
 WC X n wm none (.rangeFunc gg ps Yf bd) ⟨fr,ds,h,none⟩ Q:=by
 have s1:Sp wm T h0 (ob wm h.size .deferred::G) (h.push .deferred):=Zeo rfl hS
 have s2:Sp wm T h0 (ob wm (h.size+1) (.loop .ready none fr n ps Yf bd h.size)::ob wm h.size .deferred::G) ((h.push .deferred).push (.loop .ready none fr n ps Yf bd h.size)):=by
  have:=Zeo (A:=.loop .ready none fr n ps Yf bd h.size) rfl s1
  rwa[H.size_push]at this
 obtain⟨fn,hf⟩:=GJ.1 hf;obtain⟨e,h3,hr,hj⟩:=k _ _ _ _ rfl s2
 have hac:Uz (cfg X fun _=>false).X ((h.push .deferred).push (.loop .ready none fr n ps Yf bd h.size)) (.func (.func f) first.toArray cap.toArray) [Value.func (.yield (h.size+1)) #[] #[]]=some (.enter f (first++([Value.func (.yield (h.size+1)) #[] #[]]++cap)).toArray,.none):=by
  unfold Uz;have:(cfg X fun _=>false).X.fns.get f=some fn:=hf;dsimp only;rw[this];simp only[Gc]
 have pre:∀(ih:Qn->O YP),Xv (cfg X fun _=>false) ih gg n wm none (h.size+1) ⟨fr,⟨.collected h.size,#[]⟩::ds,(h.push .deferred).push (.loop .ready none fr n ps Yf bd h.size),none⟩=Je ih n wm none (h.size+1) ⟨fr,⟨.collected h.size,#[]⟩::ds,(h.push .deferred).push (.loop .ready none fr n ps Yf bd h.size),none⟩ (ih (.call f (first++([Value.func (.yield (h.size+1)) #[] #[]]++cap)).toArray wm ((h.push .deferred).push (.loop .ready none fr n ps Yf bd h.size)))):=fun ih=>by
  unfold Xv;dsimp only;rw[hg];dsimp only;rw[hac]
 cases e with
 | ZX v=>
   refine⟨.panic v,_,hr,Y5.2 (QF (C:=cfg X fun _=>false) (ih:=QK (.call f _ wm _) (.fin (.ZX v) h3)) (Y9 hj) ?_)⟩;show Xv (cfg X fun _=>false) _ gg n wm none (h.size+1) ⟨fr,⟨.collected h.size,#[]⟩::ds,(h.push .deferred).push (.loop .ready none fr n ps Yf bd h.size),none⟩=_;rw[pre,Xa]
   rfl
 | ret v=>
 rcases hr.k with⟨hat,hk⟩|⟨c,hat,hk⟩
 ·refine⟨.normal,_,hk (h3.put (h.size+1) (.loop .exhausted none fr n ps Yf bd h.size)) (Up.put hr.low (by rw[hat];rfl)),?_⟩;refine Y5.2 (QF (C:=cfg X fun _=>false) (ih:=QK (.call f _ wm _) (.fin (.ret v) h3)) (Y9 hj) ?_);show Xv (cfg X fun _=>false) _ gg n wm none (h.size+1) ⟨fr,⟨.collected h.size,#[]⟩::ds,(h.push .deferred).push (.loop .ready none fr n ps Yf bd h.size),none⟩=_;rw[pre,Xa];unfold Je;dsimp only;rw[hat]
  rfl
 ·obtain⟨e2,s2,hq,hj2⟩:=hk (h3.put (h.size+1) (.loop .exhausted (some c) fr n ps Yf bd h.size)) (Up.put hr.low (by rw[hat];rfl));refine⟨e2,s2,hq,?_⟩
  classical
  let ih:Qn->O YP:=fun j=>if j=.code c n wm none ⟨fr,⟨.collected h.size,#[]⟩::ds,h3.put (h.size+1) (.loop .exhausted (some c) fr n ps Yf bd h.size),none⟩ then some (.code e2 s2) else QK (.call f (first++([Value.func (.yield (h.size+1)) #[] #[]]++cap)).toArray wm ((h.push .deferred).push (.loop .ready none fr n ps Yf bd h.size))) (.fin (.ret v) h3) j
  have HI:∀j r,ih j=some r->Yq X j r:=by
   intro j r e;dsimp only[ih]at e;split at e
   ·rename_i hj';cases e;rw[hj'];exact hj2
   ·exact Y9 (X:=X) hj j r e
  refine Y5.2 (QF (C:=cfg X fun _=>false) (ih:=ih) HI ?_);show Xv (cfg X fun _=>false) _ gg n wm none (h.size+1) ⟨fr,⟨.collected h.size,#[]⟩::ds,(h.push .deferred).push (.loop .ready none fr n ps Yf bd h.size),none⟩=_
  have i1:ih (.call f (first++([Value.func (.yield (h.size+1)) #[] #[]]++cap)).toArray wm ((h.push .deferred).push (.loop .ready none fr n ps Yf bd h.size)))=some (.fin (.ret v) h3):=by
   dsimp only[ih];split
   ·rename_i hj';cases hj'
   ·exact Xa _ _
  rw[pre,i1];unfold Je;dsimp only;rw[hat];show ih (.code c n wm none _)=_;dsimp only[ih];rw[if_pos rfl]
end
section
variable{X:Ctx}{n wm:Nat}{rd:O Nat}{ops:Va Oper}{l:U Oper}{fr:Fr}{ds:U Vc}{h h0:H}{ty:J}{p:String}{af:Va Edge}{g:O (Nat×Z)}{T:Nat->Prop}{G Gr Ga:U (Ast wm)}{d:Nat}
def Zah{x:V6}{it t:J}{v:N}{u:TypeDesc}(hu:X.P.underlying t=some u)(hi:(match u with | .interface _=>false|_=>true)=true)(hx:Yo fr x=some (.iface t v)):Xm X h (Yo fr) ⟨some d,.typeAssert x it t true,ty,p,af,g⟩=some (.val (.tuple #[v,.bool true]),.none):=by
 show(match Yo fr x with|some x=>vN (KD X.P x t true) | none=>none)=_;rw[hx];dsimp only
 have:KD X.P (.iface t v) t true=some (.tuple #[v,.bool true]):=by
  unfold KD;rw[hu];cases u<;>first | (dsimp only;rw[V4];rfl) | cases hi
 rw[this];rfl
def ZcH{x:V6}{it t a:J}{v z:N}{u:TypeDesc}(hu:X.P.underlying t=some u)(hi:(match u with | .interface _=>false|_=>true)=true)(hz:YF X.P t=some z)(hne:Nat.beq a t=false)(hx:Yo fr x=some (.iface a v)):Xm X h (Yo fr) ⟨some d,.typeAssert x it t true,ty,p,af,g⟩=some (.val (.tuple #[z,.bool false]),.none):=by
 show(match Yo fr x with|some x=>vN (KD X.P x t true) | none=>none)=_;rw[hx];dsimp only
 have:KD X.P (.iface a v) t true=some (.tuple #[z,.bool false]):=by
  unfold KD;rw[hu];cases u<;>first | (dsimp only;rw[hne,Cq0,Cq1,hz]) | cases hi
 rw[this];rfl
def Yh.inv{f:V8}{r:V6}{nm:String}{xs:Va V6}{ts:Va J}{t:J}{v:N}{vs:U N}{d:O Tmp}(hr:Yo fr r=some (.iface t v))(hm:ZoJ X.P t nm=some f)(hf:(X.fns.get f).isSome=true)(hx:evs (Yo fr) xs.toList=some vs):
 Yh X fr ⟨d,.call {callee:=.invoke r nm,args:=xs,argTypes:=ts},ty,p,af,g⟩ f (v::vs).toArray:=fun h=>by
 obtain⟨fn,hf⟩:=GJ.1 hf;unfold Xm;dsimp only;rw[hx];dsimp only;rw[hr];dsimp only;unfold ZbD;dsimp only;rw[hm];dsimp only;rw[hf]
end
end Go.ZF
end
end
section
namespace Go.Proofs.YtbnepjakjmnadaaGreat
structure Ze where
 op:Int
 n:Int
 qJ:ByteArray
 qQ:List Ze
 deriving Inhabited
structure YJ where
 qJ:ByteArray
 names:List ByteArray
 deriving Inhabited
mutual
structure Term where
 op:Int
 qJ:ByteArray
 args:List Ze
 qK:List Za
 qQ:List Term
structure Za where
 qV:Int
 qJ:ByteArray
 qG:List YJ
 qK:List Za
 qQ:List Term
end
instance:Inhabited Term:=⟨⟨0,⟨#[]⟩,[],[],[]⟩⟩
instance:Inhabited Za:=⟨⟨0,⟨#[]⟩,[],[],[]⟩⟩
inductive Part
 | pr (t:Term)
 | ex (e:Ze)
 | cl (c:Za)
instance:Inhabited Part:=⟨.ex default⟩
def Zjf{β:Type}(p:Part)(f:Term->β)(g:Ze->β)(k:Za->β):β:=match p with
 | .pr t=>f t
 | .ex e=>g e
 | .cl c=>k c
end Go.Proofs.YtbnepjakjmnadaaGreat
end
section
noncomputable section
namespace Go.ZF
open Go.Lf
structure SlW{α P:Type}(sz:Nat)(sh:P->α->List Value)(wm:Nat)(h:H)(a:Option Addr)(c:Nat)(xs:List α)(ps:Nat->P):Prop where
 max:xs.length<=9223372036854775807
 cap:xs.length<=c / 2
 nl:ZoT a c
 mem:xs=[]\/∃i o cs own z,a=some ⟨i,o,none⟩/\h.at i=.row cs own z/\(i<wm\/own=false)/\o+xs.length*sz<=cs.length/\∀k x,xs[k]? =some x->(cs.drop (o+k*sz)).take sz=sh (ps k) x
def SlW.mono{α P:Type}{sz:Nat}{sh:P->α->U N}{wm:Nat}{h h':H}{a:O Addr}{c:Nat}{xs:U α}{ps:Nat->P}(f:Fz wm h h')(s:SlW sz sh wm h a c xs ps):SlW sz sh wm h' a c xs ps:=
 ⟨s.max,s.cap,s.nl,s.mem.imp id fun⟨i,o,cs,own,z,h1,h2,h3,h4⟩=>⟨i,o,cs,own,z,h1,f.keep _ _ _ _ h2 h3,h3,h4⟩⟩
def SlW.up{α P:Type}{sz:Nat}{sh:P->α->U N}{wm KP:Nat}{h:H}{a:O Addr}{c:Nat}{xs:U α}{ps:Nat->P}(f:wm<=KP)(s:SlW sz sh wm h a c xs ps):SlW sz sh KP h a c xs ps:=
 ⟨s.max,s.cap,s.nl,s.mem.imp id fun⟨i,o,cs,own,z,h1,h2,h3,h4⟩=>⟨i,o,cs,own,z,h1,h2,h3.imp (fun x=>by omega) id,h4⟩⟩
def Sl.iff{α:Type}{e:UD α}{wm:Nat}{h:H}{a:O Addr}{c:Nat}{xs:U α}:Sl e wm h a c xs↔∃ps,SlW e.sz e.sh wm h a c xs ps/\∀k x,xs[k]? =some x->e.F wm h (ps k) x:=by
 constructor
 ·intro s;rcases s.mem with h0|⟨i,o,cs,own,z,h1,h2,h3,h4⟩
  ·subst h0;exact⟨fun _=>e.dflt,⟨s.max,s.cap,s.nl,.inl rfl⟩,fun k x hk=>by simp at hk⟩
  ·have hq:∀k,∃q,∀x,xs[k]? =some x->(cs.drop (o+k*e.sz)).take e.sz=e.sh q x/\e.F wm h q x:=fun k=>by
    cases hx:xs[k]? with
    | none=>exact⟨e.dflt,fun x hx=>by cases hx⟩
    | some x=>
      obtain⟨q,g1,g2⟩:=h4.get k x hx;exact⟨q,fun y hy=>by cases hy;exact⟨g1,g2⟩⟩
   exact⟨fun k=>(hq k).choose,⟨s.max,s.cap,s.nl,.inr ⟨i,o,cs,own,z,h1,h2,h3,h4.len,fun k x hk=>((hq k).choose_spec x hk).1⟩⟩,fun k x hk=>((hq k).choose_spec x hk).2⟩
 ·rintro⟨ps,s,hF⟩;refine⟨s.max,s.cap,s.nl,s.mem.imp id ?_⟩;rintro⟨i,o,cs,own,z,h1,h2,h3,h4,h5⟩;exact⟨i,o,cs,own,z,h1,h2,h3,⟨h4,fun k x hk=>⟨ps k,h5 k x hk,hF k x hk⟩⟩⟩
end Go.ZF
end
end
section
set_option maxRecDepth 100000
noncomputable section
namespace Go.Proofs.YtbnepjakjmnadaaGreat
open Go.ZF Go.Lf
section
abbrev SlP:=O Addr×Nat
def Yg:UD YJ where
 sz:=2
 pos:=by decide
 Par:=SlP
 dflt:=(none,0)
 sh:=fun p x=>[.string x.qJ,.slice p.1 x.names.length p.2]
 len:=fun _ _=>rfl
 one:=fun _ _=>rfl
 F:=fun wm h p x=>Sl ZW wm h p.1 p.2 x.names
 mono:=fun f x=>x.mono f
 up:=fun f x=>x.up f
def Zt4(p:SlP)(x:Ze):U N:=[Ve x.op,Ve x.n,.string x.qJ,.slice p.1 x.qQ.length p.2]
inductive ZcZ(wm:Nat)(h:H):SlP->Ze->Prop
 | mk {p:SlP} {x:Ze} (ps:Nat->SlP) (hk:SlW 4 Zt4 wm h p.1 p.2 x.qQ ps) (hF:∀k y,x.qQ[k]? =some y->ZcZ wm h (ps k) y):ZcZ wm h p x
def ZcZ.mono{wm:Nat}{h h':H}{p:SlP}{x:Ze}(f:Fz wm h h')(s:ZcZ wm h p x):ZcZ wm h' p x:=by
 induction s with
 | mk ps hk _ ih=>exact .mk ps (hk.mono f) ih
def ZcZ.up{wm KP:Nat}{h:H}{p:SlP}{x:Ze}(f:wm<=KP)(s:ZcZ wm h p x):ZcZ KP h p x:=by
 induction s with
 | mk ps hk _ ih=>exact .mk ps (hk.up f) ih
def Zh:UD Ze where
 sz:=4
 pos:=by decide
 Par:=SlP
 dflt:=(none,0)
 sh:=Zt4
 len:=fun _ _=>rfl
 one:=fun _ _=>rfl
 F:=ZcZ
 mono:=ZcZ.mono
 up:=ZcZ.up
def YB{wm:Nat}{h:H}{p:SlP}{x:Ze}:Zh.F wm h p x↔Sl Zh wm h p.1 p.2 x.qQ:=by
 rw[Sl.iff];exact⟨fun s=>by cases s with|mk ps hk hF=>exact⟨ps,hk,hF⟩,fun⟨ps,hk,hF⟩=>.mk ps hk hF⟩
abbrev TmP:=SlP×SlP×SlP
def Qi(p:TmP)(x:Term):U N:=[Ve x.op,.string x.qJ,.slice p.1.1 x.args.length p.1.2,.slice p.2.1.1 x.qK.length p.2.1.2,.slice p.2.2.1 x.qQ.length p.2.2.2]
def UG(p:TmP)(x:Za):U N:=[Ve x.qV,.string x.qJ,.slice p.1.1 x.qG.length p.1.2,.slice p.2.1.1 x.qK.length p.2.1.2,.slice p.2.2.1 x.qQ.length p.2.2.2]
mutual
inductive Ju (wm:Nat) (h:H):TmP->Term->Prop
 | mk {p:TmP} {x:Term} (pd pk:Nat->TmP) (ha:Sl Zh wm h p.1.1 p.1.2 x.args) (hd:SlW 5 UG wm h p.2.1.1 p.2.1.2 x.qK pd) (hk:SlW 5 Qi wm h p.2.2.1 p.2.2.2 x.qQ pk)
    (hdF:∀k y,x.qK[k]? =some y->XF wm h (pd k) y) (hkF:∀k y,x.qQ[k]? =some y->Ju wm h (pk k) y):Ju wm h p x
inductive XF (wm:Nat) (h:H):TmP->Za->Prop
 | mk {p:TmP} {x:Za} (pd pk:Nat->TmP) (ha:Sl Yg wm h p.1.1 p.1.2 x.qG) (hd:SlW 5 UG wm h p.2.1.1 p.2.1.2 x.qK pd) (hk:SlW 5 Qi wm h p.2.2.1 p.2.2.2 x.qQ pk)
    (hdF:∀k y,x.qK[k]? =some y->XF wm h (pd k) y) (hkF:∀k y,x.qQ[k]? =some y->Ju wm h (pk k) y):XF wm h p x
end
def Ju.mono{wm:Nat}{h h':H}(f:Fz wm h h'){p:TmP}{x:Term}(s:Ju wm h p x):Ju wm h' p x:=
 Ju.rec (motive_1:=fun p x _=>Ju wm h' p x) (motive_2:=fun p x _=>XF wm h' p x)
  (fun pd pk ha hd hk _ _ i1 i2=>.mk pd pk (ha.mono f) (hd.mono f) (hk.mono f) i1 i2) (fun pd pk ha hd hk _ _ i1 i2=>.mk pd pk (ha.mono f) (hd.mono f) (hk.mono f) i1 i2) s
def XF.mono{wm:Nat}{h h':H}(f:Fz wm h h'){p:TmP}{x:Za}(s:XF wm h p x):XF wm h' p x:=
 XF.rec (motive_1:=fun p x _=>Ju wm h' p x) (motive_2:=fun p x _=>XF wm h' p x)
  (fun pd pk ha hd hk _ _ i1 i2=>.mk pd pk (ha.mono f) (hd.mono f) (hk.mono f) i1 i2) (fun pd pk ha hd hk _ _ i1 i2=>.mk pd pk (ha.mono f) (hd.mono f) (hk.mono f) i1 i2) s
def Ju.up{wm KP:Nat}{h:H}(f:wm<=KP){p:TmP}{x:Term}(s:Ju wm h p x):Ju KP h p x:=
 Ju.rec (motive_1:=fun p x _=>Ju KP h p x) (motive_2:=fun p x _=>XF KP h p x)
  (fun pd pk ha hd hk _ _ i1 i2=>.mk pd pk (ha.up f) (hd.up f) (hk.up f) i1 i2) (fun pd pk ha hd hk _ _ i1 i2=>.mk pd pk (ha.up f) (hd.up f) (hk.up f) i1 i2) s
def XF.up{wm KP:Nat}{h:H}(f:wm<=KP){p:TmP}{x:Za}(s:XF wm h p x):XF KP h p x:=
 XF.rec (motive_1:=fun p x _=>Ju KP h p x) (motive_2:=fun p x _=>XF KP h p x)
  (fun pd pk ha hd hk _ _ i1 i2=>.mk pd pk (ha.up f) (hd.up f) (hk.up f) i1 i2) (fun pd pk ha hd hk _ _ i1 i2=>.mk pd pk (ha.up f) (hd.up f) (hk.up f) i1 i2) s
def Zu:UD Term where
 sz:=5
 pos:=by decide
 Par:=TmP
 dflt:=((none,0),(none,0),(none,0))
 sh:=Qi
 len:=fun _ _=>rfl
 one:=fun _ _=>rfl
 F:=Ju
 mono:=fun f s=>Ju.mono f s
 up:=fun f s=>Ju.up f s
def Zc:UD Za where
 sz:=5
 pos:=by decide
 Par:=TmP
 dflt:=((none,0),(none,0),(none,0))
 sh:=UG
 len:=fun _ _=>rfl
 one:=fun _ _=>rfl
 F:=XF
 mono:=fun f s=>XF.mono f s
 up:=fun f s=>XF.up f s
def Qu{wm:Nat}{h:H}{p:TmP}{x:Term}:Zu.F wm h p x↔Sl Zh wm h p.1.1 p.1.2 x.args/\Sl Zc wm h p.2.1.1 p.2.1.2 x.qK/\Sl Zu wm h p.2.2.1 p.2.2.2 x.qQ:=by
 rw[Sl.iff (e:=Zc),Sl.iff (e:=Zu)];exact⟨fun s=>by cases s with|mk pd pk ha hd hk hdF hkF=>exact⟨ha,⟨pd,hd,hdF⟩,pk,hk,hkF⟩,fun⟨ha,⟨pd,hd,hdF⟩,pk,hk,hkF⟩=>Ju.mk pd pk ha hd hk hdF hkF⟩
def Z5{wm:Nat}{h:H}{p:TmP}{x:Za}:Zc.F wm h p x↔Sl Yg wm h p.1.1 p.1.2 x.qG/\Sl Zc wm h p.2.1.1 p.2.1.2 x.qK/\Sl Zu wm h p.2.2.1 p.2.2.2 x.qQ:=by
 rw[Sl.iff (e:=Zc),Sl.iff (e:=Zu)];exact⟨fun s=>by cases s with|mk pd pk ha hd hk hdF hkF=>exact⟨ha,⟨pd,hd,hdF⟩,pk,hk,hkF⟩,fun⟨ha,⟨pd,hd,hdF⟩,pk,hk,hkF⟩=>XF.mk pd pk ha hd hk hdF hkF⟩
end
section
abbrev PtP:=TmP×SlP
def ifV(p:PtP):Part->N
 | .pr t=>.iface 78 (.agg (Qi p.1 t).toArray)
 | .ex e=>.iface 88 (.agg (Zt4 p.2 e).toArray)
 | .cl c=>.iface 166 (.agg (UG p.1 c).toArray)
def ZK{p:PtP}{x:Part}:Xt (ifV p x)=false:=by cases x<;>rfl
def Zmb{p:PtP}{x:Part}:(ifV p x).cells.toList=[ifV p x]:=by cases x<;>rfl
def Ze7{β:Type}{f:Term->O β}{g:Ze->O β}{k:Za->O β}{x:Term}{r:β}(h:Zjf (.pr x) f g k=some r):f x=some r:=h
def Ze8{β:Type}{f:Term->O β}{g:Ze->O β}{k:Za->O β}{x:Ze}{r:β}(h:Zjf (.ex x) f g k=some r):g x=some r:=h
def Ze9{β:Type}{f:Term->O β}{g:Ze->O β}{k:Za->O β}{x:Za}{r:β}(h:Zjf (.cl x) f g k=some r):k x=some r:=h
def ZOY(wm:Nat)(h:H)(p:PtP):Part->Prop
 | .pr t=>Ju wm h p.1 t
 | .ex e=>ZcZ wm h p.2 e
 | .cl c=>XF wm h p.1 c
def ZL:UD Part where
 sz:=1
 pos:=by decide
 Par:=PtP
 dflt:=(((none,0),(none,0),(none,0)),(none,0))
 sh:=fun p x=>[ifV p x]
 len:=fun _ _=>rfl
 one:=fun p x=>by cases x<;>rfl
 F:=ZOY
 mono:=fun{wm h h' p x} f s=>by
  cases x with
  | pr t=>exact Ju.mono f s
  | ex e=>exact ZcZ.mono f s
  | cl c=>exact XF.mono f s
 up:=fun{wm KP h p x} f s=>by
  cases x with
  | pr t=>exact Ju.up f s
  | ex e=>exact ZcZ.up f s
  | cl c=>exact XF.up f s
def Zap{wm:Nat}{h:H}{a1 a2 a3 a4:O Addr}{c1 c2 c3 c4:Nat}{t:Term}(x:ZL.F wm h (((a1,c1),(a2,c2),(a3,c3)),(a4,c4)) (.pr t)):Sl Zh wm h a1 c1 t.args/\Sl Zc wm h a2 c2 t.qK/\Sl Zu wm h a3 c3 t.qQ:=Qu.1 x
def Zie{wm:Nat}{h:H}{a1 a2 a3 a4:O Addr}{c1 c2 c3 c4:Nat}{e:Ze}(x:ZL.F wm h (((a1,c1),(a2,c2),(a3,c3)),(a4,c4)) (.ex e)):Sl Zh wm h a4 c4 e.qQ:=YB.1 x
def Zaq{wm:Nat}{h:H}{a1 a2 a3 a4:O Addr}{c1 c2 c3 c4:Nat}{c:Za}(x:ZL.F wm h (((a1,c1),(a2,c2),(a3,c3)),(a4,c4)) (.cl c)):Sl Yg wm h a1 c1 c.qG/\Sl Zc wm h a2 c2 c.qK/\Sl Zu wm h a3 c3 c.qQ:=Z5.1 x
def Zuo{wm:Nat}{h:H}{a1 a2 a3:O Addr}{c1 c2 c3:Nat}{t:Term}(x:Sl Zh wm h a1 c1 t.args)(y:Sl Zc wm h a2 c2 t.qK)(z:Sl Zu wm h a3 c3 t.qQ):ZL.F wm h (((a1,c1),(a2,c2),(a3,c3)),(none,0)) (.pr t):=Qu.2 ⟨x,y,z⟩
def Zup{wm:Nat}{h:H}{a4:O Addr}{c4:Nat}{e:Ze}(x:Sl Zh wm h a4 c4 e.qQ):ZL.F wm h (((none,0),(none,0),(none,0)),(a4,c4)) (.ex e):=YB.2 x
def ZFF{wm:Nat}{h:H}{a1 a2 a3:O Addr}{c1 c2 c3:Nat}{c:Za}(x:Sl Yg wm h a1 c1 c.qG)(y:Sl Zc wm h a2 c2 c.qK)(z:Sl Zu wm h a3 c3 c.qQ):ZL.F wm h (((a1,c1),(a2,c2),(a3,c3)),(none,0)) (.cl c):=Z5.2 ⟨x,y,z⟩
end
section
structure ZvD where
 Qh:Za
 deriving Inhabited
structure Process where
 term:Term
 deriving Inhabited
structure ZoU where
 Kr:Ze
 deriving Inhabited
structure ZH where
 at_:Int
 many:Int
 deriving DecidableEq,Inhabited
def WK(x y:ZH):Z:=[x.at_==y.at_,x.many==y.many].all id
def ZEs:O Z:=some true
end
section
def Zt9:UD ZH where
 sz:=2
 pos:=by decide
 Par:=Unit
 dflt:=()
 sh:=fun _ x=>[Ve x.at_,Ve x.many]
 len:=fun _ _=>rfl
 one:=fun _ _=>rfl
 F:=fun _ _ _ _=>True
 mono:=fun _ x=>x
 up:=fun _ x=>x
def Qg(x:ZH):N:=.agg #[Ve x.at_,Ve x.many]
def ZP9:XX.P.underlying 3=some (.int .i64):=Kq0
def ZP8:XX.P.underlying 4=some .bool:=Kq0
def ZK0:XX.P.underlying 5=some (.int .u8):=Kq0
def Zk4:XX.P.underlying 9=some .string:=Kq0
def ZiP:XX.P.underlying 20=some (.interface #[]):=Kq0
def Qe:XX.P.underlying 22=some (.slice 9):=Kq0
def Zan:XX.P.underlying 29=some (.slice 36):=Kq0
def WB:XX.P.underlying 30=some (.slice 130):=Kq0
def Zb2:XX.P.underlying 31=some (.slice 33):=Kq0
def XP:XX.P.underlying 70=some (.map 9 4):=Kq0
def ZG6:XX.P.underlying 102=some (.slice 3):=Kq0
def U9:XX.P.underlying 128=some (.slice 136):=Kq0
def Zr3:XX.P.underlying 138=some (.slice 5):=Kq0
def KT:XX.P.underlying 142=some (.slice 140):=Kq0
def ZG5:XX.P.underlying 160=some (.slice 30):=Kq0
def Zr2:XX.P.underlying 185=some (.map 9 187):=Kq0
def ZSW:Yw XX.P 3=some false:=Kq0
def ZSV:Yw XX.P 4=some false:=Kq0
def U3:Yw XX.P 9=some false:=Kq0
def ZcN:Yw XX.P 22=some false:=Kq0
def Zvu:Yw XX.P 28=some false:=Kq0
def ZBE:Yw XX.P 29=some false:=Kq0
def ZOH:Yw XX.P 30=some false:=Kq0
def ZmN:Yw XX.P 31=some false:=Kq0
def UU:Yw XX.P 33=some true:=Kq0
def ZOG:Yw XX.P 34=some false:=Kq0
def U8:Yw XX.P 36=some true:=Kq0
def Zec:Yw XX.P 37=some false:=Kq0
def Zgd:Yw XX.P 70=some false:=Kq0
def ZKd:Yw XX.P 102=some false:=Kq0
def ZKc:Yw XX.P 124=some true:=Kq0
def Ztz:Yw XX.P 127=some false:=Kq0
def ZoK:Yw XX.P 128=some false:=Kq0
def Uk:Yw XX.P 130=some true:=Kq0
def ZcO:Yw XX.P 136=some true:=Kq0
def ZeL:Yw XX.P 140=some false:=Kq0
def ZKb:Yw XX.P 141=some false:=Kq0
def ZKa:Yw XX.P 159=some true:=Kq0
def ZJ9:Yw XX.P 185=some false:=Kq0
def ZJ8:Yw XX.P 187=some true:=Kq0
def ZJ7:Yw XX.P 194=some false:=Kq0
def ZJ6:Yw XX.P 195=some false:=Kq0
def ZK8:Yu XX.P 3=some 1:=Kq0
def ZK7:Yu XX.P 4=some 1:=Kq0
def ZFo:Yu XX.P 5=some 1:=Kq0
def Qo:Yu XX.P 9=some 1:=Kq0
def ZiY:Yu XX.P 22=some 1:=Kq0
def Znf:Yu XX.P 29=some 1:=Kq0
def ZHd:Yu XX.P 30=some 1:=Kq0
def Zsg:Yu XX.P 31=some 1:=Kq0
def Xu:Yu XX.P 33=some 5:=Kq0
def Xl:Yu XX.P 36=some 4:=Kq0
def ZHc:Yu XX.P 37=some 1:=Kq0
def ZHb:Yu XX.P 70=some 1:=Kq0
def ZHa:Yu XX.P 78=some 5:=Kq0
def ZG9:Yu XX.P 88=some 4:=Kq0
def ZCL:Yu XX.P 102=some 1:=Kq0
def ZCI:Yu XX.P 124=some 2:=Kq0
def Zt3:Yu XX.P 128=some 1:=Kq0
def YE:Yu XX.P 130=some 5:=Kq0
def XD:Yu XX.P 136=some 2:=Kq0
def UF:Yu XX.P 140=some 1:=Kq0
def ZCH:Yu XX.P 141=some 1:=Kq0
def ZCG:Yu XX.P 147=some 1:=Kq0
def ZCF:Yu XX.P 159=some 2:=Kq0
def ZCE:Yu XX.P 166=some 5:=Kq0
def ZCD:Yu XX.P 185=some 1:=Kq0
def ZCC:Yu XX.P 187=some 2:=Kq0
def ZCB:Yu XX.P 195=some 1:=Kq0
def Zit:Zo XX.P 33 0 0:=Zo.of Kq0
def ZD7:Zo XX.P 33 1 1:=Zo.of Kq0
def ZuV:Zo XX.P 33 2 2:=Zo.of Kq0
def ZD6:Zo XX.P 33 3 3:=Zo.of Kq0
def Zis:Zo XX.P 33 4 4:=Zo.of Kq0
def ZD5:Zo XX.P 36 0 0:=Zo.of Kq0
def ZD4:Zo XX.P 36 1 1:=Zo.of Kq0
def ZD3:Zo XX.P 36 2 2:=Zo.of Kq0
def ZnV:Zo XX.P 36 3 3:=Zo.of Kq0
def ZD2:Zo XX.P 59 0 0:=Zo.of Kq0
def ZD1:Zo XX.P 59 1 1:=Zo.of Kq0
def ZD0:Zo XX.P 59 2 2:=Zo.of Kq0
def ZDZ:Zo XX.P 59 3 6:=Zo.of Kq0
def ZfA:Zo XX.P 78 0 0:=Zo.of Kq0
def ZDY:Zo XX.P 88 0 0:=Zo.of Kq0
def ZAx:Zo XX.P 104 0 0:=Zo.of Kq0
def ZAw:Zo XX.P 104 1 1:=Zo.of Kq0
def ZAv:Zo XX.P 104 2 2:=Zo.of Kq0
def ZAu:Zo XX.P 104 3 3:=Zo.of Kq0
def ZAt:Zo XX.P 104 4 4:=Zo.of Kq0
def ZAq:Zo XX.P 119 0 0:=Zo.of Kq0
def ZAp:Zo XX.P 119 1 1:=Zo.of Kq0
def ZAo:Zo XX.P 119 2 2:=Zo.of Kq0
def ZAn:Zo XX.P 119 3 3:=Zo.of Kq0
def ZAm:Zo XX.P 119 4 4:=Zo.of Kq0
def ZAl:Zo XX.P 124 0 0:=Zo.of Kq0
def ZAk:Zo XX.P 124 1 1:=Zo.of Kq0
def Zqy:Zo XX.P 130 0 0:=Zo.of Kq0
def ZAj:Zo XX.P 130 1 1:=Zo.of Kq0
def Zcq:Zo XX.P 130 2 2:=Zo.of Kq0
def ZAi:Zo XX.P 130 3 3:=Zo.of Kq0
def ZfD:Zo XX.P 130 4 4:=Zo.of Kq0
def Zqx:Zo XX.P 136 0 0:=Zo.of Kq0
def ZfC:Zo XX.P 136 1 1:=Zo.of Kq0
def ZAh:Zo XX.P 147 0 0:=Zo.of Kq0
def ZAg:Zo XX.P 159 0 0:=Zo.of Kq0
def ZAf:Zo XX.P 159 1 1:=Zo.of Kq0
def Zqw:Zo XX.P 166 0 0:=Zo.of Kq0
def ZKN:YF XX.P 3=some (Ve 0):=Kq0
def ZbW:YF XX.P 4=some (.bool false):=Kq0
def ZE9:YF XX.P 5=some (.int .u8 0):=Kq0
def ZiH:YF XX.P 9=some (.string ⟨#[]⟩):=Kq0
def ZxD:YF XX.P 22=some (Vd):=Kq0
def ZGE:YF XX.P 30=some (Vd):=Kq0
def ZiI:YF XX.P 33=some (.agg #[Ve 0,.string ⟨#[]⟩,Vd,Vd,Vd]):=Kq0
def Zgp:YF XX.P 36=some (.agg #[Ve 0,Ve 0,.string ⟨#[]⟩,Vd]):=Kq0
def ZGD:YF XX.P 37=some (Ve 0):=Kq0
def ZGC:YF XX.P 70=some (.map none):=Kq0
def ZbV:YF XX.P 78=some (.agg #[Ve 0,.string ⟨#[]⟩,Vd,Vd,Vd]):=Kq0
def ZmV:YF XX.P 88=some (.agg #[Ve 0,Ve 0,.string ⟨#[]⟩,Vd]):=Kq0
def ZCo:YF XX.P 104=some (.agg #[Vd,Vd,Vd,Vd,.bool false]):=Kq0
def ZCm:YF XX.P 119=some (.agg #[Ve 0,.string ⟨#[]⟩,Vd,Vd,.bool false]):=Kq0
def ZCl:YF XX.P 124=some (.agg #[Vd,Vd]):=Kq0
def Kq:YF XX.P 130=some (.agg #[Ve 0,.string ⟨#[]⟩,Vd,Vd,Vd]):=Kq0
def Zc2:YF XX.P 136=some (.agg #[.string ⟨#[]⟩,Vd]):=Kq0
def ZeV:YF XX.P 140=some (.nilIface):=Kq0
def ZCk:YF XX.P 141=some (.nilFunc):=Kq0
def ZtV:YF XX.P 147=some (.agg #[Ve 0]):=Kq0
def ZtU:YF XX.P 159=some (.agg #[Vd,Ve 0]):=Kq0
def ZtS:YF XX.P 166=some (.agg #[Ve 0,.string ⟨#[]⟩,Vd,Vd,Vd]):=Kq0
def ZCj:YF XX.P 185=some (.map none):=Kq0
def ZmW:YF XX.P 187=some (.agg #[Ve 0,Ve 0]):=Kq0
def ZCi:YF XX.P 195=some (.nilFunc):=Kq0
def ZGv:JO XX.P 33 [Ve 0,.string ⟨#[]⟩,Vd,Vd,Vd] [(0,1),(1,1),(2,1),(3,1),(4,1)]:=⟨_,_,ZiI,rfl,Tryz.underlying33,by kernel_rfl⟩
def Zvk:JO XX.P 36 [Ve 0,Ve 0,.string ⟨#[]⟩,Vd] [(0,1),(1,1),(2,1),(3,1)]:=⟨_,_,Zgp,rfl,Tryz.underlying36,by kernel_rfl⟩
def ZBi:JO XX.P 78 [Ve 0,.string ⟨#[]⟩,Vd,Vd,Vd] [(0,5)]:=⟨_,_,ZbV,rfl,Tryz.underlying78,by kernel_rfl⟩
def ZBh:JO XX.P 88 [Ve 0,Ve 0,.string ⟨#[]⟩,Vd] [(0,4)]:=⟨_,_,ZmV,rfl,Tryz.underlying88,by kernel_rfl⟩
def ZBk:JO XX.P 130 [Ve 0,.string ⟨#[]⟩,Vd,Vd,Vd] [(0,1),(1,1),(2,1),(3,1),(4,1)]:=⟨_,_,Kq,rfl,Tryz.underlying130,by kernel_rfl⟩
def ZJT:JO XX.P 136 [.string ⟨#[]⟩,Vd] [(0,1),(1,1)]:=⟨_,_,Zc2,rfl,Tryz.underlying136,by kernel_rfl⟩
def ZJS:JO XX.P 147 [Ve 0] [(0,1)]:=⟨_,_,ZtV,rfl,Tryz.underlying147,by kernel_rfl⟩
def ZBj:JO XX.P 159 [Vd,Ve 0] [(0,1),(1,1)]:=⟨_,_,ZtU,rfl,Tryz.underlying159,by kernel_rfl⟩
def ZJR:JO XX.P 166 [Ve 0,.string ⟨#[]⟩,Vd,Vd,Vd] [(0,5)]:=⟨_,_,ZtS,rfl,Tryz.underlying166,by kernel_rfl⟩
def ZJQ:JO XX.P 187 [Ve 0,Ve 0] [(0,1),(1,1)]:=⟨_,_,ZmW,rfl,Tryz.underlying187,by kernel_rfl⟩
def UR:Zgl XX.P #[22,22] 1 16:=⟨9,.string ⟨#[]⟩,by kernel_rfl⟩
def ZkN:Zgl XX.P #[29,29] 4 56:=⟨36,.agg #[Ve 0,Ve 0,.string ⟨#[]⟩,Vd],by kernel_rfl⟩
def Zga:Zgl XX.P #[30,30] 5 96:=⟨130,.agg #[Ve 0,.string ⟨#[]⟩,Vd,Vd,Vd],by kernel_rfl⟩
def ZBt:Zgl XX.P #[31,31] 5 96:=⟨33,.agg #[Ve 0,.string ⟨#[]⟩,Vd,Vd,Vd],by kernel_rfl⟩
def Ztu:Zgl XX.P #[128,128] 2 40:=⟨136,.agg #[.string ⟨#[]⟩,Vd],by kernel_rfl⟩
def Ztt:Zgl XX.P #[138,138] 1 1:=⟨5,.int .u8 0,by kernel_rfl⟩
def ZbB:Zgl XX.P #[142,142] 1 16:=⟨140,.nilIface,by kernel_rfl⟩
def ZJr(x y:ZH):ZO3 XX.P 187 (Zt9.sh () x) (Zt9.sh () y) (WK x y):=
 ⟨by kernel_rfl,ZwO (d:=9999) (bs:=[x.at_==y.at_,x.many==y.many]) Tryz.underlying187 Kq0 ⟨⟨by decide,_,_,Zdc Kq0 rfl,Zdc Kq0 rfl,eq_int Kq0⟩,⟨by decide,_,_,Zdc Kq0 rfl,Zdc Kq0 rfl,eq_int Kq0⟩,trivial⟩⟩
def QZ:ZcY XX.P 9 Value.string:=ZcY.str Kq0
def ZzM:(XX.fns.get 14).isSome=true:=Kq0
def ZjM:(XX.fns.get 15).isSome=true:=Kq0
def ZGg:(XX.fns.get 23).isSome=true:=Kq0
def ZM1:(XX.fns.get 25).isSome=true:=Kq0
def ZGf:(XX.fns.get 27).isSome=true:=Kq0
def ZM0:(XX.fns.get 31).isSome=true:=Kq0
def ZMZ:(XX.fns.get 32).isSome=true:=Kq0
def ZGe:(XX.fns.get 34).isSome=true:=Kq0
def ZMY:(XX.fns.get 35).isSome=true:=Kq0
def ZjL:(XX.fns.get 36).isSome=true:=Kq0
def ZMX:(XX.fns.get 37).isSome=true:=Kq0
def ZGd:(XX.fns.get 48).isSome=true:=Kq0
def ZMW:(XX.fns.get 53).isSome=true:=Kq0
def ZzH:(XX.fns.get 57).isSome=true:=Kq0
def ZGc:(XX.fns.get 59).isSome=true:=Kq0
def ZuO:(XX.fns.get 61).isSome=true:=Kq0
def Zd0:(XX.fns.get 80).isSome=true:=Kq0
def ZGb:(XX.fns.get 85).isSome=true:=Kq0
def ZGa:(XX.fns.get 86).isSome=true:=Kq0
def ZF9:(XX.fns.get 87).isSome=true:=Kq0
def ZMV:(XX.fns.get 99).isSome=true:=Kq0
def ZsL:(XX.fns.get 100).isSome=true:=Kq0
def Ke:(XX.fns.get 101).isSome=true:=Kq0
def Y7:(XX.fns.get 104).isSome=true:=Kq0
def ZzR:(XX.fns.get 105).isSome=true:=Kq0
def ZgO:(XX.fns.get 106).isSome=true:=Kq0
def ZzQ:(XX.fns.get 113).isSome=true:=Kq0
def ZH5:(XX.fns.get 125).isSome=true:=Kq0
def ZzP:(XX.fns.get 137).isSome=true:=Kq0
def ZzO:(XX.fns.get 138).isSome=true:=Kq0
def ZzN:(XX.fns.get 139).isSome=true:=Kq0
def ZzL:(XX.fns.get 144).isSome=true:=Kq0
def ZgN:(XX.fns.get 145).isSome=true:=Kq0
def ZzK:(XX.fns.get 148).isSome=true:=Kq0
def Kc:(XX.fns.get 160).isSome=true:=Kq0
def ZH4:(XX.fns.get 197).isSome=true:=Kq0
def ZzJ:(XX.fns.get 198).isSome=true:=Kq0
def ZzI:(XX.fns.get 199).isSome=true:=Kq0
def ZH3:(XX.fns.get 200).isSome=true:=Kq0
def ZH2:(XX.fns.get 201).isSome=true:=Kq0
end
end Go.Proofs.YtbnepjakjmnadaaGreat
end
end
section
noncomputable section
namespace Go.ZF
open Go.Lf
class Ki(P:Program)(t:TypeId):Prop where
 out:Yw P t=some false
class ZrJ(P:Program)(t:TypeId):Prop where
 out:Yw P t=some true
class SzF(P:Program)(t:TypeId)(n:outParam Nat):Prop where
 out:Yu P t=some n
class Qr(P:Program)(t:TypeId)(f:Nat)(o:outParam Nat):Prop where
 out:Zo P t f o
class ZkW(P:Program)(t:TypeId)(e:outParam TypeId):Prop where
 out:P.underlying t=some (.slice e)
class ZKq(P:Program)(t:TypeId):Prop where
 out:P.underlying t=some .bool
class UW(P:Program)(t:TypeId)(v:outParam Value):Prop where
 out:YF P t=some v
def ia{v:N}(h:Xt v=false):Xt v=false:=h
def ZR8{fr:Fr}{t:Nat}{c:Z}{v:N}(h:fr.at t=cond c v undef)(ha:Xt v=false)(hc:c=true):Yo fr (.tmp t)=some v:=JK h ha hc
section
variable{X:Ctx}{h:H}{fr:Fr}{ty:J}{p':String}{af:Va Edge}{g:O (Nat×Z)}{d:O Tmp}{wm:Nat}{T:Nat->Prop}{h0:H}{G Gr:U (Ast wm)}
def ZOB{x:V6}{t:J}{f off b o:Nat}[hf:Qr X.P t f off](hx:Yo fr x=some (.pointer (some ⟨b,o,none⟩))):Xm X h (Yo fr) ⟨d,.fieldAddr t x f,ty,p',af,g⟩=some (.val (.pointer (some ⟨b,o+off,none⟩)),.none):=Xf hf.out hx
def ZSP{x:V6}{t:J}{b oo:Nat}{vs:U N}{v:N}[ht:Ki X.P t](hx:Yo fr x=some (.pointer (some ⟨b,oo,none⟩)))(hS:Sp wm T h0 G h)(pp:Pk G (bx wm b vs) Gr)(hv:vs[oo]? =some v):
 Xm X h (Yo fr) ⟨d,.load t x,ty,p',af,g⟩=some (.val v,.none):=ZY ht.out hx (hS.UC pp) (G4 _).symm hv
def ZOz{x:V6}{t:J}{b oo sz:Nat}{vs ws:U N}[ht:ZrJ X.P t][hs:SzF X.P t sz](hx:Yo fr x=some (.pointer (some ⟨b,oo,none⟩)))(hS:Sp wm T h0 G h)(pp:Pk G (bx wm b vs) Gr)(hj:Nat.ble (oo+sz) vs.length=true)(hv:(vs.drop oo).take sz=ws):
 Xm X h (Yo fr) ⟨d,.load t x,ty,p',af,g⟩=some (.val (.agg ws.toArray),.none):=YN ht.out hs.out hx (hS.UC pp) (G4 _).symm hj hv
def ZOC{dd:Tmp}{x:V6}{t:J}{v:N}{vs:U N}(hx:Yo fr x=some v)(hS:Sp wm T h0 G h)(hv:v.cells.toList=vs):
 HN X wm ⟨some dd,.box t x,ty,p',af,g⟩ fr h (fun v h'=>∃b,h.size=b/\v=(Vf b)/\Sp wm T h0 (bx wm b vs::G) h'):=Zi4 hS hx hv
def ZOD{dd:Tmp}{t:J}{v:N}{vs:U N}[hz:UW X.P t v](hS:Sp wm T h0 G h)(hv:v.cells.toList=vs):
 HN X wm ⟨some dd,.alloc t,ty,p',af,g⟩ fr h (fun v h'=>∃b,h.size=b/\v=(Vf b)/\Sp wm T h0 (bx wm b vs::G) h'):=Zhv hS hz.out hv
def ZSO{x y:V6}{t:J}{b o sz:Nat}{cs cs' vs:U N}{v:N}[hs:SzF X.P t sz](hx:Yo fr x=some (.pointer (some ⟨b,o,none⟩)))(hS:Sp wm T h0 G h)(pk:Pk G (bx wm b cs) Gr)(hy:Yo fr y=some v)
 (hvs:v.cells.toList=vs) (hn:Nat.beq vs.length sz=true) (hl:Nat.ble (o+sz) cs.length=true) (hc:vs.all Value.oneCell'=true) (hv:splice cs o vs=cs'):
 HU X wm ⟨none,.store t x y,ty,p',af,g⟩ fr h (fun i=>i=b) (fun h'=>Sp wm T h0 (bx wm b cs'::Gr) h'):=Zb5 hS pk hs.out hx hy hvs hn hl hc hv
def ZOA{α:Type}{xs:U α}{v:α}{x y:V6}{t e:J}{sz b o nn c dd:Nat}{a:O Addr}{k:Int}[hu:ZkW X.P t e][hs:SzF X.P e sz](hx:Yo fr x=some (.slice a nn c))(hy:Yo fr y=some (Ve k))(hn:nn=xs.length)(ha:a=some ⟨b,o,none⟩)(hk:YA xs k=some v):
 Xm X h (Yo fr) ⟨some dd,.indexAddr t x y,ty,p',af,g⟩=some (.val (.pointer (some ⟨b,o+k.toNat*sz,none⟩)),.none):=ZQ hu.out hs.out hx hy hn ha hk
def ZOy{x:V6}{t:J}{b o oo j:Nat}{vs:U N}{v:N}[ht:Ki X.P t](hx:Yo fr x=some (.pointer (some ⟨b,oo,none⟩)))(ha:At h b o vs)(ho:oo=o+j)(hv:vs[j]? =some v):
 Xm X h (Yo fr) ⟨d,.load t x,ty,p',af,g⟩=some (.val v,.none):=ZY ht.out hx ha ho hv
def ZOx{x:V6}{t e':J}{a:O Addr}{mm cc dd:Nat}[hu:ZkW X.P t e'](hx:Yo fr x=some (.slice a mm cc)):
 Xm X h (Yo fr) ⟨some dd,.call {callee:=.builtin .len,args:=#[x],argTypes:=#[t]},ty,p',af,g⟩=some (.val (Ve (mm:Int)),.none):=ZoD hu.out hx rfl
end
section
variable{X:Ctx}{n wm:Nat}{rd:O Nat}{ops:Va Oper}{l:U Oper}{fr:Fr}{ds:U Vc}{h:H}{ty:J}{p:String}{af:Va Edge}{g:O (Nat×Z)}{sf:ST}{m:Nat}
def WX.w2{Q:Fr->H->Prop}{d:Nat}{op:Op}{v:N}(hg:ZP ops ⟨some d,op,ty,p,af,g⟩ fr)(hd:Nat.blt d n=true)(hM:okM ops sf m ⟨some d,op,ty,p,af,g⟩=true)(ha:Xm X h (Yo fr) ⟨some d,op,ty,p,af,g⟩=some (.val v,.none))(k:WX X n wm rd ops sf (m+1) h l (Tr.set fr d v) Q):
 WX X n wm rd ops sf m h (⟨some d,op,ty,p,af,g⟩::l) fr Q:=WX.w hg hd ha k hM
def WX.gv2{Q:Fr->H->Prop}{d:Nat}{op:Op}{c:Z}{v:N}(hg:Zk ops ⟨some d,op,ty,p,af,g⟩ fr c)(hd:Nat.blt d n=true)(hM:okM ops sf m ⟨some d,op,ty,p,af,g⟩=true)(ha:c=true->Xm X h (Yo fr) ⟨some d,op,ty,p,af,g⟩=some (.val v,.none))(k:WX X n wm rd ops sf (m+1) h l (Tr.set fr d (cond c v undef)) Q):
 WX X n wm rd ops sf m h (⟨some d,op,ty,p,af,g⟩::l) fr Q:=WX.gv hg hd ha k hM
end
structure Kp(q:Prop):Prop where
 out:q
def E0{p:Prop}(h:p:=by(focus (repeat (first|with_reducible exact fh | ((with_reducible apply Xb);exact rfl) | ((with_reducible apply YC);exact rfl) | ((with_reducible apply Yb);exact rfl) | ((with_reducible apply Zi);exact rfl) | with_reducible assumption));first|done|fail)):p:=h
def lk{p:Prop}(h:p:=by(first|exact U6 rfl | (apply Zm;exact E0;(first|exact ia rfl|assumption)) | (apply ZR8;exact E0;(first|exact ia rfl|assumption);assumption) | fail)):p:=h
def pk{p:Prop}(h:p:=by
 (first|exact k0|exact k1|exact k2|exact k3|exact k4|exact k5|exact k6|exact k7 | (repeat (first|exact k7|apply Pk.s)))
 done):p:=h
def ce{p:Prop}(h:p:=by
 (focus (first | (simp only[ZwV,Ztk,Zrc,ZwT,ZwU,ZwW,Zor,cells_func,Zlx,ZkC,Zrd];exact rfl) | exact rfl))
 done):p:=h
def gi{p:Prop}(h:p:=by(first | (apply Zk.yes rfl rfl rfl;exact E0) | (apply Zk.no rfl rfl rfl;exact E0) | (apply Zk.ZPI rfl rfl rfl;exact E0) | (apply Zk.no2 rfl rfl rfl;exact E0) | fail)):p:=h
section
variable{X:Ctx}{n wm:Nat}{rd:O Nat}{Q:XX->Fs->Prop}
def cn{c:V6}{a b:Code}{t:Z}{fr:Fr}{ds:U Vc}{h:H}{α:Type}{x y r:α}(hL:(bif t then x else y)=r)(h1:t=true->x=r->WC X n wm rd a ⟨fr,ds,h,none⟩ Q)(h2:t=false->y=r->WC X n wm rd b ⟨fr,ds,h,none⟩ Q)(hc:Yo fr c=some (.bool t):=by exact lk):WC X n wm rd (.cond c a b) ⟨fr,ds,h,none⟩ Q:=
 WC.Uu hc (fun e=>h1 e (XQ e hL)) (fun e=>h2 e (XR e hL))
def rt{fn:Func}{fr:Fr}{h h0:H}{T:Nat->Prop}{G G':U (Ast wm)}{wr:O Nat}{t:Tmp}{β:Type}{x r:β}{g:β->N}(hL:some x=some r)(hT:T=Qm G)(hS:Sp wm T h0 G' h)(hr:fn.results.toList=[.tmp t]:=by exact rfl)(hv:Yo fr (.tmp t)=some (g x):=by exact lk):
 YK X fn (fun e h'=>∃v,e=.ret v/\CP (fun v Gb=>v=g r/\Gb=[]) G h0 v h') .ret ⟨fr,[],h,wr⟩:=by
 cases hL;exact YK.XY hr (Zx hv Zj) ⟨_,⟨rfl,rfl⟩,hT▸hS.only .n⟩
def bg{f:V8}{fn:Func}{c:Code}{args:U N}{n:Nat}{K:N->U (Ast wm)->Prop}{G:U (Ast wm)}{h:H}{fr:Fr}(hnt:fn.ntmps=n)(Zt:wm<=h.size)(hO:Z7 G h)
 (k:∀T,T=Qm (wm:=wm) G->Sp wm T h G h->WC X n wm none c ⟨fr,[],h,none⟩ (YK X fn (fun e h'=>∃v,e=.ret v/\CP K G h v h'))) (hf:X.fns.get f=some fn:=by kernel_rfl) (hb:fn.body=some c:=by exact rfl) (hn:args.length<=n:=by simp)
 (hfr:X0 args 0 .nil=fr:=by(simp only[Zl,Zn,Nat.reduceAdd];exact rfl)):WR X f args.toArray wm h (CP K G h):=by
 subst hfr;exact WF.begin hf hb hnt hn (k _ rfl (Sp.start Zt hO))
end
def lks{p:Prop}(h:p:=by
 repeat (first|exact Zd | (apply Zb;(focus exact lk;done)))
 done):p:=h
def Y1{p:Prop}(h:p:=by
 repeat (first|with_reducible exact fh | ((with_reducible apply Xb);exact rfl) | ((with_reducible apply YC);exact rfl) | ((with_reducible apply Yb);exact rfl) | ((with_reducible apply Zi);exact rfl) | with_reducible assumption|refine⟨?_,?_⟩)
 done):p:=h
theorem r1{p q:Prop}(k:q)(h:Kp q->p:=by
 intro k
 first
 | refine WO.nil ?_
 | refine Yl.YG ?_
 | refine WC.seq ?_
 | refine WC.region ?_
 | ((first|apply WO.w gN rfl | (apply WO.gv;exact gi;rfl;intro hg) | (apply WX.w2 gN;rfl;rfl) | (apply WX.gv2;exact gi;rfl;rfl;intro hg));(focus (first
   | ((with_reducible apply Z0);exact lk)
   | ((with_reducible apply ZSP);exact lk;assumption;exact pk;rfl)
   | ((with_reducible apply ZOB);exact lk)
   | ((with_reducible apply YO);exact lk)
   | ((with_reducible apply YZ);exact lk;exact lk;(first|with_reducible exact Zhn|with_reducible exact Zgf|with_reducible exact ZrB|with_reducible exact ZBI|with_reducible exact Zxa|with_reducible exact ZBK|with_reducible exact ZBL|with_reducible exact ZBJ|with_reducible exact Zxi|with_reducible exact Zxj ZKq.out|with_reducible exact Zxf ZKq.out))
   | ((with_reducible apply ZOz);exact lk;assumption;exact pk;rfl;(focus simp only[Nat.zero_add,Nat.reduceAdd,List.drop_succ_cons,List.drop_zero,List.take_succ_cons,List.take_zero,List.take_nil];rfl))
   | ((with_reducible apply ZOx);exact lk)
   | ((with_reducible apply ZOA);exact lk;exact lk;(focus (exact rfl));assumption;assumption)
   | ((with_reducible apply ZOy);exact lk;(focus (first|assumption | (apply At.fz;(focus (apply Sp.fz;assumption));assumption;assumption));done);(focus (first|exact(Nat.add_zero _).symm|exact rfl);done);rfl)
   | ((with_reducible apply Q6);exact lk;rfl)
   | ((with_reducible apply ZeI);exact lk)
   | ((with_reducible apply ZcI);exact lk)
   | ((with_reducible apply ZoE);exact lk;(focus (apply ZAY;exact E0);done);exact lk)
   | ((with_reducible apply ZGy);exact lk;exact lk;(apply ZAY;exact E0))
   | fail)))
 | (apply WO.hu gN;(focus (first | (((with_reducible apply ZSO));exact lk;assumption;exact pk;exact lk;exact ce;exact rfl;exact rfl;exact rfl;(focus simp only[splice,List.take_succ_cons,List.take_zero,List.drop_succ_cons,List.drop_zero,List.cons_append,List.nil_append,List.append_nil,List.length_cons,List.length_nil,Nat.reduceAdd,Nat.zero_add,List.take_nil,List.drop_nil];exact rfl)) | fail)))
 | (apply WO.hn gN rfl;(focus (first | (((with_reducible apply ZOC));exact lk;assumption;exact ce) | (((with_reducible apply ZOD));assumption;exact ce) | fail)))
 | refine WC.skip ?_
 | refine WC.ret ?_
 | refine WC.block ?_
 | refine WC.exit ?_
 | refine Yl.ret ?_
 | refine Yl.exit ?_
 | refine YW.ret ?_
 | refine YW.YG ?_
 | refine YW.here ?_
 | refine ZM.exit ?_
 | refine ZM.ret ?_
 | refine WX.nil ?_
 | fail
 exact k.out):p:=h ⟨k⟩
def sl{p:Prop}(h:p:=by
 repeat (first|exact Sel.n | (apply Sel.c;(focus exact pk)))
 done):p:=h
theorem r2{p q:Prop}(k:q)(h:Kp q->p:=by
 intro k
 iterate 2 (refine r1 ?_)
 exact k.out):p:=h ⟨k⟩
theorem r3{p q:Prop}(k:q)(h:Kp q->p:=by
 intro k
 iterate 3 (refine r1 ?_)
 exact k.out):p:=h ⟨k⟩
theorem r4{p q:Prop}(k:q)(h:Kp q->p:=by
 intro k
 iterate 4 (refine r1 ?_)
 exact k.out):p:=h ⟨k⟩
theorem r5{p q:Prop}(k:q)(h:Kp q->p:=by
 intro k
 iterate 5 (refine r1 ?_)
 exact k.out):p:=h ⟨k⟩
theorem r6{p q:Prop}(k:q)(h:Kp q->p:=by
 intro k
 iterate 6 (refine r1 ?_)
 exact k.out):p:=h ⟨k⟩
theorem r7{p q:Prop}(k:q)(h:Kp q->p:=by
 intro k
 iterate 7 (refine r1 ?_)
 exact k.out):p:=h ⟨k⟩
theorem r8{p q:Prop}(k:q)(h:Kp q->p:=by
 intro k
 iterate 8 (refine r1 ?_)
 exact k.out):p:=h ⟨k⟩
theorem r9{p q:Prop}(k:q)(h:Kp q->p:=by
 intro k
 iterate 9 (refine r1 ?_)
 exact k.out):p:=h ⟨k⟩
theorem r10{p q:Prop}(k:q)(h:Kp q->p:=by
 intro k
 iterate 10 (refine r1 ?_)
 exact k.out):p:=h ⟨k⟩
theorem r11{p q:Prop}(k:q)(h:Kp q->p:=by
 intro k
 iterate 11 (refine r1 ?_)
 exact k.out):p:=h ⟨k⟩
theorem r12{p q:Prop}(k:q)(h:Kp q->p:=by
 intro k
 iterate 12 (refine r1 ?_)
 exact k.out):p:=h ⟨k⟩
theorem r13{p q:Prop}(k:q)(h:Kp q->p:=by
 intro k
 iterate 13 (refine r1 ?_)
 exact k.out):p:=h ⟨k⟩
theorem r14{p q:Prop}(k:q)(h:Kp q->p:=by
 intro k
 iterate 14 (refine r1 ?_)
 exact k.out):p:=h ⟨k⟩
theorem r15{p q:Prop}(k:q)(h:Kp q->p:=by
 intro k
 iterate 15 (refine r1 ?_)
 exact k.out):p:=h ⟨k⟩
theorem r16{p q:Prop}(k:q)(h:Kp q->p:=by
 intro k
 iterate 16 (refine r1 ?_)
 exact k.out):p:=h ⟨k⟩
end Go.ZF
end
end
section
set_option maxRecDepth 20000
noncomputable section
namespace Go.Proofs.YtbnepjakjmnadaaGreat
open Go.ZF Go.Lf
section
instance:Ki XX.P 3:=⟨ZSW⟩
instance:Ki XX.P 4:=⟨ZSV⟩
instance:Ki XX.P 9:=⟨U3⟩
instance:Ki XX.P 22:=⟨ZcN⟩
instance:Ki XX.P 28:=⟨Zvu⟩
instance:Ki XX.P 29:=⟨ZBE⟩
instance:Ki XX.P 30:=⟨ZOH⟩
instance:Ki XX.P 31:=⟨ZmN⟩
instance:ZrJ XX.P 33:=⟨UU⟩
instance:Ki XX.P 34:=⟨ZOG⟩
instance:ZrJ XX.P 36:=⟨U8⟩
instance:Ki XX.P 37:=⟨Zec⟩
instance:Ki XX.P 70:=⟨Zgd⟩
instance:Ki XX.P 102:=⟨ZKd⟩
instance:ZrJ XX.P 124:=⟨ZKc⟩
instance:Ki XX.P 127:=⟨Ztz⟩
instance:Ki XX.P 128:=⟨ZoK⟩
instance:ZrJ XX.P 130:=⟨Uk⟩
instance:ZrJ XX.P 136:=⟨ZcO⟩
instance:Ki XX.P 140:=⟨ZeL⟩
instance:Ki XX.P 141:=⟨ZKb⟩
instance:ZrJ XX.P 159:=⟨ZKa⟩
instance:Ki XX.P 185:=⟨ZJ9⟩
instance:ZrJ XX.P 187:=⟨ZJ8⟩
instance:Ki XX.P 194:=⟨ZJ7⟩
instance:Ki XX.P 195:=⟨ZJ6⟩
instance:SzF XX.P 3 1:=⟨ZK8⟩
instance:SzF XX.P 4 1:=⟨ZK7⟩
instance:SzF XX.P 5 1:=⟨ZFo⟩
instance:SzF XX.P 9 1:=⟨Qo⟩
instance:SzF XX.P 22 1:=⟨ZiY⟩
instance:SzF XX.P 29 1:=⟨Znf⟩
instance:SzF XX.P 30 1:=⟨ZHd⟩
instance:SzF XX.P 31 1:=⟨Zsg⟩
instance:SzF XX.P 33 5:=⟨Xu⟩
instance:SzF XX.P 36 4:=⟨Xl⟩
instance:SzF XX.P 37 1:=⟨ZHc⟩
instance:SzF XX.P 70 1:=⟨ZHb⟩
instance:SzF XX.P 78 5:=⟨ZHa⟩
instance:SzF XX.P 88 4:=⟨ZG9⟩
instance:SzF XX.P 102 1:=⟨ZCL⟩
instance:SzF XX.P 124 2:=⟨ZCI⟩
instance:SzF XX.P 128 1:=⟨Zt3⟩
instance:SzF XX.P 130 5:=⟨YE⟩
instance:SzF XX.P 136 2:=⟨XD⟩
instance:SzF XX.P 140 1:=⟨UF⟩
instance:SzF XX.P 141 1:=⟨ZCH⟩
instance:SzF XX.P 147 1:=⟨ZCG⟩
instance:SzF XX.P 159 2:=⟨ZCF⟩
instance:SzF XX.P 166 5:=⟨ZCE⟩
instance:SzF XX.P 185 1:=⟨ZCD⟩
instance:SzF XX.P 187 2:=⟨ZCC⟩
instance:SzF XX.P 195 1:=⟨ZCB⟩
instance:Qr XX.P 33 0 0:=⟨Zit⟩
instance:Qr XX.P 33 1 1:=⟨ZD7⟩
instance:Qr XX.P 33 2 2:=⟨ZuV⟩
instance:Qr XX.P 33 3 3:=⟨ZD6⟩
instance:Qr XX.P 33 4 4:=⟨Zis⟩
instance:Qr XX.P 36 0 0:=⟨ZD5⟩
instance:Qr XX.P 36 1 1:=⟨ZD4⟩
instance:Qr XX.P 36 2 2:=⟨ZD3⟩
instance:Qr XX.P 36 3 3:=⟨ZnV⟩
instance:Qr XX.P 59 0 0:=⟨ZD2⟩
instance:Qr XX.P 59 1 1:=⟨ZD1⟩
instance:Qr XX.P 59 2 2:=⟨ZD0⟩
instance:Qr XX.P 59 3 6:=⟨ZDZ⟩
instance:Qr XX.P 78 0 0:=⟨ZfA⟩
instance:Qr XX.P 88 0 0:=⟨ZDY⟩
instance:Qr XX.P 104 0 0:=⟨ZAx⟩
instance:Qr XX.P 104 1 1:=⟨ZAw⟩
instance:Qr XX.P 104 2 2:=⟨ZAv⟩
instance:Qr XX.P 104 3 3:=⟨ZAu⟩
instance:Qr XX.P 104 4 4:=⟨ZAt⟩
instance:Qr XX.P 119 0 0:=⟨ZAq⟩
instance:Qr XX.P 119 1 1:=⟨ZAp⟩
instance:Qr XX.P 119 2 2:=⟨ZAo⟩
instance:Qr XX.P 119 3 3:=⟨ZAn⟩
instance:Qr XX.P 119 4 4:=⟨ZAm⟩
instance:Qr XX.P 124 0 0:=⟨ZAl⟩
instance:Qr XX.P 124 1 1:=⟨ZAk⟩
instance:Qr XX.P 130 0 0:=⟨Zqy⟩
instance:Qr XX.P 130 1 1:=⟨ZAj⟩
instance:Qr XX.P 130 2 2:=⟨Zcq⟩
instance:Qr XX.P 130 3 3:=⟨ZAi⟩
instance:Qr XX.P 130 4 4:=⟨ZfD⟩
instance:Qr XX.P 136 0 0:=⟨Zqx⟩
instance:Qr XX.P 136 1 1:=⟨ZfC⟩
instance:Qr XX.P 147 0 0:=⟨ZAh⟩
instance:Qr XX.P 159 0 0:=⟨ZAg⟩
instance:Qr XX.P 159 1 1:=⟨ZAf⟩
instance:Qr XX.P 166 0 0:=⟨Zqw⟩
instance:ZkW XX.P 22 9:=⟨Qe⟩
instance:ZkW XX.P 29 36:=⟨Zan⟩
instance:ZkW XX.P 30 130:=⟨WB⟩
instance:ZkW XX.P 31 33:=⟨Zb2⟩
instance:ZkW XX.P 102 3:=⟨ZG6⟩
instance:ZkW XX.P 128 136:=⟨U9⟩
instance:ZkW XX.P 138 5:=⟨Zr3⟩
instance:ZkW XX.P 142 140:=⟨KT⟩
instance:ZkW XX.P 160 30:=⟨ZG5⟩
instance:ZKq XX.P 4:=⟨ZP8⟩
instance:UW XX.P 3 (.int .i64 0):=⟨ZKN⟩
instance:UW XX.P 4 (.bool false):=⟨ZbW⟩
instance:UW XX.P 5 (.int .u8 0):=⟨ZE9⟩
instance:UW XX.P 9 (.string ⟨#[]⟩):=⟨ZiH⟩
instance:UW XX.P 22 (.slice none 0 0):=⟨ZxD⟩
instance:UW XX.P 30 (.slice none 0 0):=⟨ZGE⟩
instance:UW XX.P 33 (.agg #[.int .i64 0,.string ⟨#[]⟩,.slice none 0 0,.slice none 0 0,.slice none 0 0]):=⟨ZiI⟩
instance:UW XX.P 36 (.agg #[.int .i64 0,.int .i64 0,.string ⟨#[]⟩,.slice none 0 0]):=⟨Zgp⟩
instance:UW XX.P 37 (.int .i64 0):=⟨ZGD⟩
instance:UW XX.P 70 (.map none):=⟨ZGC⟩
instance:UW XX.P 78 (.agg #[.int .i64 0,.string ⟨#[]⟩,.slice none 0 0,.slice none 0 0,.slice none 0 0]):=⟨ZbV⟩
instance:UW XX.P 88 (.agg #[.int .i64 0,.int .i64 0,.string ⟨#[]⟩,.slice none 0 0]):=⟨ZmV⟩
instance:UW XX.P 104 (.agg #[.slice none 0 0,.slice none 0 0,.slice none 0 0,.slice none 0 0,.bool false]):=⟨ZCo⟩
instance:UW XX.P 119 (.agg #[.int .i64 0,.string ⟨#[]⟩,.slice none 0 0,.slice none 0 0,.bool false]):=⟨ZCm⟩
instance:UW XX.P 124 (.agg #[.slice none 0 0,.slice none 0 0]):=⟨ZCl⟩
instance:UW XX.P 130 (.agg #[.int .i64 0,.string ⟨#[]⟩,.slice none 0 0,.slice none 0 0,.slice none 0 0]):=⟨Kq⟩
instance:UW XX.P 136 (.agg #[.string ⟨#[]⟩,.slice none 0 0]):=⟨Zc2⟩
instance:UW XX.P 140 (.nilIface):=⟨ZeV⟩
instance:UW XX.P 141 (.nilFunc):=⟨ZCk⟩
instance:UW XX.P 147 (.agg #[.int .i64 0]):=⟨ZtV⟩
instance:UW XX.P 159 (.agg #[.slice none 0 0,.int .i64 0]):=⟨ZtU⟩
instance:UW XX.P 166 (.agg #[.int .i64 0,.string ⟨#[]⟩,.slice none 0 0,.slice none 0 0,.slice none 0 0]):=⟨ZtS⟩
instance:UW XX.P 185 (.map none):=⟨ZCj⟩
instance:UW XX.P 187 (.agg #[.int .i64 0,.int .i64 0]):=⟨ZmW⟩
instance:UW XX.P 195 (.nilFunc):=⟨ZCi⟩
end
section
def Zg0(p0:(U Y))(p1:Y):Int->(Int->O Z)->O Z:=fun v5 Zcf=>
 (bif decide (v5<(p0.length:Int)) then(YA p0 v5).bind fun x8=>(bif decide (x8=p1) then some true else Zcf (XO (v5+1))) else some false)
def ZdP(F:Nat)(p0:(U Y))(p1:Y):O Z:=
 loop F (Zg0 p0 p1) 0
def ZAN:O (U (Y×Z)):=
 some (Yk (Yk (Yk (Yk (Yk (Yk (Yk (Yk (Yk (Yk ([]:(U (Y×Z))) (⟨#[97,110,100]⟩:Y) true) (⟨#[100,101,102]⟩:Y) true) (⟨#[101,108,115,101]⟩:Y) true) (⟨#[103,111]⟩:Y) true) (⟨#[105,102]⟩:Y) true) (⟨#[105,110]⟩:Y) true) (⟨#[112,108,97,99,101]⟩:Y) true) (⟨#[115,116,111,112]⟩:Y) true) (⟨#[116,104,101,110]⟩:Y) true) (⟨#[119,97,116,99,104]⟩:Y) true)
end
section
def ZJe{F wm h}{p0:(U Y)}{p1:Y}{Zg Zf}{r}(Zt:wm<=h.size)(Zw:Sl ZW wm h Zg Zf p0)(hL:ZdP F p0 p1=some r):
 WR XX 36 #[.slice Zg p0.length Zf,.string p1] wm h (CP (fun v (Gb:U (Ast wm))=>v=.bool r/\Gb=[]) [] h):=by
 refine bg Tryz.ntmps36 Zt Z7.nil ?_;intro T hT hS;unfold ZdP at hL;refine r12 ?_;refine WC.loop (WL.lift hL (fun v5 s=>∃Qp h1,s=⟨Qp,[],h1,none⟩/\Sp wm T h [] h1/\Qp.at 0=.slice Zg p0.length Zf/\Qp.at 1=.string p1/\Qp.at 5= Ve v5) ⟨_,_,rfl,hS.only .n,Y1⟩ ?_);rintro Zcf v5 s Zev hL ⟨Qp,h1,rfl,hS,e3,e4,e6⟩;refine r9 ?_;refine cn hL ?_ ?_
 ·intro hc hL;refine r8 ?_;obtain⟨x8,hx8,hL⟩:=bS hL;obtain⟨b9,o10,_,ZzS,ZzX,ZzW,ZsM⟩:=Sl.at_ Zw hx8;refine Vi (ZQ Qe Qo lk lk rfl ZzS hx8)<|Vi (ZY U3 (Zm fh rfl) (At.fz hS.fz ZzW ZzX) (j:=0) rfl (v:=.string x8) rfl)<|r1 ?_;refine Vi (YZ (Zm (Zi rfl fh) rfl) (Zm fh rfl) Ww)<|r2 ?_;refine cn hL ?_ ?_
  ·intro hc hL;refine r11 ?_;exact rt hL hT hS
  ·intro hc hL;refine r8 ?_;exact ZM.YG (Zev _ _ hL ⟨_,_,rfl,hS.only .n,Y1⟩)
 ·intro hc hL;refine r11 ?_;exact rt hL hT hS
def ZeA{F h}{p0:(U Y)}{p1:Y}{Zg Zf}{r}(Zw:Sl ZW h.size h Zg Zf p0)(hL:ZdP F p0 p1=some r):Pure XX 36 #[.slice Zg p0.length Zf,.string p1] h (.bool r):=
 WR.Zcb rfl (ZJe Vh Zw hL)
def ZJc{wm h}{r}(Zt:wm<=h.size)(hL:ZAN=some r):
 WR XX 53 #[] wm h (CP (fun v (Gb:U (Ast wm))=>∃Zpq,v=.map (some Zpq)/\Gb=[mp wm Value.string Value.bool (some Zpq) r]) [] h):=by
 refine bg Tryz.ntmps53 Zt Z7.nil ?_;intro T hT hS;unfold ZAN at hL;refine r7 ?_;refine Vk (ZbG Value.string Value.bool hS) ?_;rintro _ h1 ⟨b2,eb2,rfl,hS⟩;refine WO.hu gN (Zb6 (kv:=Value.string) (vv:=Value.bool) (k:=(⟨#[97,110,100]⟩:Y)) (v:=true) hS k0 QZ XP lk lk lk) ?_;rintro h3 hS;refine WO.hu gN (Zb6 (kv:=Value.string) (vv:=Value.bool) (k:=(⟨#[100,101,102]⟩:Y)) (v:=true) hS k0 QZ XP lk lk lk) ?_;rintro h4 hS;refine WO.hu gN (Zb6 (kv:=Value.string) (vv:=Value.bool) (k:=(⟨#[101,108,115,101]⟩:Y)) (v:=true) hS k0 QZ XP lk lk lk) ?_;rintro h5 hS;refine WO.hu gN (Zb6 (kv:=Value.string) (vv:=Value.bool) (k:=(⟨#[103,111]⟩:Y)) (v:=true) hS k0 QZ XP lk lk lk) ?_;rintro h6 hS;refine WO.hu gN (Zb6 (kv:=Value.string) (vv:=Value.bool) (k:=(⟨#[105,102]⟩:Y)) (v:=true) hS k0 QZ XP lk lk lk) ?_;rintro h7 hS;refine WO.hu gN (Zb6 (kv:=Value.string) (vv:=Value.bool) (k:=(⟨#[105,110]⟩:Y)) (v:=true) hS k0 QZ XP lk lk lk) ?_;rintro h8 hS;refine WO.hu gN (Zb6 (kv:=Value.string) (vv:=Value.bool) (k:=(⟨#[112,108,97,99,101]⟩:Y)) (v:=true) hS k0 QZ XP lk lk lk) ?_;rintro h9 hS;refine WO.hu gN (Zb6 (kv:=Value.string) (vv:=Value.bool) (k:=(⟨#[115,116,111,112]⟩:Y)) (v:=true) hS k0 QZ XP lk lk lk) ?_;rintro h10 hS;refine WO.hu gN (Zb6 (kv:=Value.string) (vv:=Value.bool) (k:=(⟨#[116,104,101,110]⟩:Y)) (v:=true) hS k0 QZ XP lk lk lk) ?_;rintro h11 hS;refine WO.hu gN (Zb6 (kv:=Value.string) (vv:=Value.bool) (k:=(⟨#[119,97,116,99,104]⟩:Y)) (v:=true) hS k0 QZ XP lk lk lk) ?_;rintro h12 hS;refine r5 ?_;have hr:=Oi0 hL;subst hr;exact YK.XY rfl (Zx lk Zj) ⟨_,⟨b2,rfl,rfl⟩,hT▸hS.only (.c k0 .n)⟩
end
section
def Zg1(p0:Y):Int->(Int->O Z)->O Z:=fun v5 Zcf=>
 (bif decide (v5<(p0.size:Int)) then(ZlQ p0 v5).bind fun z8=>(gd (!(decide (z8<97))) (ZlQ p0 v5) default).bind fun z9=>(bif((decide (z8<97))||(decide (z9>122))) then some false else Zcf (XO (v5+1))) else(bif((decide ((p0.size:Int)>0))&&(decide ((p0.size:Int)<=8))) then(ZAN).bind fun x11=>(ZdL x11 p0 false).bind fun x15=>some (!x15) else some false))
def ZfH(F:Nat)(p0:Y):O Z:=
 loop F (Zg1 p0) 0
def Zn1:Y×Z->O Y:=fun(v12,Zx3)=>
 (bif Zx3 then some v12 else some (⟨#[]⟩:Y))
def Zkh(F:Nat)(p0:(U (Y×Z)))(v23:Int)(v25:Y)(Zr8:Z)(Zjk:(Int×Y×Z->O Y)):(U Int)×Int->((U Int)×Int->O Y)->O Y:=fun(v32,v37) ZyH=>
 (bif decide (v37>0) then(Zv3 (XO (v37-1)) 26).bind fun x40=>(app 1 [IntKind.wrap .u8 (XO (97+x40))] v32).bind fun z43=>(Zv6 (XO (v37-1)) 26).bind fun x47=>ZyH (z43,x47) else(ZG8 v32).bind fun z48=>(bif Zr8 then none else(ZfH F z48).bind fun x51=>(gd x51 (ZdL p0 z48 false) default).bind fun x52=>(bif(x51&&(!x52)) then(bif(!false) then(Zn1) (z48,true) else Zjk (XO (v23+1),z48,true)) else(bif(!true) then(Zn1) (v25,false) else Zjk (XO (v23+1),v25,false)))))
def Zn2(F:Nat)(p0:(U (Y×Z))):Int×Y×Z->(Int×Y×Z->O Y)->O Y:=fun(v23,v25,Zr8) Zjk=>
 loop F (Zkh F p0 v23 v25 Zr8 Zjk) ([],v23)
def ZAM(F:Nat)(p0:(U (Y×Z))):O Y:=
 loop F (Zn2 F p0) (1,(⟨#[]⟩:Y),false)
end
end Go.Proofs.YtbnepjakjmnadaaGreat
end
end
section
noncomputable section
namespace Go.ZF
open Go.Lf
section
variable{X:Ctx}{n wm:Nat}{rd:O Nat}{ops:Va Oper}{l:U Oper}{fr:Fr}{ds:U Vc}{h h0 h1 h2:H}{ty:J}{p:String}{af:Va Edge}{T:Nat->Prop}{G Gr Ga:U (Ast wm)}{d:Nat}
def ZDJ(o:Oper)(k:Nat):Z:=o.after.toList.any fun e=>Region.binds .any e&&Nat.beq e.on k
def ZHs(ops:U Oper)(c i:Nat)(o:Oper):Z:=
 ZaK i o&&bif Nat.ble i c then o.op.operands.toList.all fun x=>match x with
  | .tmp t=>QH (fun k o'=>!isT o'.dst t||ZDJ o k) ops 0
  | _=>true
 else ZDJ o c
def ZFA(ops:U Oper)(c:Nat):Z:=QH (ZHs ops c) ops 0&&QH (Zf0 ops) ops 0
def Zme{o:Oper}{k:Nat}(h:ZDJ o k=true):∃e∈o.after,Region.binds .any e=true/\e.on=k:=by
 unfold ZDJ at h;rw[GF]at h;obtain⟨e,he,h⟩:=h;rw[Ba0]at h;exact⟨e,by simpa using he,h.1,Nb0 h.2⟩
structure PX(X:Ctx)(n:Nat)(h:H)(c:Nat)(l:List Oper)(fr:Fr)(Q:Fr->Oper->Prop):Prop where
 out:∃(fs:Nat->Fr) (vs:Nat->Value) (o:Oper),fs 0=fr/\l[c]? =some o/\Q (fs c) o/\∀k,k<c->∃d op ty p af,l[k]? =some ⟨some d,op,ty,p,af,none⟩/\d<n/\Xm X h (Yo (fs k)) ⟨some d,op,ty,p,af,none⟩=some (.val (vs k),.none)/\fs (k+1)=Tr.set (fs k) d (vs k)
def PX.w{c:Nat}{op:Op}{v:N}{Q:Fr->Oper->Prop}(hd:Nat.blt d n=true)(ha:Xm X h (Yo fr) ⟨some d,op,ty,p,af,none⟩=some (.val v,.none))(k:PX X n h c l (Tr.set fr d v) Q):PX X n h (c+1) (⟨some d,op,ty,p,af,none⟩::l) fr Q:=by
 obtain⟨fs,vs,o,e0,ho,hq,hk⟩:=k;refine⟨fun k=>match k with|0=>fr|k+1=>fs k,fun k=>match k with|0=>v|k+1=>vs k,o,rfl,by simpa using ho,hq,fun k hk'=>?_⟩;cases k with
 | zero=>exact⟨d,op,ty,p,af,rfl,by rwa[G6]at hd,ha,e0⟩
 | succ k=>
   obtain⟨d',op',ty',p',af',q1,q2,q3,q4⟩:=hk k Vg;exact⟨d',op',ty',p',af',by simpa using q1,q2,q3,q4⟩
def PX.call{o:Oper}{Q:Fr->Oper->Prop}(hq:Q fr o):PX X n h 0 (o::l) fr Q:=⟨⟨fun _=>fr,fun _=>undef,o,rfl,rfl,hq,fun k hk=>absurd hk (Nat.not_lt_zero _)⟩⟩
def Zw9{fr fr':Fr}{x:V6}(hx:∀t,x=.tmp t->fr.at t=fr'.at t):Yo fr x=Yo fr' x:=by
 cases x with
 | tmp t=>
   have:=hx t rfl;show(bif Xt (fr.at t) then none else some (fr.at t))=(bif Xt (fr'.at t) then none else some (fr'.at t));rw[this]
 | const v=>rfl
 | func f=>rfl
 | global g=>rfl
def Zw2{ih:Qn->O YP}{o:Oper}{v:N}(hg:o.guard=none)(ha:Xm X h (Yo fr) o=some (.val v,.none))(ho:o.dst=some d)(hd:d<n):JS X (fun _=>false) ih n wm rd ops.toList o ⟨fr,ds,h,none⟩=some (.normal,⟨Tr.set fr d v,ds,h,none⟩):=by
 have g:=ZP.none (ops:=ops) (fr:=fr) hg;unfold JS;rw[g.1,g.2];dsimp only[QP,Cq0,Cq1];rw[ha];dsimp only;unfold Eff.apply Kn;dsimp only;rw[ho];unfold Zhh;have hb:Nat.blt d n=true:=by rw[G6];exact hd
 simp[Jz,hb,allowed]
def ZcC(ops:Va Oper)(k:Nat):O Tmp:=(ops.toList[k]?).bind (·.dst)
def frP(ops:Va Oper)(fr:Fr):Nat->Fr
 | 0=>fr
 | k+1=>match ZcC ops k with
   | some d=>Tr.set (frP ops fr k) d ZoI
   | none=>frP ops fr k
def ZsT{t:Nat}:∀m,Xt ((frP ops fr m).at t)=false->(∀k,k<m->ZcC ops k≠some t)/\(frP ops fr m).at t=fr.at t
 | 0,_=>⟨fun k hk=>absurd hk (Nat.not_lt_zero _),rfl⟩
 | m+1,ha=>by
   unfold frP at ha ⊢;cases e:ZcC ops m with
   | none=>
     rw[e]at ha;obtain⟨i1,i2⟩:=ZsT m ha;refine⟨fun k hk=>?_,i2⟩;rcases Nat.lt_or_eq_of_le (Nat.le_of_lt_succ hk) with z|z
     ·exact i1 k z
     ·subst z;rw[e];exact fun z=>by cases z
   | some d=>
     rw[e]at ha;dsimp only at ha ⊢;by_cases ht:t=d
     ·subst ht;simp[Fr.at,Tr.XE,ZoI,Xt]at ha
     ·have hh:Fr.at (Tr.set (frP ops fr m) d ZoI) t=(frP ops fr m).at t:=by simp[Fr.at,Tr.XE,ht]
      rw[hh]at ha ⊢;obtain⟨i1,i2⟩:=ZsT m ha;refine⟨fun k hk=>?_,i2⟩;rcases Nat.lt_or_eq_of_le (Nat.le_of_lt_succ hk) with z|z
      ·exact i1 k z
      ·subst z;rw[e];exact fun z=>ht (Oi0 z).symm
def WC.ZOh{R:XX->Fs->Prop}{id c:Nat}(hm:X.P.follows .mixedOrders=true)(hp:ZFA ops.toList c=true)(k:PX X n h c ops.toList fr (fun fr' o=>∃f args v h2,o.guard=none/\Xm X h (Yo fr') o=some (.enter f args,.none)/\Yq X (.call f args wm h) (.fin (.ZX v) h2)/\∀Qp,R (.panic v) ⟨Qp,ds,h2,none⟩)):WC X n wm rd (.region id ops true) ⟨fr,ds,h,none⟩ R:=by
 obtain⟨fs,vs,oc,e0,hoc,⟨f,args,v,h2,hg,hcall,Zzz,hR⟩,hk⟩:=k;unfold ZFA at hp;rw[Ba0]at hp;have hpl:=Yv _ _ hp.1;have hdst:=Yv _ _ hp.2;simp only[G4]at hpl hdst;have hget:∀{k:Nat}{o:Oper},ops[k]? =some o->ops.toList[k]? =some o:=fun h=>by rwa[G8]
 have hcs:c<ops.size:=by
  have:=Li0 hoc;obtain⟨q,_⟩:=this
  simpa using q
 have uniq:∀{j k t},ZcC ops j=some t->ZcC ops k=some t->j=k:=fun{j k t} hj hk'=>by
  unfold ZcC at hj hk';cases e1:ops.toList[j]? with
  | none=>rw[e1]at hj;cases hj
  | some o1=>
    cases e2:ops.toList[k]? with
    | none=>rw[e2]at hk';cases hk'
    | some o2=>
      rw[e1]at hj;rw[e2]at hk';have hj:o1.dst=some t:=hj;have hk':o2.dst=some t:=hk';have:=hdst k o2 e2;unfold Zf0 at this;rw[hk']at this;dsimp only at this;have:=Yv _ _ this j o1 e1;rw[Zax.2 hj,Cq1,G4]at this;exact Nb0 this
 have stage:∀m,m<=c->(∀k t,k<m->ZcC ops k=some t->(fs m).at t=vs k)/\(∀t,(∀k,k<m->ZcC ops k≠some t)->(fs m).at t=fr.at t):=by
  intro m
  induction m with
  | zero=>intro _;exact⟨fun k t hk'=>absurd hk' (Nat.not_lt_zero _),fun t _=>by rw[e0]⟩
  | succ m ih=>
    intro hm';obtain⟨i1,i2⟩:=ih Vg;obtain⟨d,op,ty,p,af,q1,q2,q3,q4⟩:=hk m Vg;have hdm:ZcC ops m=some d:=by unfold ZcC;rw[q1];rfl
    have hat:∀t,(fs (m+1)).at t=if t=d then vs m else(fs m).at t:=fun t=>by
     rw[q4];show Fr.at (Tr.set (fs m) d (vs m)) t=_;by_cases e:t=d
     ·subst e;simp[Fr.at,Tr.XE]
     ·have e':¬ d=t:=fun z=>e z.symm
      simp[Fr.at,Tr.XE,e]
    refine⟨fun k t hk' ht=>?_,fun t ht=>?_⟩
    ·rw[hat];by_cases e:t=d
     ·subst e;rw[if_pos rfl,uniq ht hdm]
     ·rw[if_neg e];refine i1 k t ?_ ht;rcases Nat.lt_or_eq_of_le (Nat.le_of_lt_succ hk') with z|z
      ·exact z
      ·subst z;rw[hdm]at ht;cases ht;exact absurd rfl e
    ·rw[hat,if_neg fun e=>ht m Vg (by rw[hdm,e]),i2 t fun k hk'=>ht k Vg]
 refine⟨.panic v,_,hR (frP ops fr c),fun ρ a w F Zt hi hF=>?_⟩;refine wpIn_region_any hm ?_;have hi':Inv ρ n {fr:=fr,ds:=ds,h:=h} a {w with drawn:=w.drawn+1}:=⟨⟨hi.rel.dom,fun i b d e=>(hi.rel.obj i b d e).world rfl,hi.rel.inj⟩,hi.fr,hi.ds⟩
 have main:∀(fuel:Nat)(listed:Va Z),listed.size=ops.size->((List.range ops.size).filter (fun k=>!listed.getD k true)).length<=fuel->(∀j,c<=j->¬ Data.SL listed j) ->
  ∀ρ' frS a' w',Inv ρ' n ⟨frS,ds,h,none⟩ a' w'->Stp wm ρ h {w with drawn:=w.drawn+1} ρ' h w'->((∀k t,k<c->Data.SL listed k->ZcC ops k=some t->frS.at t=vs k)/\(∀t,(∀k,k<c->Data.SL listed k->ZcC ops k≠some t)->frS.at t=fr.at t)) ->
  wpAnyIn F 0 X.P .any ops (Xj wm n ρ h w (.panic v) ⟨frP ops fr c,ds,h2,none⟩) fuel listed a' w':=by
  intro fuel
  induction fuel with
  | zero=>
    intro listed hsz hn hc;exfalso
    have hmem:c∈(List.range ops.size).filter (fun k=>!listed.getD k true):=by
     rw[GP];exact⟨GS.2 hcs,by rw[(Data.Zb1 hsz hcs).2 (hc c Vh)];rfl⟩
    have:=List.length_pos_of_mem hmem;omega
  | succ fuel ih=>
    intro listed hsz hn hc ρ' frS a' w' hinv hst hfs;refine⟨fun hnil=>?_,fun i hi=>?_⟩
    ·exfalso
     have:∀k,k<=c->Data.SL listed k:=by
      intro k
      induction k using Nat.strongRecOn with
      | ind k ihk=>
        intro hkc;apply Classical.byContradiction;intro hno;have hks:k<ops.size:=Vg
        obtain⟨o,ho⟩:∃o,ops[k]? =some o:=⟨ops[k],by simp[hks]⟩
        have:k∈Region.ready .any ops listed:=mem_ready.2 ⟨(Data.Zb1 hsz hks).2 hno,o,ho,fun e he hb=>by
         have hp1:=hpl k o (hget ho);unfold ZHs at hp1;rw[Ba0]at hp1;have he1:=hp1.1;unfold ZaK at he1;rw[Kx]at he1;have:=he1 e (by simpa using he);rw[hb,Cq1,G6]at this;exact ihk e.on this Vg⟩
        rw[hnil]at this;cases this
     exact hc c Vh (this c Vh)
    ·obtain⟨q1,o,ho,hr⟩:=mem_ready.1 hi;have him:i<ops.size:=(Jn.1 ho).1;have hno:¬ Data.SL listed i:=(Data.Zb1 hsz him).1 q1;have hp1:=hpl i o (hget ho);unfold ZHs at hp1;rw[Ba0]at hp1;unfold wpOpIn;rw[ho];dsimp only;by_cases hic:i<=c
     ·have hle:Nat.ble i c=true:=Nm0 hic;have hlk:=hp1.2;rw[hle,Cq1,Kx]at hlk
      have ZF8:Xm X h (Yo frS) o=Xm X h (Yo (fs i)) o:=ZmK X h o fun x hx=>Zw9 fun t ht=>by
       subst ht;have hall:=hlk (.tmp t) (by simpa using hx);have hall:=Yv _ _ hall;simp only[G4]at hall
       have Za2:∀k,ZcC ops k=some t->k<i/\Data.SL listed k:=fun k hkt=>by
        unfold ZcC at hkt;cases e1:ops.toList[k]? with
        | none=>rw[e1]at hkt;cases hkt
        | some o1=>
          rw[e1]at hkt;have hkt:o1.dst=some t:=hkt;have:=hall k o1 e1;rw[Zax.2 hkt,QP,Bool.false_or]at this;obtain⟨e,he,hb,rfl⟩:=Zme this;have he1:=hp1.1;unfold ZaK at he1;rw[Kx]at he1;have h3:=he1 e (by simpa using he);rw[hb,Cq1,G6]at h3;exact⟨h3,hr e he hb⟩
       by_cases hex:∃k,ZcC ops k=some t
       ·obtain⟨k,hkt⟩:=hex;obtain⟨k1,k2⟩:=Za2 k hkt;rw[hfs.1 k t Vg k2 hkt,(stage i hic).1 k t k1 hkt]
       ·rw[hfs.2 t fun k _ _ z=>hex ⟨k,z⟩,(stage i hic).2 t fun k _ z=>hex ⟨k,z⟩]
      rcases Nat.lt_or_eq_of_le hic with hlt|rfl
      ·obtain⟨d,op,ty,p,af,z1,z2,z3,z4⟩:=hk i hlt;have eo:o=⟨some d,op,ty,p,af,none⟩:=by have:=hget ho;rw[z1]at this;exact(Oi0 this).symm
       subst eo;have hdi:ZcC ops i=some d:=by unfold ZcC;rw[z1];rfl
       have hS:∀k,Data.SL (listed.setIfInBounds i true) k↔Data.SL listed k\/k=i:=by
        intro k;unfold Data.SL;by_cases hki:k=i
        ·subst hki;simp[Q4,show k<listed.size by omega]
        ·rw[getD_set_ne false (Ne.symm hki)];simp[hki]
       refine Ux (Zar X) (Zw2 (ih:=fun _=>none) (rd:=rd) rfl (ZF8.trans z3) rfl z2) hinv (KB Zt Vh) (hF.mono hst.ext) (fun _ ρ2 a2 w2 Zmc ZdO=>?_) (fun v he=>by cases he);refine ih (listed.setIfInBounds i true) (by simpa using hsz) ?_ (fun j hj z=>?_) ρ2 (Tr.set frS d (vs i)) a2 w2 Zmc (hst.trans hi'.rel.lt ZdO) ⟨fun k t hkc hSk hkt=>?_,fun t ht=>?_⟩
       ·have heq:(List.range ops.size).filter (fun k=>!(listed.setIfInBounds i true).getD k true)=((List.range ops.size).filter (fun k=>!listed.getD k true)).filter (fun k=>k≠i):=by
         rw[List.filter_filter];apply List.filter_congr;intro k hk';rw[GS]at hk';by_cases hki:k=i
         ·subst hki;simp[Q4,show k<listed.size by omega]
         ·rw[getD_set_ne true (Ne.symm hki)];simp[hki]
        rw[heq]
        have hmem:i∈(List.range ops.size).filter (fun k=>!listed.getD k true):=by
         rw[GP];exact⟨GS.2 him,by rw[q1];rfl⟩
        have:(((List.range ops.size).filter (fun k=>!listed.getD k true)).filter (fun k=>k≠i)).length<((List.range ops.size).filter (fun k=>!listed.getD k true)).length:=
         List.length_filter_lt_length_iff_exists.2 ⟨i,hmem,by simp⟩
        omega
       ·rcases(hS j).1 z with z|z
        ·exact hc j hj z
        ·omega
       ·show Fr.at (Tr.set frS d (vs i)) t=vs k;by_cases e:t=d
        ·subst e;rw[uniq hkt hdi];simp[Fr.at,Tr.XE]
        ·have:Fr.at (Tr.set frS d (vs i)) t=frS.at t:=by simp[Fr.at,Tr.XE,e]
         rw[this];refine hfs.1 k t hkc ?_ hkt;rcases(hS k).1 hSk with z|z
         ·exact z
         ·subst z;rw[hdi]at hkt;cases hkt;exact absurd rfl e
       ·have e:¬ t=d:=fun e=>ht i hlt ((hS i).2 (.inr rfl)) (by rw[hdi,e])
        have:Fr.at (Tr.set frS d (vs i)) t=frS.at t:=by simp[Fr.at,Tr.XE,e]
        show Fr.at (Tr.set frS d (vs i)) t=fr.at t;rw[this];exact hfs.2 t fun k hkc hSk=>ht k hkc ((hS k).2 (.inl hSk))
      ·have eo:o=oc:=by have:=hget ho;rw[hoc]at this;exact(Oi0 this).symm
       subst eo;have g:=ZP.none (ops:=ops) (fr:=frS) hg
       have ZRt:JS X (fun _=>false) (QK (.call f args wm h) (.fin (.ZX v) h2)) n wm rd ops.toList o ⟨frS,ds,h,none⟩=some (.panic v,⟨frS,ds,h2,none⟩):=by
        unfold JS;rw[g.1,g.2];dsimp only[QP,Cq0,Cq1];rw[ZF8.trans hcall];dsimp only[QP,Cq0,Cq1];rw[show Eff.apply wm h Eff.none=some h from rfl];unfold Kn;dsimp only[Jz,Cq0];rw[Xa]
        rfl
       refine Ux (Y9 Zzz) ZRt hinv Zt (hF.mono hst.ext) (fun he=>by cases he) (fun v' he ρ2 v2 a2 w2 hv Zmc ZdO=>?_);cases he;have XV:=hst.trans hi'.rel.lt ZdO;exact⟨ρ2,.panic hv,⟨Zmc.rel,⟨Zmc.fr.size,fun t ht=>(by obtain⟨z1,z2⟩:=ZsT i ht;have z3:=hfs.2 t fun k hk' _=>z1 k hk';show VR ρ2 ((frP ops fr i).at t) _;rw[z2,<-z3];refine Zmc.fr.val t ?_;show Xt (frS.at t)=false;rw[z3,<-z2];exact ht)⟩,Zmc.ds⟩,⟨XV.ext,XV.size,XV.keep,XV.own,XV.live,XV.os,XV.tape,XV.output,XV.Y8,XV.frame,XV.Jv⟩⟩
     ·have hle:Nat.ble i c=false:=by
       cases z:Nat.ble i c
       ·rfl
       ·exact absurd (Nl0 z) hic
      have hlk:=hp1.2;rw[hle,Cq0]at hlk;obtain⟨e,he,hb,hec⟩:=Zme hlk;have:=hr e he hb;rw[hec]at this;exact absurd this (hc c Vh)
 have hno:∀k,¬ Data.SL (Array.replicate ops.size false) k:=by
  intro k;unfold Data.SL;rw[Q4,Array.getElem?_replicate];split<;>simp
 exact main ops.size _ (by simp) (KB (List.length_filter_le _ _) (by simp)) (fun j _=>hno j) ρ fr a _ hi' (Stp.refl _ _ _ _) ⟨fun k t _ z=>absurd z (hno k),fun t _=>rfl⟩
end
section
variable{X:Ctx}{n wm:Nat}{rd:O Nat}{ops:Va Oper}{l:U Oper}{fr:Fr}{ds:U Vc}{h h1 h2 h0:H}{ty:J}{p:String}{af:Va Edge}{g:O (Nat×Z)}{T:Nat->Prop}{G Gr Ga Gb:U (Ast wm)}{d:O Nat}{i:Nat}
def JN{A:YD}(hi:i<h.size)(j:Nat):(h.put i A).at j=if j=i then A else h.at j:=by
 by_cases e:j=i
 ·subst e;rw[Z4 hi,if_pos rfl]
 ·rw[Xg e,if_neg e]
def Rel.weak{ρ:Ren}{w:V9}{A:YD}(ho:(h.at i).own=true)(hl:(h.at i).live=true)(hA:∀b d,Qd ρ w b d (ρ.lim i) (h.at i)->Qd ρ w b d (ρ.lim i) A)(r:Rel ρ h w):Rel ρ (h.put i A) w:=by
 have hi:=YH rfl hl;refine⟨r.dom,fun j b d e=>?_,fun j k b d d' e1 e2 q1 q2=>?_⟩
 ·rw[JN hi];have:=r.obj j b d e;split
  ·rename_i e2;subst e2;exact hA b d this
  ·exact this
 ·rw[JN hi]at q1 q2;refine r.inj j k b d d' e1 e2 ?_ ?_
  ·split at q1
   ·rename_i e3;subst e3;exact ho
   ·exact q1
  ·split at q2
   ·rename_i e3;subst e3;exact hl
   ·exact q2
def Stp.weak{ρ ρ':Ren}{h':H}{w w':V9}{A:YD}(hw:wm<=i)(ho:(h.at i).own=true)(hl:(h.at i).live=true)(a:Stp wm ρ (h.put i A) w ρ' h' w'):Stp wm ρ h w ρ' h' w':=by
 have hi:=YH rfl hl
 have hown:∀j,((h.put i A).at j).own=true->(h.at j).own=true:=fun j e=>by
  rw[JN hi]at e;split at e
  ·rename_i e2;subst e2;exact ho
  ·exact e
 refine⟨a.ext,a.size,fun j hj=>?_,fun j hj e=>hown j (a.own j hj e),fun j hj e=>?_,a.os,a.tape,a.output,a.Y8,fun b hb hno=>a.frame b hb fun j d h1 h2 h3=>hno j d h1 h2 (hown j h3),fun j b d e e'=>?_⟩
 ·rw[a.keep j hj,JN hi,if_neg Vg]
 ·have:=a.live j hj e;rw[JN hi]at this;split at this
  ·rename_i e2;subst e2;exact hl
  ·exact this
 ·obtain⟨h1,h2⟩:=a.Jv j b d e e';exact⟨h1,h2.imp id fun⟨k,d',q1,q2,q3⟩=>⟨k,d',q1,q2,hown k q3⟩⟩
def ks(wm i:Nat)(m:U (Y×Z)):Ast wm:=ob wm i (.Xr (Zq m))
def ZAd{ρ:Ren}(s:Y):∀(ll:U (Y×Z))(bs:U Nat)(es':U Vb),bs.length=ll.length->EL ρ (Xc Value.string Value.bool ll bs) es'->(∀e∈es',∃s b,e.key=.string s/\e.val=.bool b)/\fnd s es'=Zq ll s:=by
 intro ll
 induction ll with
 | nil=>intro bs es' hb e;cases bs with
   | nil=>cases e;exact⟨by simp,rfl⟩
   | cons=>cases hb
 | cons x ll ih=>
   intro bs es' hb e;cases bs with
   | nil=>cases hb
   | cons b bs=>
     cases e with
     | @cons _ e' _ es2 hk _ _ hv t=>
       obtain⟨q1,q2⟩:=ih bs es2 (by simpa using hb) t;obtain⟨k',v',c'⟩:=e';dsimp only at hk hv;obtain rfl:k'=.string x.1:=hk;obtain rfl:v'=.bool x.2:=VR.YS rfl hv;refine⟨fun e m=>?_,?_⟩
       ·rcases Kd.1 m with rfl|m
        ·exact⟨_,_,rfl,rfl⟩
        ·exact q1 e m
       ·show(bif s==x.1 then some x.2 else fnd s es2)=_;rw[q2,Zh5];have e:Z8 (x::ll) s=if x.1=s then some (0,x.2) else(Z8 ll s).map fun q=>(q.1+1,q.2):=rfl
        unfold Zq;rw[e];by_cases hx:x.1=s
        ·rw[if_pos hx,decide_eq_true hx.symm];rfl
        ·rw[if_neg hx,decide_eq_false (fun z=>hx z.symm)];cases Z8 ll s<;>rfl
def ZLw{ρ:Ren}{w:V9}{b d:Nat}{l:Nat×Nat}{m:U (Y×Z)}{bs:U Nat}{c:Nat}(hb:bs.length=m.length)(o:Qd ρ w b d l (.map (Xc Value.string Value.bool m bs) c)):Qd ρ w b d l (.Xr (Zq m)):=by
 obtain⟨q,es',h1,h2⟩:=o;exact⟨q,es',c,h1,fun e he=>(ZAd ⟨#[]⟩ m bs _ hb h2).1 e he,fun s=>(ZAd s m bs _ hb h2).2⟩
def ZLv{m:U (Y×Z)}(hS:Sp wm T h0 G h)(pk:Pk G (mp wm Value.string Value.bool (some i) m) Gr):∃h',((h.at i).own=true/\(h.at i).live=true/\∃A,h'=h.put i A/\∀(ρ:Ren) w b d l,Qd ρ w b d l (h.at i)->Qd ρ w b d l A)/\Sp wm T h0 (ks wm i m::Gr) h':=by
 have s:=hS.get pk;have hw:wm<=i:=s.low i rfl;rcases s.at_.mem with⟨q,_⟩|⟨j,bs,Y6,q,h1,h2,_⟩
 ·cases q
 ·cases q;have ho:(h.at i).own=true:=by rw[h1];rfl
  have hl:(h.at i).live=true:=by rw[h1];rfl
  refine⟨_,⟨ho,hl,.Xr (Zq m),rfl,fun ρ w b d l o=>?_⟩,?_⟩
  ·rw[h1]at o;exact ZLw h2 o
  ·exact hS.one pk (t:=fun j=>j=i) ⟨K1 _,fun j _ hn=>Xg hn _,fun j e=>by rw[show j=i from e];exact⟨hw,ho⟩⟩ (fun j e=>by show some i=some j;rw[show j=i from e]) ⟨Z4 (YH rfl hl) _,hw,rfl⟩ fun j e=>.inl (by show some i=some j;rw[show j=i from e])
def WO.ks{Q:XX->Fs->Prop}{m:U (Y×Z)}(hS:Sp wm T h0 G h)(pk:Pk G (mp wm Value.string Value.bool (some i) m) Gr)(k:∀h',Sp wm T h0 (ZF.ks wm i m::Gr) h'->WO X n wm rd ops l ⟨fr,ds,h',none⟩ Q):WO X n wm rd ops l ⟨fr,ds,h,none⟩ Q:=by
 obtain⟨h',⟨ho,hl,A,rfl,hA⟩,hh⟩:=ZLv hS pk;obtain⟨e,s',hq,hk⟩:=k _ hh;have hw:=(hS.get pk).low i rfl;refine⟨e,s',hq,fun Q' ρ F a w hi Zt hF hq'=>hk Q' ⟨hi.rel.weak ho hl fun b d=>hA ρ w b d _,hi.fr,hi.ds⟩ (by simpa using Zt) hF fun e' a' w' hp=>hq' e' a' w' ?_⟩;obtain⟨ρ',h1,h2,h3⟩:=hp;exact⟨ρ',h1,h2,h3.weak hw ho hl⟩
section
variable{m:U (Y×Z)}{kt vt t:J}{s:Y}
def ZBD{P:V7}(hu:P.underlying t=some (.map kt vt))(hk:P.underlying kt=some .string)(hi:h.at i=.Xr (Zq m)):aks P h t (.map (some i)) (.string s)=some (vt,i,Zq m,s):=by
 have K:=ZcY.str hk;unfold aks;rw[hu];dsimp only;rw[hi,hk];dsimp only;rw[K.ok true s,K.ok false s];rfl
def ZBC{P:V7}{ok:Z}{k:N}(hi:h.at i=.Xr (Zq m)):WT P h t (.map (some i)) k ok=none/\∀x,XA P h t (.map (some i)) k x=none:=by
 have:ZbQ h (.map (some i))=none:=by unfold ZbQ;dsimp only;rw[hi]
 unfold WT XA;rw[this];exact⟨by split<;>first|rfl|contradiction,fun x=>by split<;>first|rfl|contradiction⟩
def ZJY{x y:V6}{ev:V6->O N}(hk:X.P.underlying kt=some .string)(hu:X.P.underlying t=some (.map kt vt))(hz:YF X.P vt=some (.bool false))(hx:ev x=some (.map (some i)))(hy:ev y=some (.string s))(hi:h.at i=.Xr (Zq m)):
 Xm X h ev ⟨d,.lookup t x y false,ty,p,af,g⟩=some (.val (.bool ((Zq m s).getD false)),.none):=by
 show(match ev x,ev y with|some m,some k=>vN (Ub X.P h t m k false) | _,_=>none)=_;rw[hx,hy];dsimp only
 have:Ub X.P h t (.map (some i)) (.string s) false=some (.bool ((Zq m s).getD false)):=by
  unfold Ub;rw[(ZBC hi).1,ZBD hu hk hi];dsimp only;cases Zq m s with
  | some b=>rfl
  | none=>dsimp only;rw[hz];rfl
 rw[this];rfl
def ZnB(m:U (Y×Z))(s:Y)(v:Z):(fun t=>bif t==s then some v else Zq m t)=Zq (Yk m s v):=by
 funext t;rw[Zh5];rw[Wi];by_cases e:t=s
 ·rw[e,decide_eq_true rfl,if_pos rfl];rfl
 ·rw[decide_eq_false e,if_neg e];rfl
def ZHf{x y z:V6}{v:Z}(hS:Sp wm T h0 G h)(pk:Pk G (ks wm i m) Gr)(hk:X.P.underlying kt=some .string)(hu:X.P.underlying t=some (.map kt vt))(hx:Yo fr x=some (.map (some i)))(hy:Yo fr y=some (.string s))(hz:Yo fr z=some (.bool v)):
 HU X wm ⟨none,.mapUpdate t x y z,ty,p,af,g⟩ fr h (fun j=>j=i) (fun h'=>Sp wm T h0 (ks wm i (Yk m s v)::Gr) h'):=by
 obtain⟨hi,hw,_⟩:=hS.get pk;have ho:(h.at i).own=true:=by rw[hi];rfl
 have hl:(h.at i).live=true:=by rw[hi];rfl
 refine⟨.upd i (.Xr (Zq (Yk m s v))),h.put i (.Xr (Zq (Yk m s v))),?_,?_,fun x0 e=>by cases e;rfl,K1 _,?_⟩
 ·show(match Yo fr x,Yo fr y,Yo fr z with|some m,some k,some x=>sE (Xd X.P h t m k x) | _,_,_=>none)=_;rw[hx,hy,hz];dsimp only
  have:Xd X.P h t (.map (some i)) (.string s) (.bool v)=some (.upd i (.Xr (Zq (Yk m s v)))):=by
   unfold Xd;rw[(ZBC (ok:=false) hi).2,ZBD hu hk hi];dsimp only;rw[ZnB]
  rw[this];rfl
 ·show(bif Nat.ble wm i&&(h.at i).own then some (h.put i _) else none)=_;rw[ho,Nm0 hw];rfl
 ·exact hS.one pk (t:=fun j=>j=i) ⟨K1 _,fun j _ hn=>Xg hn _,fun j e=>by rw[show j=i from e];exact⟨hw,ho⟩⟩ (fun j e=>e) ⟨Z4 (YH rfl hl) _,hw,rfl⟩ fun j e=>.inl e
end
end
end Go.ZF
end
end
section
set_option maxRecDepth 20000
noncomputable section
namespace Go.Proofs.YtbnepjakjmnadaaGreat
open Go.ZF Go.Lf
section
def ZJp{F wm h}{p0:Y}{r}(Zt:wm<=h.size)(hL:ZfH F p0=some r):
 WR XX 15 #[.string p0] wm h (CP (fun v (Gb:U (Ast wm))=>v=.bool r/\Gb=[]) [] h):=by
 refine bg Tryz.ntmps15 Zt Z7.nil ?_;intro T hT hS;unfold ZfH at hL;refine r9 ?_;refine Vi (Zdy Zk4 lk)<|r4 ?_;refine WC.loop (WL.lift hL (fun v5 s=>∃Qp h1,s=⟨Qp,[],h1,none⟩/\Sp wm T h [] h1/\Qp.at 0=.string p0/\Qp.at 5= Ve (p0.size:Int)/\Qp.at 6= Ve v5) ⟨_,_,rfl,hS.only .n,Y1⟩ ?_);rintro Zcf v5 s Zev hL ⟨Qp,h1,rfl,hS,e3,e4,e6⟩;refine r6 ?_;refine cn hL ?_ ?_
 ·intro hc hL;refine r14 ?_;obtain⟨z8,hz8,hL⟩:=bS hL;refine Vi (ZmJ Zk4 lk lk hz8)<|r4 ?_;obtain⟨z9,hz9,hL⟩:=QC hL;refine WO.gv (Zk.no rfl rfl rfl (Yb rfl fh)) rfl (fun hg=>(ZmJ Zk4 (JK (Zi rfl fh) rfl hg) (JK fh rfl hg) (hz9 hg)))<|r4 ?_;refine cn hL ?_ ?_
  ·intro hc hL;refine r11 ?_;exact rt hL hT hS
  ·intro hc hL;refine r7 ?_;exact ZM.YG (Zev _ _ hL ⟨_,_,rfl,hS.only .n,Y1⟩)
 ·intro hc hL;refine r8 ?_;refine Vi (Zdy Zk4 lk)<|r3 ?_;refine WO.gv (Zk.yes rfl rfl rfl (Zi rfl fh)) rfl (fun hg=>(Zdy Zk4 (JK fh rfl hg)))<|r3 ?_;refine WO.ZjU (Zk.yes rfl rfl rfl fh) (fun hk10=>?_) (fun hk10=>?_)
  ·replace hL:=XQ hk10 hL;obtain⟨x11,Zwp,hL⟩:=bS hL;refine WO.cl (Zk.on (Zk.yes rfl rfl rfl fh) hk10) rfl (Yh.fn ZMW Zd) hS .n (fun g' hz hf hO=>ZJc (hS.Vm hz) Zwp) ?_;rintro _ h13 _ ⟨m12,rfl,rfl⟩ hS;refine WO.w (Zk.on (Zk.yes rfl rfl rfl (Zi rfl fh)) hk10) rfl (Z0 lk) ?_;obtain⟨x15,ZnJ,hL⟩:=bS hL;refine WO.w (Zk.on (Zk.yes rfl rfl rfl (Yb rfl fh)) hk10) rfl (KA (kv:=Value.string) (vv:=Value.bool) (k:=p0) (z:=false) QZ XP ZbW (Zm (Zi rfl fh) rfl) (Zm fh rfl) (hS.get k0).at_ ZnJ (w:=.bool x15) rfl)<|WO.w (Zk.on (Zk.yes rfl rfl rfl (Yb rfl (Zi rfl fh))) hk10) rfl (ZeI lk)<|Vi (ZoA lk hk10 lk)<|r4 ?_;exact rt hL hT hS
  ·replace hL:=XR hk10 hL;refine WO.Zen (Zk.yes rfl rfl rfl fh) hk10 rfl<|WO.Zen (Zk.yes rfl rfl rfl (Zi rfl fh)) hk10 rfl<|WO.Zen (Zk.yes rfl rfl rfl (Yb rfl fh)) hk10 rfl<|WO.Zen (Zk.yes rfl rfl rfl (Yb rfl (Zi rfl fh))) hk10 rfl<|Vi (ZoB lk hk10 lk)<|r4 ?_;exact rt hL hT hS
def ZeC{F h}{p0:Y}{r}(hL:ZfH F p0=some r):Pure XX 15 #[.string p0] h (.bool r):=
 WR.Zcb rfl (ZJp Vh hL)
def LkS(wm:Nat)(h:H)(m:O Nat)(l:U (Y×Z)):Prop:=∀{h':H},Fz wm h h'->∀{ev:V6->O N}{d:O Nat}{x y:V6}{ty:J}{p:String}{af:Va Edge}{g:O (Nat×Z)}{s:Y}{v:Z},ev x=some (.map m)->ev y=some (.string s)->ZdL l s false=some v->Xm XX h' ev ⟨d,.lookup 70 x y false,ty,p,af,g⟩=some (.val (.bool v),.none)
def LkS.k{wm h i l}(hi:i<wm)(s:h.at i=.Xr (Zq l)):LkS wm h (some i) l:=fun f _ _ _ _ _ _ _ _ _ _ hx hy hv=>by
 rw[<-Oi0 hv];exact ZJY Zk4 XP ZbW hx hy ((f.low i hi (YH s rfl)).trans s)
def ZEi{F wm h}{p0:(U (Y×Z))}{ZpB:O Nat}{r}(Zt:wm<=h.size)(hlk:LkS wm h ZpB p0)(hL:ZAM F p0=some r):
 WR XX 54 #[.map ZpB] wm h (CP (fun v (Gb:U (Ast wm))=>v=.string r/\Gb=[]) [] h):=by
 refine WF.Qb (args:=[_]) (fn:=Tryz.f54) Kq0 (by exact rfl) Tryz.ntmps54 (by simp) ?_;simp only[Zl,Zn,Nat.reduceAdd];obtain⟨T,hT,hS⟩:∃T,T=Qm (wm:=wm) []/\Sp wm T h [] h:=⟨_,rfl,Sp.start Zt Z7.nil⟩
 unfold ZAM at hL;refine r3 ?_;rintro _ h2 ⟨b1,eb1,rfl,hS⟩;refine r1 ?_;rintro _ h4 ⟨b3,eb3,rfl,hS⟩;refine r4 ?_;refine WC.ZHm (first:=[]) (cap:=[]) hS ZEz ZMV ?_;intro h5 l6 df7 LO8 Zwu hS;refine WR.ZHE (r:=r) (fun(p:Y×Z)(v:N)(h10:H)=>match p with | (v12,Zx3)=>v=.tuple #[]/\Sp wm T h [bx wm b1 [.map ZpB],bx wm b3 [.string v12],ob wm l6 (lst Zx3 Code.ret LO8),ob wm df7 .deferred] h10) (Zn1) ?_ (WF.begin (args:=[_]) (fn:=Tryz.f99) Kq0 (by exact rfl) Tryz.ntmps99 (by simp) ?_)
 ·rintro⟨v12,Zx3⟩ v h10 hL ⟨rfl,hS⟩;rcases Ztm Zx3 with hc|hc
  ·replace hL:=XQ hc hL;rw[hc]at hS;refine RgS.stop (c:=Code.ret) Zwu hS k2 ?_;rintro h15 hS;refine r3 ?_;refine ZI.Zf5 hS k2 ?_;rintro h16 hS;have hr:=Oi0 hL;subst hr;exact ZI.gen rfl (Yn fh (Qf U3 (hS.UC k1) (j:=0) rfl (v:=.string v12) rfl) Zj) rfl ⟨_,⟨rfl,rfl⟩,hT▸hS.only .n⟩
  ·replace hL:=XR hc hL;rw[hc]at hS;refine RgS.sp Zwu hS k2 ?_;rintro h17 hS;refine r5 ?_;rintro h18 hS;refine r3 ?_;refine ZI.Zf5 hS k2 ?_;rintro h19 hS;have hr:=Oi0 hL;subst hr;exact ZI.gen rfl (Yn fh (Qf U3 (hS.UC k0) (j:=0) rfl (v:=.string (⟨#[]⟩:Y)) rfl) Zj) rfl ⟨_,⟨rfl,rfl⟩,hT▸hS.only .n⟩
 ·skip;simp only[Zl,Zn,Nat.reduceAdd];refine r6 ?_;refine WC.loop (WL.lift hL (fun p s=>match p with | (v23,v25,Zr8)=>∃ZDV h20,s=⟨ZDV,[],h20,none⟩/\Sp wm T h [bx wm b1 [.map ZpB],bx wm b3 [.string v25],ob wm l6 (lst Zr8 Code.ret LO8),ob wm df7 .deferred] h20/\ZDV.at 0=.func (.yield l6) #[] #[]/\ZDV.at 2= Ve v23) ⟨_,_,rfl,hS.only (.c k3 (.c k2 (.c k0 (.c k0 .n)))),Y1⟩ ?_);rintro Zjk ⟨v23,v25,Zr8⟩ s ZuN hL ⟨ZDV,h20,rfl,hS,e22,e24⟩;refine r15 ?_;have hS:=hS.nil (e:=(Zi7 .u8));refine WC.loop (WL.lift hL (fun p s=>match p with | (v32,v37)=>∃ZwC h28 a33 c34 n35,s=⟨ZwC,[],h28,none⟩/\Sp wm T h [ow wm (Zi7 .u8) a33 n35 c34 v32,bx wm b1 [.map ZpB],bx wm b3 [.string v25],ob wm l6 (lst Zr8 Code.ret LO8),ob wm df7 .deferred] h28/\ZwC.at 0=.func (.yield l6) #[] #[]/\ZwC.at 2= Ve v23/\ZwC.at 3=.slice a33 n35 c34/\ZwC.at 4= Ve v37) ⟨_,_,none,0,0,rfl,hS.only (.c k0 (.c k0 (.c k0 (.c k0 (.c k0 .n))))),Y1⟩ ?_);rintro ZyH ⟨v32,v37⟩ s ZDz hL ⟨ZwC,h28,a33,c34,n35,rfl,hS,e30,e31,e36,e38⟩;obtain rfl:=hS.on k0;refine r7 ?_;refine cn hL ?_ ?_
  ·intro hc hL;refine r7 ?_;obtain⟨x40,ZDi,hL⟩:=bS hL;refine Vi (YZ (Zm fh rfl) (U6 rfl) (Zxb ZDi))<|r1 ?_;refine Vi (ZJ1 ZP9 ZK0 lk)<|Vk (Zal (e:=(Zi7 .u8)) hS Zr3 ZFo ZE9 rfl rfl rfl (ZE lk ZV) rfl [((),IntKind.wrap .u8 (XO (97+x40)))] rfl (xs:=[IntKind.wrap .u8 (XO (97+x40))]) rfl (by intro q hq;simp only[Kd,G9,or_false]at hq;subst hq;exact trivial) rfl) ?_;rintro _ h42 ⟨b41,ZXt,rfl,hS⟩;refine r1 ?_;obtain⟨z43,ZQD,hL⟩:=bS hL;refine WO.hv gN rfl (KX (e:=(Zi7 .u8)) hS k0 Ztt lk lk (hS.Jk k1) rfl ZQD) ?_;rintro _ h46 ⟨a44,c45,rfl,hS⟩;refine r7 ?_;obtain⟨x47,ZQV,hL⟩:=bS hL;refine Vi (YZ (Zm fh rfl) (U6 rfl) (Zxc ZQV))<|r2 ?_;exact ZM.YG (ZDz _ _ hL ⟨_,_,a44,c45,z43.length,rfl,hS.only (.c k0 (.c k1 (.c k1 (.c k1 (.c k1 .n))))),Y1⟩)
  ·intro hc hL;refine r9 ?_;obtain⟨z48,ZQC,hL⟩:=bS hL;refine Vi (Zw1 Zr3 ZK0 Zk4 lk rfl (hS.Jk k0) ZQC) ?_;obtain⟨ZRn,hL⟩:=ZEH hL;rw[ZRn]at hS;refine WO.ZPG gN rfl lk lks hS k3 Zwu rfl rfl<|r3 ?_;refine AsS.sp Zwu hS k3 ?_;rintro h50 hS;refine r4 ?_;obtain⟨x51,ZHL,hL⟩:=bS hL;refine WO.cp gN rfl (Yh.fn ZjM (Zb lk Zd)) (ZeC ZHL)<|r3 ?_;obtain⟨x52,ZHK,hL⟩:=QC hL;refine WO.gv (Zk.yes rfl rfl rfl (Yb rfl fh)) rfl (fun hg=>(hlk hS.fz (JK (Zi rfl fh) rfl hg) (JK fh rfl hg) (ZHK hg)))<|r4 ?_;refine cn hL ?_ ?_
   ·intro hc hL;refine r4 ?_;rintro h53 hS;refine r4 ?_;refine BdS.stop .ret Zwu hS k1 ?_;rintro h54 hS;refine r3 ?_;refine cn hL ?_ ?_
    ·intro hc hL;refine r5 ?_;exact YK.gen (vs:=[]) rfl Zj rfl ⟨_,hL,⟨rfl,hS.only (.c k3 (.c k1 (.c k0 (.c k1 .n))))⟩⟩
    ·intro hc hL;refine r8 ?_;exact ZM.YG (ZuN _ _ hL ⟨_,_,rfl,hS.only (.c k3 (.c k1 (.c k0 (.c k1 .n)))),Y1⟩)
   ·intro hc hL;refine r2 ?_;refine BdS.sp Zwu hS k0 ?_;rintro h55 hS;refine r3 ?_;refine cn hL ?_ ?_
    ·intro hc hL;refine r5 ?_;exact YK.gen (vs:=[]) rfl Zj rfl ⟨_,hL,⟨rfl,hS.only (.c k2 (.c k2 (.c k0 (.c k1 .n))))⟩⟩
    ·intro hc hL;refine r8 ?_;exact ZM.YG (ZuN _ _ hL ⟨_,_,rfl,hS.only (.c k2 (.c k2 (.c k0 (.c k1 .n)))),Y1⟩)
def ZEh{F h i}{p0:(U (Y×Z))}{r}(s:h.at i=.Xr (Zq p0))(hL:ZAM F p0=some r):Pure XX 54 #[.map (some i)] h (.string r):=
 WR.Zcb rfl (ZEi Vh (LkS.k (YH s rfl) s) hL)
end
section
open Go.ZF Go.RowKit
def ZaL(fn:Func):Code:=fn.body.getD .skip
def U5:Nat->Code->Code
 | 0,c=>c
 | k+1,.seq _ b=>U5 k b
 | _+1,c=>c
def Zi0(ih:Qn->O YP)(n:Nat):Nat->Code->Fs->O Fs
 | 0,_,s=>some s
 | k+1,.seq a b,s=>match ih (.code a n 0 none s) with
   | some (.code .normal s1)=>Zi0 ih n k b s1
   | _=>none
 | _+1,_,_=>none
def ZhR:Nat->Fr
 | 0=>.nil
 | n+1=>Tr.set (ZhR n) n ZoI
def ZES(n:Nat):Fs:= {fr:=ZhR n,ds:=[],h:=⟨.nil,0⟩}
def Zru(n t:Nat):(ZhR n).at t=if t<n then ZoI else undef:=by
 induction n with
 | zero=>rfl
 | succ n ih=>
   unfold Fr.at at ih ⊢;rw[ZhR,Tr.XE];by_cases h:t=n
   ·subst h;simp
   ·rw[if_neg h,ih];by_cases h2:t<n
    ·rw[if_pos h2,if_pos Vg]
    ·rw[if_neg h2,if_neg Vg]
def ZBx{n:Nat}{a:Act}{w:V9}(h1:a.tmps.size=n)(h2:a.defers=[]):Inv ZpH n (ZES n) a w:=by
 refine⟨⟨fun _ _ _ e=>(by cases e),fun _ _ _ e=>(by cases e),fun _ _ _ _ _ e=>(by cases e)⟩,⟨h1,fun t ht=>?_⟩,?_⟩
 ·have e:(ZES n).fr.at t=if t<n then ZoI else undef:=Zru n t
  rw[e]at ht ⊢;by_cases h:t<n
  ·rw[if_pos h]at ht;cases ht
  ·rw[if_neg h,Q4,V5 Vg];exact VR.undef _
 ·rw[h2];exact .nil
variable{X:Ctx}{k:Nat}
def Znj{ih:Qn->O YP}(HI:∀j r,ih j=some r->Yq X j r){n:Nat}{Q:Exit->Act->V9->Prop}:∀(m:Nat)(c:Code)(s s':Fs),Zi0 ih n m c s=some s'->∀(ρ:Ren)(a:Act)(w:V9),Inv ρ n s a w ->
 (∀ρ' a' w',Inv ρ' n s' a' w'->Stp 0 ρ s.h w ρ' s'.h w'->(U5 m c).wpIn base 0 X.P Q a' w')->c.wpIn base 0 X.P Q a w:=by
 intro m
 induction m with
 | zero=>intro c s s' h ρ a w hi hk;cases h;exact hk ρ a w hi (Stp.refl _ _ _ _)
 | succ m ihm=>
   intro c s s' h ρ a w hi hk;cases c with
   | seq x y=>
     simp only[Zi0]at h;split at h
     ·rename_i s1 h1;refine wpIn_seq (wpIn_mono (HI _ _ h1 ρ a w base (Gv _) hi rfl) ?_);rintro e' a' w' ⟨ρ',he,hi',hst⟩;cases he;exact ihm y s1 s' h ρ' a' w' hi' fun ρ2 a2 w2 hi2 ZdO=>hk ρ2 a2 w2 hi2 (hst.trans hi.rel.lt ZdO)
     ·cases h
   | _=>cases h
def ZvU{ρ ρ':Ren}{h':H}{w w':V9}{h:H}(hρ:ρ=ZpH)(st:Stp 0 ρ h w ρ' h' w'):Below w.heap.size w w':=by
 subst hρ;exact st.below fun i b d _ e=>by cases e
end
section
open Go.ZF Go.RowKit
def mkS(n:Nat)(fv:U (Nat×N))(ov:U (Nat×YD))(sz:Nat):Fs:=
 {fr:=fv.foldr (fun p f=>Tr.set f p.1 p.2) (ZhR n),ds:=[],h:=⟨ov.foldr (fun p t=>Tr.set t p.1 p.2) .nil,sz⟩}
def Zpz(n:Nat)(K O':U Nat)(s:Fs):Fs:=mkS n (K.map fun t=>(t,s.fr.at t)) (O'.map fun i=>(i,s.h.at i)) s.h.size
def Jc(ih:Qn->O YP)(n:Nat)(K O':U Nat)(m:Nat)(c:Code)(s:Fs):O Fs:=
 match Zi0 ih n m c s with
 | some s1=>match s1.ds with
   | []=>some (Zpz n K O' s1)
   | _::_=>none
 | none=>none
def Zk9{ih:Qn->O YP}{n m:Nat}{K O':U Nat}{c:Code}{s s':Fs}(h:Jc ih n K O' m c s=some s'):∃s1,Zi0 ih n m c s=some s1/\s1.ds=[]/\s'=Zpz n K O' s1:=by
 unfold Jc at h;split at h
 ·rename_i s1 h1;split at h
  ·rename_i h2;cases h;exact⟨s1,h1,h2,rfl⟩
  ·cases h
 ·cases h
def Zqu{α:Type}(g:Nat->α)(t0:Tr α):∀(K:U Nat)(t:Nat),((K.map fun t=>(t,g t)).foldr (fun p f=>Tr.set f p.1 p.2) t0).get t=if t∈K then some (g t) else t0.get t:=by
 intro K
 induction K with
 | nil=>intro t;simp
 | cons k K ih=>
   intro t;simp only[Gd,List.foldr_cons,Tr.XE,ih];by_cases h:t=k
   ·subst h;simp
   ·simp[h]
def Zym{ρ:Ren}{n:Nat}{K O':U Nat}{s:Fs}{a:Act}{w:V9}(hi:Inv ρ n s a w)(hd:s.ds=[]):Inv ρ n (Zpz n K O' s) a w:=by
 have hat:∀i,(Zpz n K O' s).h.at i=if i∈O' then s.h.at i else .dead:=by
  intro i;show H.at ⟨_,s.h.size⟩ i=_;by_cases hlt:i<s.h.size
  ·have hb:Nat.blt i s.h.size=true:=by rw[G6];exact hlt
   have hf:=Zqu (fun i=>s.h.at i) Tr.nil O' i;show(bif Nat.blt i s.h.size then(Tr.get (List.foldr _ Tr.nil (O'.map fun i=>(i,s.h.at i))) i).getD YD.dead else YD.dead)=_;rw[hb,Cq1,hf];by_cases ho:i∈O'
   ·rw[if_pos ho,if_pos ho];rfl
   ·rw[if_neg ho,if_neg ho];rfl
  ·have hb:Nat.blt i s.h.size=false:=by rw[Gh];intro z;rw[G6]at z;omega
   rw[H.Za8 (h:=s.h) Vg];simp[H.at,hb]
 refine⟨⟨hi.rel.dom,fun i b d e=>?_,fun i j b d d' e e' ho hl=>?_⟩,⟨hi.fr.size,fun t ht=>?_⟩,?_⟩
 ·rw[hat];split
  ·exact hi.rel.obj i b d e
  ·trivial
 ·rw[hat]at ho hl;split at ho
  ·split at hl
   ·exact hi.rel.inj i j b d d' e e' ho hl
   ·cases hl
  ·cases ho
 ·have e:(Zpz n K O' s).fr.at t=if t∈K then s.fr.at t else(ZhR n).at t:=by
   have hf:=Zqu (fun t=>s.fr.at t) (ZhR n) K t;show(Tr.get (List.foldr _ (ZhR n) (K.map fun t=>(t,s.fr.at t))) t).getD undef=_;rw[hf];split<;>rfl
  rw[e]at ht ⊢;split at ht
  ·rw[if_pos (by assumption)];exact hi.fr.val t ht
  ·rename_i hn;rw[if_neg hn];rw[Zru]at ht ⊢;by_cases h:t<n
   ·rw[if_pos h]at ht;cases ht
   ·have:=hi.fr.size;rw[if_neg h,Q4,V5 Vg];exact VR.undef _
 ·have h:=hi.ds;rw[hd]at h;exact h
variable{X:Ctx}
inductive WV(X:Ctx)(fn:Func):Code->Fs->Prop
 | last {c:Code} {s:Fs} {k:Nat} (h:isTrue (Zf6 (fun e s=>match xPM e with
    | some pm=>ev (cfg X fun _=>false) k (.leave fn 0 pm s)
    | none=>none) (ev (cfg X fun _=>false) k (.code c fn.ntmps 0 none s)))=true):WV X fn c s
 | seg {c:Code} {s s':Fs} {k:Nat} (m:Nat) (K O':List Nat) (h:Jc (ev (cfg X fun _=>false) k) fn.ntmps K O' m c s=some s') (t:WV X fn (U5 m c) s'):WV X fn c s
def ZvQ(m:Nat):∀(k:Nat)(c:Code),U5 m (U5 k c)=U5 (k+m) c:=by
 intro k
 induction k with
 | zero=>intro c;rw[G4];rfl
 | succ k ih=>
   intro c;rw[Nat.add_right_comm];cases c with
   | seq a b=>exact ih b
   | _=>cases m<;>rfl
def WV.Zpm{fn:Func}{body:Code}{s s':Fs}{k pos:Nat}(m:Nat){K O':U Nat}(h:Jc (ev (cfg X fun _=>false) k) fn.ntmps K O' m (U5 pos body) s=some s')(t:WV X fn (U5 (pos+m) body) s'):WV X fn (U5 pos body) s:=
 .seg m K O' h (by rw[ZvQ];exact t)
def Zx0{ρ ρ':Ren}{w w':V9}{h' h2:H}(st:Stp 0 ρ ⟨.nil,0⟩ w ρ' h' w')(hs:h2.size=h'.size):Stp 0 ρ ⟨.nil,0⟩ w ρ' h2 w':=
 ⟨st.ext,by rw[hs];exact st.size,fun i hi=>absurd hi (Nat.not_lt_zero _),fun i hi=>absurd hi (Nat.not_lt_zero _),fun i hi=>absurd hi (Nat.not_lt_zero _),st.os,st.tape,st.output,st.Y8,st.frame,st.Jv⟩
def WV.sound{fn:Func}(hm:X.P.follows .mixedOrders=true){c:Code}{s:Fs}(h:WV X fn c s):∀(ρ:Ren)(a:Act)(w w0:V9),Inv ρ fn.ntmps s a w->Stp 0 ZpH ⟨.nil,0⟩ w0 ρ s.h w ->
 c.wpIn base 0 X.P (bodyPostM base 0 X.P fn (fun e w'=>e=.returned (.bool true)/\Below w0.heap.size w0 w')) a w:=by
 have hd0:∀i p,ZpH i=some p->i<(⟨.nil,0⟩:H).size:=fun i p e=>by cases e
 induction h with
 | last h=>
   intro ρ a w w0 hi ZnM;rename_i s k;obtain⟨h',hc⟩:=ZpV h;obtain⟨e,s1,ha,hk⟩:=Q5 hc;have ka:=Zc5 (X:=X) (YX:=fun _=>false) hm k _ _ ha;split at hk
   ·rename_i pm hpm;have hj:=Zc5 (X:=X) (YX:=fun _=>false) hm k _ _ hk;refine wpIn_mono (ka ρ a w base (Gv _) hi rfl) ?_;rintro e' a' w' ⟨ρ',he,hi',hst⟩
    have fin:∀e2 w2,UX 0 ρ' s1.h w' (.ret (.bool true)) h' e2 w2->e2=.returned (.bool true)/\Below w0.heap.size w0 w2:=by
     rintro e2 w2 ⟨ρ2,hr,hrel,ZdO⟩;have hbb:=ZvU rfl ((ZnM.trans hd0 hst).trans hd0 ZdO);refine⟨?_,hbb⟩;cases hr with
     | ret hv=>cases hv;rfl
    cases he with
    | normal=>cases hpm;exact hj ρ' _ a' .returning w' _ (Gv _) hi' .ret fin
    | ret=>cases hpm;exact hj ρ' _ a' .returning w' _ (Gv _) hi' .ret fin
    | panic hv'=>cases hpm;exact hj ρ' _ a' _ w' _ (Gv _) hi' (.ZX hv') fin
    | exit id=>cases hpm
    | goto l=>cases hpm
   ·cases hk
 | seg m K O' h t iht=>
   intro ρ a w w0 hi ZnM;rename_i c s s' k;obtain⟨s1,h1,h2,rfl⟩:=Zk9 h;refine Znj (Zc5 (X:=X) (YX:=fun _=>false) hm k) m c s s1 h1 ρ a w hi fun ρ' a' w' hi' hst=>?_
   exact iht ρ' a' w' w0 (Zym hi' h2) (Zx0 (ZnM.trans hd0 hst) rfl)
def Ztf(X:Ctx)(hX:X.P=Tryz.prog){f:V8}(hlt:f<nfs){fn:Func}{c:Code}(hf:Tryz.prog.funcs[f]? =some fn)(hb:fn.body=some c)(h:WV X fn c (ZES fn.ntmps))(w:V9):
 CallsIn base 0 Tryz.prog f #[] w fun e w'=>e=.returned (.bool true)/\Below w.heap.size w w':=by
 rw[<-hX]at hf ⊢;refine(callsIn_of_wp_marks hf hb hlt (h.sound (by rw[hX];exact mixed) ZpH _ w w (ZBx ?_ rfl) (Stp.refl _ _ _ _)) ?_)
 ·simp
 ·rfl
end
end Go.Proofs.YtbnepjakjmnadaaGreat
end
end
