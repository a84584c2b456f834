/- Part 11. -/
import Derived.Laws.Strings
import Derived.Test.YtbnepjakjmnadaaGreatFa10
set_option linter.all false
set_option maxHeartbeats 2000000
section
noncomputable section
namespace Go.ZY
open Go.Lf
section
variable{X:Ctx}{P:GQ}{h:H}{ev:GP->O N}{d:O Tmp}{ty:J}{p:String}{af:GT Edge}{g:O (Nat×Z)}
def Kl{x:GP}{t:J}{s:Y}(hu:X.P.underlying t=some .string)(hx:ev x=some (.string s)):
 Xu X h ev ⟨d,.call {callee:=.builtin .len,args:=#[x],argTypes:=#[t]},ty,p,af,g⟩=some (.val (GX (s.size:Int)),.none):=by
 have he:evs ev [x]=some [.string s]:=Zb hx Zd;rw[Wh]
 show(match evs ev [x] with
  | some args=>Wi X.P h .len #[t] ty args
  | none=>none)=_
 rw[he];show vN (ZsM X.P h t (.string s))=_;unfold ZsM;rw[hu];rfl
def Zdf{x y:GP}{t:J}{s:Y}{i z:Int}(hu:X.P.underlying t=some .string)(hx:ev x=some (.string s))(hy:ev y=some (GX i))(hz:Zhh s i=some z):
 Xu X h ev ⟨d,.index t x y,ty,p,af,g⟩=some (.val (.int .u8 z),.none):=by
 show(match ev x,ev y with
  | some x,some i=>bif plain x&&plain i then pN (Ku X.P (Instr.index t x i)) else vN (Zie X.P t x i)
  | _,_=>none)=_
 rw[hx,hy];show pN (Ku X.P (Instr.index t (.string s) (GX i)))=_
 have:Zz X.P (Instr.index t (.string s) (GX i))=some (.ok (.int .u8 z)):=by
  unfold Instr.index;show Zz X.P (underlying t >>=_)=_;rw[prb (Y6 hu)];unfold Zhh at hz;dsimp only;generalize (if 0<=i then s[i.toNat]? else none)=o at hz ⊢;cases o with
  | some b=>cases hz;rfl
  | none=>cases hz
 unfold Ku;rw[this];rfl
def ZJm(a b:Y):(a==b)=decide (a=b):=by
 rw[Bool.eq_iff_iff,decide_eq_true_iff];cases a with|mk a=>cases b with|mk b=>
 show(a==b)=true↔_;simp
def ZER(a b:Y):(a.toList==b.toList)=decide (a=b):=by
 rw[Bool.eq_iff_iff,decide_eq_true_iff,beq_iff_eq,ByteArray.toList_eq,ByteArray.toList_eq];exact⟨fun e=>by cases a;cases b;simp at e;simp[e],fun e=>by rw[e]⟩
def Zkz{op:BinOp}{t:J}{x y:GP}{a b:Y}{r:Z}(ho:Op.stringOp op a b=pure (.bool r))(hq:op=.eql\/op=.neq\/op=.lss):QM P op t x y (.string a) (.string b)=some (.val (.bool r),.none):=by
 have hp:(plain (.string a)&&plain (.string b))=true:=rfl;unfold QM;rw[hp,Cq1]
 have hb:binOp op t (.string a) (.string b)=pure (.bool r):=by
  rcases hq with rfl|rfl|rfl<;>exact ho
 have hg:(do eqGuard op t x y (.string a) (.string b);binOp op t (.string a) (.string b):Sem N)=pure (.bool r):=by
  rw[hb];rcases hq with rfl|rfl|rfl<;>rfl
 rw[hg];rfl
def Uo{t:J}{x y:GP}{a b:Y}:QM P .eql t x y (.string a) (.string b)=some (.val (.bool (decide (a=b))),.none):=Zkz (by rw[<-ZER];rfl) (.inl rfl)
def ZeA{t:J}{x y:GP}{a b:Y}:QM P .neq t x y (.string a) (.string b)=some (.val (.bool (!decide (a=b))),.none):=Zkz (by rw[<-ZER];rfl) (.inr (.inl rfl))
def ZsU{t:J}{x y:GP}{a b:Y}:QM P .lss t x y (.string a) (.string b)=some (.val (.bool (Zdu a b)),.none):=Zkz (by unfold Zdu;rw[<-ByteArray.toList_eq,<-ByteArray.toList_eq];rfl) (.inr (.inr rfl))
def Zhf.str{kt:J}(hu:P.underlying kt=some .string):Zhf P kt Value.string where
 pl:=fun _=>rfl
 ok:=fun e x=>by
  unfold Zbd;rw[show(10000:Nat)=9999+1 from rfl,ZI4 hu];rfl
 same:=fun x=>by simp[Instr.sameBits,ZJm]
 eq:=fun x y=>by
  have:=ZIT (P:=P) (d:=9999) (a:=x) (b:=y) hu;rw[ZJm]at this;exact this
 kind:=⟨_,hu,.inr fun x y=>by simp only[Instr.sameNow,ZJm]⟩
end
section
variable{X:Ctx}{n wm:Nat}{rd:O Nat}{ops:GT Oper}{l:U Oper}{rest:Code}{bs:U Nat}
variable{G Gr:U (Ast wm)}{h h0:H}{T0:Nat->Prop}{fr:Fr}{ds:U GV}{ty:J}{p:String}{af:GT Edge}{g:O (Nat×Z)}{κ ν:Type}{kv:κ->N}{vv:ν->N}{ll:U (κ×ν)}{d:Nat}
def At.rk{it:Nat}{h h2:H}{b o:Nat}{vs:U N}(s:At h b o vs)(k:RK it h h2):At h2 b o vs:=by
 obtain⟨cs,own,z,h1,h2',h3⟩:=s;obtain⟨a,b',c,d,e1⟩:=k.it_;exact⟨cs,own,z,by rw[k.at_ b fun z'=>(by rw[z',e1]at h1;cases h1)];exact h1,h2',h3⟩
def WL.ZKM{Q:XX->Fs->Prop}{id:Nat}{o:Oper}{t it m X8:Nat}{bs:U Nat}{b:κ->ν->O Z}{q:Z}(T:U Nat)(v:N)(hq:ZlM b ll=some q)(hS:Sp wm T0 h0 G h)(pi:Pk G (ob wm it (.iter m X8 X8 none)) Gr)(hat:fr.at t=(GY it))(hm:h.at m=.map (Xy kv vv ll bs) X8)(hb:bs.length=ll.length/\bs.Nodup/\∀x∈bs,x<X8)
 (hops:ops.toList=o::l) (hop:o.op=.next (.tmp t) false) (hgu:o.guard=none) (hd:o.dst=some d) (hdn:Nat.blt d n=true) (hT:T.contains t=false) (hdT:T.contains d=true) (hv:plain v=true)
 (body:∀(x:κ×ν)(p:Z),b x.1 x.2=some p->∀h2 fr',Agr T fr fr'->RK it h h2->Sp h.size (Ji ([]:U (Ast h.size))) h2 [] h2->ZEe kv vv h2 it x->WO X n h.size rd ops l ⟨Tr.set fr' d (.tuple #[.bool true,kv x.1,vv x.2]),ds,h2,none⟩ (ZP X n h.size rd rest (Zs1 T fr' ds v p)))
 (over:q=false->∀h' fr',Agr T fr fr'->Sp wm T0 h0 Gr h'->WO X n wm rd ops l ⟨Tr.set fr' d (.tuple #[.bool false]),ds,h',none⟩ (ZP X n wm rd rest (ZEb Q)))
 (Yd:q=true->∀h' fr',Agr T fr fr'->Sp wm T0 h0 Gr h'->Q (.panic v) ⟨fr',ds,h',none⟩):WL X n wm rd (.seq (.region id ops false) rest) ⟨fr,ds,h,none⟩ Q:=by
 obtain⟨hb1,hb2,hb3⟩:=hb;obtain⟨o1,o2,o3⟩:=hS.get pi;obtain⟨m1,m2⟩:=ZiW hq
 have ZHv:Agr T fr (YC T fr):=fun t' v' ht' hv'=>by
  rw[Xw,if_neg (fun z=>by rw[<-Gu]at z;rw[z]at ht';cases ht'),hv']
 have htT:t∉T:=fun z=>by rw[<-Gu]at z;rw[z]at hT;cases hT
 have ZQY:d∈T:=Gu.1 hdT;have ZQO:m≠it:=fun z=>by rw[z,o1]at hm;cases hm
 classical
 let pn:Nat->Z:=fun bn=>decide (∃(j:Nat) (y:κ×ν),ll[j]? =some y/\bs[j]? =some bn/\b y.1 y.2=some true)
 have ZmS:∀(j:Nat)(y:κ×ν)(bn:Nat),ll[j]? =some y->bs[j]? =some bn->∀p,b y.1 y.2=some p->pn bn=p:=by
  intro j y bn h1 h2 p hp;cases p with
  | true=>exact decide_eq_true ⟨j,y,h1,h2,hp⟩
  | false=>
    refine decide_eq_false ?_;rintro⟨j',y',h1',h2',hp'⟩
    have hj:j'=j:=by
     obtain⟨q1,e1⟩:=Li0 h2';obtain⟨q2,e2⟩:=Li0 h2;exact(List.getElem_inj hb2).1 (e1.trans e2.symm)
    subst hj;rw[h1]at h1';cases h1';rw[hp]at hp';cases hp'
 have ZFl:Sp wm T0 h0 Gr (h.put it .dead):=
  Sp.step (Ga:=[ob wm it (.iter m X8 X8 none)]) (Gb:=[]) (hS.perm pi.perm) (Up.put o2 (by rw[o1];rfl)) (fun i e=>⟨_,G9.2 rfl,e⟩) Yb.nil fun i ⟨A,mm,f⟩=>by simp at mm
 have Zjj:∀x∈Xy kv vv ll bs,∃ex s3,(s3.ds=ds/\(∀t,t∉T->s3.fr.at t=fr.at t)/\(ex=.normal/\pn x.born=false\/ex=.panic v/\pn x.born=true))/\∀{ρ:Ren}{F:Fence}{a:Act}{w:GS},Inv ρ n {fr:=Jh (YC T fr) o.dst (.tuple #[.bool true,x.key,x.val]),ds:=ds,h:=h.put it (.iter m X8 X8 (some x.born)),wr:=none} a w->h.size<=(h.put it (.iter m X8 X8 (some x.born))).size->K4 ρ rd F->∀Q':Exit->Act->GS->Prop,
  (∀e' a' w',XE h.size n ρ (h.put it (.iter m X8 X8 (some x.born))) w ex s3 e' a' w'->Q' e' a' w')->wpListIn F 0 X.P ops (Exit.then (rest.wpIn F 0 X.P Q') Q') l a w:=by
  intro x hx;obtain⟨j,y,bn,h1,h2,rfl⟩:=ZoV hx;obtain⟨p,hp⟩:=m1 y (GD.2 ⟨j,h1⟩);have hpn:=ZmS j y bn h1 h2 p hp;have hsz:(h.put it (.iter m X8 X8 (some bn))).size=h.size:=H.size_put _ _ _;have e1:(h.put it (.iter m X8 X8 (some bn))).at it=.iter m X8 X8 (some bn):=YX (Qt o1 rfl) _;have e2:(h.put it (.iter m X8 X8 (some bn))).at m=.map (Xy kv vv ll bs) X8:=by rw[XL ZQO,hm]
  have hent:ZEe kv vv (h.put it (.iter m X8 X8 (some bn))) it y:=by
   unfold ZEe Zex;simp only[e1,e2,Nat.beq_refl,Cq1,ZlN hb2 h1 h2]
  obtain⟨ex,s3,⟨q1,q2,q3⟩,q4⟩:=WO.body (body y p hp (h.put it (.iter m X8 X8 (some bn))) (YC T fr) ZHv ⟨⟨_,_,_,_,o1⟩,fun i hi=>XL hi _⟩ (Sp.start (Nat.le_of_eq hsz.symm) Yb.nil) hent);refine⟨ex,s3,⟨q1,fun t' ht'=>?_,?_⟩,?_⟩
  ·rw[q2 t' ht',Xw,if_neg ht']
  ·dsimp only;rw[hpn];exact q3
  ·rw[hd];intro ρ F a w i1 i2 i3 Q' i4;exact q4 i1 i2 i3 Q' i4
 have key:=fun(e:XX)(s2:Fs)=>Zxz (X:=X) (n:=n) (wm:=wm) (rd:=rd) (rest:=rest) (id:=id) (s:=⟨fr,ds,h,none⟩) (e:=e) (s2:=s2) (T:=T) (v:=v) pn hops hop hgu hat o1 hm V0 (ZiX hb2 hb3) o2 htT hd (by rwa[Jn]at hdn) ZQY hv Zjj
 cases q with
 | true=>
   refine⟨.panic v,⟨YC T fr,ds,h.put it .dead,none⟩,Yd rfl _ _ ZHv ZFl,key _ _ (fun hall=>?_) fun _=>⟨rfl,rfl⟩⟩;exfalso;obtain⟨y,hy,hyb⟩:=m2.1 rfl;obtain⟨j,hj⟩:=GD.1 hy;have hjl:=(Li0 hj).1;have h2:bs[j]? =some (bs[j]'GZ):=Gl _;have:=hall _ (ZB6 hj h2);rw[ZmS j y _ hj h2 true hyb]at this;cases this
 | false=>
   obtain⟨e,s2,⟨q1,q2⟩,q3⟩:=WO.body (over rfl _ _ ZHv ZFl);refine⟨e,s2,q2,key e s2 (fun _=>⟨q1,?_⟩) fun⟨x,hx,hp⟩=>?_⟩
   ·rw[hd];intro ρ F a w i1 i2 i3 Q' i4;exact q3 i1 i2 i3 Q' i4
   ·exfalso;obtain⟨j,y,bn,h1,h2,rfl⟩:=ZoV hx;obtain⟨p,hp'⟩:=m1 y (GD.2 ⟨j,h1⟩);have hpn:=ZmS j y bn h1 h2 p hp';rw[show pn bn=true from hp]at hpn;subst hpn;exact absurd (m2.2 ⟨y,GD.2 ⟨j,h1⟩,hp'⟩) (by simp)
def Y7.Zke{T:Nat->Prop}{df:Nat}{fn:Func}{pm:PM}{R:UN->H->Prop}(hS:Sp wm T h0 G h)(pk:Pk G (ob wm df .deferred) Gr)(k:∀h',Sp wm T h0 Gr h'->Y7 X fn wm R pm ⟨fr,ds,h',none⟩):Y7 X fn wm R pm ⟨fr,⟨.collected df,#[]⟩::ds,h,none⟩:=by
 obtain⟨h1,h2,h3⟩:=hS.get pk;have hu:Up wm (fun i=>i=df) h (h.put df .dead):=Up.put h2 (by rw[h1];rfl);obtain⟨E,h',hR,hj⟩:=k _ (Sp.step (Ga:=[ob wm df .deferred]) (Gb:=[]) (hS.perm pk.perm) hu (fun i e=>⟨_,G9.2 rfl,e⟩) Yb.nil fun i ⟨A,m,f⟩=>by simp at m);exact⟨E,h',hR,ZlT h1 h2 hj⟩
section
variable{fn:Func}{R:UN->H->Prop}{s:Fs}{v:N}{pm:PM}
def Y7.ZN1{f:GR}{fn2:Func}{c:Code}{YI:U N}{n2:Nat}(hf:X.fns.get f=some fn2)(hb:fn2.body=some c)(hnt:fn2.ntmps=n2)(hn:YI.length<=n2)(hr:fn2.results.toList=[])
 (k:DC X n2 wm c pm ⟨XZ YI 0 .nil,[],h,none⟩ (DEn X fn wm R fr ds)):Y7 X fn wm R pm ⟨fr,⟨.fn (.func f) #[],YI.toArray⟩::ds,h,none⟩:=by
 subst hnt;obtain⟨e,WZ,s',⟨rfl,hno,E,h',hR,jl⟩,jd⟩:=k;obtain⟨fr',ds',h2,wr'⟩:=s';dsimp only at hno jl;subst hno
 have jc:Yx X (.dcall f (YI++([]:U N)).toArray pm wm h) (.Zdr WZ h2):=by
  refine ZdH (C:=cfg X fun _=>false) (ih:=JD (.Xr c fn2.ntmps wm pm ⟨XZ YI 0 .nil,[],h,none⟩) (.Xr .normal WZ ⟨fr',[],h2,wr'⟩)) (Xl jd) ?_;unfold ZfI;have hf':(cfg X fun _=>false).X.fns.get f=some fn2:=hf;rw[hf'];dsimp only;rw[hb];dsimp only;have e1:Nat.ble (YI++([]:U N)).toArray.toList.length fn2.ntmps=true:=Nm0 (by rw[Gp];exact hn);rw[e1,Cq1];rw[Gp,Xm];unfold ZAg;dsimp only;have e3:QE (cfg X fun _=>false).X.P fn2 fr' h2=some (.tuple #[]):=by unfold QE;rw[hr];rfl
  rw[e3]
 refine⟨E,h',hR,?_⟩
 classical
 let ih:Qo->O YO:=fun j=>if j=.dcall f (YI++([]:U N)).toArray pm wm h then some (.Zdr WZ h2) else if j=.leave fn wm (ZhX WZ) ⟨fr,ds,h2,none⟩ then some (.fin E h') else none
 refine Jd (C:=cfg X fun _=>false) (ih:=ih) ?_ ?_
 ·intro j r e;dsimp only[ih]at e;split at e
  ·rename_i hj;cases e;rw[hj];exact jc
  ·split at e
   ·rename_i hj;cases e;rw[hj];exact jl
   ·cases e
 ·unfold Ug;dsimp only;have hf':(cfg X fun _=>false).X.fns.get f=some fn2:=hf;rw[hf'];dsimp only;have i1:ih (.dcall f (YI.toArray.toList++(#[]:GT N).toList).toArray pm wm h)=some (.Zdr WZ h2):=by dsimp only[ih];rw[if_pos rfl]
  rw[i1];dsimp only[ih];rw[if_neg (by intro q;cases q),if_pos rfl]
end
def WO.ZRX{Q:XX->Fs->Prop}{fo x:GP}{ts:GT J}{f:GR}{v:N}(hg:Z7 ops ⟨none,.defer {callee:=.value fo,args:=#[x],argTypes:=ts},ty,p,af,g⟩ fr)(hf:YF fr fo=some (.func (.func f) #[] #[]))(hx:YF fr x=some v)
 (k:WO X n wm none ops l ⟨fr,⟨.fn (.func f) #[],#[v]⟩::ds,h,none⟩ Q):WO X n wm none ops (⟨none,.defer {callee:=.value fo,args:=#[x],argTypes:=ts},ty,p,af,g⟩::l) ⟨fr,ds,h,none⟩ Q:=by
 refine WO.cons (KQ X) (s1:=⟨fr,⟨.fn (.func f) #[],#[v]⟩::ds,h,none⟩) ?_ k;have he:evs (YF fr) [x]=some [v]:=Zb hx Zd
 have ha:Xu X h (YF fr) ⟨none,.defer {callee:=.value fo,args:=#[x],argTypes:=ts},ty,p,af,g⟩=some (.dfr ⟨.fn (.func f) #[],#[v]⟩,.none):=by
  show(match Callee.value fo,evs (YF fr) [x] with
   | .value f,some args=>match YF fr f with
     | some (.func (.func g) first cap)=>some (AN.dfr {target:=.fn (.func g) cap,args:=first++args.toArray},Eff.none)
     | _=>none
   | _,_=>none)=_
  rw[he];dsimp only;rw[hf];rfl
 unfold JV;rw[hg.1,hg.2];dsimp only[KK,Cq0,Cq1];rw[ha]
 rfl
section
variable{P:GQ}
def Zv1{t a:J}{x:GP}{v:N}{ms}(hp:plain (.iface a v)=true)(hu:P.underlying t=some (.interface ms)):QM P .neq t x (.const .nilIface) (.iface a v) .nilIface=some (.val (.bool true),.none):=by
 have hpp:(plain (.iface a v)&&plain .nilIface)=true:=by rw[hp];rfl
 unfold QM;rw[hpp,Cq1];unfold Ku
 have h1:Zz P (eqGuard .neq t x (.const .nilIface) (.iface a v) .nilIface)=some (.ok ()):=by
  cases x<;>rfl
 rw[prb h1]
 have h2:Zz P (Op.equal t (.iface a v) .nilIface)=some (.ok false):=by
  show Zz P (Op.equalIn (9999+1) t (.iface a v) .nilIface)=_;unfold Op.equalIn;rw[prb (Y6 hu)];rfl
 have:Zz P (binOp .neq t (.iface a v) .nilIface)=some (.ok (.bool true)):=by
  show Zz P (do pure (Value.bool (!(<-Op.equal t (.iface a v) .nilIface))):Sem N)=_;rw[prb h2];rfl
 rw[this];rfl
def ZsT{t:J}{x:GP}{ms}(hu:P.underlying t=some (.interface ms)):QM P .neq t x (.const .nilIface) .nilIface .nilIface=some (.val (.bool false),.none):=by
 unfold QM;rw[show(plain .nilIface&&plain .nilIface)=true from rfl,Cq1];unfold Ku
 have h1:Zz P (eqGuard .neq t x (.const .nilIface) .nilIface .nilIface)=some (.ok ()):=by
  cases x<;>rfl
 rw[prb h1]
 have h2:Zz P (Op.equal t .nilIface .nilIface)=some (.ok true):=by
  show Zz P (Op.equalIn (9999+1) t .nilIface .nilIface)=_;unfold Op.equalIn;rw[prb (Y6 hu)];rfl
 have:Zz P (binOp .neq t .nilIface .nilIface)=some (.ok (.bool false)):=by
  show Zz P (do pure (Value.bool (!(<-Op.equal t .nilIface .nilIface))):Sem N)=_;rw[prb h2];rfl
 rw[this];rfl
end
end
section
variable{X:Ctx}{n wm:Nat}{rd:O Nat}{ops:GT Oper}{ol:U Oper}{fr:Fr}{ds:U GV}{h h0:H}{ty:J}{p:String}{af:GT Edge}{g:O (Nat×Z)}{T:Nat->Prop}{G Gr:U (Ast wm)}{d l df:Nat}{LO:YV}{ps:GT Tmp}{YI bd:Code}
def RP(K Z':N->H->Prop):UN->H->Prop:=fun e h'=>match e with
 | .ret v=>K v h'
 | .Yd v=>Z' v h'
section
variable{fn:Func}{K Z':N->H->Prop}{v:N}{s:Fs}
def Z6.Zvn{rs:U ResultVar}{vs:U N}(hr:fn.results.toList=rs)(hv:Zcr X.P fr h rs=some vs)(hl:(match vs with | [v]=>v|vs=>.tuple vs.toArray)=v)(k:K v h):Z6 X fn wm (RP K Z') .ret ⟨fr,[],h,none⟩:=by
 obtain⟨pm,E,h',h1,⟨v',rfl,h2⟩,h3⟩:=(Z6.gen (X:=X) (wm:=wm) (R:=K) hr hv hl k).out;exact⟨⟨pm,.ret v',h',h1,h2,h3⟩⟩
def Y7.ZGI(k:Z' v h):Y7 X fn wm (RP K Z') (.Yd v) ⟨fr,[],h,none⟩:=Y7.Yd k
def WF.ZxK{f:GR}{args:GT N}{α β:Type}{r:β}(I:α->N->H->Prop)(j:α->O β)(k:∀x v h',j x=some r->I x v h'->K v h')(hc:WF X f args wm h (RP (fun v h'=>∃x,j x=some r/\I x v h') Z')):WF X f args wm h (RP K Z'):=
 hc.mono fun e h' hq=>by
   cases e with
   | ret v=>obtain⟨x,h1,h2⟩:=hq;exact k x v h' h1 h2
   | Yd v=>exact hq
end
def WO.ZGV{Q:XX->Fs->Prop}{op:Op}{f:GR}{args:GT N}(hg:Z7 ops ⟨some d,op,ty,p,af,g⟩ fr)(hd:Nat.blt d n=true)(he:Yi X fr ⟨some d,op,ty,p,af,g⟩ f args)
 (k:WF X f args wm h (RP (fun v h'=>WO X n wm rd ops ol ⟨Tr.set fr d v,ds,h',none⟩ Q) (fun v h'=>Q (.panic v) ⟨fr,ds,h',none⟩))):WO X n wm rd ops (⟨some d,op,ty,p,af,g⟩::ol) ⟨fr,ds,h,none⟩ Q:=by
 obtain⟨e,h',hk,hj⟩:=k;cases e with
 | ret v=>exact WO.en hg hd he hj hk
 | Yd v=>exact WO.Zkg hg (he h) rfl hj hk
structure BdZ(n lo l:Nat)(fr:Fr)(ps:Array Tmp)(YI bd:Code)(df:Nat)(R:Bool->H->Prop)(Z':Value->H->Prop)(e:XX)(s:Fs):Prop where
 out:BdS n lo l fr ps YI bd df R e s\/∃v,s.h.at l=.loop .busy none fr n ps YI bd df/\e=.panic v/\s.ds=[]/\Z' v s.h
structure AsZ(X:Ctx)(n wm lo l:Nat)(fr:Fr)(ps:Array Tmp)(YI bd:Code)(df:Nat)(R:Bool->H->Prop)(Z':Value->H->Prop)(e:XX)(s:Fs):Prop where
 out:e=.normal/\s.h.at l=.loop .ready none fr n ps YI bd df/\∀h1,(lo<=l->Up lo (fun i=>i=l) s.h h1)->h1.at l=.loop .busy none fr n ps YI bd df->WC X n wm (some l) bd ⟨s.fr,s.ds,h1,s.wr⟩ (BdZ n lo l fr ps YI bd df R Z')
def RdZ(X:Ctx)(l:Nat)(args:GT N)(wm:Nat)(h:H)(R:Z->H->Prop)(Z':N->H->Prop):Prop:=
 ZA6 X l args wm h R\/∃v h',Z' v h'/\Yx X (.round l args wm h) (.fin (.Yd v) h')
def RdZ.mk{l:Nat}{args:U N}{fr K9:Fr}{ps:GT Tmp}{YI bd:Code}{df:Nat}{R:Z->H->Prop}{Z':N->H->Prop}(lo:Nat)(hat:h.at l=.loop .ready none fr n ps YI bd df)(hw:wm<=l)(hl:Nat.beq args.length ps.toList.length=true)(hs:Qp (ps.toList.zip args) n fr=some K9)
 (k:WC X n wm (some l) YI ⟨K9,[],h,none⟩ (AsZ X n wm lo l fr ps YI bd df R Z')):RdZ X l args.toArray wm h R Z':=by
 obtain⟨e1,s1,⟨rfl,h1,k1⟩,j1⟩:=k;have o1:(s1.h.at l).own=true:=by rw[h1];rfl
 have s1l:=Qt h1 rfl;obtain⟨e2,s2,⟨k2⟩,j2⟩:=k1 (s1.h.put l (.loop .busy none fr n ps YI bd df)) (fun hl=>Up.put hl o1) (YX s1l _)
 have h2:s2.h.at l=.loop .busy none fr n ps YI bd df:=by
  rcases k2 with k2|⟨v,h2,_⟩
  ·exact k2.out.1
  ·exact h2
 have o2:(s2.h.at l).own=true:=by rw[h2];rfl
 have s2l:=Qt h2 rfl
 have key:(∃b A,R b (s2.h.put l A)/\JI l e2 s2=some (.fin (.ret (.bool b)) (s2.h.put l A)))\/∃v,Z' v s2.h/\JI l e2 s2=some (.fin (.Yd v) s2.h):=by
  rcases k2 with⟨_,⟨rfl,k2⟩|⟨c,hx,k2⟩⟩|⟨v,_,rfl,hd,hz⟩
  ·refine .inl ⟨true,_,k2 _ (fun hl=>Up.put hl o2) (YX s2l _),?_⟩;unfold JI;rw[h2]
  ·refine .inl ⟨false,_,k2 _ (fun hl=>Up.put hl o2) (YX s2l _),?_⟩;unfold JI;rw[h2];cases hx<;>rfl
  ·refine .inr ⟨v,hz,?_⟩;unfold JI;rw[h2];dsimp only;rw[hd]
 classical
 let ih:Qo->O YO:=fun j=>if j=.code YI n wm (some l) ⟨K9,[],h,none⟩ then some (.code .normal s1) else JD (.code bd n wm (some l) {s1 with h:=s1.h.put l (.loop .busy none fr n ps YI bd df)}) (.code e2 s2) j
 have HI:∀j r,ih j=some r->Yx X j r:=by
  intro j r e;dsimp only[ih]at e;split at e
  ·rename_i hj;cases e;rw[hj];exact j1
  ·exact Xl (X:=X) j2 j r e
 have fin:∀r,JI l e2 s2=some r->Yx X (.round l args.toArray wm h) r:=fun r hev=>by
  refine Zab (C:=cfg X fun _=>false) (ih:=ih) HI ?_;unfold Zda;rw[hat];have hl':Nat.beq args.toArray.toList.length ps.toList.length=true:=hl;dsimp only;rw[Nm0 hw,hl'];simp only[Bool.and_self,Cq1];have hs':Qp (ps.toList.zip args.toArray.toList) n fr=some K9:=hs;rw[hs'];dsimp only;have i1:ih (.code YI n wm (some l) {fr:=K9,ds:=[],h:=h})=some (.code .normal s1):=by dsimp only[ih];rw[if_pos rfl]
  rw[i1];show KG ih l bd n wm .normal s1=_;unfold KG;dsimp only;rw[h1];dsimp only
  have i2:ih (.code bd n wm (some l) {s1 with h:=s1.h.put l (.loop .busy none fr n ps YI bd df)})=some (.code e2 s2):=by
   dsimp only[ih];split
   ·rename_i hj;exfalso;injection hj with _ _ _ _ hs
    have:({s1 with h:=s1.h.put l (.loop .busy none fr n ps YI bd df)}:Fs).h.at l=h.at l:=by rw[hs]
    dsimp only at this;rw[YX s1l,hat]at this;cases this
   ·exact Xm _ _
  rw[i2];exact hev
 rcases key with⟨b,A,hR,hev⟩|⟨v,hz,hev⟩
 ·exact .inl ⟨b,_,hR,fin _ hev⟩
 ·exact .inr ⟨v,_,hz,fin _ hev⟩
def WO.ZoC{Q:XX->Fs->Prop}{o:Oper}{args:GT N}{E:Eff}{v:N}{h1 h2:H}(hg:Z7 ops o fr)(ha:Xu X h (YF fr) o=some (.round l args,E))(hE:E.apply wm h=some h1)
 (hc:Yx X (.round l args wm h1) (.fin (.Yd v) h2)) (k:Q (.panic v) ⟨fr,ds,h2,none⟩):WO X n wm rd ops (o::ol) ⟨fr,ds,h,none⟩ Q:=by
 refine WO.panics (Xl hc) ?_ k;unfold JV;rw[hg.1,hg.2];dsimp only[KK,Cq0,Cq1];rw[ha];dsimp only[KK,Cq0,Cq1];rw[hE];unfold WJ;dsimp only[Jv,Cq0];rw[Xm]
 rfl
def WO.ZF0{Q:XX->Fs->Prop}{fo:GP}{xs:GT GP}{ts:GT J}{vs:U N}{n2:Nat}{Qh K9:Fr}{as2 bd2:Code}(hg:Z7 ops ⟨some d,.call {callee:=.value fo,args:=xs,argTypes:=ts},ty,p,af,g⟩ fr)(hd:Nat.blt d n=true)(hf:YF fr fo=some (.func (.yield l) #[] #[]))(hx:evs (YF fr) xs.toList=some vs)
 (hS:Sp wm T h0 G h) (pk:Pk G (ob wm l LO) Gr) (hLO:LO=.loop .ready none Qh n2 ps as2 bd2 df) (hl:Nat.beq vs.length ps.toList.length=true) (hs:Qp (ps.toList.zip vs) n2 Qh=some K9)
 (k:WC X n2 wm (some l) as2 ⟨K9,[],h,none⟩ (AsZ X n2 wm wm l Qh ps as2 bd2 df (fun b h'=>WO X n wm rd ops ol ⟨Tr.set fr d (.bool b),ds,h',none⟩ Q) (fun v h'=>Q (.panic v) ⟨fr,ds,h',none⟩))):
 WO X n wm rd ops (⟨some d,.call {callee:=.value fo,args:=xs,argTypes:=ts},ty,p,af,g⟩::ol) ⟨fr,ds,h,none⟩ Q:=by
 obtain⟨h1,h2,h3⟩:=hS.get pk;have hat:=h1.trans hLO;rcases RdZ.mk (lo:=wm) hat h2 hl hs k with hr|⟨v,h',hz,hj⟩
 ·exact WO.yld hg hd hf hx hat (Nb0 hl) hr fun b h' hk=>hk
 ·refine WO.ZoC (E:=.none) hg ?_ rfl hj hz;rw[Zdg,hx];dsimp only;rw[hf];dsimp only;unfold UR;dsimp only;rw[hat];dsimp only;rw[hl];rfl
section
variable{Qh:Fr}{R:Z->H->Prop}{Z':N->H->Prop}
def AsZ.sp(hLO:LO=.loop .ready none fr n ps YI bd df)(hS:Sp wm T h0 G h)(pk:Pk G (ob wm l LO) Gr)(k:∀h1,Sp wm T h0 (ob wm l (bsy LO)::Gr) h1->WC X n wm (some l) bd ⟨Qh,ds,h1,none⟩ (BdZ n wm l fr ps YI bd df R Z')):AsZ X n wm wm l fr ps YI bd df R Z' .normal ⟨Qh,ds,h,none⟩:=by
 obtain⟨h1,h2,h3⟩:=hS.get pk;refine⟨⟨rfl,h1.trans hLO,fun h' u e=>k h' ?_⟩⟩;exact hS.one pk (u h2) (fun _ q=>q) ⟨by rw[e,hLO];rfl,h2,by rw[hLO];rfl⟩ fun _ q=>.inl q
def BdZ.sp(hLO:LO=.loop .ready none fr n ps YI bd df)(hS:Sp wm T h0 G h)(pk:Pk G (ob wm l (bsy LO)) Gr)(k:∀h1,Sp wm T h0 (ob wm l LO::Gr) h1->R true h1):BdZ n wm l fr ps YI bd df R Z' .normal ⟨Qh,ds,h,none⟩:=⟨.inl (BdS.sp hLO hS pk k)⟩
def BdZ.Yd{v:N}(hLO:LO=.loop .ready none fr n ps YI bd df)(hS:Sp wm T h0 G h)(pk:Pk G (ob wm l (bsy LO)) Gr)(k:Z' v h):BdZ n wm l fr ps YI bd df R Z' (.panic v) ⟨Qh,[],h,none⟩:=by
 obtain⟨h1,h2,h3⟩:=hS.get pk;exact⟨.inr ⟨v,h1.trans (by rw[hLO];rfl),rfl,rfl,k⟩⟩
end
def WC.Zrr{Q:XX->Fs->Prop}{gg:GP}{f:GR}{first cap:U N}(hS:Sp wm T h0 G h)(hg:YF fr gg=some (.func (.func f) first.toArray cap.toArray))(hf:(X.fns.get f).isSome=true)
 (k:∀h' l df LO,LO=YV.loop .ready none fr n ps YI bd df->Sp wm T h0 (ob wm l LO::ob wm df .deferred::G) h'->WF X f (first++([Value.func (.yield l) #[] #[]]++cap)).toArray wm h' (RP (fun _ h2=>RgS X wm l fr n ps YI bd df ds Q h2) (fun v h2=>Q (.panic v) ⟨fr,⟨.collected df,#[]⟩::ds,h2,none⟩))):
 WC X n wm none (.rangeFunc gg ps YI bd) ⟨fr,ds,h,none⟩ Q:=by
 have s1:Sp wm T h0 (ob wm h.size .deferred::G) (h.push .deferred):=ZiP rfl hS
 have s2:Sp wm T h0 (ob wm (h.size+1) (.loop .ready none fr n ps YI bd h.size)::ob wm h.size .deferred::G) ((h.push .deferred).push (.loop .ready none fr n ps YI bd h.size)):=by
  have:=ZiP (A:=.loop .ready none fr n ps YI bd h.size) rfl s1
  rwa[H.size_push]at this
 obtain⟨fn,hf⟩:=GK.1 hf;obtain⟨e,h3,hr,hj⟩:=k _ _ _ _ rfl s2
 have hac:UR (cfg X fun _=>false).X ((h.push .deferred).push (.loop .ready none fr n ps YI bd h.size)) (.func (.func f) first.toArray cap.toArray) [Value.func (.yield (h.size+1)) #[] #[]]=some (.enter f (first++([Value.func (.yield (h.size+1)) #[] #[]]++cap)).toArray,.none):=by
  unfold UR;have:(cfg X fun _=>false).X.fns.get f=some fn:=hf;dsimp only;rw[this];simp only[G6]
 have pre:∀(ih:Qo->O YO),Qi (cfg X fun _=>false) ih gg n wm none (h.size+1) ⟨fr,⟨.collected h.size,#[]⟩::ds,(h.push .deferred).push (.loop .ready none fr n ps YI bd h.size),none⟩=J8 ih n wm none (h.size+1) ⟨fr,⟨.collected h.size,#[]⟩::ds,(h.push .deferred).push (.loop .ready none fr n ps YI bd h.size),none⟩ (ih (.call f (first++([Value.func (.yield (h.size+1)) #[] #[]]++cap)).toArray wm ((h.push .deferred).push (.loop .ready none fr n ps YI bd h.size)))):=fun ih=>by
  unfold Qi;dsimp only;rw[hg];dsimp only;rw[hac]
 cases e with
 | Yd v=>
   refine⟨.panic v,_,hr,Xe.2 (J9 (C:=cfg X fun _=>false) (ih:=JD (.call f _ wm _) (.fin (.Yd v) h3)) (Xl hj) ?_)⟩;show Qi (cfg X fun _=>false) _ gg n wm none (h.size+1) ⟨fr,⟨.collected h.size,#[]⟩::ds,(h.push .deferred).push (.loop .ready none fr n ps YI bd h.size),none⟩=_;rw[pre,Xm]
   rfl
 | ret v=>
 rcases hr.k with⟨hat,hk⟩|⟨c,hat,hk⟩
 ·refine⟨.normal,_,hk (h3.put (h.size+1) (.loop .exhausted none fr n ps YI bd h.size)) (Up.put hr.low (by rw[hat];rfl)),?_⟩;refine Xe.2 (J9 (C:=cfg X fun _=>false) (ih:=JD (.call f _ wm _) (.fin (.ret v) h3)) (Xl hj) ?_);show Qi (cfg X fun _=>false) _ gg n wm none (h.size+1) ⟨fr,⟨.collected h.size,#[]⟩::ds,(h.push .deferred).push (.loop .ready none fr n ps YI bd h.size),none⟩=_;rw[pre,Xm];unfold J8;dsimp only;rw[hat]
  rfl
 ·obtain⟨e2,s2,hq,hj2⟩:=hk (h3.put (h.size+1) (.loop .exhausted (some c) fr n ps YI bd h.size)) (Up.put hr.low (by rw[hat];rfl));refine⟨e2,s2,hq,?_⟩
  classical
  let ih:Qo->O YO:=fun j=>if j=.code c n wm none ⟨fr,⟨.collected h.size,#[]⟩::ds,h3.put (h.size+1) (.loop .exhausted (some c) fr n ps YI bd h.size),none⟩ then some (.code e2 s2) else JD (.call f (first++([Value.func (.yield (h.size+1)) #[] #[]]++cap)).toArray wm ((h.push .deferred).push (.loop .ready none fr n ps YI bd h.size))) (.fin (.ret v) h3) j
  have HI:∀j r,ih j=some r->Yx X j r:=by
   intro j r e;dsimp only[ih]at e;split at e
   ·rename_i hj';cases e;rw[hj'];exact hj2
   ·exact Xl (X:=X) hj j r e
  refine Xe.2 (J9 (C:=cfg X fun _=>false) (ih:=ih) HI ?_);show Qi (cfg X fun _=>false) _ gg n wm none (h.size+1) ⟨fr,⟨.collected h.size,#[]⟩::ds,(h.push .deferred).push (.loop .ready none fr n ps YI bd h.size),none⟩=_
  have i1:ih (.call f (first++([Value.func (.yield (h.size+1)) #[] #[]]++cap)).toArray wm ((h.push .deferred).push (.loop .ready none fr n ps YI bd h.size)))=some (.fin (.ret v) h3):=by
   dsimp only[ih];split
   ·rename_i hj';cases hj'
   ·exact Xm _ _
  rw[pre,i1];unfold J8;dsimp only;rw[hat];show ih (.code c n wm none _)=_;dsimp only[ih];rw[if_pos rfl]
end
section
variable{X:Ctx}{n wm:Nat}{rd:O Nat}{ops:GT Oper}{l:U Oper}{fr:Fr}{ds:U GV}{h h0:H}{ty:J}{p:String}{af:GT Edge}{g:O (Nat×Z)}{T:Nat->Prop}{G Gr Ga:U (Ast wm)}{d:Nat}
def Zkn{x:GP}{it t:J}{v:N}{u:TypeDesc}(hu:X.P.underlying t=some u)(hi:(match u with | .interface _=>false|_=>true)=true)(hx:YF fr x=some (.iface t v)):Xu X h (YF fr) ⟨some d,.typeAssert x it t true,ty,p,af,g⟩=some (.val (.tuple #[v,.bool true]),.none):=by
 show(match YF fr x with|some x=>vN (Ke X.P x t true) | none=>none)=_;rw[hx];dsimp only
 have:Ke X.P (.iface t v) t true=some (.tuple #[v,.bool true]):=by
  unfold Ke;rw[hu];cases u<;>first | (dsimp only;rw[Nat.beq_refl];rfl) | cases hi
 rw[this];rfl
def Zko{x:GP}{it t a:J}{v z:N}{u:TypeDesc}(hu:X.P.underlying t=some u)(hi:(match u with | .interface _=>false|_=>true)=true)(hz:YP X.P t=some z)(hne:Nat.beq a t=false)(hx:YF fr x=some (.iface a v)):Xu X h (YF fr) ⟨some d,.typeAssert x it t true,ty,p,af,g⟩=some (.val (.tuple #[z,.bool false]),.none):=by
 show(match YF fr x with|some x=>vN (Ke X.P x t true) | none=>none)=_;rw[hx];dsimp only
 have:Ke X.P (.iface a v) t true=some (.tuple #[z,.bool false]):=by
  unfold Ke;rw[hu];cases u<;>first | (dsimp only;rw[hne,Cq0,Cq1,hz]) | cases hi
 rw[this];rfl
def Yi.inv{f:GR}{r:GP}{nm:String}{xs:GT GP}{ts:GT J}{t:J}{v:N}{vs:U N}{d:O Tmp}(hr:YF fr r=some (.iface t v))(hm:Zn2 X.P t nm=some f)(hf:(X.fns.get f).isSome=true)(hx:evs (YF fr) xs.toList=some vs):
 Yi X fr ⟨d,.call {callee:=.invoke r nm,args:=xs,argTypes:=ts},ty,p,af,g⟩ f (v::vs).toArray:=fun h=>by
 obtain⟨fn,hf⟩:=GK.1 hf;unfold Xu;dsimp only;rw[hx];dsimp only;rw[hr];dsimp only;unfold Zba;dsimp only;rw[hm];dsimp only;rw[hf]
end
end Go.ZY
end
end
section
namespace Go.Proofs.YtbnepjakjmnadaaGreat
structure Zi where
 op:Int
 n:Int
 text:ByteArray
 kids:List Zi
 deriving Inhabited
structure Yl where
 text:ByteArray
 names:List ByteArray
 deriving Inhabited
mutual
structure Term where
 op:Int
 text:ByteArray
 args:List Zi
 defs:List Za
 kids:List Term
structure Za where
 form:Int
 text:ByteArray
 joins:List Yl
 defs:List Za
 kids:List Term
end
instance:Inhabited Term:=⟨⟨0,⟨#[]⟩,[],[],[]⟩⟩
instance:Inhabited Za:=⟨⟨0,⟨#[]⟩,[],[],[]⟩⟩
inductive Part
 | pr (t:Term)
 | ex (e:Zi)
 | cl (c:Za)
instance:Inhabited Part:=⟨.ex default⟩
def ZlE{β:Type}(p:Part)(f:Term->β)(g:Zi->β)(k:Za->β):β:=match p with
 | .pr t=>f t
 | .ex e=>g e
 | .cl c=>k c
end Go.Proofs.YtbnepjakjmnadaaGreat
end
section
noncomputable section
namespace Go.ZY
open Go.Lf
structure SlW{α P:Type}(sz:Nat)(sh:P->α->List Value)(wm:Nat)(h:H)(a:Option Addr)(c:Nat)(xs:List α)(ps:Nat->P):Prop where
 max:xs.length<=9223372036854775807
 cap:xs.length<=c / 2
 nl:Zn9 a c
 mem:xs=[]\/∃i o cs own z,a=some ⟨i,o,none⟩/\h.at i=.row cs own z/\(i<wm\/own=false)/\o+xs.length*sz<=cs.length/\∀k x,xs[k]? =some x->(cs.drop (o+k*sz)).take sz=sh (ps k) x
def SlW.mono{α P:Type}{sz:Nat}{sh:P->α->U N}{wm:Nat}{h h':H}{a:O Addr}{c:Nat}{xs:U α}{ps:Nat->P}(f:Fz wm h h')(s:SlW sz sh wm h a c xs ps):SlW sz sh wm h' a c xs ps:=
 ⟨s.max,s.cap,s.nl,s.mem.imp id fun⟨i,o,cs,own,z,h1,h2,h3,h4⟩=>⟨i,o,cs,own,z,h1,f.keep _ _ _ _ h2 h3,h3,h4⟩⟩
def SlW.up{α P:Type}{sz:Nat}{sh:P->α->U N}{wm wm':Nat}{h:H}{a:O Addr}{c:Nat}{xs:U α}{ps:Nat->P}(f:wm<=wm')(s:SlW sz sh wm h a c xs ps):SlW sz sh wm' h a c xs ps:=
 ⟨s.max,s.cap,s.nl,s.mem.imp id fun⟨i,o,cs,own,z,h1,h2,h3,h4⟩=>⟨i,o,cs,own,z,h1,h2,h3.imp (fun x=>by omega) id,h4⟩⟩
def Sl.iff{α:Type}{e:UK α}{wm:Nat}{h:H}{a:O Addr}{c:Nat}{xs:U α}:Sl e wm h a c xs↔∃ps,SlW e.sz e.sh wm h a c xs ps/\∀k x,xs[k]? =some x->e.F wm h (ps k) x:=by
 constructor
 ·intro s;rcases s.mem with h0|⟨i,o,cs,own,z,h1,h2,h3,h4⟩
  ·subst h0;exact⟨fun _=>e.dflt,⟨s.max,s.cap,s.nl,.inl rfl⟩,fun k x hk=>by simp at hk⟩
  ·have hq:∀k,∃q,∀x,xs[k]? =some x->(cs.drop (o+k*e.sz)).take e.sz=e.sh q x/\e.F wm h q x:=fun k=>by
    cases hx:xs[k]? with
    | none=>exact⟨e.dflt,fun x hx=>by cases hx⟩
    | some x=>
      obtain⟨q,g1,g2⟩:=h4.get k x hx;exact⟨q,fun y hy=>by cases hy;exact⟨g1,g2⟩⟩
   exact⟨fun k=>(hq k).choose,⟨s.max,s.cap,s.nl,.inr ⟨i,o,cs,own,z,h1,h2,h3,h4.len,fun k x hk=>((hq k).choose_spec x hk).1⟩⟩,fun k x hk=>((hq k).choose_spec x hk).2⟩
 ·rintro⟨ps,s,hF⟩;refine⟨s.max,s.cap,s.nl,s.mem.imp id ?_⟩;rintro⟨i,o,cs,own,z,h1,h2,h3,h4,h5⟩;exact⟨i,o,cs,own,z,h1,h2,h3,⟨h4,fun k x hk=>⟨ps k,h5 k x hk,hF k x hk⟩⟩⟩
end Go.ZY
end
end
section
set_option maxRecDepth 100000
noncomputable section
namespace Go.Proofs.YtbnepjakjmnadaaGreat
open Go.ZY Go.Lf
section
abbrev SlP:=O Addr×Nat
def ZL:UK Yl where
 sz:=2
 pos:=by decide
 Par:=SlP
 dflt:=(none,0)
 sh:=fun p x=>[.string x.text,.slice p.1 x.names.length p.2]
 len:=fun _ _=>rfl
 one:=fun _ _=>rfl
 F:=fun wm h p x=>Sl Zx wm h p.1 p.2 x.names
 mono:=fun f x=>x.mono f
 up:=fun f x=>x.up f
def Ztj(p:SlP)(x:Zi):U N:=[GX x.op,GX x.n,.string x.text,.slice p.1 x.kids.length p.2]
inductive ZcD(wm:Nat)(h:H):SlP->Zi->Prop
 | mk {p:SlP} {x:Zi} (ps:Nat->SlP) (hk:SlW 4 Ztj wm h p.1 p.2 x.kids ps) (hF:∀k y,x.kids[k]? =some y->ZcD wm h (ps k) y):ZcD wm h p x
def ZcD.mono{wm:Nat}{h h':H}{p:SlP}{x:Zi}(f:Fz wm h h')(s:ZcD wm h p x):ZcD wm h' p x:=by
 induction s with
 | mk ps hk _ ih=>exact .mk ps (hk.mono f) ih
def ZcD.up{wm wm':Nat}{h:H}{p:SlP}{x:Zi}(f:wm<=wm')(s:ZcD wm h p x):ZcD wm' h p x:=by
 induction s with
 | mk ps hk _ ih=>exact .mk ps (hk.up f) ih
def Zj:UK Zi where
 sz:=4
 pos:=by decide
 Par:=SlP
 dflt:=(none,0)
 sh:=Ztj
 len:=fun _ _=>rfl
 one:=fun _ _=>rfl
 F:=ZcD
 mono:=ZcD.mono
 up:=ZcD.up
def YS{wm:Nat}{h:H}{p:SlP}{x:Zi}:Zj.F wm h p x↔Sl Zj wm h p.1 p.2 x.kids:=by
 rw[Sl.iff];exact⟨fun s=>by cases s with|mk ps hk hF=>exact⟨ps,hk,hF⟩,fun⟨ps,hk,hF⟩=>.mk ps hk hF⟩
abbrev TmP:=SlP×SlP×SlP
def JX(p:TmP)(x:Term):U N:=[GX x.op,.string x.text,.slice p.1.1 x.args.length p.1.2,.slice p.2.1.1 x.defs.length p.2.1.2,.slice p.2.2.1 x.kids.length p.2.2.2]
def Kt(p:TmP)(x:Za):U N:=[GX x.form,.string x.text,.slice p.1.1 x.joins.length p.1.2,.slice p.2.1.1 x.defs.length p.2.1.2,.slice p.2.2.1 x.kids.length p.2.2.2]
mutual
inductive Jp (wm:Nat) (h:H):TmP->Term->Prop
 | mk {p:TmP} {x:Term} (pd pk:Nat->TmP) (ha:Sl Zj wm h p.1.1 p.1.2 x.args) (hd:SlW 5 Kt wm h p.2.1.1 p.2.1.2 x.defs pd) (hk:SlW 5 JX wm h p.2.2.1 p.2.2.2 x.kids pk)
    (hdF:∀k y,x.defs[k]? =some y->XB wm h (pd k) y) (hkF:∀k y,x.kids[k]? =some y->Jp wm h (pk k) y):Jp wm h p x
inductive XB (wm:Nat) (h:H):TmP->Za->Prop
 | mk {p:TmP} {x:Za} (pd pk:Nat->TmP) (ha:Sl ZL wm h p.1.1 p.1.2 x.joins) (hd:SlW 5 Kt wm h p.2.1.1 p.2.1.2 x.defs pd) (hk:SlW 5 JX wm h p.2.2.1 p.2.2.2 x.kids pk)
    (hdF:∀k y,x.defs[k]? =some y->XB wm h (pd k) y) (hkF:∀k y,x.kids[k]? =some y->Jp wm h (pk k) y):XB wm h p x
end
def Jp.mono{wm:Nat}{h h':H}(f:Fz wm h h'){p:TmP}{x:Term}(s:Jp wm h p x):Jp wm h' p x:=
 Jp.rec (motive_1:=fun p x _=>Jp wm h' p x) (motive_2:=fun p x _=>XB wm h' p x)
  (fun pd pk ha hd hk _ _ i1 i2=>.mk pd pk (ha.mono f) (hd.mono f) (hk.mono f) i1 i2) (fun pd pk ha hd hk _ _ i1 i2=>.mk pd pk (ha.mono f) (hd.mono f) (hk.mono f) i1 i2) s
def XB.mono{wm:Nat}{h h':H}(f:Fz wm h h'){p:TmP}{x:Za}(s:XB wm h p x):XB wm h' p x:=
 XB.rec (motive_1:=fun p x _=>Jp wm h' p x) (motive_2:=fun p x _=>XB wm h' p x)
  (fun pd pk ha hd hk _ _ i1 i2=>.mk pd pk (ha.mono f) (hd.mono f) (hk.mono f) i1 i2) (fun pd pk ha hd hk _ _ i1 i2=>.mk pd pk (ha.mono f) (hd.mono f) (hk.mono f) i1 i2) s
def Jp.up{wm wm':Nat}{h:H}(f:wm<=wm'){p:TmP}{x:Term}(s:Jp wm h p x):Jp wm' h p x:=
 Jp.rec (motive_1:=fun p x _=>Jp wm' h p x) (motive_2:=fun p x _=>XB wm' h p x)
  (fun pd pk ha hd hk _ _ i1 i2=>.mk pd pk (ha.up f) (hd.up f) (hk.up f) i1 i2) (fun pd pk ha hd hk _ _ i1 i2=>.mk pd pk (ha.up f) (hd.up f) (hk.up f) i1 i2) s
def XB.up{wm wm':Nat}{h:H}(f:wm<=wm'){p:TmP}{x:Za}(s:XB wm h p x):XB wm' h p x:=
 XB.rec (motive_1:=fun p x _=>Jp wm' h p x) (motive_2:=fun p x _=>XB wm' h p x)
  (fun pd pk ha hd hk _ _ i1 i2=>.mk pd pk (ha.up f) (hd.up f) (hk.up f) i1 i2) (fun pd pk ha hd hk _ _ i1 i2=>.mk pd pk (ha.up f) (hd.up f) (hk.up f) i1 i2) s
def ZB:UK Term where
 sz:=5
 pos:=by decide
 Par:=TmP
 dflt:=((none,0),(none,0),(none,0))
 sh:=JX
 len:=fun _ _=>rfl
 one:=fun _ _=>rfl
 F:=Jp
 mono:=fun f s=>Jp.mono f s
 up:=fun f s=>Jp.up f s
def Zc:UK Za where
 sz:=5
 pos:=by decide
 Par:=TmP
 dflt:=((none,0),(none,0),(none,0))
 sh:=Kt
 len:=fun _ _=>rfl
 one:=fun _ _=>rfl
 F:=XB
 mono:=fun f s=>XB.mono f s
 up:=fun f s=>XB.up f s
def QC{wm:Nat}{h:H}{p:TmP}{x:Term}:ZB.F wm h p x↔Sl Zj wm h p.1.1 p.1.2 x.args/\Sl Zc wm h p.2.1.1 p.2.1.2 x.defs/\Sl ZB wm h p.2.2.1 p.2.2.2 x.kids:=by
 rw[Sl.iff (e:=Zc),Sl.iff (e:=ZB)];exact⟨fun s=>by cases s with|mk pd pk ha hd hk hdF hkF=>exact⟨ha,⟨pd,hd,hdF⟩,pk,hk,hkF⟩,fun⟨ha,⟨pd,hd,hdF⟩,pk,hk,hkF⟩=>Jp.mk pd pk ha hd hk hdF hkF⟩
def ZC{wm:Nat}{h:H}{p:TmP}{x:Za}:Zc.F wm h p x↔Sl ZL wm h p.1.1 p.1.2 x.joins/\Sl Zc wm h p.2.1.1 p.2.1.2 x.defs/\Sl ZB wm h p.2.2.1 p.2.2.2 x.kids:=by
 rw[Sl.iff (e:=Zc),Sl.iff (e:=ZB)];exact⟨fun s=>by cases s with|mk pd pk ha hd hk hdF hkF=>exact⟨ha,⟨pd,hd,hdF⟩,pk,hk,hkF⟩,fun⟨ha,⟨pd,hd,hdF⟩,pk,hk,hkF⟩=>XB.mk pd pk ha hd hk hdF hkF⟩
end
section
abbrev PtP:=TmP×SlP
def ifV(p:PtP):Part->N
 | .pr t=>.iface 78 (.agg (JX p.1 t).toArray)
 | .ex e=>.iface 88 (.agg (Ztj p.2 e).toArray)
 | .cl c=>.iface 166 (.agg (Kt p.1 c).toArray)
def Yt{p:PtP}{x:Part}:XV (ifV p x)=false:=by cases x<;>rfl
def ZlW{p:PtP}{x:Part}:(ifV p x).cells.toList=[ifV p x]:=by cases x<;>rfl
def ZiL{β:Type}{f:Term->O β}{g:Zi->O β}{k:Za->O β}{x:Term}{r:β}(h:ZlE (.pr x) f g k=some r):f x=some r:=h
def ZiM{β:Type}{f:Term->O β}{g:Zi->O β}{k:Za->O β}{x:Zi}{r:β}(h:ZlE (.ex x) f g k=some r):g x=some r:=h
def ZiN{β:Type}{f:Term->O β}{g:Zi->O β}{k:Za->O β}{x:Za}{r:β}(h:ZlE (.cl x) f g k=some r):k x=some r:=h
def ZOQ(wm:Nat)(h:H)(p:PtP):Part->Prop
 | .pr t=>Jp wm h p.1 t
 | .ex e=>ZcD wm h p.2 e
 | .cl c=>XB wm h p.1 c
def Ye:UK Part where
 sz:=1
 pos:=by decide
 Par:=PtP
 dflt:=(((none,0),(none,0),(none,0)),(none,0))
 sh:=fun p x=>[ifV p x]
 len:=fun _ _=>rfl
 one:=fun p x=>by cases x<;>rfl
 F:=ZOQ
 mono:=fun{wm h h' p x} f s=>by
  cases x with
  | pr t=>exact Jp.mono f s
  | ex e=>exact ZcD.mono f s
  | cl c=>exact XB.mono f s
 up:=fun{wm wm' h p x} f s=>by
  cases x with
  | pr t=>exact Jp.up f s
  | ex e=>exact ZcD.up f s
  | cl c=>exact XB.up f s
def ZeP{wm:Nat}{h:H}{a1 a2 a3 a4:O Addr}{c1 c2 c3 c4:Nat}{t:Term}(x:Ye.F wm h (((a1,c1),(a2,c2),(a3,c3)),(a4,c4)) (.pr t)):Sl Zj wm h a1 c1 t.args/\Sl Zc wm h a2 c2 t.defs/\Sl ZB wm h a3 c3 t.kids:=QC.1 x
def ZmU{wm:Nat}{h:H}{a1 a2 a3 a4:O Addr}{c1 c2 c3 c4:Nat}{e:Zi}(x:Ye.F wm h (((a1,c1),(a2,c2),(a3,c3)),(a4,c4)) (.ex e)):Sl Zj wm h a4 c4 e.kids:=YS.1 x
def ZeQ{wm:Nat}{h:H}{a1 a2 a3 a4:O Addr}{c1 c2 c3 c4:Nat}{c:Za}(x:Ye.F wm h (((a1,c1),(a2,c2),(a3,c3)),(a4,c4)) (.cl c)):Sl ZL wm h a1 c1 c.joins/\Sl Zc wm h a2 c2 c.defs/\Sl ZB wm h a3 c3 c.kids:=ZC.1 x
def Zxu{wm:Nat}{h:H}{a1 a2 a3:O Addr}{c1 c2 c3:Nat}{t:Term}(x:Sl Zj wm h a1 c1 t.args)(y:Sl Zc wm h a2 c2 t.defs)(z:Sl ZB wm h a3 c3 t.kids):Ye.F wm h (((a1,c1),(a2,c2),(a3,c3)),(none,0)) (.pr t):=QC.2 ⟨x,y,z⟩
def ZEO{wm:Nat}{h:H}{a4:O Addr}{c4:Nat}{e:Zi}(x:Sl Zj wm h a4 c4 e.kids):Ye.F wm h (((none,0),(none,0),(none,0)),(a4,c4)) (.ex e):=YS.2 x
def ZKK{wm:Nat}{h:H}{a1 a2 a3:O Addr}{c1 c2 c3:Nat}{c:Za}(x:Sl ZL wm h a1 c1 c.joins)(y:Sl Zc wm h a2 c2 c.defs)(z:Sl ZB wm h a3 c3 c.kids):Ye.F wm h (((a1,c1),(a2,c2),(a3,c3)),(none,0)) (.cl c):=ZC.2 ⟨x,y,z⟩
end
section
structure YZ where
 channels:(List ByteArray)
 many:(List Int)
 at_:(List Int)
 places:(List ByteArray)
 bad:Bool
 deriving Inhabited
structure ZuC where
 Qe:Za
 deriving Inhabited
structure Process where
 term:Term
 deriving Inhabited
structure Zoa where
 WU:Zi
 deriving Inhabited
structure ZH where
 at_:Int
 many:Int
 deriving DecidableEq,Inhabited
def Ua(x y:ZH):Z:=[x.at_==y.at_,x.many==y.many].all id
def ZIP:O Z:=some true
end
section
def Zto:UK ZH where
 sz:=2
 pos:=by decide
 Par:=Unit
 dflt:=()
 sh:=fun _ x=>[GX x.at_,GX x.many]
 len:=fun _ _=>rfl
 one:=fun _ _=>rfl
 F:=fun _ _ _ _=>True
 mono:=fun _ x=>x
 up:=fun _ x=>x
def Qd(x:ZH):N:=.agg #[GX x.at_,GX x.many]
def ZPN:XX.P.underlying 4=some .bool:=Kq0
def ZkO:XX.P.underlying 9=some .string:=Kq0
def ZEo:XX.P.underlying 20=some (.interface #[]):=Kq0
def Qq:XX.P.underlying 22=some (.slice 9):=Kq0
def Kq:XX.P.underlying 29=some (.slice 36):=Kq0
def Ql:XX.P.underlying 30=some (.slice 130):=Kq0
def WB:XX.P.underlying 31=some (.slice 33):=Kq0
def JQ:XX.P.underlying 70=some (.map 9 4):=Kq0
def Ziq:XX.P.underlying 102=some (.slice 3):=Kq0
def Jg:XX.P.underlying 128=some (.slice 136):=Kq0
def ZGr:XX.P.underlying 138=some (.slice 5):=Kq0
def K5:XX.P.underlying 142=some (.slice 140):=Kq0
def Zgd:XX.P.underlying 160=some (.slice 30):=Kq0
def Zre:XX.P.underlying 185=some (.map 9 187):=Kq0
def ZAO:YE XX.P 3=some false:=Kq0
def ZSj:YE XX.P 4=some false:=Kq0
def ZaE:YE XX.P 9=some false:=Kq0
def WN:YE XX.P 22=some false:=Kq0
def Zut:YE XX.P 28=some false:=Kq0
def ZAP:YE XX.P 29=some false:=Kq0
def Zcu:YE XX.P 30=some false:=Kq0
def Zkv:YE XX.P 31=some false:=Kq0
def WM:YE XX.P 33=some true:=Kq0
def ZOx:YE XX.P 34=some false:=Kq0
def UH:YE XX.P 36=some true:=Kq0
def ZAN:YE XX.P 37=some false:=Kq0
def ZqL:YE XX.P 70=some false:=Kq0
def ZJA:YE XX.P 102=some false:=Kq0
def ZJz:YE XX.P 124=some true:=Kq0
def Zkw:YE XX.P 127=some false:=Kq0
def Zhb:YE XX.P 128=some false:=Kq0
def JM:YE XX.P 130=some true:=Kq0
def Zcv:YE XX.P 136=some true:=Kq0
def Zha:YE XX.P 140=some false:=Kq0
def Zew:YE XX.P 141=some false:=Kq0
def ZJy:YE XX.P 159=some true:=Kq0
def ZJx:YE XX.P 185=some false:=Kq0
def ZJw:YE XX.P 187=some true:=Kq0
def ZJv:YE XX.P 194=some false:=Kq0
def ZJu:YE XX.P 195=some false:=Kq0
def Ziy:Yz XX.P 3=some 1:=Kq0
def Ztg:Yz XX.P 4=some 1:=Kq0
def ZKs:Yz XX.P 5=some 1:=Kq0
def QB:Yz XX.P 9=some 1:=Kq0
def ZdO:Yz XX.P 22=some 1:=Kq0
def ZmM:Yz XX.P 29=some 1:=Kq0
def Zge:Yz XX.P 30=some 1:=Kq0
def Xj:Yz XX.P 33=some 5:=Kq0
def Xg:Yz XX.P 36=some 4:=Kq0
def ZGz:Yz XX.P 37=some 1:=Kq0
def ZGy:Yz XX.P 70=some 1:=Kq0
def ZmL:Yz XX.P 78=some 5:=Kq0
def ZGx:Yz XX.P 88=some 4:=Kq0
def Zti:Yz XX.P 102=some 1:=Kq0
def ZBQ:Yz XX.P 124=some 2:=Kq0
def Z8:Yz XX.P 130=some 5:=Kq0
def Xb:Yz XX.P 136=some 2:=Kq0
def KO:Yz XX.P 140=some 1:=Kq0
def ZmN:Yz XX.P 141=some 1:=Kq0
def ZBP:Yz XX.P 147=some 1:=Kq0
def ZBO:Yz XX.P 159=some 2:=Kq0
def ZBN:Yz XX.P 166=some 5:=Kq0
def ZBM:Yz XX.P 185=some 1:=Kq0
def ZBL:Yz XX.P 187=some 2:=Kq0
def ZBK:Yz XX.P 195=some 1:=Kq0
def Zh7:Zw XX.P 33 0 0:=Zw.of Kq0
def ZC0:Zw XX.P 33 1 1:=Zw.of Kq0
def ZtV:Zw XX.P 33 2 2:=Zw.of Kq0
def Zh6:Zw XX.P 33 3 3:=Zw.of Kq0
def Zh5:Zw XX.P 33 4 4:=Zw.of Kq0
def ZCZ:Zw XX.P 36 0 0:=Zw.of Kq0
def ZCY:Zw XX.P 36 1 1:=Zw.of Kq0
def ZCX:Zw XX.P 36 2 2:=Zw.of Kq0
def Znp:Zw XX.P 36 3 3:=Zw.of Kq0
def KT:Zw XX.P 78 0 0:=Zw.of Kq0
def ZCW:Zw XX.P 88 0 0:=Zw.of Kq0
def ZpV:Zw XX.P 104 0 0:=Zw.of Kq0
def ZpU:Zw XX.P 104 1 1:=Zw.of Kq0
def ZzB:Zw XX.P 104 2 2:=Zw.of Kq0
def ZjB:Zw XX.P 104 3 3:=Zw.of Kq0
def ZzA:Zw XX.P 104 4 4:=Zw.of Kq0
def Zzw:Zw XX.P 119 0 0:=Zw.of Kq0
def Zzv:Zw XX.P 119 2 2:=Zw.of Kq0
def Zzu:Zw XX.P 119 3 3:=Zw.of Kq0
def Zzt:Zw XX.P 119 4 4:=Zw.of Kq0
def Zzs:Zw XX.P 124 0 0:=Zw.of Kq0
def Zzr:Zw XX.P 124 1 1:=Zw.of Kq0
def ZpT:Zw XX.P 130 0 0:=Zw.of Kq0
def Zzq:Zw XX.P 130 1 1:=Zw.of Kq0
def Zcd:Zw XX.P 130 2 2:=Zw.of Kq0
def Zzp:Zw XX.P 130 3 3:=Zw.of Kq0
def Zfa:Zw XX.P 130 4 4:=Zw.of Kq0
def ZpS:Zw XX.P 136 0 0:=Zw.of Kq0
def Ze9:Zw XX.P 136 1 1:=Zw.of Kq0
def Zzo:Zw XX.P 147 0 0:=Zw.of Kq0
def Zzn:Zw XX.P 159 0 0:=Zw.of Kq0
def Zzm:Zw XX.P 159 1 1:=Zw.of Kq0
def ZpP:Zw XX.P 166 0 0:=Zw.of Kq0
def Zs4:YP XX.P 3=some (GX 0):=Kq0
def Zij:YP XX.P 4=some (.bool false):=Kq0
def ZKd:YP XX.P 5=some (.int .u8 0):=Kq0
def Zaj:YP XX.P 9=some (.string ⟨#[]⟩):=Kq0
def Zwi:YP XX.P 22=some (GW):=Kq0
def Zq9:YP XX.P 30=some (GW):=Kq0
def Zik:YP XX.P 33=some (.agg #[GX 0,.string ⟨#[]⟩,GW,GW,GW]):=Kq0
def Zf8:YP XX.P 36=some (.agg #[GX 0,GX 0,.string ⟨#[]⟩,GW]):=Kq0
def ZFW:YP XX.P 37=some (GX 0):=Kq0
def ZFV:YP XX.P 70=some (.map none):=Kq0
def ZaI:YP XX.P 78=some (.agg #[GX 0,.string ⟨#[]⟩,GW,GW,GW]):=Kq0
def Zq8:YP XX.P 88=some (.agg #[GX 0,GX 0,.string ⟨#[]⟩,GW]):=Kq0
def Zta:YP XX.P 104=some (.agg #[GW,GW,GW,GW,.bool false]):=Kq0
def ZBw:YP XX.P 124=some (.agg #[GW,GW]):=Kq0
def WQ:YP XX.P 130=some (.agg #[GX 0,.string ⟨#[]⟩,GW,GW,GW]):=Kq0
def ZcF:YP XX.P 136=some (.agg #[.string ⟨#[]⟩,GW]):=Kq0
def ZeH:YP XX.P 140=some (.nilIface):=Kq0
def Zmx:YP XX.P 141=some (.nilFunc):=Kq0
def Zs8:YP XX.P 147=some (.agg #[GX 0]):=Kq0
def Zs7:YP XX.P 159=some (.agg #[GW,GX 0]):=Kq0
def Zs5:YP XX.P 166=some (.agg #[GX 0,.string ⟨#[]⟩,GW,GW,GW]):=Kq0
def ZBv:YP XX.P 185=some (.map none):=Kq0
def Zmw:YP XX.P 187=some (.agg #[GX 0,GX 0]):=Kq0
def ZBu:YP XX.P 195=some (.nilFunc):=Kq0
def ZOl:Jq XX.P 33 [GX 0,.string ⟨#[]⟩,GW,GW,GW] [(0,1),(1,1),(2,1),(3,1),(4,1)]:=⟨_,_,Zik,rfl,Tryz.underlying33,by kernel_rfl⟩
def Zuo:Jq XX.P 36 [GX 0,GX 0,.string ⟨#[]⟩,GW] [(0,1),(1,1),(2,1),(3,1)]:=⟨_,_,Zf8,rfl,Tryz.underlying36,by kernel_rfl⟩
def ZFO:Jq XX.P 78 [GX 0,.string ⟨#[]⟩,GW,GW,GW] [(0,5)]:=⟨_,_,ZaI,rfl,Tryz.underlying78,by kernel_rfl⟩
def ZFN:Jq XX.P 88 [GX 0,GX 0,.string ⟨#[]⟩,GW] [(0,4)]:=⟨_,_,Zq8,rfl,Tryz.underlying88,by kernel_rfl⟩
def ZJl:Jq XX.P 104 [GW,GW,GW,GW,.bool false] [(0,1),(1,1),(2,1),(3,1),(4,1)]:=⟨_,_,Zta,rfl,Tryz.underlying104,by kernel_rfl⟩
def ZJi:Jq XX.P 147 [GX 0] [(0,1)]:=⟨_,_,Zs8,rfl,Tryz.underlying147,by kernel_rfl⟩
def ZAs:Jq XX.P 159 [GW,GX 0] [(0,1),(1,1)]:=⟨_,_,Zs7,rfl,Tryz.underlying159,by kernel_rfl⟩
def ZJh:Jq XX.P 166 [GX 0,.string ⟨#[]⟩,GW,GW,GW] [(0,5)]:=⟨_,_,Zs5,rfl,Tryz.underlying166,by kernel_rfl⟩
def ZJg:Jq XX.P 187 [GX 0,GX 0] [(0,1),(1,1)]:=⟨_,_,Zmw,rfl,Tryz.underlying187,by kernel_rfl⟩
def XP:ZdM XX.P #[22,22] 1 16:=⟨9,.string ⟨#[]⟩,by kernel_rfl⟩
def Zkt:ZdM XX.P #[29,29] 4 56:=⟨36,.agg #[GX 0,GX 0,.string ⟨#[]⟩,GW],by kernel_rfl⟩
def ZfT:ZdM XX.P #[30,30] 5 96:=⟨130,.agg #[GX 0,.string ⟨#[]⟩,GW,GW,GW],by kernel_rfl⟩
def ZAE:ZdM XX.P #[31,31] 5 96:=⟨33,.agg #[GX 0,.string ⟨#[]⟩,GW,GW,GW],by kernel_rfl⟩
def Zku:ZdM XX.P #[102,102] 1 8:=⟨3,GX 0,by kernel_rfl⟩
def Za8:ZdM XX.P #[142,142] 1 16:=⟨140,.nilIface,by kernel_rfl⟩
def ZsI:ZdM XX.P #[160,160] 1 24:=⟨30,GW,by kernel_rfl⟩
def ZIS(x y:ZH):ZOW XX.P 187 (Zto.sh () x) (Zto.sh () y) (Ua x y):=
 ⟨by kernel_rfl,ZvA (d:=9999) (bs:=[x.at_==y.at_,x.many==y.many]) Tryz.underlying187 Kq0 ⟨⟨by decide,_,_,ZcO Kq0 rfl,ZcO Kq0 rfl,eq_int Kq0⟩,⟨by decide,_,_,ZcO Kq0 rfl,ZcO Kq0 rfl,eq_int Kq0⟩,trivial⟩⟩
def U6:Zhf XX.P 9 Value.string:=Zhf.str Kq0
def ZMe:(XX.fns.get 14).isSome=true:=Kq0
def Zpk:(XX.fns.get 15).isSome=true:=Kq0
def Zyw:(XX.fns.get 16).isSome=true:=Kq0
def ZMd:(XX.fns.get 23).isSome=true:=Kq0
def ZFv:(XX.fns.get 24).isSome=true:=Kq0
def ZMc:(XX.fns.get 27).isSome=true:=Kq0
def ZMb:(XX.fns.get 28).isSome=true:=Kq0
def ZMa:(XX.fns.get 29).isSome=true:=Kq0
def ZL9:(XX.fns.get 30).isSome=true:=Kq0
def Zyt:(XX.fns.get 31).isSome=true:=Kq0
def Zjl:(XX.fns.get 36).isSome=true:=Kq0
def ZL8:(XX.fns.get 52).isSome=true:=Kq0
def ZL7:(XX.fns.get 53).isSome=true:=Kq0
def ZFu:(XX.fns.get 57).isSome=true:=Kq0
def Zys:(XX.fns.get 58).isSome=true:=Kq0
def ZFt:(XX.fns.get 59).isSome=true:=Kq0
def ZFs:(XX.fns.get 61).isSome=true:=Kq0
def Zyr:(XX.fns.get 62).isSome=true:=Kq0
def Zyq:(XX.fns.get 63).isSome=true:=Kq0
def ZFr:(XX.fns.get 64).isSome=true:=Kq0
def ZFq:(XX.fns.get 65).isSome=true:=Kq0
def ZL6:(XX.fns.get 69).isSome=true:=Kq0
def ZL5:(XX.fns.get 70).isSome=true:=Kq0
def Zyp:(XX.fns.get 71).isSome=true:=Kq0
def Ze6:(XX.fns.get 80).isSome=true:=Kq0
def ZFp:(XX.fns.get 82).isSome=true:=Kq0
def ZFo:(XX.fns.get 87).isSome=true:=Kq0
def ZyL:(XX.fns.get 100).isSome=true:=Kq0
def Zb8:(XX.fns.get 101).isSome=true:=Kq0
def Zr0:(XX.fns.get 102).isSome=true:=Kq0
def ZyK:(XX.fns.get 103).isSome=true:=Kq0
def Y3:(XX.fns.get 104).isSome=true:=Kq0
def ZyJ:(XX.fns.get 105).isSome=true:=Kq0
def Zgt:(XX.fns.get 106).isSome=true:=Kq0
def ZyI:(XX.fns.get 107).isSome=true:=Kq0
def ZyH:(XX.fns.get 108).isSome=true:=Kq0
def ZrZ:(XX.fns.get 112).isSome=true:=Kq0
def ZyG:(XX.fns.get 113).isSome=true:=Kq0
def ZyF:(XX.fns.get 114).isSome=true:=Kq0
def ZHu:(XX.fns.get 115).isSome=true:=Kq0
def ZHt:(XX.fns.get 116).isSome=true:=Kq0
def ZyE:(XX.fns.get 125).isSome=true:=Kq0
def ZHs:(XX.fns.get 136).isSome=true:=Kq0
def ZyD:(XX.fns.get 137).isSome=true:=Kq0
def ZyC:(XX.fns.get 138).isSome=true:=Kq0
def ZyB:(XX.fns.get 139).isSome=true:=Kq0
def ZyA:(XX.fns.get 143).isSome=true:=Kq0
def Zyz:(XX.fns.get 144).isSome=true:=Kq0
def Zgs:(XX.fns.get 145).isSome=true:=Kq0
def Zyy:(XX.fns.get 146).isSome=true:=Kq0
def Zyx:(XX.fns.get 148).isSome=true:=Kq0
def ZHr:(XX.fns.get 155).isSome=true:=Kq0
def Wv:(XX.fns.get 160).isSome=true:=Kq0
def ZHq:(XX.fns.get 197).isSome=true:=Kq0
def Zyv:(XX.fns.get 198).isSome=true:=Kq0
def Zyu:(XX.fns.get 199).isSome=true:=Kq0
def ZHp:(XX.fns.get 200).isSome=true:=Kq0
def ZHo:(XX.fns.get 201).isSome=true:=Kq0
end
end Go.Proofs.YtbnepjakjmnadaaGreat
end
end
section
noncomputable section
namespace Go.ZY
open Go.Lf
class WA(P:Program)(t:TypeId):Prop where
 out:YE P t=some false
class Zq0(P:Program)(t:TypeId):Prop where
 out:YE P t=some true
class SzF(P:Program)(t:TypeId)(n:outParam Nat):Prop where
 out:Yz P t=some n
class QN(P:Program)(t:TypeId)(f:Nat)(o:outParam Nat):Prop where
 out:Zw P t f o
class ZkD(P:Program)(t:TypeId)(e:outParam TypeId):Prop where
 out:P.underlying t=some (.slice e)
class ZJM(P:Program)(t:TypeId):Prop where
 out:P.underlying t=some .bool
class UM(P:Program)(t:TypeId)(v:outParam Value):Prop where
 out:YP P t=some v
def ia{v:N}(h:XV v=false):XV v=false:=h
def ZRy{fr:Fr}{t:Nat}{c:Z}{v:N}(h:fr.at t=cond c v undef)(ha:XV v=false)(hc:c=true):YF fr (.tmp t)=some v:=X0 h ha hc
section
variable{X:Ctx}{h:H}{fr:Fr}{ty:J}{p':String}{af:GT Edge}{g:O (Nat×Z)}{d:O Tmp}{wm:Nat}{T:Nat->Prop}{h0:H}{G Gr:U (Ast wm)}
def ZOr{x:GP}{t:J}{f off b o:Nat}[hf:QN X.P t f off](hx:YF fr x=some (.pointer (some ⟨b,o,none⟩))):Xu X h (YF fr) ⟨d,.fieldAddr t x f,ty,p',af,g⟩=some (.val (.pointer (some ⟨b,o+off,none⟩)),.none):=YT hf.out hx
def ZSd{x:GP}{t:J}{b oo:Nat}{vs:U N}{v:N}[ht:WA X.P t](hx:YF fr x=some (.pointer (some ⟨b,oo,none⟩)))(hS:Sp wm T h0 G h)(pp:Pk G (bx wm b vs) Gr)(hv:vs[oo]? =some v):
 Xu X h (YF fr) ⟨d,.load t x,ty,p',af,g⟩=some (.val v,.none):=ZU ht.out hx (hS.UL pp) (J1 _).symm hv
def ZOp{x:GP}{t:J}{b oo sz:Nat}{vs ws:U N}[ht:Zq0 X.P t][hs:SzF X.P t sz](hx:YF fr x=some (.pointer (some ⟨b,oo,none⟩)))(hS:Sp wm T h0 G h)(pp:Pk G (bx wm b vs) Gr)(hj:Nat.ble (oo+sz) vs.length=true)(hv:(vs.drop oo).take sz=ws):
 Xu X h (YF fr) ⟨d,.load t x,ty,p',af,g⟩=some (.val (.agg ws.toArray),.none):=YB ht.out hs.out hx (hS.UL pp) (J1 _).symm hj hv
def ZOs{dd:Tmp}{x:GP}{t:J}{v:N}{vs:U N}(hx:YF fr x=some v)(hS:Sp wm T h0 G h)(hv:v.cells.toList=vs):
 HN X wm ⟨some dd,.box t x,ty,p',af,g⟩ fr h (fun v h'=>∃b,h.size=b/\v=(GY b)/\Sp wm T h0 (bx wm b vs::G) h'):=ZlB hS hx hv
def ZOt{dd:Tmp}{t:J}{v:N}{vs:U N}[hz:UM X.P t v](hS:Sp wm T h0 G h)(hv:v.cells.toList=vs):
 HN X wm ⟨some dd,.alloc t,ty,p',af,g⟩ fr h (fun v h'=>∃b,h.size=b/\v=(GY b)/\Sp wm T h0 (bx wm b vs::G) h'):=KP hS hz.out hv
def ZSc{x y:GP}{t:J}{b o sz:Nat}{cs cs' vs:U N}{v:N}[hs:SzF X.P t sz](hx:YF fr x=some (.pointer (some ⟨b,o,none⟩)))(hS:Sp wm T h0 G h)(pk:Pk G (bx wm b cs) Gr)(hy:YF fr y=some v)
 (hvs:v.cells.toList=vs) (hn:Nat.beq vs.length sz=true) (hl:Nat.ble (o+sz) cs.length=true) (hc:vs.all Value.oneCell'=true) (hv:splice cs o vs=cs'):
 HU X wm ⟨none,.store t x y,ty,p',af,g⟩ fr h (fun i=>i=b) (fun h'=>Sp wm T h0 (bx wm b cs'::Gr) h'):=Uy hS pk hs.out hx hy hvs hn hl hc hv
def ZOq{α:Type}{xs:U α}{v:α}{x y:GP}{t e:J}{sz b o nn c dd:Nat}{a:O Addr}{k:Int}[hu:ZkD X.P t e][hs:SzF X.P e sz](hx:YF fr x=some (.slice a nn c))(hy:YF fr y=some (GX k))(hn:nn=xs.length)(ha:a=some ⟨b,o,none⟩)(hk:Yf xs k=some v):
 Xu X h (YF fr) ⟨some dd,.indexAddr t x y,ty,p',af,g⟩=some (.val (.pointer (some ⟨b,o+k.toNat*sz,none⟩)),.none):=ZF hu.out hs.out hx hy hn ha hk
def ZOo{x:GP}{t:J}{b o oo j:Nat}{vs:U N}{v:N}[ht:WA X.P t](hx:YF fr x=some (.pointer (some ⟨b,oo,none⟩)))(ha:At h b o vs)(ho:oo=o+j)(hv:vs[j]? =some v):
 Xu X h (YF fr) ⟨d,.load t x,ty,p',af,g⟩=some (.val v,.none):=ZU ht.out hx ha ho hv
def ZOn{x:GP}{t e':J}{a:O Addr}{mm cc dd:Nat}[hu:ZkD X.P t e'](hx:YF fr x=some (.slice a mm cc)):
 Xu X h (YF fr) ⟨some dd,.call {callee:=.builtin .len,args:=#[x],argTypes:=#[t]},ty,p',af,g⟩=some (.val (GX (mm:Int)),.none):=ZfR hu.out hx rfl
end
section
variable{X:Ctx}{n wm:Nat}{rd:O Nat}{ops:GT Oper}{l:U Oper}{fr:Fr}{ds:U GV}{h:H}{ty:J}{p:String}{af:GT Edge}{g:O (Nat×Z)}{sf:ST}{m:Nat}
def WX.w2{Q:Fr->H->Prop}{d:Nat}{op:Op}{v:N}(hg:Z7 ops ⟨some d,op,ty,p,af,g⟩ fr)(hd:Nat.blt d n=true)(hM:okM ops sf m ⟨some d,op,ty,p,af,g⟩=true)(ha:Xu X h (YF fr) ⟨some d,op,ty,p,af,g⟩=some (.val v,.none))(k:WX X n wm rd ops sf (m+1) h l (Tr.set fr d v) Q):
 WX X n wm rd ops sf m h (⟨some d,op,ty,p,af,g⟩::l) fr Q:=WX.w hg hd ha k hM
def WX.gv2{Q:Fr->H->Prop}{d:Nat}{op:Op}{c:Z}{v:N}(hg:Zh ops ⟨some d,op,ty,p,af,g⟩ fr c)(hd:Nat.blt d n=true)(hM:okM ops sf m ⟨some d,op,ty,p,af,g⟩=true)(ha:c=true->Xu X h (YF fr) ⟨some d,op,ty,p,af,g⟩=some (.val v,.none))(k:WX X n wm rd ops sf (m+1) h l (Tr.set fr d (cond c v undef)) Q):
 WX X n wm rd ops sf m h (⟨some d,op,ty,p,af,g⟩::l) fr Q:=WX.gv hg hd ha k hM
end
structure Kp(q:Prop):Prop where
 out:q
def E0{p:Prop}(h:p:=by(focus (repeat (first|with_reducible exact fh | ((with_reducible apply YM);exact rfl) | ((with_reducible apply YA);exact rfl) | ((with_reducible apply Ya);exact rfl) | ((with_reducible apply Zg);exact rfl) | with_reducible assumption));first|done|fail)):p:=h
def lk{p:Prop}(h:p:=by(first|exact UA rfl | (apply Zm;exact E0;(first|exact ia rfl|assumption)) | (apply ZRy;exact E0;(first|exact ia rfl|assumption);assumption) | fail)):p:=h
def pk{p:Prop}(h:p:=by
 (first|exact k0|exact k1|exact k2|exact k3|exact k4|exact k5|exact k6|exact k7 | (repeat (first|exact k7|apply Pk.s)))
 done):p:=h
def ce{p:Prop}(h:p:=by
 (focus (first | (simp only[ZvJ,ZsB,Zqr,ZvH,ZvI,ZvK,ZnP,cells_func,Zli,Zkf,Zqs];exact rfl) | exact rfl))
 done):p:=h
def gi{p:Prop}(h:p:=by(first | (apply Zh.yes rfl rfl rfl;exact E0) | (apply Zh.no rfl rfl rfl;exact E0) | (apply Zh.ZF1 rfl rfl rfl;exact E0) | (apply Zh.no2 rfl rfl rfl;exact E0) | fail)):p:=h
section
variable{X:Ctx}{n wm:Nat}{rd:O Nat}{Q:XX->Fs->Prop}
def cn{c:GP}{a b:Code}{t:Z}{fr:Fr}{ds:U GV}{h:H}{α:Type}{x y r:α}(hL:(bif t then x else y)=r)(h1:t=true->x=r->WC X n wm rd a ⟨fr,ds,h,none⟩ Q)(h2:t=false->y=r->WC X n wm rd b ⟨fr,ds,h,none⟩ Q)(hc:YF fr c=some (.bool t):=by exact lk):WC X n wm rd (.cond c a b) ⟨fr,ds,h,none⟩ Q:=
 WC.U9 hc (fun e=>h1 e (XI e hL)) (fun e=>h2 e (XJ e hL))
def rt{fn:Func}{fr:Fr}{h h0:H}{T:Nat->Prop}{G G':U (Ast wm)}{wr:O Nat}{t:Tmp}{β:Type}{x r:β}{g:β->N}(hL:some x=some r)(hT:T=Ji G)(hS:Sp wm T h0 G' h)(hr:fn.results.toList=[.tmp t]:=by exact rfl)(hv:YF fr (.tmp t)=some (g x):=by exact lk):
 YK X fn (fun e h'=>∃v,e=.ret v/\CP (fun v Gb=>v=g r/\Gb=[]) G h0 v h') .ret ⟨fr,[],h,wr⟩:=by
 cases hL;exact YK.Jr hr (Zn hv Zk) ⟨_,⟨rfl,rfl⟩,hT▸hS.only .n⟩
def bg{f:GR}{fn:Func}{c:Code}{args:U N}{n:Nat}{K:N->U (Ast wm)->Prop}{G:U (Ast wm)}{h:H}{fr:Fr}(hnt:fn.ntmps=n)(Zv:wm<=h.size)(hO:Yb G h)
 (k:∀T,T=Ji (wm:=wm) G->Sp wm T h G h->WC X n wm none c ⟨fr,[],h,none⟩ (YK X fn (fun e h'=>∃v,e=.ret v/\CP K G h v h'))) (hf:X.fns.get f=some fn:=by kernel_rfl) (hb:fn.body=some c:=by exact rfl) (hn:args.length<=n:=by simp)
 (hfr:XZ args 0 .nil=fr:=by(simp only[ZE,ZJ,Nat.reduceAdd];exact rfl)):WR X f args.toArray wm h (CP K G h):=by
 subst hfr;exact WF.begin hf hb hnt hn (k _ rfl (Sp.start Zv hO))
end
def lks{p:Prop}(h:p:=by
 repeat (first|exact Zd | (apply Zb;(focus exact lk;done)))
 done):p:=h
def Y0{p:Prop}(h:p:=by
 repeat (first|with_reducible exact fh | ((with_reducible apply YM);exact rfl) | ((with_reducible apply YA);exact rfl) | ((with_reducible apply Ya);exact rfl) | ((with_reducible apply Zg);exact rfl) | with_reducible assumption|refine⟨?_,?_⟩)
 done):p:=h
theorem r1{p q:Prop}(k:q)(h:Kp q->p:=by
 intro k
 first
 | refine WO.nil ?_
 | refine ZP.Yc ?_
 | refine WC.seq ?_
 | refine WC.region ?_
 | ((first|apply WO.w gN rfl | (apply WO.gv;exact gi;rfl;intro hg) | (apply WX.w2 gN;rfl;rfl) | (apply WX.gv2;exact gi;rfl;rfl;intro hg));(focus (first
   | ((with_reducible apply Ym);exact lk)
   | ((with_reducible apply ZSd);exact lk;assumption;exact pk;rfl)
   | ((with_reducible apply ZOr);exact lk)
   | ((with_reducible apply Yy);exact lk)
   | ((with_reducible apply Xo);exact lk;exact lk;(first|with_reducible exact Km|with_reducible exact ZfY|with_reducible exact ZfX|with_reducible exact ZAW|with_reducible exact ZvZ|with_reducible exact ZAY|with_reducible exact ZAZ|with_reducible exact ZkA|with_reducible exact Zv3|with_reducible exact Zv4 ZJM.out|with_reducible exact Zv0 ZJM.out))
   | ((with_reducible apply ZOp);exact lk;assumption;exact pk;rfl;(focus simp only[Nat.zero_add,Nat.reduceAdd,List.drop_succ_cons,List.drop_zero,List.take_succ_cons,List.take_zero,List.take_nil];rfl))
   | ((with_reducible apply ZOn);exact lk)
   | ((with_reducible apply ZOq);exact lk;exact lk;(focus (exact rfl));assumption;assumption)
   | ((with_reducible apply ZOo);exact lk;(focus (first|assumption | (apply At.fz;(focus (apply Sp.fz;assumption));assumption;assumption));done);(focus (first|exact(Nat.add_zero _).symm|exact rfl);done);rfl)
   | ((with_reducible apply Xk);exact lk;rfl)
   | ((with_reducible apply Zaf);exact lk)
   | ((with_reducible apply Zes);exact lk)
   | ((with_reducible apply Za6);exact lk;(focus (apply Zz7;exact E0);done);exact lk)
   | ((with_reducible apply ZhG);exact lk;exact lk;(apply Zz7;exact E0))
   | fail)))
 | (apply WO.hu gN;(focus (first | (((with_reducible apply ZSc));exact lk;assumption;exact pk;exact lk;exact ce;exact rfl;exact rfl;exact rfl;(focus simp only[splice,List.take_succ_cons,List.take_zero,List.drop_succ_cons,List.drop_zero,List.cons_append,List.nil_append,List.append_nil,List.length_cons,List.length_nil,Nat.reduceAdd,Nat.zero_add,List.take_nil,List.drop_nil];exact rfl)) | fail)))
 | (apply WO.hn gN rfl;(focus (first | (((with_reducible apply ZOs));exact lk;assumption;exact ce) | (((with_reducible apply ZOt));assumption;exact ce) | fail)))
 | refine WC.skip ?_
 | refine WC.ret ?_
 | refine WC.block ?_
 | refine WC.exit ?_
 | refine ZP.ret ?_
 | refine ZP.exit ?_
 | refine YG.ret ?_
 | refine YG.Yc ?_
 | refine YG.here ?_
 | refine ZO.exit ?_
 | refine ZO.ret ?_
 | refine WX.nil ?_
 | fail
 exact k.out):p:=h ⟨k⟩
def sl{p:Prop}(h:p:=by
 repeat (first|exact Sel.n | (apply Sel.c;(focus exact pk)))
 done):p:=h
theorem r2{p q:Prop}(k:q)(h:Kp q->p:=by
 intro k
 iterate 2 (refine r1 ?_)
 exact k.out):p:=h ⟨k⟩
theorem r3{p q:Prop}(k:q)(h:Kp q->p:=by
 intro k
 iterate 3 (refine r1 ?_)
 exact k.out):p:=h ⟨k⟩
theorem r4{p q:Prop}(k:q)(h:Kp q->p:=by
 intro k
 iterate 4 (refine r1 ?_)
 exact k.out):p:=h ⟨k⟩
theorem r5{p q:Prop}(k:q)(h:Kp q->p:=by
 intro k
 iterate 5 (refine r1 ?_)
 exact k.out):p:=h ⟨k⟩
theorem r6{p q:Prop}(k:q)(h:Kp q->p:=by
 intro k
 iterate 6 (refine r1 ?_)
 exact k.out):p:=h ⟨k⟩
theorem r7{p q:Prop}(k:q)(h:Kp q->p:=by
 intro k
 iterate 7 (refine r1 ?_)
 exact k.out):p:=h ⟨k⟩
theorem r8{p q:Prop}(k:q)(h:Kp q->p:=by
 intro k
 iterate 8 (refine r1 ?_)
 exact k.out):p:=h ⟨k⟩
theorem r9{p q:Prop}(k:q)(h:Kp q->p:=by
 intro k
 iterate 9 (refine r1 ?_)
 exact k.out):p:=h ⟨k⟩
theorem r10{p q:Prop}(k:q)(h:Kp q->p:=by
 intro k
 iterate 10 (refine r1 ?_)
 exact k.out):p:=h ⟨k⟩
theorem r11{p q:Prop}(k:q)(h:Kp q->p:=by
 intro k
 iterate 11 (refine r1 ?_)
 exact k.out):p:=h ⟨k⟩
theorem r12{p q:Prop}(k:q)(h:Kp q->p:=by
 intro k
 iterate 12 (refine r1 ?_)
 exact k.out):p:=h ⟨k⟩
theorem r13{p q:Prop}(k:q)(h:Kp q->p:=by
 intro k
 iterate 13 (refine r1 ?_)
 exact k.out):p:=h ⟨k⟩
theorem r14{p q:Prop}(k:q)(h:Kp q->p:=by
 intro k
 iterate 14 (refine r1 ?_)
 exact k.out):p:=h ⟨k⟩
theorem r15{p q:Prop}(k:q)(h:Kp q->p:=by
 intro k
 iterate 15 (refine r1 ?_)
 exact k.out):p:=h ⟨k⟩
theorem r16{p q:Prop}(k:q)(h:Kp q->p:=by
 intro k
 iterate 16 (refine r1 ?_)
 exact k.out):p:=h ⟨k⟩
end Go.ZY
end
end
section
set_option maxRecDepth 20000
noncomputable section
namespace Go.Proofs.YtbnepjakjmnadaaGreat
open Go.ZY Go.Lf
section
instance:WA XX.P 3:=⟨ZAO⟩
instance:WA XX.P 4:=⟨ZSj⟩
instance:WA XX.P 9:=⟨ZaE⟩
instance:WA XX.P 22:=⟨WN⟩
instance:WA XX.P 28:=⟨Zut⟩
instance:WA XX.P 29:=⟨ZAP⟩
instance:WA XX.P 30:=⟨Zcu⟩
instance:WA XX.P 31:=⟨Zkv⟩
instance:Zq0 XX.P 33:=⟨WM⟩
instance:WA XX.P 34:=⟨ZOx⟩
instance:Zq0 XX.P 36:=⟨UH⟩
instance:WA XX.P 37:=⟨ZAN⟩
instance:WA XX.P 70:=⟨ZqL⟩
instance:WA XX.P 102:=⟨ZJA⟩
instance:Zq0 XX.P 124:=⟨ZJz⟩
instance:WA XX.P 127:=⟨Zkw⟩
instance:WA XX.P 128:=⟨Zhb⟩
instance:Zq0 XX.P 130:=⟨JM⟩
instance:Zq0 XX.P 136:=⟨Zcv⟩
instance:WA XX.P 140:=⟨Zha⟩
instance:WA XX.P 141:=⟨Zew⟩
instance:Zq0 XX.P 159:=⟨ZJy⟩
instance:WA XX.P 185:=⟨ZJx⟩
instance:Zq0 XX.P 187:=⟨ZJw⟩
instance:WA XX.P 194:=⟨ZJv⟩
instance:WA XX.P 195:=⟨ZJu⟩
instance:SzF XX.P 3 1:=⟨Ziy⟩
instance:SzF XX.P 4 1:=⟨Ztg⟩
instance:SzF XX.P 5 1:=⟨ZKs⟩
instance:SzF XX.P 9 1:=⟨QB⟩
instance:SzF XX.P 22 1:=⟨ZdO⟩
instance:SzF XX.P 29 1:=⟨ZmM⟩
instance:SzF XX.P 30 1:=⟨Zge⟩
instance:SzF XX.P 33 5:=⟨Xj⟩
instance:SzF XX.P 36 4:=⟨Xg⟩
instance:SzF XX.P 37 1:=⟨ZGz⟩
instance:SzF XX.P 70 1:=⟨ZGy⟩
instance:SzF XX.P 78 5:=⟨ZmL⟩
instance:SzF XX.P 88 4:=⟨ZGx⟩
instance:SzF XX.P 102 1:=⟨Zti⟩
instance:SzF XX.P 124 2:=⟨ZBQ⟩
instance:SzF XX.P 130 5:=⟨Z8⟩
instance:SzF XX.P 136 2:=⟨Xb⟩
instance:SzF XX.P 140 1:=⟨KO⟩
instance:SzF XX.P 141 1:=⟨ZmN⟩
instance:SzF XX.P 147 1:=⟨ZBP⟩
instance:SzF XX.P 159 2:=⟨ZBO⟩
instance:SzF XX.P 166 5:=⟨ZBN⟩
instance:SzF XX.P 185 1:=⟨ZBM⟩
instance:SzF XX.P 187 2:=⟨ZBL⟩
instance:SzF XX.P 195 1:=⟨ZBK⟩
instance:QN XX.P 33 0 0:=⟨Zh7⟩
instance:QN XX.P 33 1 1:=⟨ZC0⟩
instance:QN XX.P 33 2 2:=⟨ZtV⟩
instance:QN XX.P 33 3 3:=⟨Zh6⟩
instance:QN XX.P 33 4 4:=⟨Zh5⟩
instance:QN XX.P 36 0 0:=⟨ZCZ⟩
instance:QN XX.P 36 1 1:=⟨ZCY⟩
instance:QN XX.P 36 2 2:=⟨ZCX⟩
instance:QN XX.P 36 3 3:=⟨Znp⟩
instance:QN XX.P 78 0 0:=⟨KT⟩
instance:QN XX.P 88 0 0:=⟨ZCW⟩
instance:QN XX.P 104 0 0:=⟨ZpV⟩
instance:QN XX.P 104 1 1:=⟨ZpU⟩
instance:QN XX.P 104 2 2:=⟨ZzB⟩
instance:QN XX.P 104 3 3:=⟨ZjB⟩
instance:QN XX.P 104 4 4:=⟨ZzA⟩
instance:QN XX.P 119 0 0:=⟨Zzw⟩
instance:QN XX.P 119 2 2:=⟨Zzv⟩
instance:QN XX.P 119 3 3:=⟨Zzu⟩
instance:QN XX.P 119 4 4:=⟨Zzt⟩
instance:QN XX.P 124 0 0:=⟨Zzs⟩
instance:QN XX.P 124 1 1:=⟨Zzr⟩
instance:QN XX.P 130 0 0:=⟨ZpT⟩
instance:QN XX.P 130 1 1:=⟨Zzq⟩
instance:QN XX.P 130 2 2:=⟨Zcd⟩
instance:QN XX.P 130 3 3:=⟨Zzp⟩
instance:QN XX.P 130 4 4:=⟨Zfa⟩
instance:QN XX.P 136 0 0:=⟨ZpS⟩
instance:QN XX.P 136 1 1:=⟨Ze9⟩
instance:QN XX.P 147 0 0:=⟨Zzo⟩
instance:QN XX.P 159 0 0:=⟨Zzn⟩
instance:QN XX.P 159 1 1:=⟨Zzm⟩
instance:QN XX.P 166 0 0:=⟨ZpP⟩
instance:ZkD XX.P 22 9:=⟨Qq⟩
instance:ZkD XX.P 29 36:=⟨Kq⟩
instance:ZkD XX.P 30 130:=⟨Ql⟩
instance:ZkD XX.P 31 33:=⟨WB⟩
instance:ZkD XX.P 102 3:=⟨Ziq⟩
instance:ZkD XX.P 128 136:=⟨Jg⟩
instance:ZkD XX.P 138 5:=⟨ZGr⟩
instance:ZkD XX.P 142 140:=⟨K5⟩
instance:ZkD XX.P 160 30:=⟨Zgd⟩
instance:ZJM XX.P 4:=⟨ZPN⟩
instance:UM XX.P 3 (.int .i64 0):=⟨Zs4⟩
instance:UM XX.P 4 (.bool false):=⟨Zij⟩
instance:UM XX.P 5 (.int .u8 0):=⟨ZKd⟩
instance:UM XX.P 9 (.string ⟨#[]⟩):=⟨Zaj⟩
instance:UM XX.P 22 (.slice none 0 0):=⟨Zwi⟩
instance:UM XX.P 30 (.slice none 0 0):=⟨Zq9⟩
instance:UM XX.P 33 (.agg #[.int .i64 0,.string ⟨#[]⟩,.slice none 0 0,.slice none 0 0,.slice none 0 0]):=⟨Zik⟩
instance:UM XX.P 36 (.agg #[.int .i64 0,.int .i64 0,.string ⟨#[]⟩,.slice none 0 0]):=⟨Zf8⟩
instance:UM XX.P 37 (.int .i64 0):=⟨ZFW⟩
instance:UM XX.P 70 (.map none):=⟨ZFV⟩
instance:UM XX.P 78 (.agg #[.int .i64 0,.string ⟨#[]⟩,.slice none 0 0,.slice none 0 0,.slice none 0 0]):=⟨ZaI⟩
instance:UM XX.P 88 (.agg #[.int .i64 0,.int .i64 0,.string ⟨#[]⟩,.slice none 0 0]):=⟨Zq8⟩
instance:UM XX.P 104 (.agg #[.slice none 0 0,.slice none 0 0,.slice none 0 0,.slice none 0 0,.bool false]):=⟨Zta⟩
instance:UM XX.P 124 (.agg #[.slice none 0 0,.slice none 0 0]):=⟨ZBw⟩
instance:UM XX.P 130 (.agg #[.int .i64 0,.string ⟨#[]⟩,.slice none 0 0,.slice none 0 0,.slice none 0 0]):=⟨WQ⟩
instance:UM XX.P 136 (.agg #[.string ⟨#[]⟩,.slice none 0 0]):=⟨ZcF⟩
instance:UM XX.P 140 (.nilIface):=⟨ZeH⟩
instance:UM XX.P 141 (.nilFunc):=⟨Zmx⟩
instance:UM XX.P 147 (.agg #[.int .i64 0]):=⟨Zs8⟩
instance:UM XX.P 159 (.agg #[.slice none 0 0,.int .i64 0]):=⟨Zs7⟩
instance:UM XX.P 166 (.agg #[.int .i64 0,.string ⟨#[]⟩,.slice none 0 0,.slice none 0 0,.slice none 0 0]):=⟨Zs5⟩
instance:UM XX.P 185 (.map none):=⟨ZBv⟩
instance:UM XX.P 187 (.agg #[.int .i64 0,.int .i64 0]):=⟨Zmw⟩
instance:UM XX.P 195 (.nilFunc):=⟨ZBu⟩
end
section
def ZgO(p0:(U Y))(p1:Y):Int->(Int->O Z)->O Z:=fun v5 ZbY=>
 (bif decide (v5<(p0.length:Int)) then(Yf p0 v5).bind fun x8=>(bif decide (x8=p1) then some true else ZbY (Xa (v5+1))) else some false)
def ZgP(F:Nat)(p0:(U Y))(p1:Y):O Z:=
 loop F (ZgO p0 p1) 0
def ZzK:O (U (Y×Z)):=
 some (Xx (Xx (Xx (Xx (Xx (Xx (Xx (Xx (Xx (Xx ([]:(U (Y×Z))) (⟨#[97,110,100]⟩:Y) true) (⟨#[100,101,102]⟩:Y) true) (⟨#[101,108,115,101]⟩:Y) true) (⟨#[103,111]⟩:Y) true) (⟨#[105,102]⟩:Y) true) (⟨#[105,110]⟩:Y) true) (⟨#[112,108,97,99,101]⟩:Y) true) (⟨#[115,116,111,112]⟩:Y) true) (⟨#[116,104,101,110]⟩:Y) true) (⟨#[119,97,116,99,104]⟩:Y) true)
end
section
def ZID{F wm h}{p0:(U Y)}{p1:Y}{Zf Ze}{r}(Zv:wm<=h.size)(Zl:Sl Zx wm h Zf Ze p0)(hL:ZgP F p0 p1=some r):
 WR XX 36 #[.slice Zf p0.length Ze,.string p1] wm h (CP (fun v (Gb:U (Ast wm))=>v=.bool r/\Gb=[]) [] h):=by
 refine bg Tryz.ntmps36 Zv Yb.nil ?_;intro T hT hS;unfold ZgP at hL;refine r12 ?_;refine WC.loop (WL.lift hL (fun v5 s=>∃Qh h1,s=⟨Qh,[],h1,none⟩/\Sp wm T h [] h1/\Qh.at 0=.slice Zf p0.length Ze/\Qh.at 1=.string p1/\Qh.at 5= GX v5) ⟨_,_,rfl,hS.only .n,Y0⟩ ?_);rintro ZbY v5 s Zd3 hL ⟨Qh,h1,rfl,hS,e3,e4,e6⟩;refine r9 ?_;refine cn hL ?_ ?_
 ·intro hc hL;refine r8 ?_;obtain⟨x8,hx8,hL⟩:=bS hL;obtain⟨b9,o10,_,ZyM,Zy0,ZyW,Zr1⟩:=Sl.at_ Zl hx8;refine V2 (ZF Qq QB lk lk rfl ZyM hx8)<|V2 (ZU ZaE (Zm fh rfl) (At.fz hS.fz ZyW Zy0) (j:=0) rfl (v:=.string x8) rfl)<|r1 ?_;refine V2 (Xo (Zm (Zg rfl fh) rfl) (Zm fh rfl) Uo)<|r2 ?_;refine cn hL ?_ ?_
  ·intro hc hL;refine r11 ?_;exact rt hL hT hS
  ·intro hc hL;refine r8 ?_;exact ZO.Yc (Zd3 _ _ hL ⟨_,_,rfl,hS.only .n,Y0⟩)
 ·intro hc hL;refine r11 ?_;exact rt hL hT hS
def Zeb{F h}{p0:(U Y)}{p1:Y}{Zf Ze}{r}(Zl:Sl Zx h.size h Zf Ze p0)(hL:ZgP F p0 p1=some r):Pure XX 36 #[.slice Zf p0.length Ze,.string p1] h (.bool r):=
 WR.Zam rfl (ZID V0 Zl hL)
def ZIB{wm h}{r}(Zv:wm<=h.size)(hL:ZzK=some r):
 WR XX 53 #[] wm h (CP (fun v (Gb:U (Ast wm))=>∃ZEz,v=.map (some ZEz)/\Gb=[mp wm Value.string Value.bool (some ZEz) r]) [] h):=by
 refine bg Tryz.ntmps53 Zv Yb.nil ?_;intro T hT hS;unfold ZzK at hL;refine r7 ?_;refine V4 (Zhn Value.string Value.bool hS) ?_;rintro _ h1 ⟨b2,eb2,rfl,hS⟩;refine WO.hu gN (Zdw (kv:=Value.string) (vv:=Value.bool) (k:=(⟨#[97,110,100]⟩:Y)) (v:=true) hS k0 U6 JQ lk lk lk) ?_;rintro h3 hS;refine WO.hu gN (Zdw (kv:=Value.string) (vv:=Value.bool) (k:=(⟨#[100,101,102]⟩:Y)) (v:=true) hS k0 U6 JQ lk lk lk) ?_;rintro h4 hS;refine WO.hu gN (Zdw (kv:=Value.string) (vv:=Value.bool) (k:=(⟨#[101,108,115,101]⟩:Y)) (v:=true) hS k0 U6 JQ lk lk lk) ?_;rintro h5 hS;refine WO.hu gN (Zdw (kv:=Value.string) (vv:=Value.bool) (k:=(⟨#[103,111]⟩:Y)) (v:=true) hS k0 U6 JQ lk lk lk) ?_;rintro h6 hS;refine WO.hu gN (Zdw (kv:=Value.string) (vv:=Value.bool) (k:=(⟨#[105,102]⟩:Y)) (v:=true) hS k0 U6 JQ lk lk lk) ?_;rintro h7 hS;refine WO.hu gN (Zdw (kv:=Value.string) (vv:=Value.bool) (k:=(⟨#[105,110]⟩:Y)) (v:=true) hS k0 U6 JQ lk lk lk) ?_;rintro h8 hS;refine WO.hu gN (Zdw (kv:=Value.string) (vv:=Value.bool) (k:=(⟨#[112,108,97,99,101]⟩:Y)) (v:=true) hS k0 U6 JQ lk lk lk) ?_;rintro h9 hS;refine WO.hu gN (Zdw (kv:=Value.string) (vv:=Value.bool) (k:=(⟨#[115,116,111,112]⟩:Y)) (v:=true) hS k0 U6 JQ lk lk lk) ?_;rintro h10 hS;refine WO.hu gN (Zdw (kv:=Value.string) (vv:=Value.bool) (k:=(⟨#[116,104,101,110]⟩:Y)) (v:=true) hS k0 U6 JQ lk lk lk) ?_;rintro h11 hS;refine WO.hu gN (Zdw (kv:=Value.string) (vv:=Value.bool) (k:=(⟨#[119,97,116,99,104]⟩:Y)) (v:=true) hS k0 U6 JQ lk lk lk) ?_;rintro h12 hS;refine r5 ?_;have hr:=Oi0 hL;subst hr;exact YK.Jr rfl (Zn lk Zk) ⟨_,⟨b2,rfl,rfl⟩,hT▸hS.only (.c k0 .n)⟩
end
section
def ZgQ(F:Nat)(p0:Y):Int->(Int->O Z)->O Z:=fun v4 ZEN=>
 (bif decide (v4<(p0.size:Int)) then(Zhh p0 v4).bind fun z7=>(gd (!(decide (z7<97))) (Zhh p0 v4) default).bind fun z8=>(bif((decide (z7<97))||(decide (z8>122))) then some false else ZEN (Xa (v4+1))) else(ZgP F ([(⟨#[97,110,100]⟩:Y),(⟨#[100,101,102]⟩:Y),(⟨#[101,108,115,101]⟩:Y),(⟨#[103,111]⟩:Y),(⟨#[105,102]⟩:Y),(⟨#[105,110]⟩:Y),(⟨#[112,108,97,99,101]⟩:Y),(⟨#[115,116,111,112]⟩:Y),(⟨#[116,104,101,110]⟩:Y),(⟨#[119,97,116,99,104]⟩:Y)]) p0).bind fun x11=>some (!x11))
def Znx(F:Nat)(p0:Y):O Z:=
 (bif((decide ((p0.size:Int)<1))||(decide ((p0.size:Int)>8))) then some false else loop F (ZgQ F p0) 0)
def ZgR(p0:Y):Int->(Int->O Z)->O Z:=fun v5 ZbY=>
 (bif decide (v5<(p0.size:Int)) then(Zhh p0 v5).bind fun z8=>(gd (!(decide (z8<97))) (Zhh p0 v5) default).bind fun z9=>(bif((decide (z8<97))||(decide (z9>122))) then some false else ZbY (Xa (v5+1))) else(bif((decide ((p0.size:Int)>0))&&(decide ((p0.size:Int)<=8))) then(ZzK).bind fun x11=>(ZkX x11 p0 false).bind fun x15=>some (!x15) else some false))
def ZjW(F:Nat)(p0:Y):O Z:=
 loop F (ZgR p0) 0
end
section
def ZIM{F wm h}{p0:Y}{r}(Zv:wm<=h.size)(hL:Znx F p0=some r):
 WR XX 16 #[.string p0] wm h (CP (fun v (Gb:U (Ast wm))=>v=.bool r/\Gb=[]) [] h):=by
 refine bg Tryz.ntmps16 Zv Yb.nil ?_;intro T hT hS;unfold Znx at hL;refine r9 ?_;refine V2 (Kl ZkO (Zm fh rfl))<|r3 ?_;refine WO.gv (Zh.no rfl rfl rfl (Zg rfl fh)) rfl (fun hg=>(Kl ZkO (X0 fh rfl hg)))<|r4 ?_;refine cn hL ?_ ?_
 ·intro hc hL;refine r7 ?_;exact rt hL hT hS
 ·intro hc hL;refine r9 ?_;refine WC.loop (WL.lift hL (fun v4 s=>∃Qh h1,s=⟨Qh,[],h1,none⟩/\Sp wm T h [] h1/\Qh.at 0=.string p0/\Qh.at 3= GX v4) ⟨_,_,rfl,hS.only .n,(YM rfl (Ya rfl fh)),fh⟩ ?_);rintro ZEN v4 s ZHf hL ⟨Qh,h1,rfl,hS,e3,e5⟩;refine r5 ?_;refine V2 (Kl ZkO (Zm fh rfl))<|r3 ?_;refine cn hL ?_ ?_
  ·intro hc hL;refine r8 ?_;obtain⟨z7,hz7,hL⟩:=bS hL;refine V2 (Zdf ZkO (Zm (Zg rfl fh) rfl) (Zm fh rfl) hz7)<|r4 ?_;obtain⟨z8,hz8,hL⟩:=Y1 hL;refine WO.gv (Zh.no rfl rfl rfl (Ya rfl fh)) rfl (fun hg=>(Zdf ZkO (X0 (Zg rfl fh) rfl hg) (X0 fh rfl hg) (hz8 hg)))<|r4 ?_;refine cn hL ?_ ?_
   ·intro hc hL;refine r11 ?_;exact rt hL hT hS
   ·intro hc hL;refine r8 ?_;exact ZO.Yc (ZHf _ _ hL ⟨_,_,rfl,hS.only .n,(YM rfl (YM rfl (Zg rfl e3))),fh⟩)
  ·intro hc hL;refine r7 ?_;refine V4 (Uj (e:=Zx) hS Qq QB Zaj rfl rfl rfl (ZA (UA rfl) (ZA (UA rfl) (ZA (UA rfl) (ZA (UA rfl) (ZA (UA rfl) (ZA (UA rfl) (ZA (UA rfl) (ZA (UA rfl) (ZA (UA rfl) (ZA (UA rfl) Z0)))))))))) rfl [((),(⟨#[97,110,100]⟩:Y)),((),(⟨#[100,101,102]⟩:Y)),((),(⟨#[101,108,115,101]⟩:Y)),((),(⟨#[103,111]⟩:Y)),((),(⟨#[105,102]⟩:Y)),((),(⟨#[105,110]⟩:Y)),((),(⟨#[112,108,97,99,101]⟩:Y)),((),(⟨#[115,116,111,112]⟩:Y)),((),(⟨#[116,104,101,110]⟩:Y)),((),(⟨#[119,97,116,99,104]⟩:Y))] rfl (xs:=[(⟨#[97,110,100]⟩:Y),(⟨#[100,101,102]⟩:Y),(⟨#[101,108,115,101]⟩:Y),(⟨#[103,111]⟩:Y),(⟨#[105,102]⟩:Y),(⟨#[105,110]⟩:Y),(⟨#[112,108,97,99,101]⟩:Y),(⟨#[115,116,111,112]⟩:Y),(⟨#[116,104,101,110]⟩:Y),(⟨#[119,97,116,99,104]⟩:Y)]) rfl (by intro q hq;simp only[Ks,Jx,or_false]at hq;rcases hq with rfl|rfl|rfl|rfl|rfl|rfl|rfl|rfl|rfl|rfl<;>first|exact trivial) rfl) ?_;rintro _ h10 ⟨b9,eb9,rfl,hS⟩;refine r1 ?_;obtain⟨x11,Zjf,hL⟩:=bS hL;refine WO.cp gN rfl (Yi.fn Zjl (Zb (Zm (Zg rfl fh) rfl) (Zb (Zm fh rfl) Zd))) (Zeb (hS.ord k0) Zjf)<|r5 ?_;exact rt hL hT hS
def Zsn{F h}{p0:Y}{r}(hL:Znx F p0=some r):Pure XX 16 #[.string p0] h (.bool r):=
 WR.Zam rfl (ZIM V0 hL)
def ZIN{F wm h}{p0:Y}{r}(Zv:wm<=h.size)(hL:ZjW F p0=some r):
 WR XX 15 #[.string p0] wm h (CP (fun v (Gb:U (Ast wm))=>v=.bool r/\Gb=[]) [] h):=by
 refine bg Tryz.ntmps15 Zv Yb.nil ?_;intro T hT hS;unfold ZjW at hL;refine r9 ?_;refine V2 (Kl ZkO lk)<|r4 ?_;refine WC.loop (WL.lift hL (fun v5 s=>∃Qh h1,s=⟨Qh,[],h1,none⟩/\Sp wm T h [] h1/\Qh.at 0=.string p0/\Qh.at 5= GX (p0.size:Int)/\Qh.at 6= GX v5) ⟨_,_,rfl,hS.only .n,Y0⟩ ?_);rintro ZbY v5 s Zd3 hL ⟨Qh,h1,rfl,hS,e3,e4,e6⟩;refine r6 ?_;refine cn hL ?_ ?_
 ·intro hc hL;refine r14 ?_;obtain⟨z8,hz8,hL⟩:=bS hL;refine V2 (Zdf ZkO lk lk hz8)<|r4 ?_;obtain⟨z9,hz9,hL⟩:=Y1 hL;refine WO.gv (Zh.no rfl rfl rfl (Ya rfl fh)) rfl (fun hg=>(Zdf ZkO (X0 (Zg rfl fh) rfl hg) (X0 fh rfl hg) (hz9 hg)))<|r4 ?_;refine cn hL ?_ ?_
  ·intro hc hL;refine r11 ?_;exact rt hL hT hS
  ·intro hc hL;refine r7 ?_;exact ZO.Yc (Zd3 _ _ hL ⟨_,_,rfl,hS.only .n,Y0⟩)
 ·intro hc hL;refine r8 ?_;refine V2 (Kl ZkO lk)<|r3 ?_;refine WO.gv (Zh.yes rfl rfl rfl (Zg rfl fh)) rfl (fun hg=>(Kl ZkO (X0 fh rfl hg)))<|r3 ?_;refine WO.Zjv (Zh.yes rfl rfl rfl fh) (fun hk10=>?_) (fun hk10=>?_)
  ·replace hL:=XI hk10 hL;obtain⟨x11,Zjf,hL⟩:=bS hL;refine WO.cl (Zh.on (Zh.yes rfl rfl rfl fh) hk10) rfl (Yi.fn ZL7 Zd) hS .n (fun g' hz hf hO=>ZIB (hS.V6 hz) Zjf) ?_;rintro _ h13 _ ⟨m12,rfl,rfl⟩ hS;refine WO.w (Zh.on (Zh.yes rfl rfl rfl (Zg rfl fh)) hk10) rfl (Ym lk) ?_;obtain⟨x15,Zje,hL⟩:=bS hL;refine WO.w (Zh.on (Zh.yes rfl rfl rfl (Ya rfl fh)) hk10) rfl (Zde (kv:=Value.string) (vv:=Value.bool) (k:=p0) (z:=false) U6 JQ Zij (Zm (Zg rfl fh) rfl) (Zm fh rfl) (hS.get k0).at_ Zje (w:=.bool x15) rfl)<|WO.w (Zh.on (Zh.yes rfl rfl rfl (Ya rfl (Zg rfl fh))) hk10) rfl (Zaf lk)<|V2 (Zkp lk hk10 lk)<|r4 ?_;exact rt hL hT hS
  ·replace hL:=XJ hk10 hL;refine WO.Zgi (Zh.yes rfl rfl rfl fh) hk10 rfl<|WO.Zgi (Zh.yes rfl rfl rfl (Zg rfl fh)) hk10 rfl<|WO.Zgi (Zh.yes rfl rfl rfl (Ya rfl fh)) hk10 rfl<|WO.Zgi (Zh.yes rfl rfl rfl (Ya rfl (Zg rfl fh))) hk10 rfl<|V2 (Zkq lk hk10 lk)<|r4 ?_;exact rt hL hT hS
def ZjV{F h}{p0:Y}{r}(hL:ZjW F p0=some r):Pure XX 15 #[.string p0] h (.bool r):=
 WR.Zam rfl (ZIN V0 hL)
end
section
end
section
end
section
open Go.ZY Go.RowKit
def Zad(fn:Func):Code:=fn.body.getD .skip
def UO:Nat->Code->Code
 | 0,c=>c
 | k+1,.seq _ b=>UO k b
 | _+1,c=>c
def ZiA(ih:Qo->O YO)(n:Nat):Nat->Code->Fs->O Fs
 | 0,_,s=>some s
 | k+1,.seq a b,s=>match ih (.code a n 0 none s) with
   | some (.code .normal s1)=>ZiA ih n k b s1
   | _=>none
 | _+1,_,_=>none
def ZhH:Nat->Fr
 | 0=>.nil
 | n+1=>Tr.set (ZhH n) n Zn1
def ZDU(n:Nat):Fs:= {fr:=ZhH n,ds:=[],h:=⟨.nil,0⟩}
def ZqJ(n t:Nat):(ZhH n).at t=if t<n then Zn1 else undef:=by
 induction n with
 | zero=>rfl
 | succ n ih=>
   unfold Fr.at at ih ⊢;rw[ZhH,Tr.XA];by_cases h:t=n
   ·subst h;simp
   ·rw[if_neg h,ih];by_cases h2:t<n
    ·rw[if_pos h2,if_pos GZ]
    ·rw[if_neg h2,if_neg GZ]
def ZAJ{n:Nat}{a:Act}{w:GS}(h1:a.tmps.size=n)(h2:a.defers=[]):Inv ZoQ n (ZDU n) a w:=by
 refine⟨⟨fun _ _ _ e=>(by cases e),fun _ _ _ e=>(by cases e),fun _ _ _ _ _ e=>(by cases e)⟩,⟨h1,fun t ht=>?_⟩,?_⟩
 ·have e:(ZDU n).fr.at t=if t<n then Zn1 else undef:=ZqJ n t
  rw[e]at ht ⊢;by_cases h:t<n
  ·rw[if_pos h]at ht;cases ht
  ·rw[if_neg h,Q1,Array.getElem?_eq_none GZ];exact VR.undef _
 ·rw[h2];exact .nil
variable{X:Ctx}{k:Nat}
def ZmP{ih:Qo->O YO}(HI:∀j r,ih j=some r->Yx X j r){n:Nat}{Q:Exit->Act->GS->Prop}:∀(m:Nat)(c:Code)(s s':Fs),ZiA ih n m c s=some s'->∀(ρ:Ren)(a:Act)(w:GS),Inv ρ n s a w ->
 (∀ρ' a' w',Inv ρ' n s' a' w'->Stp 0 ρ s.h w ρ' s'.h w'->(UO m c).wpIn base 0 X.P Q a' w')->c.wpIn base 0 X.P Q a w:=by
 intro m
 induction m with
 | zero=>intro c s s' h ρ a w hi hk;cases h;exact hk ρ a w hi (Stp.refl _ _ _ _)
 | succ m ihm=>
   intro c s s' h ρ a w hi hk;cases c with
   | seq x y=>
     simp only[ZiA]at h;split at h
     ·rename_i s1 h1;refine wpIn_seq (wpIn_mono (HI _ _ h1 ρ a w base (Gq _) hi rfl) ?_);rintro e' a' w' ⟨ρ',he,hi',hst⟩;cases he;exact ihm y s1 s' h ρ' a' w' hi' fun ρ2 a2 w2 hi2 Zdq=>hk ρ2 a2 w2 hi2 (hst.trans hi.rel.lt Zdq)
     ·cases h
   | _=>cases h
def ZuR{ρ ρ':Ren}{h':H}{w w':GS}{h:H}(hρ:ρ=ZoQ)(st:Stp 0 ρ h w ρ' h' w'):Below w.heap.size w w':=by
 subst hρ;exact st.below fun i b d _ e=>by cases e
end
section
open Go.ZY Go.RowKit
def mkS(n:Nat)(fv:U (Nat×N))(ov:U (Nat×YV))(sz:Nat):Fs:=
 {fr:=fv.foldr (fun p f=>Tr.set f p.1 p.2) (ZhH n),ds:=[],h:=⟨ov.foldr (fun p t=>Tr.set t p.1 p.2) .nil,sz⟩}
def ZoH(n:Nat)(K O':U Nat)(s:Fs):Fs:=mkS n (K.map fun t=>(t,s.fr.at t)) (O'.map fun i=>(i,s.h.at i)) s.h.size
def Q6(ih:Qo->O YO)(n:Nat)(K O':U Nat)(m:Nat)(c:Code)(s:Fs):O Fs:=
 match ZiA ih n m c s with
 | some s1=>match s1.ds with
   | []=>some (ZoH n K O' s1)
   | _::_=>none
 | none=>none
def ZkW{ih:Qo->O YO}{n m:Nat}{K O':U Nat}{c:Code}{s s':Fs}(h:Q6 ih n K O' m c s=some s'):∃s1,ZiA ih n m c s=some s1/\s1.ds=[]/\s'=ZoH n K O' s1:=by
 unfold Q6 at h;split at h
 ·rename_i s1 h1;split at h
  ·rename_i h2;cases h;exact⟨s1,h1,h2,rfl⟩
  ·cases h
 ·cases h
def ZpN{α:Type}(g:Nat->α)(t0:Tr α):∀(K:U Nat)(t:Nat),((K.map fun t=>(t,g t)).foldr (fun p f=>Tr.set f p.1 p.2) t0).get t=if t∈K then some (g t) else t0.get t:=by
 intro K
 induction K with
 | nil=>intro t;simp
 | cons k K ih=>
   intro t;simp only[Gc,List.foldr_cons,Tr.XA,ih];by_cases h:t=k
   ·subst h;simp
   ·simp[h]
def ZwX{ρ:Ren}{n:Nat}{K O':U Nat}{s:Fs}{a:Act}{w:GS}(hi:Inv ρ n s a w)(hd:s.ds=[]):Inv ρ n (ZoH n K O' s) a w:=by
 have hat:∀i,(ZoH n K O' s).h.at i=if i∈O' then s.h.at i else .dead:=by
  intro i;show H.at ⟨_,s.h.size⟩ i=_;by_cases hlt:i<s.h.size
  ·have hb:Nat.blt i s.h.size=true:=by rw[Jn];exact hlt
   have hf:=ZpN (fun i=>s.h.at i) Tr.nil O' i;show(bif Nat.blt i s.h.size then(Tr.get (List.foldr _ Tr.nil (O'.map fun i=>(i,s.h.at i))) i).getD YV.dead else YV.dead)=_;rw[hb,Cq1,hf];by_cases ho:i∈O'
   ·rw[if_pos ho,if_pos ho];rfl
   ·rw[if_neg ho,if_neg ho];rfl
  ·have hb:Nat.blt i s.h.size=false:=by rw[Gd];intro z;rw[Jn]at z;omega
   rw[H.ZaC (h:=s.h) GZ];simp[H.at,hb]
 refine⟨⟨hi.rel.dom,fun i b d e=>?_,fun i j b d d' e e' ho hl=>?_⟩,⟨hi.fr.size,fun t ht=>?_⟩,?_⟩
 ·rw[hat];split
  ·exact hi.rel.obj i b d e
  ·trivial
 ·rw[hat]at ho hl;split at ho
  ·split at hl
   ·exact hi.rel.inj i j b d d' e e' ho hl
   ·cases hl
  ·cases ho
 ·have e:(ZoH n K O' s).fr.at t=if t∈K then s.fr.at t else(ZhH n).at t:=by
   have hf:=ZpN (fun t=>s.fr.at t) (ZhH n) K t;show(Tr.get (List.foldr _ (ZhH n) (K.map fun t=>(t,s.fr.at t))) t).getD undef=_;rw[hf];split<;>rfl
  rw[e]at ht ⊢;split at ht
  ·rw[if_pos (by assumption)];exact hi.fr.val t ht
  ·rename_i hn;rw[if_neg hn];rw[ZqJ]at ht ⊢;by_cases h:t<n
   ·rw[if_pos h]at ht;cases ht
   ·have:=hi.fr.size;rw[if_neg h,Q1,Array.getElem?_eq_none GZ];exact VR.undef _
 ·have h:=hi.ds;rw[hd]at h;exact h
variable{X:Ctx}
inductive Wl(X:Ctx)(fn:Func):Code->Fs->Prop
 | last {c:Code} {s:Fs} {k:Nat} (h:isTrue (ZfO (fun e s=>match xPM e with
    | some pm=>ev (cfg X fun _=>false) k (.leave fn 0 pm s)
    | none=>none) (ev (cfg X fun _=>false) k (.code c fn.ntmps 0 none s)))=true):Wl X fn c s
 | seg {c:Code} {s s':Fs} {k:Nat} (m:Nat) (K O':List Nat) (h:Q6 (ev (cfg X fun _=>false) k) fn.ntmps K O' m c s=some s') (t:Wl X fn (UO m c) s'):Wl X fn c s
def ZuO(m:Nat):∀(k:Nat)(c:Code),UO m (UO k c)=UO (k+m) c:=by
 intro k
 induction k with
 | zero=>intro c;rw[J1];rfl
 | succ k ih=>
   intro c;rw[Nat.add_right_comm];cases c with
   | seq a b=>exact ih b
   | _=>cases m<;>rfl
def Wl.Zoz{fn:Func}{body:Code}{s s':Fs}{k pos:Nat}(m:Nat){K O':U Nat}(h:Q6 (ev (cfg X fun _=>false) k) fn.ntmps K O' m (UO pos body) s=some s')(t:Wl X fn (UO (pos+m) body) s'):Wl X fn (UO pos body) s:=
 .seg m K O' h (by rw[ZuO];exact t)
def ZwD{ρ ρ':Ren}{w w':GS}{h' h2:H}(st:Stp 0 ρ ⟨.nil,0⟩ w ρ' h' w')(hs:h2.size=h'.size):Stp 0 ρ ⟨.nil,0⟩ w ρ' h2 w':=
 ⟨st.ext,by rw[hs];exact st.size,fun i hi=>absurd hi (Nat.not_lt_zero _),fun i hi=>absurd hi (Nat.not_lt_zero _),fun i hi=>absurd hi (Nat.not_lt_zero _),st.os,st.tape,st.output,st.Xh,st.frame,st.JN⟩
def Wl.sound{fn:Func}(hm:X.P.follows .mixedOrders=true){c:Code}{s:Fs}(h:Wl X fn c s):∀(ρ:Ren)(a:Act)(w w0:GS),Inv ρ fn.ntmps s a w->Stp 0 ZoQ ⟨.nil,0⟩ w0 ρ s.h w ->
 c.wpIn base 0 X.P (bodyPostM base 0 X.P fn (fun e w'=>e=.returned (.bool true)/\Below w0.heap.size w0 w')) a w:=by
 have hd0:∀i p,ZoQ i=some p->i<(⟨.nil,0⟩:H).size:=fun i p e=>by cases e
 induction h with
 | last h=>
   intro ρ a w w0 hi ZrS;rename_i s k;obtain⟨h',hc⟩:=Zo5 h;obtain⟨e,s1,ha,hk⟩:=QV hc;have ka:=ZcI (X:=X) (YU:=fun _=>false) hm k _ _ ha;split at hk
   ·rename_i pm hpm;have hj:=ZcI (X:=X) (YU:=fun _=>false) hm k _ _ hk;refine wpIn_mono (ka ρ a w base (Gq _) hi rfl) ?_;rintro e' a' w' ⟨ρ',he,hi',hst⟩
    have fin:∀e2 w2,UI 0 ρ' s1.h w' (.ret (.bool true)) h' e2 w2->e2=.returned (.bool true)/\Below w0.heap.size w0 w2:=by
     rintro e2 w2 ⟨ρ2,hr,hrel,Zdq⟩;have hbb:=ZuR rfl ((ZrS.trans hd0 hst).trans hd0 Zdq);refine⟨?_,hbb⟩;cases hr with
     | ret hv=>cases hv;rfl
    cases he with
    | normal=>cases hpm;exact hj ρ' _ a' .returning w' _ (Gq _) hi' .ret fin
    | ret=>cases hpm;exact hj ρ' _ a' .returning w' _ (Gq _) hi' .ret fin
    | panic hv'=>cases hpm;exact hj ρ' _ a' _ w' _ (Gq _) hi' (.Yd hv') fin
    | exit id=>cases hpm
    | goto l=>cases hpm
   ·cases hk
 | seg m K O' h t iht=>
   intro ρ a w w0 hi ZrS;rename_i c s s' k;obtain⟨s1,h1,h2,rfl⟩:=ZkW h;refine ZmP (ZcI (X:=X) (YU:=fun _=>false) hm k) m c s s1 h1 ρ a w hi fun ρ' a' w' hi' hst=>?_
   exact iht ρ' a' w' w0 (ZwX hi' h2) (ZwD (ZrS.trans hd0 hst) rfl)
def Zsw(X:Ctx)(hX:X.P=Tryz.prog){f:GR}(hlt:f<nfs){fn:Func}{c:Code}(hf:Tryz.prog.funcs[f]? =some fn)(hb:fn.body=some c)(h:Wl X fn c (ZDU fn.ntmps))(w:GS):
 CallsIn base 0 Tryz.prog f #[] w fun e w'=>e=.returned (.bool true)/\Below w.heap.size w w':=by
 rw[<-hX]at hf ⊢;refine(callsIn_of_wp_marks hf hb hlt (h.sound (by rw[hX];exact mixed) ZoQ _ w w (ZAJ ?_ rfl) (Stp.refl _ _ _ _)) ?_)
 ·simp
 ·rfl
end
end Go.Proofs.YtbnepjakjmnadaaGreat
end
end
