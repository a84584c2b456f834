/- Part 11. -/
import Derived.Laws.Strings
import Derived.Test.YtbnepjakjmnadaaGreatLa10
set_option linter.all false
set_option maxHeartbeats 2000000
section
noncomputable section
namespace Go.ZP
open Go.Lf
section
variable{X:Ctx}{P:V0}{h:H}{ev:GZ->O N}{d:O Tmp}{ty:J}{p:String}{af:V4 Edge}{g:O (Nat×Z)}
def Zgy{x:GZ}{t:J}{s:Y}(hu:X.P.underlying t=some .string)(hx:ev x=some (.string s)):
 Xt X h ev ⟨d,.call {callee:=.builtin .len,args:=#[x],argTypes:=#[t]},ty,p,af,g⟩=some (.val (V8 (s.size:Int)),.none):=by
 have he:evs ev [x]=some [.string s]:=Zb hx Zd;rw[Wx]
 show(match evs ev [x] with
  | some args=>Wz X.P h .len #[t] ty args
  | none=>none)=_
 rw[he];show vN (ZsK X.P h t (.string s))=_;unfold ZsK;rw[hu];rfl
def Zmb{x y:GZ}{t:J}{s:Y}{i z:Int}(hu:X.P.underlying t=some .string)(hx:ev x=some (.string s))(hy:ev y=some (V8 i))(hz:ZgK s i=some z):
 Xt X h ev ⟨d,.index t x y,ty,p,af,g⟩=some (.val (.int .u8 z),.none):=by
 show(match ev x,ev y with
  | some x,some i=>bif plain x&&plain i then pN (KJ X.P (Instr.index t x i)) else vN (ZhV X.P t x i)
  | _,_=>none)=_
 rw[hx,hy];show pN (KJ X.P (Instr.index t (.string s) (V8 i)))=_
 have:Zu X.P (Instr.index t (.string s) (V8 i))=some (.ok (.int .u8 z)):=by
  unfold Instr.index;show Zu X.P (underlying t >>=_)=_;rw[prb (Y6 hu)];unfold ZgK at hz;dsimp only;generalize (if 0<=i then s[i.toNat]? else none)=o at hz ⊢;cases o with
  | some b=>cases hz;rfl
  | none=>cases hz
 unfold KJ;rw[this];rfl
def ZIR(a b:Y):(a==b)=decide (a=b):=by
 rw[GD,decide_eq_true_iff];cases a with|mk a=>cases b with|mk b=>
 show(a==b)=true↔_;simp
def ZEP(a b:Y):(a.toList==b.toList)=decide (a=b):=by
 rw[GD,decide_eq_true_iff,beq_iff_eq,ByteArray.toList_eq,ByteArray.toList_eq];exact⟨fun e=>by cases a;cases b;simp at e;simp[e],fun e=>by rw[e]⟩
def ZqO{op:BinOp}{t:J}{x y:GZ}{a b:Y}{r:Z}(ho:Op.stringOp op a b=pure (.bool r))(hq:op=.eql\/op=.neq\/op=.lss):QO P op t x y (.string a) (.string b)=some (.val (.bool r),.none):=by
 have hp:(plain (.string a)&&plain (.string b))=true:=rfl;unfold QO;rw[hp,Cq1]
 have hb:binOp op t (.string a) (.string b)=pure (.bool r):=by
  rcases hq with rfl|rfl|rfl<;>exact ho
 have hg:(do eqGuard op t x y (.string a) (.string b);binOp op t (.string a) (.string b):Sem N)=pure (.bool r):=by
  rw[hb];rcases hq with rfl|rfl|rfl<;>rfl
 rw[hg];rfl
def Zbq{t:J}{x y:GZ}{a b:Y}:QO P .eql t x y (.string a) (.string b)=some (.val (.bool (decide (a=b))),.none):=ZqO (by rw[<-ZEP];rfl) (.inl rfl)
def Wl{t:J}{x y:GZ}{a b:Y}:QO P .neq t x y (.string a) (.string b)=some (.val (.bool (!decide (a=b))),.none):=ZqO (by rw[<-ZEP];rfl) (.inr (.inl rfl))
def ZgI.str{kt:J}(hu:P.underlying kt=some .string):ZgI P kt Value.string where
 pl:=fun _=>rfl
 ok:=fun e x=>by
  unfold Zbs;rw[show(10000:Nat)=9999+1 from rfl,ZIB hu];rfl
 same:=fun x=>by simp[Instr.sameBits,ZIR]
 eq:=fun x y=>by
  have:=ZIq (P:=P) (d:=9999) (a:=x) (b:=y) hu;rw[ZIR]at this;exact this
 kind:=⟨_,hu,.inr fun x y=>by simp only[Instr.sameNow,ZIR]⟩
end
section
variable{X:Ctx}{n wm:Nat}{rd:O Nat}{ops:V4 Oper}{l:U Oper}{rest:Code}{bs:U Nat}
variable{G Gr:U (Ast wm)}{h h0:H}{T0:Nat->Prop}{fr:Fr}{ds:U V6}{ty:J}{p:String}{af:V4 Edge}{g:O (Nat×Z)}{κ ν:Type}{kv:κ->N}{vv:ν->N}{ll:U (κ×ν)}{d:Nat}
def At.rk{it:Nat}{h h2:H}{b o:Nat}{vs:U N}(s:At h b o vs)(k:RK it h h2):At h2 b o vs:=by
 obtain⟨cs,own,z,h1,h2',h3⟩:=s;obtain⟨a,b',c,d,e1⟩:=k.it_;exact⟨cs,own,z,by rw[k.at_ b fun z'=>(by rw[z',e1]at h1;cases h1)];exact h1,h2',h3⟩
def WL.ZKu{Q:XX->Fs->Prop}{id:Nat}{o:Oper}{t it m Qe:Nat}{bs:U Nat}{b:κ->ν->O Z}{q:Z}(T:U Nat)(v:N)(hq:Zlx b ll=some q)(hS:Sp wm T0 h0 G h)(pi:Pk G (ob wm it (.iter m Qe Qe none)) Gr)(hat:fr.at t=(V9 it))(hm:h.at m=.map (Xx kv vv ll bs) Qe)(hb:bs.length=ll.length/\bs.Nodup/\∀x∈bs,x<Qe)
 (hops:ops.toList=o::l) (hop:o.op=.next (.tmp t) false) (hgu:o.guard=none) (hd:o.dst=some d) (hdn:Nat.blt d n=true) (hT:T.contains t=false) (hdT:T.contains d=true) (hv:plain v=true)
 (body:∀(x:κ×ν)(p:Z),b x.1 x.2=some p->∀h2 fr',Agr T fr fr'->RK it h h2->Sp h.size (QF ([]:U (Ast h.size))) h2 [] h2->ZEi kv vv h2 it x->WO X n h.size rd ops l ⟨Tr.set fr' d (.tuple #[.bool true,kv x.1,vv x.2]),ds,h2,none⟩ (ZB X n h.size rd rest (ZsX T fr' ds v p)))
 (over:q=false->∀h' fr',Agr T fr fr'->Sp wm T0 h0 Gr h'->WO X n wm rd ops l ⟨Tr.set fr' d (.tuple #[.bool false]),ds,h',none⟩ (ZB X n wm rd rest (ZEf Q)))
 (Z9:q=true->∀h' fr',Agr T fr fr'->Sp wm T0 h0 Gr h'->Q (.panic v) ⟨fr',ds,h',none⟩):WL X n wm rd (.seq (.region id ops false) rest) ⟨fr,ds,h,none⟩ Q:=by
 obtain⟨hb1,hb2,hb3⟩:=hb;obtain⟨o1,o2,o3⟩:=hS.get pi;obtain⟨m1,m2⟩:=ZiH hq
 have ZHq:Agr T fr (YA T fr):=fun t' v' ht' hv'=>by
  rw[Xv,if_neg (fun z=>by rw[<-Gv]at z;rw[z]at ht';cases ht'),hv']
 have htT:t∉T:=fun z=>by rw[<-Gv]at z;rw[z]at hT;cases hT
 have ZQc:d∈T:=Gv.1 hdT;have ZP2:m≠it:=fun z=>by rw[z,o1]at hm;cases hm
 classical
 let pn:Nat->Z:=fun bn=>decide (∃(j:Nat) (y:κ×ν),ll[j]? =some y/\bs[j]? =some bn/\b y.1 y.2=some true)
 have ZmG:∀(j:Nat)(y:κ×ν)(bn:Nat),ll[j]? =some y->bs[j]? =some bn->∀p,b y.1 y.2=some p->pn bn=p:=by
  intro j y bn h1 h2 p hp;cases p with
  | true=>exact decide_eq_true ⟨j,y,h1,h2,hp⟩
  | false=>
    refine decide_eq_false ?_;rintro⟨j',y',h1',h2',hp'⟩
    have hj:j'=j:=by
     obtain⟨q1,e1⟩:=Li0 h2';obtain⟨q2,e2⟩:=Li0 h2;exact(List.getElem_inj hb2).1 (e1.trans e2.symm)
    subst hj;rw[h1]at h1';cases h1';rw[hp]at hp';cases hp'
 have ZFb:Sp wm T0 h0 Gr (h.put it .dead):=
  Sp.step (Ga:=[ob wm it (.iter m Qe Qe none)]) (Gb:=[]) (hS.perm pi.perm) (Up.put o2 (by rw[o1];rfl)) (fun i e=>⟨_,G7.2 rfl,e⟩) Yp.nil fun i ⟨A,mm,f⟩=>by simp at mm
 have Zi7:∀x∈Xx kv vv ll bs,∃ex s3,(s3.ds=ds/\(∀t,t∉T->s3.fr.at t=fr.at t)/\(ex=.normal/\pn x.born=false\/ex=.panic v/\pn x.born=true))/\∀{ρ:Ren}{F:Fence}{a:Act}{w:V3},Inv ρ n {fr:=Ji (YA T fr) o.dst (.tuple #[.bool true,x.key,x.val]),ds:=ds,h:=h.put it (.iter m Qe Qe (some x.born)),wr:=none} a w->h.size<=(h.put it (.iter m Qe Qe (some x.born))).size->FR' ρ rd F->∀Q':Exit->Act->V3->Prop,
  (∀e' a' w',XH h.size n ρ (h.put it (.iter m Qe Qe (some x.born))) w ex s3 e' a' w'->Q' e' a' w')->wpListIn F 0 X.P ops (Exit.then (rest.wpIn F 0 X.P Q') Q') l a w:=by
  intro x hx;obtain⟨j,y,bn,h1,h2,rfl⟩:=ZoU hx;obtain⟨p,hp⟩:=m1 y (GL.2 ⟨j,h1⟩);have hpn:=ZmG j y bn h1 h2 p hp;have hsz:(h.put it (.iter m Qe Qe (some bn))).size=h.size:=H.size_put _ _ _;have e1:(h.put it (.iter m Qe Qe (some bn))).at it=.iter m Qe Qe (some bn):=YU (Qf o1 rfl) _;have e2:(h.put it (.iter m Qe Qe (some bn))).at m=.map (Xx kv vv ll bs) Qe:=by rw[XT ZP2,hm]
  have hent:ZEi kv vv (h.put it (.iter m Qe Qe (some bn))) it y:=by
   unfold ZEi Zep;simp only[e1,e2,Nat.beq_refl,Cq1,Zly hb2 h1 h2]
  obtain⟨ex,s3,⟨q1,q2,q3⟩,q4⟩:=WO.body (body y p hp (h.put it (.iter m Qe Qe (some bn))) (YA T fr) ZHq ⟨⟨_,_,_,_,o1⟩,fun i hi=>XT hi _⟩ (Sp.start (Nat.le_of_eq hsz.symm) Yp.nil) hent);refine⟨ex,s3,⟨q1,fun t' ht'=>?_,?_⟩,?_⟩
  ·rw[q2 t' ht',Xv,if_neg ht']
  ·dsimp only;rw[hpn];exact q3
  ·rw[hd];intro ρ F a w i1 i2 i3 Q' i4;exact q4 i1 i2 i3 Q' i4
 have key:=fun(e:XX)(s2:Fs)=>ZxO (X:=X) (n:=n) (wm:=wm) (rd:=rd) (rest:=rest) (id:=id) (s:=⟨fr,ds,h,none⟩) (e:=e) (s2:=s2) (T:=T) (v:=v) pn hops hop hgu hat o1 hm Vb (ZiI hb2 hb3) o2 htT hd (by rwa[G4]at hdn) ZQc hv Zi7
 cases q with
 | true=>
   refine⟨.panic v,⟨YA T fr,ds,h.put it .dead,none⟩,Z9 rfl _ _ ZHq ZFb,key _ _ (fun hall=>?_) fun _=>⟨rfl,rfl⟩⟩;exfalso;obtain⟨y,hy,hyb⟩:=m2.1 rfl;obtain⟨j,hj⟩:=GL.1 hy;have hjl:=(Li0 hj).1;have h2:bs[j]? =some (bs[j]'Va):=Gl _;have:=hall _ (ZCi hj h2);rw[ZmG j y _ hj h2 true hyb]at this;cases this
 | false=>
   obtain⟨e,s2,⟨q1,q2⟩,q3⟩:=WO.body (over rfl _ _ ZHq ZFb);refine⟨e,s2,q2,key e s2 (fun _=>⟨q1,?_⟩) fun⟨x,hx,hp⟩=>?_⟩
   ·rw[hd];intro ρ F a w i1 i2 i3 Q' i4;exact q3 i1 i2 i3 Q' i4
   ·exfalso;obtain⟨j,y,bn,h1,h2,rfl⟩:=ZoU hx;obtain⟨p,hp'⟩:=m1 y (GL.2 ⟨j,h1⟩);have hpn:=ZmG j y bn h1 h2 p hp';rw[show pn bn=true from hp]at hpn;subst hpn;exact absurd (m2.2 ⟨y,GL.2 ⟨j,h1⟩,hp'⟩) (by simp)
def Y7.Zhi{T:Nat->Prop}{df:Nat}{fn:Func}{pm:PM}{R:UW->H->Prop}(hS:Sp wm T h0 G h)(pk:Pk G (ob wm df .deferred) Gr)(k:∀h',Sp wm T h0 Gr h'->Y7 X fn wm R pm ⟨fr,ds,h',none⟩):Y7 X fn wm R pm ⟨fr,⟨.collected df,#[]⟩::ds,h,none⟩:=by
 obtain⟨h1,h2,h3⟩:=hS.get pk;have hu:Up wm (fun i=>i=df) h (h.put df .dead):=Up.put h2 (by rw[h1];rfl);obtain⟨E,h',hR,hj⟩:=k _ (Sp.step (Ga:=[ob wm df .deferred]) (Gb:=[]) (hS.perm pk.perm) hu (fun i e=>⟨_,G7.2 rfl,e⟩) Yp.nil fun i ⟨A,m,f⟩=>by simp at m);exact⟨E,h',hR,ZlC h1 h2 hj⟩
section
variable{fn:Func}{R:UW->H->Prop}{s:Fs}{v:N}{pm:PM}
def Y7.ZNg{f:V2}{fn2:Func}{c:Code}{YH:U N}{n2:Nat}(hf:X.fns.get f=some fn2)(hb:fn2.body=some c)(hnt:fn2.ntmps=n2)(hn:YH.length<=n2)(hr:fn2.results.toList=[])
 (k:DC X n2 wm c pm ⟨X7 YH 0 .nil,[],h,none⟩ (DEn X fn wm R fr ds)):Y7 X fn wm R pm ⟨fr,⟨.fn (.func f) #[],YH.toArray⟩::ds,h,none⟩:=by
 subst hnt;obtain⟨e,Km,s',⟨rfl,hno,E,h',hR,jl⟩,jd⟩:=k;obtain⟨fr',ds',h2,wr'⟩:=s';dsimp only at hno jl;subst hno
 have jc:Yn X (.dcall f (YH++([]:U N)).toArray pm wm h) (.Zdw Km h2):=by
  refine ZdN (C:=cfg X fun _=>false) (ih:=JD (.Xo c fn2.ntmps wm pm ⟨X7 YH 0 .nil,[],h,none⟩) (.Xo .normal Km ⟨fr',[],h2,wr'⟩)) (Xh jd) ?_;unfold Zfr;have hf':(cfg X fun _=>false).X.fns.get f=some fn2:=hf;rw[hf'];dsimp only;rw[hb];dsimp only;have e1:Nat.ble (YH++([]:U N)).toArray.toList.length fn2.ntmps=true:=Nm0 (by rw[Gk];exact hn);rw[e1,Cq1];rw[Gk,Xi];unfold ZAb;dsimp only;have e3:QH (cfg X fun _=>false).X.P fn2 fr' h2=some (.tuple #[]):=by unfold QH;rw[hr];rfl
  rw[e3]
 refine⟨E,h',hR,?_⟩
 classical
 let ih:Qr->O YL:=fun j=>if j=.dcall f (YH++([]:U N)).toArray pm wm h then some (.Zdw Km h2) else if j=.leave fn wm (Zhq Km) ⟨fr,ds,h2,none⟩ then some (.fin E h') else none
 refine Jf (C:=cfg X fun _=>false) (ih:=ih) ?_ ?_
 ·intro j r e;dsimp only[ih]at e;split at e
  ·rename_i hj;cases e;rw[hj];exact jc
  ·split at e
   ·rename_i hj;cases e;rw[hj];exact jl
   ·cases e
 ·unfold Uj;dsimp only;have hf':(cfg X fun _=>false).X.fns.get f=some fn2:=hf;rw[hf'];dsimp only;have i1:ih (.dcall f (YH.toArray.toList++(#[]:V4 N).toList).toArray pm wm h)=some (.Zdw Km h2):=by dsimp only[ih];rw[if_pos rfl]
  rw[i1];dsimp only[ih];rw[if_neg (by intro q;cases q),if_pos rfl]
end
def WO.ZRd{Q:XX->Fs->Prop}{fo x:GZ}{ts:V4 J}{f:V2}{v:N}(hg:ZY ops ⟨none,.defer {callee:=.value fo,args:=#[x],argTypes:=ts},ty,p,af,g⟩ fr)(hf:YG fr fo=some (.func (.func f) #[] #[]))(hx:YG fr x=some v)
 (k:WO X n wm none ops l ⟨fr,⟨.fn (.func f) #[],#[v]⟩::ds,h,none⟩ Q):WO X n wm none ops (⟨none,.defer {callee:=.value fo,args:=#[x],argTypes:=ts},ty,p,af,g⟩::l) ⟨fr,ds,h,none⟩ Q:=by
 refine WO.cons (K3 X) (s1:=⟨fr,⟨.fn (.func f) #[],#[v]⟩::ds,h,none⟩) ?_ k;have he:evs (YG fr) [x]=some [v]:=Zb hx Zd
 have ha:Xt X h (YG fr) ⟨none,.defer {callee:=.value fo,args:=#[x],argTypes:=ts},ty,p,af,g⟩=some (.dfr ⟨.fn (.func f) #[],#[v]⟩,.none):=by
  show(match Callee.value fo,evs (YG fr) [x] with
   | .value f,some args=>match YG fr f with
     | some (.func (.func g) first cap)=>some (AN.dfr {target:=.fn (.func g) cap,args:=first++args.toArray},Eff.none)
     | _=>none
   | _,_=>none)=_
  rw[he];dsimp only;rw[hf];rfl
 unfold JX;rw[hg.1,hg.2];dsimp only[KK,Cq0,Cq1];rw[ha]
 rfl
section
variable{P:V0}
def Zwd{t a:J}{x:GZ}{v:N}{ms}(hp:plain (.iface a v)=true)(hu:P.underlying t=some (.interface ms)):QO P .neq t x (.const .nilIface) (.iface a v) .nilIface=some (.val (.bool true),.none):=by
 have hpp:(plain (.iface a v)&&plain .nilIface)=true:=by rw[hp];rfl
 unfold QO;rw[hpp,Cq1];unfold KJ
 have h1:Zu P (eqGuard .neq t x (.const .nilIface) (.iface a v) .nilIface)=some (.ok ()):=by
  cases x<;>rfl
 rw[prb h1]
 have h2:Zu P (Op.equal t (.iface a v) .nilIface)=some (.ok false):=by
  show Zu P (Op.equalIn (9999+1) t (.iface a v) .nilIface)=_;unfold Op.equalIn;rw[prb (Y6 hu)];rfl
 have:Zu P (binOp .neq t (.iface a v) .nilIface)=some (.ok (.bool true)):=by
  show Zu P (do pure (Value.bool (!(<-Op.equal t (.iface a v) .nilIface))):Sem N)=_;rw[prb h2];rfl
 rw[this];rfl
def ZsS{t:J}{x:GZ}{ms}(hu:P.underlying t=some (.interface ms)):QO P .neq t x (.const .nilIface) .nilIface .nilIface=some (.val (.bool false),.none):=by
 unfold QO;rw[show(plain .nilIface&&plain .nilIface)=true from rfl,Cq1];unfold KJ
 have h1:Zu P (eqGuard .neq t x (.const .nilIface) .nilIface .nilIface)=some (.ok ()):=by
  cases x<;>rfl
 rw[prb h1]
 have h2:Zu P (Op.equal t .nilIface .nilIface)=some (.ok true):=by
  show Zu P (Op.equalIn (9999+1) t .nilIface .nilIface)=_;unfold Op.equalIn;rw[prb (Y6 hu)];rfl
 have:Zu P (binOp .neq t .nilIface .nilIface)=some (.ok (.bool false)):=by
  show Zu P (do pure (Value.bool (!(<-Op.equal t .nilIface .nilIface))):Sem N)=_;rw[prb h2];rfl
 rw[this];rfl
end
end
section
variable{X:Ctx}{n wm:Nat}{rd:O Nat}{ops:V4 Oper}{ol:U Oper}{fr:Fr}{ds:U V6}{h h0:H}{ty:J}{p:String}{af:V4 Edge}{g:O (Nat×Z)}{T:Nat->Prop}{G Gr:U (Ast wm)}{d l df:Nat}{LO:YS}{ps:V4 Tmp}{YH bd:Code}
def RP(K Z':N->H->Prop):UW->H->Prop:=fun e h'=>match e with
 | .ret v=>K v h'
 | .Z9 v=>Z' v h'
section
variable{fn:Func}{K Z':N->H->Prop}{v:N}{s:Fs}
def Z0.Zvz{rs:U ResultVar}{vs:U N}(hr:fn.results.toList=rs)(hv:Zcw X.P fr h rs=some vs)(hl:(match vs with | [v]=>v|vs=>.tuple vs.toArray)=v)(k:K v h):Z0 X fn wm (RP K Z') .ret ⟨fr,[],h,none⟩:=by
 obtain⟨pm,E,h',h1,⟨v',rfl,h2⟩,h3⟩:=(Z0.gen (X:=X) (wm:=wm) (R:=K) hr hv hl k).out;exact⟨⟨pm,.ret v',h',h1,h2,h3⟩⟩
def Y7.ZGA(k:Z' v h):Y7 X fn wm (RP K Z') (.Z9 v) ⟨fr,[],h,none⟩:=Y7.Z9 k
def WF.ZxZ{f:V2}{args:V4 N}{α β:Type}{r:β}(I:α->N->H->Prop)(j:α->O β)(k:∀x v h',j x=some r->I x v h'->K v h')(hc:WF X f args wm h (RP (fun v h'=>∃x,j x=some r/\I x v h') Z')):WF X f args wm h (RP K Z'):=
 hc.mono fun e h' hq=>by
   cases e with
   | ret v=>obtain⟨x,h1,h2⟩:=hq;exact k x v h' h1 h2
   | Z9 v=>exact hq
end
def WO.ZGZ{Q:XX->Fs->Prop}{op:Op}{f:V2}{args:V4 N}(hg:ZY ops ⟨some d,op,ty,p,af,g⟩ fr)(hd:Nat.blt d n=true)(he:Yo X fr ⟨some d,op,ty,p,af,g⟩ f args)
 (k:WF X f args wm h (RP (fun v h'=>WO X n wm rd ops ol ⟨Tr.set fr d v,ds,h',none⟩ Q) (fun v h'=>Q (.panic v) ⟨fr,ds,h',none⟩))):WO X n wm rd ops (⟨some d,op,ty,p,af,g⟩::ol) ⟨fr,ds,h,none⟩ Q:=by
 obtain⟨e,h',hk,hj⟩:=k;cases e with
 | ret v=>exact WO.en hg hd he hj hk
 | Z9 v=>exact WO.Zkd hg (he h) rfl hj hk
structure BdZ(n lo l:Nat)(fr:Fr)(ps:Array Tmp)(YH bd:Code)(df:Nat)(R:Bool->H->Prop)(Z':Value->H->Prop)(e:XX)(s:Fs):Prop where
 out:BdS n lo l fr ps YH bd df R e s\/∃v,s.h.at l=.loop .busy none fr n ps YH bd df/\e=.panic v/\s.ds=[]/\Z' v s.h
structure AsZ(X:Ctx)(n wm lo l:Nat)(fr:Fr)(ps:Array Tmp)(YH bd:Code)(df:Nat)(R:Bool->H->Prop)(Z':Value->H->Prop)(e:XX)(s:Fs):Prop where
 out:e=.normal/\s.h.at l=.loop .ready none fr n ps YH bd df/\∀h1,(lo<=l->Up lo (fun i=>i=l) s.h h1)->h1.at l=.loop .busy none fr n ps YH bd df->WC X n wm (some l) bd ⟨s.fr,s.ds,h1,s.wr⟩ (BdZ n lo l fr ps YH bd df R Z')
def RdZ(X:Ctx)(l:Nat)(args:V4 N)(wm:Nat)(h:H)(R:Z->H->Prop)(Z':N->H->Prop):Prop:=
 ZA3 X l args wm h R\/∃v h',Z' v h'/\Yn X (.round l args wm h) (.fin (.Z9 v) h')
def RdZ.mk{l:Nat}{args:U N}{fr fr1:Fr}{ps:V4 Tmp}{YH bd:Code}{df:Nat}{R:Z->H->Prop}{Z':N->H->Prop}(lo:Nat)(hat:h.at l=.loop .ready none fr n ps YH bd df)(hw:wm<=l)(hl:Nat.beq args.length ps.toList.length=true)(hs:Qs (ps.toList.zip args) n fr=some fr1)
 (k:WC X n wm (some l) YH ⟨fr1,[],h,none⟩ (AsZ X n wm lo l fr ps YH bd df R Z')):RdZ X l args.toArray wm h R Z':=by
 obtain⟨e1,s1,⟨rfl,h1,k1⟩,j1⟩:=k;have o1:(s1.h.at l).own=true:=by rw[h1];rfl
 have s1l:=Qf h1 rfl;obtain⟨e2,s2,⟨k2⟩,j2⟩:=k1 (s1.h.put l (.loop .busy none fr n ps YH bd df)) (fun hl=>Up.put hl o1) (YU s1l _)
 have h2:s2.h.at l=.loop .busy none fr n ps YH bd df:=by
  rcases k2 with k2|⟨v,h2,_⟩
  ·exact k2.out.1
  ·exact h2
 have o2:(s2.h.at l).own=true:=by rw[h2];rfl
 have s2l:=Qf h2 rfl
 have key:(∃b A,R b (s2.h.put l A)/\JJ l e2 s2=some (.fin (.ret (.bool b)) (s2.h.put l A)))\/∃v,Z' v s2.h/\JJ l e2 s2=some (.fin (.Z9 v) s2.h):=by
  rcases k2 with⟨_,⟨rfl,k2⟩|⟨c,hx,k2⟩⟩|⟨v,_,rfl,hd,hz⟩
  ·refine .inl ⟨true,_,k2 _ (fun hl=>Up.put hl o2) (YU s2l _),?_⟩;unfold JJ;rw[h2]
  ·refine .inl ⟨false,_,k2 _ (fun hl=>Up.put hl o2) (YU s2l _),?_⟩;unfold JJ;rw[h2];cases hx<;>rfl
  ·refine .inr ⟨v,hz,?_⟩;unfold JJ;rw[h2];dsimp only;rw[hd]
 classical
 let ih:Qr->O YL:=fun j=>if j=.code YH n wm (some l) ⟨fr1,[],h,none⟩ then some (.code .normal s1) else JD (.code bd n wm (some l) {s1 with h:=s1.h.put l (.loop .busy none fr n ps YH bd df)}) (.code e2 s2) j
 have HI:∀j r,ih j=some r->Yn X j r:=by
  intro j r e;dsimp only[ih]at e;split at e
  ·rename_i hj;cases e;rw[hj];exact j1
  ·exact Xh (X:=X) j2 j r e
 have fin:∀r,JJ l e2 s2=some r->Yn X (.round l args.toArray wm h) r:=fun r hev=>by
  refine Zap (C:=cfg X fun _=>false) (ih:=ih) HI ?_;unfold Zdg;rw[hat];have hl':Nat.beq args.toArray.toList.length ps.toList.length=true:=hl;dsimp only;rw[Nm0 hw,hl'];simp only[Bool.and_self,Cq1];have hs':Qs (ps.toList.zip args.toArray.toList) n fr=some fr1:=hs;rw[hs'];dsimp only;have i1:ih (.code YH n wm (some l) {fr:=fr1,ds:=[],h:=h})=some (.code .normal s1):=by dsimp only[ih];rw[if_pos rfl]
  rw[i1];show KR ih l bd n wm .normal s1=_;unfold KR;dsimp only;rw[h1];dsimp only
  have i2:ih (.code bd n wm (some l) {s1 with h:=s1.h.put l (.loop .busy none fr n ps YH bd df)})=some (.code e2 s2):=by
   dsimp only[ih];split
   ·rename_i hj;exfalso;injection hj with _ _ _ _ hs
    have:({s1 with h:=s1.h.put l (.loop .busy none fr n ps YH bd df)}:Fs).h.at l=h.at l:=by rw[hs]
    dsimp only at this;rw[YU s1l,hat]at this;cases this
   ·exact Xi _ _
  rw[i2];exact hev
 rcases key with⟨b,A,hR,hev⟩|⟨v,hz,hev⟩
 ·exact .inl ⟨b,_,hR,fin _ hev⟩
 ·exact .inr ⟨v,_,hz,fin _ hev⟩
def WO.ZoA{Q:XX->Fs->Prop}{o:Oper}{args:V4 N}{E:Eff}{v:N}{h1 h2:H}(hg:ZY ops o fr)(ha:Xt X h (YG fr) o=some (.round l args,E))(hE:E.apply wm h=some h1)
 (hc:Yn X (.round l args wm h1) (.fin (.Z9 v) h2)) (k:Q (.panic v) ⟨fr,ds,h2,none⟩):WO X n wm rd ops (o::ol) ⟨fr,ds,h,none⟩ Q:=by
 refine WO.panics (Xh hc) ?_ k;unfold JX;rw[hg.1,hg.2];dsimp only[KK,Cq0,Cq1];rw[ha];dsimp only[KK,Cq0,Cq1];rw[hE];unfold Kh;dsimp only[Js,Cq0];rw[Xi]
 rfl
def WO.ZFV{Q:XX->Fs->Prop}{fo:GZ}{xs:V4 GZ}{ts:V4 J}{vs:U N}{n2:Nat}{Jd fr1:Fr}{as2 bd2:Code}(hg:ZY ops ⟨some d,.call {callee:=.value fo,args:=xs,argTypes:=ts},ty,p,af,g⟩ fr)(hd:Nat.blt d n=true)(hf:YG fr fo=some (.func (.yield l) #[] #[]))(hx:evs (YG fr) xs.toList=some vs)
 (hS:Sp wm T h0 G h) (pk:Pk G (ob wm l LO) Gr) (hLO:LO=.loop .ready none Jd n2 ps as2 bd2 df) (hl:Nat.beq vs.length ps.toList.length=true) (hs:Qs (ps.toList.zip vs) n2 Jd=some fr1)
 (k:WC X n2 wm (some l) as2 ⟨fr1,[],h,none⟩ (AsZ X n2 wm wm l Jd ps as2 bd2 df (fun b h'=>WO X n wm rd ops ol ⟨Tr.set fr d (.bool b),ds,h',none⟩ Q) (fun v h'=>Q (.panic v) ⟨fr,ds,h',none⟩))):
 WO X n wm rd ops (⟨some d,.call {callee:=.value fo,args:=xs,argTypes:=ts},ty,p,af,g⟩::ol) ⟨fr,ds,h,none⟩ Q:=by
 obtain⟨h1,h2,h3⟩:=hS.get pk;have hat:=h1.trans hLO;rcases RdZ.mk (lo:=wm) hat h2 hl hs k with hr|⟨v,h',hz,hj⟩
 ·exact WO.yld hg hd hf hx hat (Nb0 hl) hr fun b h' hk=>hk
 ·refine WO.ZoA (E:=.none) hg ?_ rfl hj hz;rw[Zdl,hx];dsimp only;rw[hf];dsimp only;unfold U5;dsimp only;rw[hat];dsimp only;rw[hl];rfl
section
variable{Jd:Fr}{R:Z->H->Prop}{Z':N->H->Prop}
def AsZ.sp(hLO:LO=.loop .ready none fr n ps YH bd df)(hS:Sp wm T h0 G h)(pk:Pk G (ob wm l LO) Gr)(k:∀h1,Sp wm T h0 (ob wm l (bsy LO)::Gr) h1->WC X n wm (some l) bd ⟨Jd,ds,h1,none⟩ (BdZ n wm l fr ps YH bd df R Z')):AsZ X n wm wm l fr ps YH bd df R Z' .normal ⟨Jd,ds,h,none⟩:=by
 obtain⟨h1,h2,h3⟩:=hS.get pk;refine⟨⟨rfl,h1.trans hLO,fun h' u e=>k h' ?_⟩⟩;exact hS.one pk (u h2) (fun _ q=>q) ⟨by rw[e,hLO];rfl,h2,by rw[hLO];rfl⟩ fun _ q=>.inl q
def BdZ.sp(hLO:LO=.loop .ready none fr n ps YH bd df)(hS:Sp wm T h0 G h)(pk:Pk G (ob wm l (bsy LO)) Gr)(k:∀h1,Sp wm T h0 (ob wm l LO::Gr) h1->R true h1):BdZ n wm l fr ps YH bd df R Z' .normal ⟨Jd,ds,h,none⟩:=⟨.inl (BdS.sp hLO hS pk k)⟩
def BdZ.Z9{v:N}(hLO:LO=.loop .ready none fr n ps YH bd df)(hS:Sp wm T h0 G h)(pk:Pk G (ob wm l (bsy LO)) Gr)(k:Z' v h):BdZ n wm l fr ps YH bd df R Z' (.panic v) ⟨Jd,[],h,none⟩:=by
 obtain⟨h1,h2,h3⟩:=hS.get pk;exact⟨.inr ⟨v,h1.trans (by rw[hLO];rfl),rfl,rfl,k⟩⟩
end
def WC.Zro{Q:XX->Fs->Prop}{gg:GZ}{f:V2}{first cap:U N}(hS:Sp wm T h0 G h)(hg:YG fr gg=some (.func (.func f) first.toArray cap.toArray))(hf:(X.fns.get f).isSome=true)
 (k:∀h' l df LO,LO=YS.loop .ready none fr n ps YH bd df->Sp wm T h0 (ob wm l LO::ob wm df .deferred::G) h'->WF X f (first++([Value.func (.yield l) #[] #[]]++cap)).toArray wm h' (RP (fun _ h2=>RgS X wm l fr n ps YH bd df ds Q h2) (fun v h2=>Q (.panic v) ⟨fr,⟨.collected df,#[]⟩::ds,h2,none⟩))):
 WC X n wm none (.rangeFunc gg ps YH bd) ⟨fr,ds,h,none⟩ Q:=by
 have s1:Sp wm T h0 (ob wm h.size .deferred::G) (h.push .deferred):=ZiD rfl hS
 have s2:Sp wm T h0 (ob wm (h.size+1) (.loop .ready none fr n ps YH bd h.size)::ob wm h.size .deferred::G) ((h.push .deferred).push (.loop .ready none fr n ps YH bd h.size)):=by
  have:=ZiD (A:=.loop .ready none fr n ps YH bd h.size) rfl s1
  rwa[H.size_push]at this
 obtain⟨fn,hf⟩:=GT.1 hf;obtain⟨e,h3,hr,hj⟩:=k _ _ _ _ rfl s2
 have hac:U5 (cfg X fun _=>false).X ((h.push .deferred).push (.loop .ready none fr n ps YH bd h.size)) (.func (.func f) first.toArray cap.toArray) [Value.func (.yield (h.size+1)) #[] #[]]=some (.enter f (first++([Value.func (.yield (h.size+1)) #[] #[]]++cap)).toArray,.none):=by
  unfold U5;have:(cfg X fun _=>false).X.fns.get f=some fn:=hf;dsimp only;rw[this];simp only[Gf]
 have pre:∀(ih:Qr->O YL),Ql (cfg X fun _=>false) ih gg n wm none (h.size+1) ⟨fr,⟨.collected h.size,#[]⟩::ds,(h.push .deferred).push (.loop .ready none fr n ps YH bd h.size),none⟩=J8 ih n wm none (h.size+1) ⟨fr,⟨.collected h.size,#[]⟩::ds,(h.push .deferred).push (.loop .ready none fr n ps YH bd h.size),none⟩ (ih (.call f (first++([Value.func (.yield (h.size+1)) #[] #[]]++cap)).toArray wm ((h.push .deferred).push (.loop .ready none fr n ps YH bd h.size)))):=fun ih=>by
  unfold Ql;dsimp only;rw[hg];dsimp only;rw[hac]
 cases e with
 | Z9 v=>
   refine⟨.panic v,_,hr,Y9.2 (J9 (C:=cfg X fun _=>false) (ih:=JD (.call f _ wm _) (.fin (.Z9 v) h3)) (Xh hj) ?_)⟩;show Ql (cfg X fun _=>false) _ gg n wm none (h.size+1) ⟨fr,⟨.collected h.size,#[]⟩::ds,(h.push .deferred).push (.loop .ready none fr n ps YH bd h.size),none⟩=_;rw[pre,Xi]
   rfl
 | ret v=>
 rcases hr.k with⟨hat,hk⟩|⟨c,hat,hk⟩
 ·refine⟨.normal,_,hk (h3.put (h.size+1) (.loop .exhausted none fr n ps YH bd h.size)) (Up.put hr.low (by rw[hat];rfl)),?_⟩;refine Y9.2 (J9 (C:=cfg X fun _=>false) (ih:=JD (.call f _ wm _) (.fin (.ret v) h3)) (Xh hj) ?_);show Ql (cfg X fun _=>false) _ gg n wm none (h.size+1) ⟨fr,⟨.collected h.size,#[]⟩::ds,(h.push .deferred).push (.loop .ready none fr n ps YH bd h.size),none⟩=_;rw[pre,Xi];unfold J8;dsimp only;rw[hat]
  rfl
 ·obtain⟨e2,s2,hq,hj2⟩:=hk (h3.put (h.size+1) (.loop .exhausted (some c) fr n ps YH bd h.size)) (Up.put hr.low (by rw[hat];rfl));refine⟨e2,s2,hq,?_⟩
  classical
  let ih:Qr->O YL:=fun j=>if j=.code c n wm none ⟨fr,⟨.collected h.size,#[]⟩::ds,h3.put (h.size+1) (.loop .exhausted (some c) fr n ps YH bd h.size),none⟩ then some (.code e2 s2) else JD (.call f (first++([Value.func (.yield (h.size+1)) #[] #[]]++cap)).toArray wm ((h.push .deferred).push (.loop .ready none fr n ps YH bd h.size))) (.fin (.ret v) h3) j
  have HI:∀j r,ih j=some r->Yn X j r:=by
   intro j r e;dsimp only[ih]at e;split at e
   ·rename_i hj';cases e;rw[hj'];exact hj2
   ·exact Xh (X:=X) hj j r e
  refine Y9.2 (J9 (C:=cfg X fun _=>false) (ih:=ih) HI ?_);show Ql (cfg X fun _=>false) _ gg n wm none (h.size+1) ⟨fr,⟨.collected h.size,#[]⟩::ds,(h.push .deferred).push (.loop .ready none fr n ps YH bd h.size),none⟩=_
  have i1:ih (.call f (first++([Value.func (.yield (h.size+1)) #[] #[]]++cap)).toArray wm ((h.push .deferred).push (.loop .ready none fr n ps YH bd h.size)))=some (.fin (.ret v) h3):=by
   dsimp only[ih];split
   ·rename_i hj';cases hj'
   ·exact Xi _ _
  rw[pre,i1];unfold J8;dsimp only;rw[hat];show ih (.code c n wm none _)=_;dsimp only[ih];rw[if_pos rfl]
end
section
variable{X:Ctx}{n wm:Nat}{rd:O Nat}{ops:V4 Oper}{l:U Oper}{fr:Fr}{ds:U V6}{h h0:H}{ty:J}{p:String}{af:V4 Edge}{g:O (Nat×Z)}{T:Nat->Prop}{G Gr Ga:U (Ast wm)}{d:Nat}
def Zkk{x:GZ}{it t:J}{v:N}{u:TypeDesc}(hu:X.P.underlying t=some u)(hi:(match u with | .interface _=>false|_=>true)=true)(hx:YG fr x=some (.iface t v)):Xt X h (YG fr) ⟨some d,.typeAssert x it t true,ty,p,af,g⟩=some (.val (.tuple #[v,.bool true]),.none):=by
 show(match YG fr x with|some x=>vN (Kv X.P x t true) | none=>none)=_;rw[hx];dsimp only
 have:Kv X.P (.iface t v) t true=some (.tuple #[v,.bool true]):=by
  unfold Kv;rw[hu];cases u<;>first | (dsimp only;rw[Nat.beq_refl];rfl) | cases hi
 rw[this];rfl
def Zkl{x:GZ}{it t a:J}{v z:N}{u:TypeDesc}(hu:X.P.underlying t=some u)(hi:(match u with | .interface _=>false|_=>true)=true)(hz:YM X.P t=some z)(hne:Nat.beq a t=false)(hx:YG fr x=some (.iface a v)):Xt X h (YG fr) ⟨some d,.typeAssert x it t true,ty,p,af,g⟩=some (.val (.tuple #[z,.bool false]),.none):=by
 show(match YG fr x with|some x=>vN (Kv X.P x t true) | none=>none)=_;rw[hx];dsimp only
 have:Kv X.P (.iface a v) t true=some (.tuple #[z,.bool false]):=by
  unfold Kv;rw[hu];cases u<;>first | (dsimp only;rw[hne,Cq0,Cq1,hz]) | cases hi
 rw[this];rfl
def Yo.inv{f:V2}{r:GZ}{nm:String}{xs:V4 GZ}{ts:V4 J}{t:J}{v:N}{vs:U N}{d:O Tmp}(hr:YG fr r=some (.iface t v))(hm:ZnZ X.P t nm=some f)(hf:(X.fns.get f).isSome=true)(hx:evs (YG fr) xs.toList=some vs):
 Yo X fr ⟨d,.call {callee:=.invoke r nm,args:=xs,argTypes:=ts},ty,p,af,g⟩ f (v::vs).toArray:=fun h=>by
 obtain⟨fn,hf⟩:=GT.1 hf;unfold Xt;dsimp only;rw[hx];dsimp only;rw[hr];dsimp only;unfold Zbo;dsimp only;rw[hm];dsimp only;rw[hf]
def Sp.nfz{T0:Nat->Prop}(s:Sp wm T0 h0 G h)(p:Sel G Ga Gr){b:Nat}(hb:Stb wm h b):∀x,QF Ga x->x≠b:=fun x hx e=>by
 subst e;obtain⟨h1,h2⟩:=(s.Zbc p).own hx;rcases hb with z|z
 ·omega
 ·rw[z]at h2;cases h2
end
end Go.ZP
end
end
section
namespace Go.Proofs.YtbnepjakjmnadaaGreat
structure Zi where
 op:Int
 n:Int
 text:ByteArray
 kids:List Zi
 deriving Inhabited
structure Yk where
 text:ByteArray
 names:List ByteArray
 deriving Inhabited
mutual
structure Term where
 op:Int
 text:ByteArray
 args:List Zi
 defs:List Za
 kids:List Term
structure Za where
 form:Int
 text:ByteArray
 joins:List Yk
 defs:List Za
 kids:List Term
end
instance:Inhabited Term:=⟨⟨0,⟨#[]⟩,[],[],[]⟩⟩
instance:Inhabited Za:=⟨⟨0,⟨#[]⟩,[],[],[]⟩⟩
inductive Part
 | pr (t:Term)
 | ex (e:Zi)
 | cl (c:Za)
instance:Inhabited Part:=⟨.ex default⟩
def Zlp{β:Type}(p:Part)(f:Term->β)(g:Zi->β)(k:Za->β):β:=match p with
 | .pr t=>f t
 | .ex e=>g e
 | .cl c=>k c
end Go.Proofs.YtbnepjakjmnadaaGreat
end
section
noncomputable section
namespace Go.ZP
open Go.Lf
structure SlW{α P:Type}(sz:Nat)(sh:P->α->List Value)(wm:Nat)(h:H)(a:Option Addr)(c:Nat)(xs:List α)(ps:Nat->P):Prop where
 max:xs.length<=9223372036854775807
 cap:xs.length<=c / 2
 nl:Zn9 a c
 mem:xs=[]\/∃i o cs own z,a=some ⟨i,o,none⟩/\h.at i=.row cs own z/\(i<wm\/own=false)/\o+xs.length*sz<=cs.length/\∀k x,xs[k]? =some x->(cs.drop (o+k*sz)).take sz=sh (ps k) x
def SlW.mono{α P:Type}{sz:Nat}{sh:P->α->U N}{wm:Nat}{h h':H}{a:O Addr}{c:Nat}{xs:U α}{ps:Nat->P}(f:Fz wm h h')(s:SlW sz sh wm h a c xs ps):SlW sz sh wm h' a c xs ps:=
 ⟨s.max,s.cap,s.nl,s.mem.imp id fun⟨i,o,cs,own,z,h1,h2,h3,h4⟩=>⟨i,o,cs,own,z,h1,f.keep _ _ _ _ h2 h3,h3,h4⟩⟩
def SlW.up{α P:Type}{sz:Nat}{sh:P->α->U N}{wm UC:Nat}{h:H}{a:O Addr}{c:Nat}{xs:U α}{ps:Nat->P}(f:wm<=UC)(s:SlW sz sh wm h a c xs ps):SlW sz sh UC h a c xs ps:=
 ⟨s.max,s.cap,s.nl,s.mem.imp id fun⟨i,o,cs,own,z,h1,h2,h3,h4⟩=>⟨i,o,cs,own,z,h1,h2,h3.imp (fun x=>by omega) id,h4⟩⟩
def Sl.iff{α:Type}{e:JY α}{wm:Nat}{h:H}{a:O Addr}{c:Nat}{xs:U α}:Sl e wm h a c xs↔∃ps,SlW e.sz e.sh wm h a c xs ps/\∀k x,xs[k]? =some x->e.F wm h (ps k) x:=by
 constructor
 ·intro s;rcases s.mem with h0|⟨i,o,cs,own,z,h1,h2,h3,h4⟩
  ·subst h0;exact⟨fun _=>e.dflt,⟨s.max,s.cap,s.nl,.inl rfl⟩,fun k x hk=>by simp at hk⟩
  ·have hq:∀k,∃q,∀x,xs[k]? =some x->(cs.drop (o+k*e.sz)).take e.sz=e.sh q x/\e.F wm h q x:=fun k=>by
    cases hx:xs[k]? with
    | none=>exact⟨e.dflt,fun x hx=>by cases hx⟩
    | some x=>
      obtain⟨q,g1,g2⟩:=h4.get k x hx;exact⟨q,fun y hy=>by cases hy;exact⟨g1,g2⟩⟩
   exact⟨fun k=>(hq k).choose,⟨s.max,s.cap,s.nl,.inr ⟨i,o,cs,own,z,h1,h2,h3,h4.len,fun k x hk=>((hq k).choose_spec x hk).1⟩⟩,fun k x hk=>((hq k).choose_spec x hk).2⟩
 ·rintro⟨ps,s,hF⟩;refine⟨s.max,s.cap,s.nl,s.mem.imp id ?_⟩;rintro⟨i,o,cs,own,z,h1,h2,h3,h4,h5⟩;exact⟨i,o,cs,own,z,h1,h2,h3,⟨h4,fun k x hk=>⟨ps k,h5 k x hk,hF k x hk⟩⟩⟩
end Go.ZP
end
end
section
set_option maxRecDepth 100000
noncomputable section
namespace Go.Proofs.YtbnepjakjmnadaaGreat
open Go.ZP Go.Lf
section
abbrev SlP:=O Addr×Nat
def Yj:JY Yk where
 sz:=2
 pos:=by decide
 Par:=SlP
 dflt:=(none,0)
 sh:=fun p x=>[.string x.text,.slice p.1 x.names.length p.2]
 len:=fun _ _=>rfl
 one:=fun _ _=>rfl
 F:=fun wm h p x=>Sl Xb wm h p.1 p.2 x.names
 mono:=fun f x=>x.mono f
 up:=fun f x=>x.up f
def Ztf(p:SlP)(x:Zi):U N:=[V8 x.op,V8 x.n,.string x.text,.slice p.1 x.kids.length p.2]
inductive ZcJ(wm:Nat)(h:H):SlP->Zi->Prop
 | mk {p:SlP} {x:Zi} (ps:Nat->SlP) (hk:SlW 4 Ztf wm h p.1 p.2 x.kids ps) (hF:∀k y,x.kids[k]? =some y->ZcJ wm h (ps k) y):ZcJ wm h p x
def ZcJ.mono{wm:Nat}{h h':H}{p:SlP}{x:Zi}(f:Fz wm h h')(s:ZcJ wm h p x):ZcJ wm h' p x:=by
 induction s with
 | mk ps hk _ ih=>exact .mk ps (hk.mono f) ih
def ZcJ.up{wm UC:Nat}{h:H}{p:SlP}{x:Zi}(f:wm<=UC)(s:ZcJ wm h p x):ZcJ UC h p x:=by
 induction s with
 | mk ps hk _ ih=>exact .mk ps (hk.up f) ih
def Zh:JY Zi where
 sz:=4
 pos:=by decide
 Par:=SlP
 dflt:=(none,0)
 sh:=Ztf
 len:=fun _ _=>rfl
 one:=fun _ _=>rfl
 F:=ZcJ
 mono:=ZcJ.mono
 up:=ZcJ.up
def Y1{wm:Nat}{h:H}{p:SlP}{x:Zi}:Zh.F wm h p x↔Sl Zh wm h p.1 p.2 x.kids:=by
 rw[Sl.iff];exact⟨fun s=>by cases s with|mk ps hk hF=>exact⟨ps,hk,hF⟩,fun⟨ps,hk,hF⟩=>.mk ps hk hF⟩
abbrev TmP:=SlP×SlP×SlP
def Ju(p:TmP)(x:Term):U N:=[V8 x.op,.string x.text,.slice p.1.1 x.args.length p.1.2,.slice p.2.1.1 x.defs.length p.2.1.2,.slice p.2.2.1 x.kids.length p.2.2.2]
def KH(p:TmP)(x:Za):U N:=[V8 x.form,.string x.text,.slice p.1.1 x.joins.length p.1.2,.slice p.2.1.1 x.defs.length p.2.1.2,.slice p.2.2.1 x.kids.length p.2.2.2]
mutual
inductive Jo (wm:Nat) (h:H):TmP->Term->Prop
 | mk {p:TmP} {x:Term} (pd pk:Nat->TmP) (ha:Sl Zh wm h p.1.1 p.1.2 x.args) (hd:SlW 5 KH wm h p.2.1.1 p.2.1.2 x.defs pd) (hk:SlW 5 Ju wm h p.2.2.1 p.2.2.2 x.kids pk)
    (hdF:∀k y,x.defs[k]? =some y->XC wm h (pd k) y) (hkF:∀k y,x.kids[k]? =some y->Jo wm h (pk k) y):Jo wm h p x
inductive XC (wm:Nat) (h:H):TmP->Za->Prop
 | mk {p:TmP} {x:Za} (pd pk:Nat->TmP) (ha:Sl Yj wm h p.1.1 p.1.2 x.joins) (hd:SlW 5 KH wm h p.2.1.1 p.2.1.2 x.defs pd) (hk:SlW 5 Ju wm h p.2.2.1 p.2.2.2 x.kids pk)
    (hdF:∀k y,x.defs[k]? =some y->XC wm h (pd k) y) (hkF:∀k y,x.kids[k]? =some y->Jo wm h (pk k) y):XC wm h p x
end
def Jo.mono{wm:Nat}{h h':H}(f:Fz wm h h'){p:TmP}{x:Term}(s:Jo wm h p x):Jo wm h' p x:=
 Jo.rec (motive_1:=fun p x _=>Jo wm h' p x) (motive_2:=fun p x _=>XC wm h' p x)
  (fun pd pk ha hd hk _ _ i1 i2=>.mk pd pk (ha.mono f) (hd.mono f) (hk.mono f) i1 i2) (fun pd pk ha hd hk _ _ i1 i2=>.mk pd pk (ha.mono f) (hd.mono f) (hk.mono f) i1 i2) s
def XC.mono{wm:Nat}{h h':H}(f:Fz wm h h'){p:TmP}{x:Za}(s:XC wm h p x):XC wm h' p x:=
 XC.rec (motive_1:=fun p x _=>Jo wm h' p x) (motive_2:=fun p x _=>XC wm h' p x)
  (fun pd pk ha hd hk _ _ i1 i2=>.mk pd pk (ha.mono f) (hd.mono f) (hk.mono f) i1 i2) (fun pd pk ha hd hk _ _ i1 i2=>.mk pd pk (ha.mono f) (hd.mono f) (hk.mono f) i1 i2) s
def Jo.up{wm UC:Nat}{h:H}(f:wm<=UC){p:TmP}{x:Term}(s:Jo wm h p x):Jo UC h p x:=
 Jo.rec (motive_1:=fun p x _=>Jo UC h p x) (motive_2:=fun p x _=>XC UC h p x)
  (fun pd pk ha hd hk _ _ i1 i2=>.mk pd pk (ha.up f) (hd.up f) (hk.up f) i1 i2) (fun pd pk ha hd hk _ _ i1 i2=>.mk pd pk (ha.up f) (hd.up f) (hk.up f) i1 i2) s
def XC.up{wm UC:Nat}{h:H}(f:wm<=UC){p:TmP}{x:Za}(s:XC wm h p x):XC UC h p x:=
 XC.rec (motive_1:=fun p x _=>Jo UC h p x) (motive_2:=fun p x _=>XC UC h p x)
  (fun pd pk ha hd hk _ _ i1 i2=>.mk pd pk (ha.up f) (hd.up f) (hk.up f) i1 i2) (fun pd pk ha hd hk _ _ i1 i2=>.mk pd pk (ha.up f) (hd.up f) (hk.up f) i1 i2) s
def Zm:JY Term where
 sz:=5
 pos:=by decide
 Par:=TmP
 dflt:=((none,0),(none,0),(none,0))
 sh:=Ju
 len:=fun _ _=>rfl
 one:=fun _ _=>rfl
 F:=Jo
 mono:=fun f s=>Jo.mono f s
 up:=fun f s=>Jo.up f s
def Zc:JY Za where
 sz:=5
 pos:=by decide
 Par:=TmP
 dflt:=((none,0),(none,0),(none,0))
 sh:=KH
 len:=fun _ _=>rfl
 one:=fun _ _=>rfl
 F:=XC
 mono:=fun f s=>XC.mono f s
 up:=fun f s=>XC.up f s
def Xd{wm:Nat}{h:H}{p:TmP}{x:Term}:Zm.F wm h p x↔Sl Zh wm h p.1.1 p.1.2 x.args/\Sl Zc wm h p.2.1.1 p.2.1.2 x.defs/\Sl Zm wm h p.2.2.1 p.2.2.2 x.kids:=by
 rw[Sl.iff (e:=Zc),Sl.iff (e:=Zm)];exact⟨fun s=>by cases s with|mk pd pk ha hd hk hdF hkF=>exact⟨ha,⟨pd,hd,hdF⟩,pk,hk,hkF⟩,fun⟨ha,⟨pd,hd,hdF⟩,pk,hk,hkF⟩=>Jo.mk pd pk ha hd hk hdF hkF⟩
def Z6{wm:Nat}{h:H}{p:TmP}{x:Za}:Zc.F wm h p x↔Sl Yj wm h p.1.1 p.1.2 x.joins/\Sl Zc wm h p.2.1.1 p.2.1.2 x.defs/\Sl Zm wm h p.2.2.1 p.2.2.2 x.kids:=by
 rw[Sl.iff (e:=Zc),Sl.iff (e:=Zm)];exact⟨fun s=>by cases s with|mk pd pk ha hd hk hdF hkF=>exact⟨ha,⟨pd,hd,hdF⟩,pk,hk,hkF⟩,fun⟨ha,⟨pd,hd,hdF⟩,pk,hk,hkF⟩=>XC.mk pd pk ha hd hk hdF hkF⟩
end
section
abbrev PtP:=TmP×SlP
def K8(p:PtP):Part->N
 | .pr t=>.iface 78 (.agg (Ju p.1 t).toArray)
 | .ex e=>.iface 88 (.agg (Ztf p.2 e).toArray)
 | .cl c=>.iface 166 (.agg (KH p.1 c).toArray)
def Yb{p:PtP}{x:Part}:X6 (K8 p x)=false:=by cases x<;>rfl
def ZlG{p:PtP}{x:Part}:(K8 p x).cells.toList=[K8 p x]:=by cases x<;>rfl
def Ziw{β:Type}{f:Term->O β}{g:Zi->O β}{k:Za->O β}{x:Term}{r:β}(h:Zlp (.pr x) f g k=some r):f x=some r:=h
def Zix{β:Type}{f:Term->O β}{g:Zi->O β}{k:Za->O β}{x:Zi}{r:β}(h:Zlp (.ex x) f g k=some r):g x=some r:=h
def Ziy{β:Type}{f:Term->O β}{g:Zi->O β}{k:Za->O β}{x:Za}{r:β}(h:Zlp (.cl x) f g k=some r):k x=some r:=h
def ZNX(wm:Nat)(h:H)(p:PtP):Part->Prop
 | .pr t=>Jo wm h p.1 t
 | .ex e=>ZcJ wm h p.2 e
 | .cl c=>XC wm h p.1 c
def Z4:JY Part where
 sz:=1
 pos:=by decide
 Par:=PtP
 dflt:=(((none,0),(none,0),(none,0)),(none,0))
 sh:=fun p x=>[K8 p x]
 len:=fun _ _=>rfl
 one:=fun p x=>by cases x<;>rfl
 F:=ZNX
 mono:=fun{wm h h' p x} f s=>by
  cases x with
  | pr t=>exact Jo.mono f s
  | ex e=>exact ZcJ.mono f s
  | cl c=>exact XC.mono f s
 up:=fun{wm UC h p x} f s=>by
  cases x with
  | pr t=>exact Jo.up f s
  | ex e=>exact ZcJ.up f s
  | cl c=>exact XC.up f s
def ZeH{wm:Nat}{h:H}{a1 a2 a3 a4:O Addr}{c1 c2 c3 c4:Nat}{t:Term}(x:Z4.F wm h (((a1,c1),(a2,c2),(a3,c3)),(a4,c4)) (.pr t)):Sl Zh wm h a1 c1 t.args/\Sl Zc wm h a2 c2 t.defs/\Sl Zm wm h a3 c3 t.kids:=Xd.1 x
def ZmI{wm:Nat}{h:H}{a1 a2 a3 a4:O Addr}{c1 c2 c3 c4:Nat}{e:Zi}(x:Z4.F wm h (((a1,c1),(a2,c2),(a3,c3)),(a4,c4)) (.ex e)):Sl Zh wm h a4 c4 e.kids:=Y1.1 x
def ZeI{wm:Nat}{h:H}{a1 a2 a3 a4:O Addr}{c1 c2 c3 c4:Nat}{c:Za}(x:Z4.F wm h (((a1,c1),(a2,c2),(a3,c3)),(a4,c4)) (.cl c)):Sl Yj wm h a1 c1 c.joins/\Sl Zc wm h a2 c2 c.defs/\Sl Zm wm h a3 c3 c.kids:=Z6.1 x
def ZtB{wm:Nat}{h:H}{a1 a2 a3:O Addr}{c1 c2 c3:Nat}{t:Term}(x:Sl Zh wm h a1 c1 t.args)(y:Sl Zc wm h a2 c2 t.defs)(z:Sl Zm wm h a3 c3 t.kids):Z4.F wm h (((a1,c1),(a2,c2),(a3,c3)),(none,0)) (.pr t):=Xd.2 ⟨x,y,z⟩
def ZEM{wm:Nat}{h:H}{a4:O Addr}{c4:Nat}{e:Zi}(x:Sl Zh wm h a4 c4 e.kids):Z4.F wm h (((none,0),(none,0),(none,0)),(a4,c4)) (.ex e):=Y1.2 x
def ZKs{wm:Nat}{h:H}{a1 a2 a3:O Addr}{c1 c2 c3:Nat}{c:Za}(x:Sl Yj wm h a1 c1 c.joins)(y:Sl Zc wm h a2 c2 c.defs)(z:Sl Zm wm h a3 c3 c.kids):Z4.F wm h (((a1,c1),(a2,c2),(a3,c3)),(none,0)) (.cl c):=Z6.2 ⟨x,y,z⟩
end
section
structure Xa where
 channels:(List ByteArray)
 many:(List Int)
 at_:(List Int)
 places:(List ByteArray)
 bad:Bool
 deriving Inhabited
structure Zuz where
 Qk:Za
 deriving Inhabited
structure Process where
 term:Term
 deriving Inhabited
structure Zoa where
 Kj:Zi
 deriving Inhabited
structure ZI where
 at_:Int
 many:Int
 deriving DecidableEq,Inhabited
def Ua(x y:ZI):Z:=[x.at_==y.at_,x.many==y.many].all id
def ZIm:O Z:=some true
end
section
def Ztk:JY ZI where
 sz:=2
 pos:=by decide
 Par:=Unit
 dflt:=()
 sh:=fun _ x=>[V8 x.at_,V8 x.many]
 len:=fun _ _=>rfl
 one:=fun _ _=>rfl
 F:=fun _ _ _ _=>True
 mono:=fun _ x=>x
 up:=fun _ x=>x
def Qj(x:ZI):N:=.agg #[V8 x.at_,V8 x.many]
def ZOY:XX.P.underlying 4=some .bool:=Kq0
def ZwH:XX.P.underlying 9=some .string:=Kq0
def ZEw:XX.P.underlying 20=some (.interface #[]):=Kq0
def ZbN:XX.P.underlying 22=some (.slice 9):=Kq0
def Zaw:XX.P.underlying 29=some (.slice 36):=Kq0
def Ur:XX.P.underlying 30=some (.slice 130):=Kq0
def Q9:XX.P.underlying 31=some (.slice 33):=Kq0
def JR:XX.P.underlying 70=some (.map 9 4):=Kq0
def ZGk:XX.P.underlying 102=some (.slice 3):=Kq0
def WJ:XX.P.underlying 128=some (.slice 136):=Kq0
def ZGh:XX.P.underlying 138=some (.slice 5):=Kq0
def KE:XX.P.underlying 142=some (.slice 140):=Kq0
def ZGg:XX.P.underlying 160=some (.slice 30):=Kq0
def Zrb:XX.P.underlying 185=some (.map 9 187):=Kq0
def ZI3:YE XX.P 3=some false:=Kq0
def ZRy:YE XX.P 4=some false:=Kq0
def Zlb:YE XX.P 9=some false:=Kq0
def ZcB:YE XX.P 22=some false:=Kq0
def Zup:YE XX.P 28=some false:=Kq0
def ZAK:YE XX.P 29=some false:=Kq0
def Zme:YE XX.P 30=some false:=Kq0
def ZfE:YE XX.P 31=some false:=Kq0
def Qx:YE XX.P 33=some true:=Kq0
def ZNH:YE XX.P 34=some false:=Kq0
def Wy:YE XX.P 36=some true:=Kq0
def ZAJ:YE XX.P 37=some false:=Kq0
def ZqJ:YE XX.P 70=some false:=Kq0
def ZJa:YE XX.P 102=some false:=Kq0
def ZI9:YE XX.P 124=some true:=Kq0
def ZsM:YE XX.P 127=some false:=Kq0
def Zn0:YE XX.P 128=some false:=Kq0
def JN:YE XX.P 130=some true:=Kq0
def Zeo:YE XX.P 136=some true:=Kq0
def Zen:YE XX.P 140=some false:=Kq0
def Zem:YE XX.P 141=some false:=Kq0
def ZI8:YE XX.P 159=some true:=Kq0
def ZI7:YE XX.P 185=some false:=Kq0
def ZI6:YE XX.P 187=some true:=Kq0
def ZI5:YE XX.P 194=some false:=Kq0
def ZI4:YE XX.P 195=some false:=Kq0
def ZwW:Yz XX.P 3=some 1:=Kq0
def ZJ9:Yz XX.P 4=some 1:=Kq0
def ZJ8:Yz XX.P 5=some 1:=Kq0
def ZdA:Yz XX.P 9=some 1:=Kq0
def Zif:Yz XX.P 22=some 1:=Kq0
def Zmy:Yz XX.P 29=some 1:=Kq0
def Zrk:Yz XX.P 30=some 1:=Kq0
def Yd:Yz XX.P 33=some 5:=Kq0
def Xk:Yz XX.P 36=some 4:=Kq0
def ZGr:Yz XX.P 37=some 1:=Kq0
def ZGq:Yz XX.P 70=some 1:=Kq0
def Zmx:Yz XX.P 78=some 5:=Kq0
def ZGp:Yz XX.P 88=some 4:=Kq0
def ZBW:Yz XX.P 102=some 1:=Kq0
def ZBT:Yz XX.P 124=some 2:=Kq0
def Yv:Yz XX.P 130=some 5:=Kq0
def X4:Yz XX.P 136=some 2:=Kq0
def Kk:Yz XX.P 140=some 1:=Kq0
def Zmz:Yz XX.P 141=some 1:=Kq0
def ZBS:Yz XX.P 147=some 1:=Kq0
def ZBR:Yz XX.P 159=some 2:=Kq0
def ZBQ:Yz XX.P 166=some 5:=Kq0
def ZBP:Yz XX.P 185=some 1:=Kq0
def ZBO:Yz XX.P 187=some 2:=Kq0
def ZBN:Yz XX.P 195=some 1:=Kq0
def ZhB:Zr XX.P 33 0 0:=Zr.of Kq0
def ZC7:Zr XX.P 33 1 1:=Zr.of Kq0
def ZtT:Zr XX.P 33 2 2:=Zr.of Kq0
def Zc6:Zr XX.P 33 3 3:=Zr.of Kq0
def Zbe:Zr XX.P 33 4 4:=Zr.of Kq0
def ZC6:Zr XX.P 36 0 0:=Zr.of Kq0
def ZC5:Zr XX.P 36 1 1:=Zr.of Kq0
def ZC4:Zr XX.P 36 2 2:=Zr.of Kq0
def Znd:Zr XX.P 36 3 3:=Zr.of Kq0
def K9:Zr XX.P 78 0 0:=Zr.of Kq0
def ZC3:Zr XX.P 88 0 0:=Zr.of Kq0
def Zzp:Zr XX.P 104 0 0:=Zr.of Kq0
def Zzo:Zr XX.P 104 1 1:=Zr.of Kq0
def Zzn:Zr XX.P 104 2 2:=Zr.of Kq0
def Zzm:Zr XX.P 104 3 3:=Zr.of Kq0
def Zzl:Zr XX.P 104 4 4:=Zr.of Kq0
def Zzh:Zr XX.P 119 0 0:=Zr.of Kq0
def Zzg:Zr XX.P 119 2 2:=Zr.of Kq0
def Zzf:Zr XX.P 119 3 3:=Zr.of Kq0
def Zze:Zr XX.P 119 4 4:=Zr.of Kq0
def Zzd:Zr XX.P 124 0 0:=Zr.of Kq0
def Zzc:Zr XX.P 124 1 1:=Zr.of Kq0
def ZpN:Zr XX.P 130 0 0:=Zr.of Kq0
def Zzb:Zr XX.P 130 1 1:=Zr.of Kq0
def Zcf:Zr XX.P 130 2 2:=Zr.of Kq0
def Zjj:Zr XX.P 130 3 3:=Zr.of Kq0
def ZaM:Zr XX.P 130 4 4:=Zr.of Kq0
def ZpM:Zr XX.P 136 0 0:=Zr.of Kq0
def Ze4:Zr XX.P 136 1 1:=Zr.of Kq0
def Zza:Zr XX.P 147 0 0:=Zr.of Kq0
def Zy9:Zr XX.P 159 0 0:=Zr.of Kq0
def Zy8:Zr XX.P 159 1 1:=Zr.of Kq0
def ZpJ:Zr XX.P 166 0 0:=Zr.of Kq0
def ZEo:YM XX.P 3=some (V8 0):=Kq0
def ZhZ:YM XX.P 4=some (.bool false):=Kq0
def ZJQ:YM XX.P 5=some (.int .u8 0):=Kq0
def Zs1:YM XX.P 9=some (.string ⟨#[]⟩):=Kq0
def Zwq:YM XX.P 22=some (V7):=Kq0
def ZFS:YM XX.P 30=some (V7):=Kq0
def WH:YM XX.P 33=some (.agg #[V8 0,.string ⟨#[]⟩,V7,V7,V7]):=Kq0
def ZfP:YM XX.P 36=some (.agg #[V8 0,V8 0,.string ⟨#[]⟩,V7]):=Kq0
def ZFR:YM XX.P 37=some (V8 0):=Kq0
def ZFQ:YM XX.P 70=some (.map none):=Kq0
def ZaX:YM XX.P 78=some (.agg #[V8 0,.string ⟨#[]⟩,V7,V7,V7]):=Kq0
def Zq6:YM XX.P 88=some (.agg #[V8 0,V8 0,.string ⟨#[]⟩,V7]):=Kq0
def ZBD:YM XX.P 104=some (.agg #[V7,V7,V7,V7,.bool false]):=Kq0
def ZBB:YM XX.P 124=some (.agg #[V7,V7]):=Kq0
def UE:YM XX.P 130=some (.agg #[V8 0,.string ⟨#[]⟩,V7,V7,V7]):=Kq0
def ZcL:YM XX.P 136=some (.agg #[.string ⟨#[]⟩,V7]):=Kq0
def Zex:YM XX.P 140=some (.nilIface):=Kq0
def Zmk:YM XX.P 141=some (.nilFunc):=Kq0
def Zs5:YM XX.P 147=some (.agg #[V8 0]):=Kq0
def Zs4:YM XX.P 159=some (.agg #[V7,V8 0]):=Kq0
def Zs2:YM XX.P 166=some (.agg #[V8 0,.string ⟨#[]⟩,V7,V7,V7]):=Kq0
def ZBA:YM XX.P 185=some (.map none):=Kq0
def Zmj:YM XX.P 187=some (.agg #[V8 0,V8 0]):=Kq0
def ZBz:YM XX.P 195=some (.nilFunc):=Kq0
def Zl9:JQ XX.P 33 [V8 0,.string ⟨#[]⟩,V7,V7,V7] [(0,1),(1,1),(2,1),(3,1),(4,1)]:=⟨_,_,WH,rfl,Tryz.underlying33,by kernel_rfl⟩
def Zuh:JQ XX.P 36 [V8 0,V8 0,.string ⟨#[]⟩,V7] [(0,1),(1,1),(2,1),(3,1)]:=⟨_,_,ZfP,rfl,Tryz.underlying36,by kernel_rfl⟩
def ZAn:JQ XX.P 78 [V8 0,.string ⟨#[]⟩,V7,V7,V7] [(0,5)]:=⟨_,_,ZaX,rfl,Tryz.underlying78,by kernel_rfl⟩
def ZFJ:JQ XX.P 88 [V8 0,V8 0,.string ⟨#[]⟩,V7] [(0,4)]:=⟨_,_,Zq6,rfl,Tryz.underlying88,by kernel_rfl⟩
def ZAq:JQ XX.P 130 [V8 0,.string ⟨#[]⟩,V7,V7,V7] [(0,1),(1,1),(2,1),(3,1),(4,1)]:=⟨_,_,UE,rfl,Tryz.underlying130,by kernel_rfl⟩
def ZIP:JQ XX.P 136 [.string ⟨#[]⟩,V7] [(0,1),(1,1)]:=⟨_,_,ZcL,rfl,Tryz.underlying136,by kernel_rfl⟩
def ZIO:JQ XX.P 147 [V8 0] [(0,1)]:=⟨_,_,Zs5,rfl,Tryz.underlying147,by kernel_rfl⟩
def ZAp:JQ XX.P 159 [V7,V8 0] [(0,1),(1,1)]:=⟨_,_,Zs4,rfl,Tryz.underlying159,by kernel_rfl⟩
def ZIN:JQ XX.P 166 [V8 0,.string ⟨#[]⟩,V7,V7,V7] [(0,5)]:=⟨_,_,Zs2,rfl,Tryz.underlying166,by kernel_rfl⟩
def ZIM:JQ XX.P 187 [V8 0,V8 0] [(0,1),(1,1)]:=⟨_,_,Zmj,rfl,Tryz.underlying187,by kernel_rfl⟩
def Zcz:Zg9 XX.P #[22,22] 1 16:=⟨9,.string ⟨#[]⟩,by kernel_rfl⟩
def Zkp:Zg9 XX.P #[29,29] 4 56:=⟨36,.agg #[V8 0,V8 0,.string ⟨#[]⟩,V7],by kernel_rfl⟩
def Zcy:Zg9 XX.P #[30,30] 5 96:=⟨130,.agg #[V8 0,.string ⟨#[]⟩,V7,V7,V7],by kernel_rfl⟩
def Zko:Zg9 XX.P #[31,31] 5 96:=⟨33,.agg #[V8 0,.string ⟨#[]⟩,V7,V7,V7],by kernel_rfl⟩
def Zbm:Zg9 XX.P #[142,142] 1 16:=⟨140,.nilIface,by kernel_rfl⟩
def ZIp(x y:ZI):ZN3 XX.P 187 (Ztk.sh () x) (Ztk.sh () y) (Ua x y):=
 ⟨by kernel_rfl,ZvN (d:=9999) (bs:=[x.at_==y.at_,x.many==y.many]) Tryz.underlying187 Kq0 ⟨⟨by decide,_,_,ZcW Kq0 rfl,ZcW Kq0 rfl,eq_int Kq0⟩,⟨by decide,_,_,ZcW Kq0 rfl,ZcW Kq0 rfl,eq_int Kq0⟩,trivial⟩⟩
def Ws:ZgI XX.P 9 Value.string:=ZgI.str Kq0
def ZFo:(XX.fns.get 14).isSome=true:=Kq0
def Zpo:(XX.fns.get 15).isSome=true:=Kq0
def ZFn:(XX.fns.get 19).isSome=true:=Kq0
def ZtN:(XX.fns.get 23).isSome=true:=Kq0
def ZFm:(XX.fns.get 27).isSome=true:=Kq0
def ZFl:(XX.fns.get 31).isSome=true:=Kq0
def ZtM:(XX.fns.get 34).isSome=true:=Kq0
def ZLO:(XX.fns.get 35).isSome=true:=Kq0
def ZyD:(XX.fns.get 38).isSome=true:=Kq0
def ZFk:(XX.fns.get 39).isSome=true:=Kq0
def ZFj:(XX.fns.get 48).isSome=true:=Kq0
def ZLN:(XX.fns.get 53).isSome=true:=Kq0
def ZyC:(XX.fns.get 57).isSome=true:=Kq0
def ZFi:(XX.fns.get 59).isSome=true:=Kq0
def ZFh:(XX.fns.get 61).isSome=true:=Kq0
def ZFg:(XX.fns.get 72).isSome=true:=Kq0
def ZeU:(XX.fns.get 80).isSome=true:=Kq0
def ZFf:(XX.fns.get 85).isSome=true:=Kq0
def ZFe:(XX.fns.get 86).isSome=true:=Kq0
def ZLM:(XX.fns.get 88).isSome=true:=Kq0
def ZtL:(XX.fns.get 89).isSome=true:=Kq0
def Zr2:(XX.fns.get 100).isSome=true:=Kq0
def Zan:(XX.fns.get 101).isSome=true:=Kq0
def YZ:(XX.fns.get 104).isSome=true:=Kq0
def ZyM:(XX.fns.get 105).isSome=true:=Kq0
def Zf8:(XX.fns.get 106).isSome=true:=Kq0
def ZyL:(XX.fns.get 113).isSome=true:=Kq0
def ZyK:(XX.fns.get 137).isSome=true:=Kq0
def ZyJ:(XX.fns.get 138).isSome=true:=Kq0
def ZyI:(XX.fns.get 139).isSome=true:=Kq0
def ZyH:(XX.fns.get 144).isSome=true:=Kq0
def Zf7:(XX.fns.get 145).isSome=true:=Kq0
def ZyG:(XX.fns.get 148).isSome=true:=Kq0
def WU:(XX.fns.get 160).isSome=true:=Kq0
def ZHp:(XX.fns.get 197).isSome=true:=Kq0
def ZyF:(XX.fns.get 198).isSome=true:=Kq0
def ZyE:(XX.fns.get 199).isSome=true:=Kq0
def ZHo:(XX.fns.get 200).isSome=true:=Kq0
def ZHn:(XX.fns.get 201).isSome=true:=Kq0
end
end Go.Proofs.YtbnepjakjmnadaaGreat
end
end
section
noncomputable section
namespace Go.ZP
open Go.Lf
class W9(P:Program)(t:TypeId):Prop where
 out:YE P t=some false
class ZqY(P:Program)(t:TypeId):Prop where
 out:YE P t=some true
class SzF(P:Program)(t:TypeId)(n:outParam Nat):Prop where
 out:Yz P t=some n
class QR(P:Program)(t:TypeId)(f:Nat)(o:outParam Nat):Prop where
 out:Zr P t f o
class Zkw(P:Program)(t:TypeId)(e:outParam TypeId):Prop where
 out:P.underlying t=some (.slice e)
class ZJn(P:Program)(t:TypeId):Prop where
 out:P.underlying t=some .bool
class U0(P:Program)(t:TypeId)(v:outParam Value):Prop where
 out:YM P t=some v
def ia{v:N}(h:X6 v=false):X6 v=false:=h
def ZQP{fr:Fr}{t:Nat}{c:Z}{v:N}(h:fr.at t=cond c v undef)(ha:X6 v=false)(hc:c=true):YG fr (.tmp t)=some v:=WG h ha hc
section
variable{X:Ctx}{h:H}{fr:Fr}{ty:J}{p':String}{af:V4 Edge}{g:O (Nat×Z)}{d:O Tmp}{wm:Nat}{T:Nat->Prop}{h0:H}{G Gr:U (Ast wm)}
def ZNA{x:GZ}{t:J}{f off b o:Nat}[hf:QR X.P t f off](hx:YG fr x=some (.pointer (some ⟨b,o,none⟩))):Xt X h (YG fr) ⟨d,.fieldAddr t x f,ty,p',af,g⟩=some (.val (.pointer (some ⟨b,o+off,none⟩)),.none):=YI hf.out hx
def ZRv{x:GZ}{t:J}{b oo:Nat}{vs:U N}{v:N}[ht:W9 X.P t](hx:YG fr x=some (.pointer (some ⟨b,oo,none⟩)))(hS:Sp wm T h0 G h)(pp:Pk G (bx wm b vs) Gr)(hv:vs[oo]? =some v):
 Xt X h (YG fr) ⟨d,.load t x,ty,p',af,g⟩=some (.val v,.none):=Yt ht.out hx (hS.Jp pp) (G0 _).symm hv
def ZNy{x:GZ}{t:J}{b oo sz:Nat}{vs ws:U N}[ht:ZqY X.P t][hs:SzF X.P t sz](hx:YG fr x=some (.pointer (some ⟨b,oo,none⟩)))(hS:Sp wm T h0 G h)(pp:Pk G (bx wm b vs) Gr)(hj:Nat.ble (oo+sz) vs.length=true)(hv:(vs.drop oo).take sz=ws):
 Xt X h (YG fr) ⟨d,.load t x,ty,p',af,g⟩=some (.val (.agg ws.toArray),.none):=Yx ht.out hs.out hx (hS.Jp pp) (G0 _).symm hj hv
def ZNB{dd:Tmp}{x:GZ}{t:J}{v:N}{vs:U N}(hx:YG fr x=some v)(hS:Sp wm T h0 G h)(hv:v.cells.toList=vs):
 HN X wm ⟨some dd,.box t x,ty,p',af,g⟩ fr h (fun v h'=>∃b,h.size=b/\v=(V9 b)/\Sp wm T h0 (bx wm b vs::G) h'):=ZgR hS hx hv
def ZNC{dd:Tmp}{t:J}{v:N}{vs:U N}[hz:U0 X.P t v](hS:Sp wm T h0 G h)(hv:v.cells.toList=vs):
 HN X wm ⟨some dd,.alloc t,ty,p',af,g⟩ fr h (fun v h'=>∃b,h.size=b/\v=(V9 b)/\Sp wm T h0 (bx wm b vs::G) h'):=U3 hS hz.out hv
def ZRu{x y:GZ}{t:J}{b o sz:Nat}{cs cs' vs:U N}{v:N}[hs:SzF X.P t sz](hx:YG fr x=some (.pointer (some ⟨b,o,none⟩)))(hS:Sp wm T h0 G h)(pk:Pk G (bx wm b cs) Gr)(hy:YG fr y=some v)
 (hvs:v.cells.toList=vs) (hn:Nat.beq vs.length sz=true) (hl:Nat.ble (o+sz) cs.length=true) (hc:vs.all Value.oneCell'=true) (hv:splice cs o vs=cs'):
 HU X wm ⟨none,.store t x y,ty,p',af,g⟩ fr h (fun i=>i=b) (fun h'=>Sp wm T h0 (bx wm b cs'::Gr) h'):=JO hS pk hs.out hx hy hvs hn hl hc hv
def ZNz{α:Type}{xs:U α}{v:α}{x y:GZ}{t e:J}{sz b o nn c dd:Nat}{a:O Addr}{k:Int}[hu:Zkw X.P t e][hs:SzF X.P e sz](hx:YG fr x=some (.slice a nn c))(hy:YG fr y=some (V8 k))(hn:nn=xs.length)(ha:a=some ⟨b,o,none⟩)(hk:ZN xs k=some v):
 Xt X h (YG fr) ⟨some dd,.indexAddr t x y,ty,p',af,g⟩=some (.val (.pointer (some ⟨b,o+k.toNat*sz,none⟩)),.none):=Yf hu.out hs.out hx hy hn ha hk
def ZNx{x:GZ}{t:J}{b o oo j:Nat}{vs:U N}{v:N}[ht:W9 X.P t](hx:YG fr x=some (.pointer (some ⟨b,oo,none⟩)))(ha:At h b o vs)(ho:oo=o+j)(hv:vs[j]? =some v):
 Xt X h (YG fr) ⟨d,.load t x,ty,p',af,g⟩=some (.val v,.none):=Yt ht.out hx ha ho hv
def ZNw{x:GZ}{t e':J}{a:O Addr}{mm cc dd:Nat}[hu:Zkw X.P t e'](hx:YG fr x=some (.slice a mm cc)):
 Xt X h (YG fr) ⟨some dd,.call {callee:=.builtin .len,args:=#[x],argTypes:=#[t]},ty,p',af,g⟩=some (.val (V8 (mm:Int)),.none):=Zaf hu.out hx rfl
end
section
variable{X:Ctx}{n wm:Nat}{rd:O Nat}{ops:V4 Oper}{l:U Oper}{fr:Fr}{ds:U V6}{h:H}{ty:J}{p:String}{af:V4 Edge}{g:O (Nat×Z)}{sf:ST}{m:Nat}
def WX.w2{Q:Fr->H->Prop}{d:Nat}{op:Op}{v:N}(hg:ZY ops ⟨some d,op,ty,p,af,g⟩ fr)(hd:Nat.blt d n=true)(hM:okM ops sf m ⟨some d,op,ty,p,af,g⟩=true)(ha:Xt X h (YG fr) ⟨some d,op,ty,p,af,g⟩=some (.val v,.none))(k:WX X n wm rd ops sf (m+1) h l (Tr.set fr d v) Q):
 WX X n wm rd ops sf m h (⟨some d,op,ty,p,af,g⟩::l) fr Q:=WX.w hg hd ha k hM
def WX.gv2{Q:Fr->H->Prop}{d:Nat}{op:Op}{c:Z}{v:N}(hg:Zn ops ⟨some d,op,ty,p,af,g⟩ fr c)(hd:Nat.blt d n=true)(hM:okM ops sf m ⟨some d,op,ty,p,af,g⟩=true)(ha:c=true->Xt X h (YG fr) ⟨some d,op,ty,p,af,g⟩=some (.val v,.none))(k:WX X n wm rd ops sf (m+1) h l (Tr.set fr d (cond c v undef)) Q):
 WX X n wm rd ops sf m h (⟨some d,op,ty,p,af,g⟩::l) fr Q:=WX.gv hg hd ha k hM
end
structure Kp(q:Prop):Prop where
 out:q
def E0{p:Prop}(h:p:=by(focus (repeat (first|with_reducible exact fh | ((with_reducible apply YJ);exact rfl) | ((with_reducible apply YC);exact rfl) | ((with_reducible apply Z8);exact rfl) | ((with_reducible apply Zg);exact rfl) | with_reducible assumption));first|done|fail)):p:=h
def lk{p:Prop}(h:p:=by(first|exact J2 rfl | (apply Zj;exact E0;(first|exact ia rfl|assumption)) | (apply ZQP;exact E0;(first|exact ia rfl|assumption);assumption) | fail)):p:=h
def pk{p:Prop}(h:p:=by
 (first|exact k0|exact k1|exact k2|exact k3|exact k4|exact k5|exact k6|exact k7 | (repeat (first|exact k7|apply Pk.s)))
 done):p:=h
def ce{p:Prop}(h:p:=by
 (focus (first | (simp only[ZvW,Zsy,Zqp,ZvU,ZvV,ZvX,ZnM,cells_func,Zk3,Zkc,Zqq];exact rfl) | exact rfl))
 done):p:=h
def gi{p:Prop}(h:p:=by(first | (apply Zn.yes rfl rfl rfl;exact E0) | (apply Zn.no rfl rfl rfl;exact E0) | (apply Zn.ZOz rfl rfl rfl;exact E0) | (apply Zn.no2 rfl rfl rfl;exact E0) | fail)):p:=h
section
variable{X:Ctx}{n wm:Nat}{rd:O Nat}{Q:XX->Fs->Prop}
def cn{c:GZ}{a b:Code}{t:Z}{fr:Fr}{ds:U V6}{h:H}{α:Type}{x y r:α}(hL:(bif t then x else y)=r)(h1:t=true->x=r->WC X n wm rd a ⟨fr,ds,h,none⟩ Q)(h2:t=false->y=r->WC X n wm rd b ⟨fr,ds,h,none⟩ Q)(hc:YG fr c=some (.bool t):=by exact lk):WC X n wm rd (.cond c a b) ⟨fr,ds,h,none⟩ Q:=
 WC.Uc hc (fun e=>h1 e (Xp e hL)) (fun e=>h2 e (Xq e hL))
def rt{fn:Func}{fr:Fr}{h h0:H}{T:Nat->Prop}{G G':U (Ast wm)}{wr:O Nat}{t:Tmp}{β:Type}{x r:β}{g:β->N}(hL:some x=some r)(hT:T=QF G)(hS:Sp wm T h0 G' h)(hr:fn.results.toList=[.tmp t]:=by exact rfl)(hv:YG fr (.tmp t)=some (g x):=by exact lk):
 Y0 X fn (fun e h'=>∃v,e=.ret v/\CP (fun v Gb=>v=g r/\Gb=[]) G h0 v h') .ret ⟨fr,[],h,wr⟩:=by
 cases hL;exact Y0.Jb hr (ZG hv Zk) ⟨_,⟨rfl,rfl⟩,hT▸hS.only .n⟩
def bg{f:V2}{fn:Func}{c:Code}{args:U N}{n:Nat}{K:N->U (Ast wm)->Prop}{G:U (Ast wm)}{h:H}{fr:Fr}(hnt:fn.ntmps=n)(Zy:wm<=h.size)(hO:Yp G h)
 (k:∀T,T=QF (wm:=wm) G->Sp wm T h G h->WC X n wm none c ⟨fr,[],h,none⟩ (Y0 X fn (fun e h'=>∃v,e=.ret v/\CP K G h v h'))) (hf:X.fns.get f=some fn:=by kernel_rfl) (hb:fn.body=some c:=by exact rfl) (hn:args.length<=n:=by simp)
 (hfr:X7 args 0 .nil=fr:=by(simp only[Zq,Zx,Nat.reduceAdd];exact rfl)):WR X f args.toArray wm h (CP K G h):=by
 subst hfr;exact WF.begin hf hb hnt hn (k _ rfl (Sp.start Zy hO))
end
def lks{p:Prop}(h:p:=by
 repeat (first|exact Zd | (apply Zb;(focus exact lk;done)))
 done):p:=h
def QG{p:Prop}(h:p:=by
 repeat (first|with_reducible exact fh | ((with_reducible apply YJ);exact rfl) | ((with_reducible apply YC);exact rfl) | ((with_reducible apply Z8);exact rfl) | ((with_reducible apply Zg);exact rfl) | with_reducible assumption|refine⟨?_,?_⟩)
 done):p:=h
theorem r1{p q:Prop}(k:q)(h:Kp q->p:=by
 intro k
 first
 | refine WO.nil ?_
 | refine ZB.Yc ?_
 | refine WC.seq ?_
 | refine WC.region ?_
 | ((first|apply WO.w gN rfl | (apply WO.gv;exact gi;rfl;intro hg) | (apply WX.w2 gN;rfl;rfl) | (apply WX.gv2;exact gi;rfl;rfl;intro hg));(focus (first
   | ((with_reducible apply ZO);exact lk)
   | ((with_reducible apply ZRv);exact lk;assumption;exact pk;rfl)
   | ((with_reducible apply ZNA);exact lk)
   | ((with_reducible apply ZW);exact lk)
   | ((with_reducible apply Y5);exact lk;exact lk;(first|with_reducible exact UB|with_reducible exact ZaS|with_reducible exact ZaR|with_reducible exact ZAR|with_reducible exact Zwb|with_reducible exact ZAT|with_reducible exact ZAU|with_reducible exact Zks|with_reducible exact Zwf|with_reducible exact Zwg ZJn.out|with_reducible exact Zwc ZJn.out))
   | ((with_reducible apply ZNy);exact lk;assumption;exact pk;rfl;(focus simp only[Nat.zero_add,Nat.reduceAdd,List.drop_succ_cons,List.drop_zero,List.take_succ_cons,List.take_zero,List.take_nil];rfl))
   | ((with_reducible apply ZNw);exact lk)
   | ((with_reducible apply ZNz);exact lk;exact lk;(focus (exact rfl));assumption;assumption)
   | ((with_reducible apply ZNx);exact lk;(focus (first|assumption | (apply At.fz;(focus (apply Sp.fz;assumption));assumption;assumption));done);(focus (first|exact(Nat.add_zero _).symm|exact rfl);done);rfl)
   | ((with_reducible apply Xg);exact lk;rfl)
   | ((with_reducible apply Zcv);exact lk)
   | ((with_reducible apply ZsE);exact lk)
   | ((with_reducible apply ZnT);exact lk;(focus (apply ZzY;exact E0);done);exact lk)
   | ((with_reducible apply ZNE);exact lk;exact lk;(apply ZzY;exact E0))
   | fail)))
 | (apply WO.hu gN;(focus (first | (((with_reducible apply ZRu));exact lk;assumption;exact pk;exact lk;exact ce;exact rfl;exact rfl;exact rfl;(focus simp only[splice,List.take_succ_cons,List.take_zero,List.drop_succ_cons,List.drop_zero,List.cons_append,List.nil_append,List.append_nil,List.length_cons,List.length_nil,Nat.reduceAdd,Nat.zero_add,List.take_nil,List.drop_nil];exact rfl)) | fail)))
 | (apply WO.hn gN rfl;(focus (first | (((with_reducible apply ZNB));exact lk;assumption;exact ce) | (((with_reducible apply ZNC));assumption;exact ce) | fail)))
 | refine WC.skip ?_
 | refine WC.ret ?_
 | refine WC.block ?_
 | refine WC.exit ?_
 | refine ZB.ret ?_
 | refine ZB.exit ?_
 | refine Yy.ret ?_
 | refine Yy.Yc ?_
 | refine Yy.here ?_
 | refine Ya.exit ?_
 | refine Ya.ret ?_
 | refine WX.nil ?_
 | fail
 exact k.out):p:=h ⟨k⟩
def sl{p:Prop}(h:p:=by
 repeat (first|exact Sel.n | (apply Sel.c;(focus exact pk)))
 done):p:=h
theorem r2{p q:Prop}(k:q)(h:Kp q->p:=by
 intro k
 iterate 2 (refine r1 ?_)
 exact k.out):p:=h ⟨k⟩
theorem r3{p q:Prop}(k:q)(h:Kp q->p:=by
 intro k
 iterate 3 (refine r1 ?_)
 exact k.out):p:=h ⟨k⟩
theorem r4{p q:Prop}(k:q)(h:Kp q->p:=by
 intro k
 iterate 4 (refine r1 ?_)
 exact k.out):p:=h ⟨k⟩
theorem r5{p q:Prop}(k:q)(h:Kp q->p:=by
 intro k
 iterate 5 (refine r1 ?_)
 exact k.out):p:=h ⟨k⟩
theorem r6{p q:Prop}(k:q)(h:Kp q->p:=by
 intro k
 iterate 6 (refine r1 ?_)
 exact k.out):p:=h ⟨k⟩
theorem r7{p q:Prop}(k:q)(h:Kp q->p:=by
 intro k
 iterate 7 (refine r1 ?_)
 exact k.out):p:=h ⟨k⟩
theorem r8{p q:Prop}(k:q)(h:Kp q->p:=by
 intro k
 iterate 8 (refine r1 ?_)
 exact k.out):p:=h ⟨k⟩
theorem r9{p q:Prop}(k:q)(h:Kp q->p:=by
 intro k
 iterate 9 (refine r1 ?_)
 exact k.out):p:=h ⟨k⟩
theorem r10{p q:Prop}(k:q)(h:Kp q->p:=by
 intro k
 iterate 10 (refine r1 ?_)
 exact k.out):p:=h ⟨k⟩
theorem r11{p q:Prop}(k:q)(h:Kp q->p:=by
 intro k
 iterate 11 (refine r1 ?_)
 exact k.out):p:=h ⟨k⟩
theorem r12{p q:Prop}(k:q)(h:Kp q->p:=by
 intro k
 iterate 12 (refine r1 ?_)
 exact k.out):p:=h ⟨k⟩
theorem r13{p q:Prop}(k:q)(h:Kp q->p:=by
 intro k
 iterate 13 (refine r1 ?_)
 exact k.out):p:=h ⟨k⟩
theorem r14{p q:Prop}(k:q)(h:Kp q->p:=by
 intro k
 iterate 14 (refine r1 ?_)
 exact k.out):p:=h ⟨k⟩
theorem r15{p q:Prop}(k:q)(h:Kp q->p:=by
 intro k
 iterate 15 (refine r1 ?_)
 exact k.out):p:=h ⟨k⟩
theorem r16{p q:Prop}(k:q)(h:Kp q->p:=by
 intro k
 iterate 16 (refine r1 ?_)
 exact k.out):p:=h ⟨k⟩
end Go.ZP
end
end
section
set_option maxRecDepth 20000
noncomputable section
namespace Go.Proofs.YtbnepjakjmnadaaGreat
open Go.ZP Go.Lf
section
instance:W9 XX.P 3:=⟨ZI3⟩
instance:W9 XX.P 4:=⟨ZRy⟩
instance:W9 XX.P 9:=⟨Zlb⟩
instance:W9 XX.P 22:=⟨ZcB⟩
instance:W9 XX.P 28:=⟨Zup⟩
instance:W9 XX.P 29:=⟨ZAK⟩
instance:W9 XX.P 30:=⟨Zme⟩
instance:W9 XX.P 31:=⟨ZfE⟩
instance:ZqY XX.P 33:=⟨Qx⟩
instance:W9 XX.P 34:=⟨ZNH⟩
instance:ZqY XX.P 36:=⟨Wy⟩
instance:W9 XX.P 37:=⟨ZAJ⟩
instance:W9 XX.P 70:=⟨ZqJ⟩
instance:W9 XX.P 102:=⟨ZJa⟩
instance:ZqY XX.P 124:=⟨ZI9⟩
instance:W9 XX.P 127:=⟨ZsM⟩
instance:W9 XX.P 128:=⟨Zn0⟩
instance:ZqY XX.P 130:=⟨JN⟩
instance:ZqY XX.P 136:=⟨Zeo⟩
instance:W9 XX.P 140:=⟨Zen⟩
instance:W9 XX.P 141:=⟨Zem⟩
instance:ZqY XX.P 159:=⟨ZI8⟩
instance:W9 XX.P 185:=⟨ZI7⟩
instance:ZqY XX.P 187:=⟨ZI6⟩
instance:W9 XX.P 194:=⟨ZI5⟩
instance:W9 XX.P 195:=⟨ZI4⟩
instance:SzF XX.P 3 1:=⟨ZwW⟩
instance:SzF XX.P 4 1:=⟨ZJ9⟩
instance:SzF XX.P 5 1:=⟨ZJ8⟩
instance:SzF XX.P 9 1:=⟨ZdA⟩
instance:SzF XX.P 22 1:=⟨Zif⟩
instance:SzF XX.P 29 1:=⟨Zmy⟩
instance:SzF XX.P 30 1:=⟨Zrk⟩
instance:SzF XX.P 33 5:=⟨Yd⟩
instance:SzF XX.P 36 4:=⟨Xk⟩
instance:SzF XX.P 37 1:=⟨ZGr⟩
instance:SzF XX.P 70 1:=⟨ZGq⟩
instance:SzF XX.P 78 5:=⟨Zmx⟩
instance:SzF XX.P 88 4:=⟨ZGp⟩
instance:SzF XX.P 102 1:=⟨ZBW⟩
instance:SzF XX.P 124 2:=⟨ZBT⟩
instance:SzF XX.P 130 5:=⟨Yv⟩
instance:SzF XX.P 136 2:=⟨X4⟩
instance:SzF XX.P 140 1:=⟨Kk⟩
instance:SzF XX.P 141 1:=⟨Zmz⟩
instance:SzF XX.P 147 1:=⟨ZBS⟩
instance:SzF XX.P 159 2:=⟨ZBR⟩
instance:SzF XX.P 166 5:=⟨ZBQ⟩
instance:SzF XX.P 185 1:=⟨ZBP⟩
instance:SzF XX.P 187 2:=⟨ZBO⟩
instance:SzF XX.P 195 1:=⟨ZBN⟩
instance:QR XX.P 33 0 0:=⟨ZhB⟩
instance:QR XX.P 33 1 1:=⟨ZC7⟩
instance:QR XX.P 33 2 2:=⟨ZtT⟩
instance:QR XX.P 33 3 3:=⟨Zc6⟩
instance:QR XX.P 33 4 4:=⟨Zbe⟩
instance:QR XX.P 36 0 0:=⟨ZC6⟩
instance:QR XX.P 36 1 1:=⟨ZC5⟩
instance:QR XX.P 36 2 2:=⟨ZC4⟩
instance:QR XX.P 36 3 3:=⟨Znd⟩
instance:QR XX.P 78 0 0:=⟨K9⟩
instance:QR XX.P 88 0 0:=⟨ZC3⟩
instance:QR XX.P 104 0 0:=⟨Zzp⟩
instance:QR XX.P 104 1 1:=⟨Zzo⟩
instance:QR XX.P 104 2 2:=⟨Zzn⟩
instance:QR XX.P 104 3 3:=⟨Zzm⟩
instance:QR XX.P 104 4 4:=⟨Zzl⟩
instance:QR XX.P 119 0 0:=⟨Zzh⟩
instance:QR XX.P 119 2 2:=⟨Zzg⟩
instance:QR XX.P 119 3 3:=⟨Zzf⟩
instance:QR XX.P 119 4 4:=⟨Zze⟩
instance:QR XX.P 124 0 0:=⟨Zzd⟩
instance:QR XX.P 124 1 1:=⟨Zzc⟩
instance:QR XX.P 130 0 0:=⟨ZpN⟩
instance:QR XX.P 130 1 1:=⟨Zzb⟩
instance:QR XX.P 130 2 2:=⟨Zcf⟩
instance:QR XX.P 130 3 3:=⟨Zjj⟩
instance:QR XX.P 130 4 4:=⟨ZaM⟩
instance:QR XX.P 136 0 0:=⟨ZpM⟩
instance:QR XX.P 136 1 1:=⟨Ze4⟩
instance:QR XX.P 147 0 0:=⟨Zza⟩
instance:QR XX.P 159 0 0:=⟨Zy9⟩
instance:QR XX.P 159 1 1:=⟨Zy8⟩
instance:QR XX.P 166 0 0:=⟨ZpJ⟩
instance:Zkw XX.P 22 9:=⟨ZbN⟩
instance:Zkw XX.P 29 36:=⟨Zaw⟩
instance:Zkw XX.P 30 130:=⟨Ur⟩
instance:Zkw XX.P 31 33:=⟨Q9⟩
instance:Zkw XX.P 102 3:=⟨ZGk⟩
instance:Zkw XX.P 128 136:=⟨WJ⟩
instance:Zkw XX.P 138 5:=⟨ZGh⟩
instance:Zkw XX.P 142 140:=⟨KE⟩
instance:Zkw XX.P 160 30:=⟨ZGg⟩
instance:ZJn XX.P 4:=⟨ZOY⟩
instance:U0 XX.P 3 (.int .i64 0):=⟨ZEo⟩
instance:U0 XX.P 4 (.bool false):=⟨ZhZ⟩
instance:U0 XX.P 5 (.int .u8 0):=⟨ZJQ⟩
instance:U0 XX.P 9 (.string ⟨#[]⟩):=⟨Zs1⟩
instance:U0 XX.P 22 (.slice none 0 0):=⟨Zwq⟩
instance:U0 XX.P 30 (.slice none 0 0):=⟨ZFS⟩
instance:U0 XX.P 33 (.agg #[.int .i64 0,.string ⟨#[]⟩,.slice none 0 0,.slice none 0 0,.slice none 0 0]):=⟨WH⟩
instance:U0 XX.P 36 (.agg #[.int .i64 0,.int .i64 0,.string ⟨#[]⟩,.slice none 0 0]):=⟨ZfP⟩
instance:U0 XX.P 37 (.int .i64 0):=⟨ZFR⟩
instance:U0 XX.P 70 (.map none):=⟨ZFQ⟩
instance:U0 XX.P 78 (.agg #[.int .i64 0,.string ⟨#[]⟩,.slice none 0 0,.slice none 0 0,.slice none 0 0]):=⟨ZaX⟩
instance:U0 XX.P 88 (.agg #[.int .i64 0,.int .i64 0,.string ⟨#[]⟩,.slice none 0 0]):=⟨Zq6⟩
instance:U0 XX.P 104 (.agg #[.slice none 0 0,.slice none 0 0,.slice none 0 0,.slice none 0 0,.bool false]):=⟨ZBD⟩
instance:U0 XX.P 124 (.agg #[.slice none 0 0,.slice none 0 0]):=⟨ZBB⟩
instance:U0 XX.P 130 (.agg #[.int .i64 0,.string ⟨#[]⟩,.slice none 0 0,.slice none 0 0,.slice none 0 0]):=⟨UE⟩
instance:U0 XX.P 136 (.agg #[.string ⟨#[]⟩,.slice none 0 0]):=⟨ZcL⟩
instance:U0 XX.P 140 (.nilIface):=⟨Zex⟩
instance:U0 XX.P 141 (.nilFunc):=⟨Zmk⟩
instance:U0 XX.P 147 (.agg #[.int .i64 0]):=⟨Zs5⟩
instance:U0 XX.P 159 (.agg #[.slice none 0 0,.int .i64 0]):=⟨Zs4⟩
instance:U0 XX.P 166 (.agg #[.int .i64 0,.string ⟨#[]⟩,.slice none 0 0,.slice none 0 0,.slice none 0 0]):=⟨Zs2⟩
instance:U0 XX.P 185 (.map none):=⟨ZBA⟩
instance:U0 XX.P 187 (.agg #[.int .i64 0,.int .i64 0]):=⟨Zmj⟩
instance:U0 XX.P 195 (.nilFunc):=⟨ZBz⟩
end
section
def ZjF(p0:(U Y))(p1:Y):Int->(Int->O Z)->O Z:=fun v5 Zbu=>
 (bif decide (v5<(p0.length:Int)) then(ZN p0 v5).bind fun x8=>(bif decide (x8=p1) then some true else Zbu (YX (v5+1))) else some false)
def ZkV(F:Nat)(p0:(U Y))(p1:Y):O Z:=
 loop F (ZjF p0 p1) 0
def ZzC:O (U (Y×Z)):=
 some (Xw (Xw (Xw (Xw (Xw (Xw (Xw (Xw (Xw (Xw ([]:(U (Y×Z))) (⟨#[97,110,100]⟩:Y) true) (⟨#[100,101,102]⟩:Y) true) (⟨#[101,108,115,101]⟩:Y) true) (⟨#[103,111]⟩:Y) true) (⟨#[105,102]⟩:Y) true) (⟨#[105,110]⟩:Y) true) (⟨#[112,108,97,99,101]⟩:Y) true) (⟨#[115,116,111,112]⟩:Y) true) (⟨#[116,104,101,110]⟩:Y) true) (⟨#[119,97,116,99,104]⟩:Y) true)
end
section
def ZIe{wm h}{r}(Zy:wm<=h.size)(hL:ZzC=some r):
 WR XX 53 #[] wm h (CP (fun v (Gb:U (Ast wm))=>∃ZEE,v=.map (some ZEE)/\Gb=[mp wm Value.string Value.bool (some ZEE) r]) [] h):=by
 refine bg Tryz.ntmps53 Zy Yp.nil ?_;intro T hT hS;unfold ZzC at hL;refine r7 ?_;refine Ve (ZgQ Value.string Value.bool hS) ?_;rintro _ h1 ⟨b2,eb2,rfl,hS⟩;refine WO.hu gN (ZdB (kv:=Value.string) (vv:=Value.bool) (k:=(⟨#[97,110,100]⟩:Y)) (v:=true) hS k0 Ws JR lk lk lk) ?_;rintro h3 hS;refine WO.hu gN (ZdB (kv:=Value.string) (vv:=Value.bool) (k:=(⟨#[100,101,102]⟩:Y)) (v:=true) hS k0 Ws JR lk lk lk) ?_;rintro h4 hS;refine WO.hu gN (ZdB (kv:=Value.string) (vv:=Value.bool) (k:=(⟨#[101,108,115,101]⟩:Y)) (v:=true) hS k0 Ws JR lk lk lk) ?_;rintro h5 hS;refine WO.hu gN (ZdB (kv:=Value.string) (vv:=Value.bool) (k:=(⟨#[103,111]⟩:Y)) (v:=true) hS k0 Ws JR lk lk lk) ?_;rintro h6 hS;refine WO.hu gN (ZdB (kv:=Value.string) (vv:=Value.bool) (k:=(⟨#[105,102]⟩:Y)) (v:=true) hS k0 Ws JR lk lk lk) ?_;rintro h7 hS;refine WO.hu gN (ZdB (kv:=Value.string) (vv:=Value.bool) (k:=(⟨#[105,110]⟩:Y)) (v:=true) hS k0 Ws JR lk lk lk) ?_;rintro h8 hS;refine WO.hu gN (ZdB (kv:=Value.string) (vv:=Value.bool) (k:=(⟨#[112,108,97,99,101]⟩:Y)) (v:=true) hS k0 Ws JR lk lk lk) ?_;rintro h9 hS;refine WO.hu gN (ZdB (kv:=Value.string) (vv:=Value.bool) (k:=(⟨#[115,116,111,112]⟩:Y)) (v:=true) hS k0 Ws JR lk lk lk) ?_;rintro h10 hS;refine WO.hu gN (ZdB (kv:=Value.string) (vv:=Value.bool) (k:=(⟨#[116,104,101,110]⟩:Y)) (v:=true) hS k0 Ws JR lk lk lk) ?_;rintro h11 hS;refine WO.hu gN (ZdB (kv:=Value.string) (vv:=Value.bool) (k:=(⟨#[119,97,116,99,104]⟩:Y)) (v:=true) hS k0 Ws JR lk lk lk) ?_;rintro h12 hS;refine r5 ?_;have hr:=Oi0 hL;subst hr;exact Y0.Jb rfl (ZG lk Zk) ⟨_,⟨b2,rfl,rfl⟩,hT▸hS.only (.c k0 .n)⟩
end
section
def ZjL(F:Nat)(p0:Y):Int->(Int->O Z)->O Z:=fun v4 ZKr=>
 (bif decide (v4<(p0.size:Int)) then(ZgK p0 v4).bind fun z7=>(gd (!(decide (z7<97))) (ZgK p0 v4) default).bind fun z8=>(bif((decide (z7<97))||(decide (z8>122))) then some false else ZKr (YX (v4+1))) else(ZkV F ([(⟨#[97,110,100]⟩:Y),(⟨#[100,101,102]⟩:Y),(⟨#[101,108,115,101]⟩:Y),(⟨#[103,111]⟩:Y),(⟨#[105,102]⟩:Y),(⟨#[105,110]⟩:Y),(⟨#[112,108,97,99,101]⟩:Y),(⟨#[115,116,111,112]⟩:Y),(⟨#[116,104,101,110]⟩:Y),(⟨#[119,97,116,99,104]⟩:Y)]) p0).bind fun x11=>some (!x11))
def ZvK(F:Nat)(p0:Y):O Z:=
 (bif((decide ((p0.size:Int)<1))||(decide ((p0.size:Int)>8))) then some false else loop F (ZjL F p0) 0)
def Zgl(p0:Y):Int->(Int->O Z)->O Z:=fun v5 Zbu=>
 (bif decide (v5<(p0.size:Int)) then(ZgK p0 v5).bind fun z8=>(gd (!(decide (z8<97))) (ZgK p0 v5) default).bind fun z9=>(bif((decide (z8<97))||(decide (z9>122))) then some false else Zbu (YX (v5+1))) else(bif((decide ((p0.size:Int)>0))&&(decide ((p0.size:Int)<=8))) then(ZzC).bind fun x11=>(ZkM x11 p0 false).bind fun x15=>some (!x15) else some false))
def ZjN(F:Nat)(p0:Y):O Z:=
 loop F (Zgl p0) 0
end
section
def ZIl{F wm h}{p0:Y}{r}(Zy:wm<=h.size)(hL:ZjN F p0=some r):
 WR XX 15 #[.string p0] wm h (CP (fun v (Gb:U (Ast wm))=>v=.bool r/\Gb=[]) [] h):=by
 refine bg Tryz.ntmps15 Zy Yp.nil ?_;intro T hT hS;unfold ZjN at hL;refine r9 ?_;refine Vc (Zgy ZwH lk)<|r4 ?_;refine WC.loop (WL.lift hL (fun v5 s=>∃Jd h1,s=⟨Jd,[],h1,none⟩/\Sp wm T h [] h1/\Jd.at 0=.string p0/\Jd.at 5= V8 (p0.size:Int)/\Jd.at 6= V8 v5) ⟨_,_,rfl,hS.only .n,QG⟩ ?_);rintro Zbu v5 s Zi6 hL ⟨Jd,h1,rfl,hS,e3,e4,e6⟩;refine r6 ?_;refine cn hL ?_ ?_
 ·intro hc hL;refine r14 ?_;obtain⟨z8,hz8,hL⟩:=bS hL;refine Vc (Zmb ZwH lk lk hz8)<|r4 ?_;obtain⟨z9,hz9,hL⟩:=UN hL;refine WO.gv (Zn.no rfl rfl rfl (Z8 rfl fh)) rfl (fun hg=>(Zmb ZwH (WG (Zg rfl fh) rfl hg) (WG fh rfl hg) (hz9 hg)))<|r4 ?_;refine cn hL ?_ ?_
  ·intro hc hL;refine r11 ?_;exact rt hL hT hS
  ·intro hc hL;refine r7 ?_;exact Ya.Yc (Zi6 _ _ hL ⟨_,_,rfl,hS.only .n,QG⟩)
 ·intro hc hL;refine r8 ?_;refine Vc (Zgy ZwH lk)<|r3 ?_;refine WO.gv (Zn.yes rfl rfl rfl (Zg rfl fh)) rfl (fun hg=>(Zgy ZwH (WG fh rfl hg)))<|r3 ?_;refine WO.Zr6 (Zn.yes rfl rfl rfl fh) (fun hk10=>?_) (fun hk10=>?_)
  ·replace hL:=Xp hk10 hL;obtain⟨x11,Zvt,hL⟩:=bS hL;refine WO.cl (Zn.on (Zn.yes rfl rfl rfl fh) hk10) rfl (Yo.fn ZLN Zd) hS .n (fun g' hz hf hO=>ZIe (hS.Vg hz) Zvt) ?_;rintro _ h13 _ ⟨m12,rfl,rfl⟩ hS;refine WO.w (Zn.on (Zn.yes rfl rfl rfl (Zg rfl fh)) hk10) rfl (ZO lk) ?_;obtain⟨x15,Zhh,hL⟩:=bS hL;refine WO.w (Zn.on (Zn.yes rfl rfl rfl (Z8 rfl fh)) hk10) rfl (Zdk (kv:=Value.string) (vv:=Value.bool) (k:=p0) (z:=false) Ws JR ZhZ (Zj (Zg rfl fh) rfl) (Zj fh rfl) (hS.get k0).at_ Zhh (w:=.bool x15) rfl)<|WO.w (Zn.on (Zn.yes rfl rfl rfl (Z8 rfl (Zg rfl fh))) hk10) rfl (Zcv lk)<|Vc (ZsC lk hk10 lk)<|r4 ?_;exact rt hL hT hS
  ·replace hL:=Xq hk10 hL;refine WO.ZmN (Zn.yes rfl rfl rfl fh) hk10 rfl<|WO.ZmN (Zn.yes rfl rfl rfl (Zg rfl fh)) hk10 rfl<|WO.ZmN (Zn.yes rfl rfl rfl (Z8 rfl fh)) hk10 rfl<|WO.ZmN (Zn.yes rfl rfl rfl (Z8 rfl (Zg rfl fh))) hk10 rfl<|Vc (ZsD lk hk10 lk)<|r4 ?_;exact rt hL hT hS
def ZjM{F h}{p0:Y}{r}(hL:ZjN F p0=some r):Pure XX 15 #[.string p0] h (.bool r):=
 WR.ZeE rfl (ZIl Vb hL)
end
section
end
section
end
section
open Go.ZP Go.RowKit
def Zas(fn:Func):Code:=fn.body.getD .skip
def U1:Nat->Code->Code
 | 0,c=>c
 | k+1,.seq _ b=>U1 k b
 | _+1,c=>c
def Zih(ih:Qr->O YL)(n:Nat):Nat->Code->Fs->O Fs
 | 0,_,s=>some s
 | k+1,.seq a b,s=>match ih (.code a n 0 none s) with
   | some (.code .normal s1)=>Zih ih n k b s1
   | _=>none
 | _+1,_,_=>none
def Zg7:Nat->Fr
 | 0=>.nil
 | n+1=>Tr.set (Zg7 n) n ZnY
def ZDW(n:Nat):Fs:= {fr:=Zg7 n,ds:=[],h:=⟨.nil,0⟩}
def ZqH(n t:Nat):(Zg7 n).at t=if t<n then ZnY else undef:=by
 induction n with
 | zero=>rfl
 | succ n ih=>
   unfold Fr.at at ih ⊢;rw[Zg7,Tr.XB];by_cases h:t=n
   ·subst h;simp
   ·rw[if_neg h,ih];by_cases h2:t<n
    ·rw[if_pos h2,if_pos Va]
    ·rw[if_neg h2,if_neg Va]
def ZAE{n:Nat}{a:Act}{w:V3}(h1:a.tmps.size=n)(h2:a.defers=[]):Inv ZoP n (ZDW n) a w:=by
 refine⟨⟨fun _ _ _ e=>(by cases e),fun _ _ _ e=>(by cases e),fun _ _ _ _ _ e=>(by cases e)⟩,⟨h1,fun t ht=>?_⟩,?_⟩
 ·have e:(ZDW n).fr.at t=if t<n then ZnY else undef:=ZqH n t
  rw[e]at ht ⊢;by_cases h:t<n
  ·rw[if_pos h]at ht;cases ht
  ·rw[if_neg h,Q3,Array.getElem?_eq_none Va];exact VR.undef _
 ·rw[h2];exact .nil
variable{X:Ctx}{k:Nat}
def ZmB{ih:Qr->O YL}(HI:∀j r,ih j=some r->Yn X j r){n:Nat}{Q:Exit->Act->V3->Prop}:∀(m:Nat)(c:Code)(s s':Fs),Zih ih n m c s=some s'->∀(ρ:Ren)(a:Act)(w:V3),Inv ρ n s a w ->
 (∀ρ' a' w',Inv ρ' n s' a' w'->Stp 0 ρ s.h w ρ' s'.h w'->(U1 m c).wpIn base 0 X.P Q a' w')->c.wpIn base 0 X.P Q a w:=by
 intro m
 induction m with
 | zero=>intro c s s' h ρ a w hi hk;cases h;exact hk ρ a w hi (Stp.refl _ _ _ _)
 | succ m ihm=>
   intro c s s' h ρ a w hi hk;cases c with
   | seq x y=>
     simp only[Zih]at h;split at h
     ·rename_i s1 h1;refine wpIn_seq (wpIn_mono (HI _ _ h1 ρ a w base (Gi _) hi rfl) ?_);rintro e' a' w' ⟨ρ',he,hi',hst⟩;cases he;exact ihm y s1 s' h ρ' a' w' hi' fun ρ2 a2 w2 hi2 Zdv=>hk ρ2 a2 w2 hi2 (hst.trans hi.rel.lt Zdv)
     ·cases h
   | _=>cases h
def ZuQ{ρ ρ':Ren}{h':H}{w w':V3}{h:H}(hρ:ρ=ZoP)(st:Stp 0 ρ h w ρ' h' w'):Below w.heap.size w w':=by
 subst hρ;exact st.below fun i b d _ e=>by cases e
end
section
open Go.ZP Go.RowKit
def mkS(n:Nat)(fv:U (Nat×N))(ov:U (Nat×YS))(sz:Nat):Fs:=
 {fr:=fv.foldr (fun p f=>Tr.set f p.1 p.2) (Zg7 n),ds:=[],h:=⟨ov.foldr (fun p t=>Tr.set t p.1 p.2) .nil,sz⟩}
def ZoG(n:Nat)(K O':U Nat)(s:Fs):Fs:=mkS n (K.map fun t=>(t,s.fr.at t)) (O'.map fun i=>(i,s.h.at i)) s.h.size
def Ja(ih:Qr->O YL)(n:Nat)(K O':U Nat)(m:Nat)(c:Code)(s:Fs):O Fs:=
 match Zih ih n m c s with
 | some s1=>match s1.ds with
   | []=>some (ZoG n K O' s1)
   | _::_=>none
 | none=>none
def ZkL{ih:Qr->O YL}{n m:Nat}{K O':U Nat}{c:Code}{s s':Fs}(h:Ja ih n K O' m c s=some s'):∃s1,Zih ih n m c s=some s1/\s1.ds=[]/\s'=ZoG n K O' s1:=by
 unfold Ja at h;split at h
 ·rename_i s1 h1;split at h
  ·rename_i h2;cases h;exact⟨s1,h1,h2,rfl⟩
  ·cases h
 ·cases h
def ZpH{α:Type}(g:Nat->α)(t0:Tr α):∀(K:U Nat)(t:Nat),((K.map fun t=>(t,g t)).foldr (fun p f=>Tr.set f p.1 p.2) t0).get t=if t∈K then some (g t) else t0.get t:=by
 intro K
 induction K with
 | nil=>intro t;simp
 | cons k K ih=>
   intro t;simp only[G3,List.foldr_cons,Tr.XB,ih];by_cases h:t=k
   ·subst h;simp
   ·simp[h]
def Zxf{ρ:Ren}{n:Nat}{K O':U Nat}{s:Fs}{a:Act}{w:V3}(hi:Inv ρ n s a w)(hd:s.ds=[]):Inv ρ n (ZoG n K O' s) a w:=by
 have hat:∀i,(ZoG n K O' s).h.at i=if i∈O' then s.h.at i else .dead:=by
  intro i;show H.at ⟨_,s.h.size⟩ i=_;by_cases hlt:i<s.h.size
  ·have hb:Nat.blt i s.h.size=true:=by rw[G4];exact hlt
   have hf:=ZpH (fun i=>s.h.at i) Tr.nil O' i;show(bif Nat.blt i s.h.size then(Tr.get (List.foldr _ Tr.nil (O'.map fun i=>(i,s.h.at i))) i).getD YS.dead else YS.dead)=_;rw[hb,Cq1,hf];by_cases ho:i∈O'
   ·rw[if_pos ho,if_pos ho];rfl
   ·rw[if_neg ho,if_neg ho];rfl
  ·have hb:Nat.blt i s.h.size=false:=by rw[Gg];intro z;rw[G4]at z;omega
   rw[H.ZaP (h:=s.h) Va];simp[H.at,hb]
 refine⟨⟨hi.rel.dom,fun i b d e=>?_,fun i j b d d' e e' ho hl=>?_⟩,⟨hi.fr.size,fun t ht=>?_⟩,?_⟩
 ·rw[hat];split
  ·exact hi.rel.obj i b d e
  ·trivial
 ·rw[hat]at ho hl;split at ho
  ·split at hl
   ·exact hi.rel.inj i j b d d' e e' ho hl
   ·cases hl
  ·cases ho
 ·have e:(ZoG n K O' s).fr.at t=if t∈K then s.fr.at t else(Zg7 n).at t:=by
   have hf:=ZpH (fun t=>s.fr.at t) (Zg7 n) K t;show(Tr.get (List.foldr _ (Zg7 n) (K.map fun t=>(t,s.fr.at t))) t).getD undef=_;rw[hf];split<;>rfl
  rw[e]at ht ⊢;split at ht
  ·rw[if_pos (by assumption)];exact hi.fr.val t ht
  ·rename_i hn;rw[if_neg hn];rw[ZqH]at ht ⊢;by_cases h:t<n
   ·rw[if_pos h]at ht;cases ht
   ·have:=hi.fr.size;rw[if_neg h,Q3,Array.getElem?_eq_none Va];exact VR.undef _
 ·have h:=hi.ds;rw[hd]at h;exact h
variable{X:Ctx}
inductive WB(X:Ctx)(fn:Func):Code->Fs->Prop
 | last {c:Code} {s:Fs} {k:Nat} (h:isTrue (Zfy (fun e s=>match xPM e with
    | some pm=>ev (cfg X fun _=>false) k (.leave fn 0 pm s)
    | none=>none) (ev (cfg X fun _=>false) k (.code c fn.ntmps 0 none s)))=true):WB X fn c s
 | seg {c:Code} {s s':Fs} {k:Nat} (m:Nat) (K O':List Nat) (h:Ja (ev (cfg X fun _=>false) k) fn.ntmps K O' m c s=some s') (t:WB X fn (U1 m c) s'):WB X fn c s
def ZuN(m:Nat):∀(k:Nat)(c:Code),U1 m (U1 k c)=U1 (k+m) c:=by
 intro k
 induction k with
 | zero=>intro c;rw[G0];rfl
 | succ k ih=>
   intro c;rw[Nat.add_right_comm];cases c with
   | seq a b=>exact ih b
   | _=>cases m<;>rfl
def WB.Zox{fn:Func}{body:Code}{s s':Fs}{k pos:Nat}(m:Nat){K O':U Nat}(h:Ja (ev (cfg X fun _=>false) k) fn.ntmps K O' m (U1 pos body) s=some s')(t:WB X fn (U1 (pos+m) body) s'):WB X fn (U1 pos body) s:=
 .seg m K O' h (by rw[ZuN];exact t)
def ZwO{ρ ρ':Ren}{w w':V3}{h' h2:H}(st:Stp 0 ρ ⟨.nil,0⟩ w ρ' h' w')(hs:h2.size=h'.size):Stp 0 ρ ⟨.nil,0⟩ w ρ' h2 w':=
 ⟨st.ext,by rw[hs];exact st.size,fun i hi=>absurd hi (Nat.not_lt_zero _),fun i hi=>absurd hi (Nat.not_lt_zero _),fun i hi=>absurd hi (Nat.not_lt_zero _),st.os,st.tape,st.output,st.Y8,st.frame,st.JE⟩
def WB.sound{fn:Func}(hm:X.P.follows .mixedOrders=true){c:Code}{s:Fs}(h:WB X fn c s):∀(ρ:Ren)(a:Act)(w w0:V3),Inv ρ fn.ntmps s a w->Stp 0 ZoP ⟨.nil,0⟩ w0 ρ s.h w ->
 c.wpIn base 0 X.P (bodyPostM base 0 X.P fn (fun e w'=>e=.returned (.bool true)/\Below w0.heap.size w0 w')) a w:=by
 have hd0:∀i p,ZoP i=some p->i<(⟨.nil,0⟩:H).size:=fun i p e=>by cases e
 induction h with
 | last h=>
   intro ρ a w w0 hi ZrW;rename_i s k;obtain⟨h',hc⟩:=Zpa h;obtain⟨e,s1,ha,hk⟩:=QZ hc;have ka:=ZcP (X:=X) (YR:=fun _=>false) hm k _ _ ha;split at hk
   ·rename_i pm hpm;have hj:=ZcP (X:=X) (YR:=fun _=>false) hm k _ _ hk;refine wpIn_mono (ka ρ a w base (Gi _) hi rfl) ?_;rintro e' a' w' ⟨ρ',he,hi',hst⟩
    have fin:∀e2 w2,UQ 0 ρ' s1.h w' (.ret (.bool true)) h' e2 w2->e2=.returned (.bool true)/\Below w0.heap.size w0 w2:=by
     rintro e2 w2 ⟨ρ2,hr,hrel,Zdv⟩;have hbb:=ZuQ rfl ((ZrW.trans hd0 hst).trans hd0 Zdv);refine⟨?_,hbb⟩;cases hr with
     | ret hv=>cases hv;rfl
    cases he with
    | normal=>cases hpm;exact hj ρ' _ a' .returning w' _ (Gi _) hi' .ret fin
    | ret=>cases hpm;exact hj ρ' _ a' .returning w' _ (Gi _) hi' .ret fin
    | panic hv'=>cases hpm;exact hj ρ' _ a' _ w' _ (Gi _) hi' (.Z9 hv') fin
    | exit id=>cases hpm
    | goto l=>cases hpm
   ·cases hk
 | seg m K O' h t iht=>
   intro ρ a w w0 hi ZrW;rename_i c s s' k;obtain⟨s1,h1,h2,rfl⟩:=ZkL h;refine ZmB (ZcP (X:=X) (YR:=fun _=>false) hm k) m c s s1 h1 ρ a w hi fun ρ' a' w' hi' hst=>?_
   exact iht ρ' a' w' w0 (Zxf hi' h2) (ZwO (ZrW.trans hd0 hst) rfl)
def Zst(X:Ctx)(hX:X.P=Tryz.prog){f:V2}(hlt:f<nfs){fn:Func}{c:Code}(hf:Tryz.prog.funcs[f]? =some fn)(hb:fn.body=some c)(h:WB X fn c (ZDW fn.ntmps))(w:V3):
 CallsIn base 0 Tryz.prog f #[] w fun e w'=>e=.returned (.bool true)/\Below w.heap.size w w':=by
 rw[<-hX]at hf ⊢;refine(callsIn_of_wp_marks hf hb hlt (h.sound (by rw[hX];exact mixed) ZoP _ w w (ZAE ?_ rfl) (Stp.refl _ _ _ _)) ?_)
 ·simp
 ·rfl
end
end Go.Proofs.YtbnepjakjmnadaaGreat
end
end
