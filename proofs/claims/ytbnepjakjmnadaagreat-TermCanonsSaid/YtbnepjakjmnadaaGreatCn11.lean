/- Part 11. -/
import Derived.Laws.Strings
import Derived.Test.YtbnepjakjmnadaaGreatCn10
set_option linter.all false
set_option maxHeartbeats 2000000
section
noncomputable section
namespace Go.ZK
open Go.Lf
section
variable{X:Ctx}{P:GW}{h:H}{ev:GV->O N}{d:O Tmp}{ty:J}{p:String}{af:GZ Edge}{g:O (Nat×Z)}
def Zgv{x:GV}{t:J}{s:Y}(hu:X.P.underlying t=some .string)(hx:ev x=some (.string s)):
 Xx X h ev ⟨d,.call {callee:=.builtin .len,args:=#[x],argTypes:=#[t]},ty,p,af,g⟩=some (.val (V4 (s.size:Int)),.none):=by
 have he:evs ev [x]=some [.string s]:=Zb hx Zd;rw[U8]
 show(match evs ev [x] with
  | some args=>U9 X.P h .len #[t] ty args
  | none=>none)=_
 rw[he];show vN (Zse X.P h t (.string s))=_;unfold Zse;rw[hu];rfl
def ZlK{x y:GV}{t:J}{s:Y}{i z:Int}(hu:X.P.underlying t=some .string)(hx:ev x=some (.string s))(hy:ev y=some (V4 i))(hz:ZkR s i=some z):
 Xx X h ev ⟨d,.index t x y,ty,p,af,g⟩=some (.val (.int .u8 z),.none):=by
 show(match ev x,ev y with
  | some x,some i=>bif plain x&&plain i then pN (Wo X.P (Instr.index t x i)) else vN (ZhN X.P t x i)
  | _,_=>none)=_
 rw[hx,hy];show pN (Wo X.P (Instr.index t (.string s) (V4 i)))=_
 have:Zy X.P (Instr.index t (.string s) (V4 i))=some (.ok (.int .u8 z)):=by
  unfold Instr.index;show Zy X.P (underlying t >>=_)=_;rw[prb (YN hu)];unfold ZkR at hz;dsimp only;generalize (if 0<=i then s[i.toNat]? else none)=o at hz ⊢;cases o with
  | some b=>cases hz;rfl
  | none=>cases hz
 unfold Wo;rw[this];rfl
def ZH2(a b:Y):(a==b)=decide (a=b):=by
 rw[Gx,decide_eq_true_iff];cases a with|mk a=>cases b with|mk b=>
 show(a==b)=true↔_;simp
def ZDW(a b:Y):(a.toList==b.toList)=decide (a=b):=by
 rw[Gx,decide_eq_true_iff,beq_iff_eq,ByteArray.toList_eq,ByteArray.toList_eq];exact⟨fun e=>by cases a;cases b;simp at e;simp[e],fun e=>by rw[e]⟩
def Zqd{op:BinOp}{t:J}{x y:GV}{a b:Y}{r:Z}(ho:Op.stringOp op a b=pure (.bool r))(hq:op=.eql\/op=.neq\/op=.lss):Qk P op t x y (.string a) (.string b)=some (.val (.bool r),.none):=by
 have hp:(plain (.string a)&&plain (.string b))=true:=rfl;unfold Qk;rw[hp,Cq1]
 have hb:binOp op t (.string a) (.string b)=pure (.bool r):=by
  rcases hq with rfl|rfl|rfl<;>exact ho
 have hg:(do eqGuard op t x y (.string a) (.string b);binOp op t (.string a) (.string b):Sem N)=pure (.bool r):=by
  rw[hb];rcases hq with rfl|rfl|rfl<;>rfl
 rw[hg];rfl
def JF{t:J}{x y:GV}{a b:Y}:Qk P .eql t x y (.string a) (.string b)=some (.val (.bool (decide (a=b))),.none):=Zqd (by rw[<-ZDW];rfl) (.inl rfl)
def Ub{t:J}{x y:GV}{a b:Y}:Qk P .neq t x y (.string a) (.string b)=some (.val (.bool (!decide (a=b))),.none):=Zqd (by rw[<-ZDW];rfl) (.inr (.inl rfl))
def ZgH.str{kt:J}(hu:P.underlying kt=some .string):ZgH P kt Value.string where
 pl:=fun _=>rfl
 ok:=fun e x=>by
  unfold Zbm;rw[show(10000:Nat)=9999+1 from rfl,ZHR hu];rfl
 same:=fun x=>by simp[Instr.sameBits,ZH2]
 eq:=fun x y=>by
  have:=ZHD (P:=P) (d:=9999) (a:=x) (b:=y) hu;rw[ZH2]at this;exact this
 kind:=⟨_,hu,.inr fun x y=>by simp only[Instr.sameNow,ZH2]⟩
def bytesOf_map:∀(xs:U Int),bytesOf (xs.map (Value.int .u8))=some (xs.map fun n=>UInt8.ofNat n.toNat):=by
 intro xs
 induction xs with
 | nil=>rfl
 | cons x xs ih=>
   show(match bytesOf (xs.map (Value.int .u8)) with
    | some l=>some (UInt8.ofNat x.toNat::l)
    | none=>none)=_
   rw[ih];rfl
def Jc.ints{k:IntKind}{wm:Nat}{cs:U N}{o:Nat}{xs:U Int}(e:Jc (Zif k) wm h cs o xs):(cs.drop o).take xs.length=xs.map (Value.int k):=by
 have hl:=e.len;have hl:o+xs.length*1<=cs.length:=hl;apply GF;intro j;by_cases hj:j<xs.length
 ·obtain⟨q,h1,_⟩:=e.get j _ (J1 hj);have h1:(cs.drop (o+j*1)).take 1=[.int k xs[j]]:=h1
  have h2:(cs.drop (o+j*1))[0]? =some (.int k xs[j]):=by
   rw[<-List.getElem?_take_of_lt (i:=0) (j:=1) V6,h1];rfl
  rw[List.getElem?_drop]at h2;rw[List.getElem?_take_of_lt hj,List.getElem?_drop,GC,J1 hj]
  simpa using h2
 ·rw[Jn (by simp;omega),Jn (by simp;omega)]
def Zvy{s t e:J}{x:GV}{wm n:Nat}{a:O Addr}{c:Nat}{xs:U Int}{z:Y}(hs:X.P.underlying s=some (.slice e))(he:X.P.underlying e=some (.int .u8))(ht:X.P.underlying t=some .string)(hx:ev x=some (.slice a n c))(hn:n=xs.length)(sr:Src (Zif .u8) wm h a c xs)(hz:ZFm xs=some z):
 Xx X h ev ⟨d,.convert s t x,ty,p,af,g⟩=some (.val (.string z),.none):=by
 subst hn;have hne:xs≠[]:=fun e=>by subst e;cases hz
 have hz:z=⟨(xs.map fun n=>UInt8.ofNat n.toNat).toArray⟩:=by
  cases xs with
  | nil=>cases hz
  | cons _ _=>cases hz;rfl
 subst hz;rcases sr.mem with h0|⟨i,o,cs,own,q,rfl,hat,hel⟩
 ·exact absurd h0 hne
 ·show(match ev x with
   | some a=>bif plain a then pN (Wo X.P (convert s t a)) else vN (ZgD X.P h s t a)
   | none=>none)=_
  rw[hx];have hp:plain (.slice (some ⟨i,o,none⟩) xs.length c)=false:=rfl;dsimp only;rw[hp,Cq0];have hl:=hel.len;have hl:o+xs.length*1<=cs.length:=hl;have hpos:0<xs.length:=List.length_pos_iff.2 hne
  have hb:(Nat.ble 1 xs.length&&Nat.ble (o+xs.length) cs.length)=true:=by
   rw[Ba0,Nat.ble_eq,Nat.ble_eq];omega
  unfold ZgD;rw[hs,ht];dsimp only;rw[he,hat];dsimp only;rw[hb,Cq1,hel.ints,bytesOf_map]
  rfl
end
section
variable{X:Ctx}{n wm:Nat}{rd:O Nat}{ops:GZ Oper}{l:U Oper}{rest:Code}{bs:U Nat}
variable{G Gr:U (Ast wm)}{h h0:H}{T0:Nat->Prop}{fr:Fr}{ds:U V2}{ty:J}{p:String}{af:GZ Edge}{g:O (Nat×Z)}{κ ν:Type}{kv:κ->N}{vv:ν->N}{ll:U (κ×ν)}{d:Nat}
def At.rk{it:Nat}{h h2:H}{b o:Nat}{vs:U N}(s:At h b o vs)(k:RK it h h2):At h2 b o vs:=by
 obtain⟨cs,own,z,h1,h2',h3⟩:=s;obtain⟨a,b',c,d,e1⟩:=k.it_;exact⟨cs,own,z,by rw[k.at_ b fun z'=>(by rw[z',e1]at h1;cases h1)];exact h1,h2',h3⟩
def WL.ZJs{Q:XX->Fs->Prop}{id:Nat}{o:Oper}{t it m Qb:Nat}{bs:U Nat}{b:κ->ν->O Z}{q:Z}(T:U Nat)(v:N)(hq:Zk8 b ll=some q)(hS:Sp wm T0 h0 G h)(pi:Pk G (ob wm it (.iter m Qb Qb none)) Gr)(hat:fr.at t=(V5 it))(hm:h.at m=.map (XA kv vv ll bs) Qb)(hb:bs.length=ll.length/\bs.Nodup/\∀x∈bs,x<Qb)
 (hops:ops.toList=o::l) (hop:o.op=.next (.tmp t) false) (hgu:o.guard=none) (hd:o.dst=some d) (hdn:Nat.blt d n=true) (hT:T.contains t=false) (hdT:T.contains d=true) (hv:plain v=true)
 (body:∀(x:κ×ν)(p:Z),b x.1 x.2=some p->∀h2 fr',Agr T fr fr'->RK it h h2->Sp h.size (QI ([]:U (Ast h.size))) h2 [] h2->ZDq kv vv h2 it x->WO X n h.size rd ops l ⟨Tr.set fr' d (.tuple #[.bool true,kv x.1,vv x.2]),ds,h2,none⟩ (ZH X n h.size rd rest (Zsr T fr' ds v p)))
 (over:q=false->∀h' fr',Agr T fr fr'->Sp wm T0 h0 Gr h'->WO X n wm rd ops l ⟨Tr.set fr' d (.tuple #[.bool false]),ds,h',none⟩ (ZH X n wm rd rest (ZDm Q)))
 (Z6:q=true->∀h' fr',Agr T fr fr'->Sp wm T0 h0 Gr h'->Q (.panic v) ⟨fr',ds,h',none⟩):WL X n wm rd (.seq (.region id ops false) rest) ⟨fr,ds,h,none⟩ Q:=by
 obtain⟨hb1,hb2,hb3⟩:=hb;obtain⟨o1,o2,o3⟩:=hS.get pi;obtain⟨m1,m2⟩:=ZiC hq
 have ZGt:Agr T fr (Yr T fr):=fun t' v' ht' hv'=>by
  rw[Xz,if_neg (fun z=>by rw[<-Gv]at z;rw[z]at ht';cases ht'),hv']
 have htT:t∉T:=fun z=>by rw[<-Gv]at z;rw[z]at hT;cases hT
 have ZOu:d∈T:=Gv.1 hdT;have ZOl:m≠it:=fun z=>by rw[z,o1]at hm;cases hm
 classical
 let pn:Nat->Z:=fun bn=>decide (∃(j:Nat) (y:κ×ν),ll[j]? =some y/\bs[j]? =some bn/\b y.1 y.2=some true)
 have Zme:∀(j:Nat)(y:κ×ν)(bn:Nat),ll[j]? =some y->bs[j]? =some bn->∀p,b y.1 y.2=some p->pn bn=p:=by
  intro j y bn h1 h2 p hp;cases p with
  | true=>exact decide_eq_true ⟨j,y,h1,h2,hp⟩
  | false=>
    refine decide_eq_false ?_;rintro⟨j',y',h1',h2',hp'⟩
    have hj:j'=j:=by
     obtain⟨q1,e1⟩:=Li0 h2';obtain⟨q2,e2⟩:=Li0 h2;exact(List.getElem_inj hb2).1 (e1.trans e2.symm)
    subst hj;rw[h1]at h1';cases h1';rw[hp]at hp';cases hp'
 have ZEj:Sp wm T0 h0 Gr (h.put it .dead):=
  Sp.step (Ga:=[ob wm it (.iter m Qb Qb none)]) (Gb:=[]) (hS.perm pi.perm) (Up.put o2 (by rw[o1];rfl)) (fun i e=>⟨_,G6.2 rfl,e⟩) Yh.nil fun i ⟨A,mm,f⟩=>by simp at mm
 have ZiW:∀x∈XA kv vv ll bs,∃ex s3,(s3.ds=ds/\(∀t,t∉T->s3.fr.at t=fr.at t)/\(ex=.normal/\pn x.born=false\/ex=.panic v/\pn x.born=true))/\∀{ρ:Ren}{F:Fence}{a:Act}{w:GY},Inv ρ n {fr:=Jb (Yr T fr) o.dst (.tuple #[.bool true,x.key,x.val]),ds:=ds,h:=h.put it (.iter m Qb Qb (some x.born)),wr:=none} a w->h.size<=(h.put it (.iter m Qb Qb (some x.born))).size->K7 ρ rd F->∀Q':Exit->Act->GY->Prop,
  (∀e' a' w',XJ h.size n ρ (h.put it (.iter m Qb Qb (some x.born))) w ex s3 e' a' w'->Q' e' a' w')->wpListIn F 0 X.P ops (Exit.then (rest.wpIn F 0 X.P Q') Q') l a w:=by
  intro x hx;obtain⟨j,y,bn,h1,h2,rfl⟩:=ZoB hx;obtain⟨p,hp⟩:=m1 y (GJ.2 ⟨j,h1⟩);have hpn:=Zme j y bn h1 h2 p hp;have hsz:(h.put it (.iter m Qb Qb (some bn))).size=h.size:=H.size_put _ _ _;have e1:(h.put it (.iter m Qb Qb (some bn))).at it=.iter m Qb Qb (some bn):=Yw (Qc o1 rfl) _;have e2:(h.put it (.iter m Qb Qb (some bn))).at m=.map (XA kv vv ll bs) Qb:=by rw[XR ZOl,hm]
  have hent:ZDq kv vv (h.put it (.iter m Qb Qb (some bn))) it y:=by
   unfold ZDq Zea;simp only[e1,e2,Nat.beq_refl,Cq1,Zk9 hb2 h1 h2]
  obtain⟨ex,s3,⟨q1,q2,q3⟩,q4⟩:=WO.body (body y p hp (h.put it (.iter m Qb Qb (some bn))) (Yr T fr) ZGt ⟨⟨_,_,_,_,o1⟩,fun i hi=>XR hi _⟩ (Sp.start (Nat.le_of_eq hsz.symm) Yh.nil) hent);refine⟨ex,s3,⟨q1,fun t' ht'=>?_,?_⟩,?_⟩
  ·rw[q2 t' ht',Xz,if_neg ht']
  ·dsimp only;rw[hpn];exact q3
  ·rw[hd];intro ρ F a w i1 i2 i3 Q' i4;exact q4 i1 i2 i3 Q' i4
 have key:=fun(e:XX)(s2:Fs)=>Zw7 (X:=X) (n:=n) (wm:=wm) (rd:=rd) (rest:=rest) (id:=id) (s:=⟨fr,ds,h,none⟩) (e:=e) (s2:=s2) (T:=T) (v:=v) pn hops hop hgu hat o1 hm V7 (ZiD hb2 hb3) o2 htT hd (by rwa[G0]at hdn) ZOu hv ZiW
 cases q with
 | true=>
   refine⟨.panic v,⟨Yr T fr,ds,h.put it .dead,none⟩,Z6 rfl _ _ ZGt ZEj,key _ _ (fun hall=>?_) fun _=>⟨rfl,rfl⟩⟩;exfalso;obtain⟨y,hy,hyb⟩:=m2.1 rfl;obtain⟨j,hj⟩:=GJ.1 hy;have hjl:=(Li0 hj).1;have h2:bs[j]? =some (bs[j]'V6):=J1 _;have:=hall _ (ZBs hj h2);rw[Zme j y _ hj h2 true hyb]at this;cases this
 | false=>
   obtain⟨e,s2,⟨q1,q2⟩,q3⟩:=WO.body (over rfl _ _ ZGt ZEj);refine⟨e,s2,q2,key e s2 (fun _=>⟨q1,?_⟩) fun⟨x,hx,hp⟩=>?_⟩
   ·rw[hd];intro ρ F a w i1 i2 i3 Q' i4;exact q3 i1 i2 i3 Q' i4
   ·exfalso;obtain⟨j,y,bn,h1,h2,rfl⟩:=ZoB hx;obtain⟨p,hp'⟩:=m1 y (GJ.2 ⟨j,h1⟩);have hpn:=Zme j y bn h1 h2 p hp';rw[show pn bn=true from hp]at hpn;subst hpn;exact absurd (m2.2 ⟨y,GJ.2 ⟨j,h1⟩,hp'⟩) (by simp)
def Y7.Zfj{T:Nat->Prop}{df:Nat}{fn:Func}{pm:PM}{R:UG->H->Prop}(hS:Sp wm T h0 G h)(pk:Pk G (ob wm df .deferred) Gr)(k:∀h',Sp wm T h0 Gr h'->Y7 X fn wm R pm ⟨fr,ds,h',none⟩):Y7 X fn wm R pm ⟨fr,⟨.collected df,#[]⟩::ds,h,none⟩:=by
 obtain⟨h1,h2,h3⟩:=hS.get pk;have hu:Up wm (fun i=>i=df) h (h.put df .dead):=Up.put h2 (by rw[h1];rfl);obtain⟨E,h',hR,hj⟩:=k _ (Sp.step (Ga:=[ob wm df .deferred]) (Gb:=[]) (hS.perm pk.perm) hu (fun i e=>⟨_,G6.2 rfl,e⟩) Yh.nil fun i ⟨A,m,f⟩=>by simp at m);exact⟨E,h',hR,Zlc h1 h2 hj⟩
section
variable{fn:Func}{R:UG->H->Prop}{s:Fs}{v:N}{pm:PM}
def Y7.ZLQ{f:GX}{fn2:Func}{c:Code}{Yg:U N}{n2:Nat}(hf:X.fns.get f=some fn2)(hb:fn2.body=some c)(hnt:fn2.ntmps=n2)(hn:Yg.length<=n2)(hr:fn2.results.toList=[])
 (k:DC X n2 wm c pm ⟨X4 Yg 0 .nil,[],h,none⟩ (DEn X fn wm R fr ds)):Y7 X fn wm R pm ⟨fr,⟨.fn (.func f) #[],Yg.toArray⟩::ds,h,none⟩:=by
 subst hnt;obtain⟨e,WV,s',⟨rfl,hno,E,h',hR,jl⟩,jd⟩:=k;obtain⟨fr',ds',h2,wr'⟩:=s';dsimp only at hno jl;subst hno
 have jc:Ym X (.dcall f (Yg++([]:U N)).toArray pm wm h) (.Zdb WV h2):=by
  refine Zdy (C:=cfg X fun _=>false) (ih:=QD (.Xv c fn2.ntmps wm pm ⟨X4 Yg 0 .nil,[],h,none⟩) (.Xv .normal WV ⟨fr',[],h2,wr'⟩)) (Y1 jd) ?_;unfold Zfd;have hf':(cfg X fun _=>false).X.fns.get f=some fn2:=hf;rw[hf'];dsimp only;rw[hb];dsimp only;have e1:Nat.ble (Yg++([]:U N)).toArray.toList.length fn2.ntmps=true:=Nm0 (by rw[Gj];exact hn);rw[e1,Cq1];rw[Gj,Y2];unfold Zzt;dsimp only;have e3:QB (cfg X fun _=>false).X.P fn2 fr' h2=some (.tuple #[]):=by unfold QB;rw[hr];rfl
  rw[e3]
 refine⟨E,h',hR,?_⟩
 classical
 let ih:Ql->O YL:=fun j=>if j=.dcall f (Yg++([]:U N)).toArray pm wm h then some (.Zdb WV h2) else if j=.leave fn wm (Zhs WV) ⟨fr,ds,h2,none⟩ then some (.fin E h') else none
 refine Q8 (C:=cfg X fun _=>false) (ih:=ih) ?_ ?_
 ·intro j r e;dsimp only[ih]at e;split at e
  ·rename_i hj;cases e;rw[hj];exact jc
  ·split at e
   ·rename_i hj;cases e;rw[hj];exact jl
   ·cases e
 ·unfold J5;dsimp only;have hf':(cfg X fun _=>false).X.fns.get f=some fn2:=hf;rw[hf'];dsimp only;have i1:ih (.dcall f (Yg.toArray.toList++(#[]:GZ N).toList).toArray pm wm h)=some (.Zdb WV h2):=by dsimp only[ih];rw[if_pos rfl]
  rw[i1];dsimp only[ih];rw[if_neg (by intro q;cases q),if_pos rfl]
end
def WO.ZPo{Q:XX->Fs->Prop}{fo x:GV}{ts:GZ J}{f:GX}{v:N}(hg:ZX ops ⟨none,.defer {callee:=.value fo,args:=#[x],argTypes:=ts},ty,p,af,g⟩ fr)(hf:YI fr fo=some (.func (.func f) #[] #[]))(hx:YI fr x=some v)
 (k:WO X n wm none ops l ⟨fr,⟨.fn (.func f) #[],#[v]⟩::ds,h,none⟩ Q):WO X n wm none ops (⟨none,.defer {callee:=.value fo,args:=#[x],argTypes:=ts},ty,p,af,g⟩::l) ⟨fr,ds,h,none⟩ Q:=by
 refine WO.cons (KQ X) (s1:=⟨fr,⟨.fn (.func f) #[],#[v]⟩::ds,h,none⟩) ?_ k;have he:evs (YI fr) [x]=some [v]:=Zb hx Zd
 have ha:Xx X h (YI fr) ⟨none,.defer {callee:=.value fo,args:=#[x],argTypes:=ts},ty,p,af,g⟩=some (.dfr ⟨.fn (.func f) #[],#[v]⟩,.none):=by
  show(match Callee.value fo,evs (YI fr) [x] with
   | .value f,some args=>match YI fr f with
     | some (.func (.func g) first cap)=>some (AN.dfr {target:=.fn (.func g) cap,args:=first++args.toArray},Eff.none)
     | _=>none
   | _,_=>none)=_
  rw[he];dsimp only;rw[hf];rfl
 unfold JO;rw[hg.1,hg.2];dsimp only[QP,Cq0,Cq1];rw[ha]
 rfl
section
variable{P:GW}
def ZvL{t a:J}{x:GV}{v:N}{ms}(hp:plain (.iface a v)=true)(hu:P.underlying t=some (.interface ms)):Qk P .neq t x (.const .nilIface) (.iface a v) .nilIface=some (.val (.bool true),.none):=by
 have hpp:(plain (.iface a v)&&plain .nilIface)=true:=by rw[hp];rfl
 unfold Qk;rw[hpp,Cq1];unfold Wo
 have h1:Zy P (eqGuard .neq t x (.const .nilIface) (.iface a v) .nilIface)=some (.ok ()):=by
  cases x<;>rfl
 rw[prb h1]
 have h2:Zy P (Op.equal t (.iface a v) .nilIface)=some (.ok false):=by
  show Zy P (Op.equalIn (9999+1) t (.iface a v) .nilIface)=_;unfold Op.equalIn;rw[prb (YN hu)];rfl
 have:Zy P (binOp .neq t (.iface a v) .nilIface)=some (.ok (.bool true)):=by
  show Zy P (do pure (Value.bool (!(<-Op.equal t (.iface a v) .nilIface))):Sem N)=_;rw[prb h2];rfl
 rw[this];rfl
def Zsl{t:J}{x:GV}{ms}(hu:P.underlying t=some (.interface ms)):Qk P .neq t x (.const .nilIface) .nilIface .nilIface=some (.val (.bool false),.none):=by
 unfold Qk;rw[show(plain .nilIface&&plain .nilIface)=true from rfl,Cq1];unfold Wo
 have h1:Zy P (eqGuard .neq t x (.const .nilIface) .nilIface .nilIface)=some (.ok ()):=by
  cases x<;>rfl
 rw[prb h1]
 have h2:Zy P (Op.equal t .nilIface .nilIface)=some (.ok true):=by
  show Zy P (Op.equalIn (9999+1) t .nilIface .nilIface)=_;unfold Op.equalIn;rw[prb (YN hu)];rfl
 have:Zy P (binOp .neq t .nilIface .nilIface)=some (.ok (.bool false)):=by
  show Zy P (do pure (Value.bool (!(<-Op.equal t .nilIface .nilIface))):Sem N)=_;rw[prb h2];rfl
 rw[this];rfl
end
end
section
variable{X:Ctx}{n wm:Nat}{rd:O Nat}{ops:GZ Oper}{ol:U Oper}{fr:Fr}{ds:U V2}{h h0:H}{ty:J}{p:String}{af:GZ Edge}{g:O (Nat×Z)}{T:Nat->Prop}{G Gr:U (Ast wm)}{d l df:Nat}{LO:YR}{ps:GZ Tmp}{Yg bd:Code}
def RP(K Z':N->H->Prop):UG->H->Prop:=fun e h'=>match e with
 | .ret v=>K v h'
 | .Z6 v=>Z' v h'
section
variable{fn:Func}{K Z':N->H->Prop}{v:N}{s:Fs}
def ZO.Zu4{rs:U ResultVar}{vs:U N}(hr:fn.results.toList=rs)(hv:Zcg X.P fr h rs=some vs)(hl:(match vs with | [v]=>v|vs=>.tuple vs.toArray)=v)(k:K v h):ZO X fn wm (RP K Z') .ret ⟨fr,[],h,none⟩:=by
 obtain⟨pm,E,h',h1,⟨v',rfl,h2⟩,h3⟩:=(ZO.gen (X:=X) (wm:=wm) (R:=K) hr hv hl k).out;exact⟨⟨pm,.ret v',h',h1,h2,h3⟩⟩
def Y7.ZFD(k:Z' v h):Y7 X fn wm (RP K Z') (.Z6 v) ⟨fr,[],h,none⟩:=Y7.Z6 k
def WF.Zxk{f:GX}{args:GZ N}{α β:Type}{r:β}(I:α->N->H->Prop)(j:α->O β)(k:∀x v h',j x=some r->I x v h'->K v h')(hc:WF X f args wm h (RP (fun v h'=>∃x,j x=some r/\I x v h') Z')):WF X f args wm h (RP K Z'):=
 hc.mono fun e h' hq=>by
   cases e with
   | ret v=>obtain⟨x,h1,h2⟩:=hq;exact k x v h' h1 h2
   | Z6 v=>exact hq
end
def WO.ZFS{Q:XX->Fs->Prop}{op:Op}{f:GX}{args:GZ N}(hg:ZX ops ⟨some d,op,ty,p,af,g⟩ fr)(hd:Nat.blt d n=true)(he:Yi X fr ⟨some d,op,ty,p,af,g⟩ f args)
 (k:WF X f args wm h (RP (fun v h'=>WO X n wm rd ops ol ⟨Tr.set fr d v,ds,h',none⟩ Q) (fun v h'=>Q (.panic v) ⟨fr,ds,h',none⟩))):WO X n wm rd ops (⟨some d,op,ty,p,af,g⟩::ol) ⟨fr,ds,h,none⟩ Q:=by
 obtain⟨e,h',hk,hj⟩:=k;cases e with
 | ret v=>exact WO.en hg hd he hj hk
 | Z6 v=>exact WO.ZjR hg (he h) rfl hj hk
structure BdZ(n lo l:Nat)(fr:Fr)(ps:Array Tmp)(Yg bd:Code)(df:Nat)(R:Bool->H->Prop)(Z':Value->H->Prop)(e:XX)(s:Fs):Prop where
 out:BdS n lo l fr ps Yg bd df R e s\/∃v,s.h.at l=.loop .busy none fr n ps Yg bd df/\e=.panic v/\s.ds=[]/\Z' v s.h
structure AsZ(X:Ctx)(n wm lo l:Nat)(fr:Fr)(ps:Array Tmp)(Yg bd:Code)(df:Nat)(R:Bool->H->Prop)(Z':Value->H->Prop)(e:XX)(s:Fs):Prop where
 out:e=.normal/\s.h.at l=.loop .ready none fr n ps Yg bd df/\∀h1,(lo<=l->Up lo (fun i=>i=l) s.h h1)->h1.at l=.loop .busy none fr n ps Yg bd df->WC X n wm (some l) bd ⟨s.fr,s.ds,h1,s.wr⟩ (BdZ n lo l fr ps Yg bd df R Z')
def RdZ(X:Ctx)(l:Nat)(args:GZ N)(wm:Nat)(h:H)(R:Z->H->Prop)(Z':N->H->Prop):Prop:=
 Zqf X l args wm h R\/∃v h',Z' v h'/\Ym X (.round l args wm h) (.fin (.Z6 v) h')
def RdZ.mk{l:Nat}{args:U N}{fr Wj:Fr}{ps:GZ Tmp}{Yg bd:Code}{df:Nat}{R:Z->H->Prop}{Z':N->H->Prop}(lo:Nat)(hat:h.at l=.loop .ready none fr n ps Yg bd df)(hw:wm<=l)(hl:Nat.beq args.length ps.toList.length=true)(hs:XL (ps.toList.zip args) n fr=some Wj)
 (k:WC X n wm (some l) Yg ⟨Wj,[],h,none⟩ (AsZ X n wm lo l fr ps Yg bd df R Z')):RdZ X l args.toArray wm h R Z':=by
 obtain⟨e1,s1,⟨rfl,h1,k1⟩,j1⟩:=k;have o1:(s1.h.at l).own=true:=by rw[h1];rfl
 have s1l:=Qc h1 rfl;obtain⟨e2,s2,⟨k2⟩,j2⟩:=k1 (s1.h.put l (.loop .busy none fr n ps Yg bd df)) (fun hl=>Up.put hl o1) (Yw s1l _)
 have h2:s2.h.at l=.loop .busy none fr n ps Yg bd df:=by
  rcases k2 with k2|⟨v,h2,_⟩
  ·exact k2.out.1
  ·exact h2
 have o2:(s2.h.at l).own=true:=by rw[h2];rfl
 have s2l:=Qc h2 rfl
 have key:(∃b A,R b (s2.h.put l A)/\Qt l e2 s2=some (.fin (.ret (.bool b)) (s2.h.put l A)))\/∃v,Z' v s2.h/\Qt l e2 s2=some (.fin (.Z6 v) s2.h):=by
  rcases k2 with⟨_,⟨rfl,k2⟩|⟨c,hx,k2⟩⟩|⟨v,_,rfl,hd,hz⟩
  ·refine .inl ⟨true,_,k2 _ (fun hl=>Up.put hl o2) (Yw s2l _),?_⟩;unfold Qt;rw[h2]
  ·refine .inl ⟨false,_,k2 _ (fun hl=>Up.put hl o2) (Yw s2l _),?_⟩;unfold Qt;rw[h2];cases hx<;>rfl
  ·refine .inr ⟨v,hz,?_⟩;unfold Qt;rw[h2];dsimp only;rw[hd]
 classical
 let ih:Ql->O YL:=fun j=>if j=.code Yg n wm (some l) ⟨Wj,[],h,none⟩ then some (.code .normal s1) else QD (.code bd n wm (some l) {s1 with h:=s1.h.put l (.loop .busy none fr n ps Yg bd df)}) (.code e2 s2) j
 have HI:∀j r,ih j=some r->Ym X j r:=by
  intro j r e;dsimp only[ih]at e;split at e
  ·rename_i hj;cases e;rw[hj];exact j1
  ·exact Y1 (X:=X) j2 j r e
 have fin:∀r,Qt l e2 s2=some r->Ym X (.round l args.toArray wm h) r:=fun r hev=>by
  refine U0 (C:=cfg X fun _=>false) (ih:=ih) HI ?_;unfold Za6;rw[hat];have hl':Nat.beq args.toArray.toList.length ps.toList.length=true:=hl;dsimp only;rw[Nm0 hw,hl'];simp only[Bool.and_self,Cq1];have hs':XL (ps.toList.zip args.toArray.toList) n fr=some Wj:=hs;rw[hs'];dsimp only;have i1:ih (.code Yg n wm (some l) {fr:=Wj,ds:=[],h:=h})=some (.code .normal s1):=by dsimp only[ih];rw[if_pos rfl]
  rw[i1];show Uw ih l bd n wm .normal s1=_;unfold Uw;dsimp only;rw[h1];dsimp only
  have i2:ih (.code bd n wm (some l) {s1 with h:=s1.h.put l (.loop .busy none fr n ps Yg bd df)})=some (.code e2 s2):=by
   dsimp only[ih];split
   ·rename_i hj;exfalso;injection hj with _ _ _ _ hs
    have:({s1 with h:=s1.h.put l (.loop .busy none fr n ps Yg bd df)}:Fs).h.at l=h.at l:=by rw[hs]
    dsimp only at this;rw[Yw s1l,hat]at this;cases this
   ·exact Y2 _ _
  rw[i2];exact hev
 rcases key with⟨b,A,hR,hev⟩|⟨v,hz,hev⟩
 ·exact .inl ⟨b,_,hR,fin _ hev⟩
 ·exact .inr ⟨v,_,hz,fin _ hev⟩
def WO.Zob{Q:XX->Fs->Prop}{o:Oper}{args:GZ N}{E:Eff}{v:N}{h1 h2:H}(hg:ZX ops o fr)(ha:Xx X h (YI fr) o=some (.round l args,E))(hE:E.apply wm h=some h1)
 (hc:Ym X (.round l args wm h1) (.fin (.Z6 v) h2)) (k:Q (.panic v) ⟨fr,ds,h2,none⟩):WO X n wm rd ops (o::ol) ⟨fr,ds,h,none⟩ Q:=by
 refine WO.panics (Y1 hc) ?_ k;unfold JO;rw[hg.1,hg.2];dsimp only[QP,Cq0,Cq1];rw[ha];dsimp only[QP,Cq0,Cq1];rw[hE];unfold WI;dsimp only[Jp,Cq0];rw[Y2]
 rfl
def WO.ZEU{Q:XX->Fs->Prop}{fo:GV}{xs:GZ GV}{ts:GZ J}{vs:U N}{n2:Nat}{Xm Wj:Fr}{as2 bd2:Code}(hg:ZX ops ⟨some d,.call {callee:=.value fo,args:=xs,argTypes:=ts},ty,p,af,g⟩ fr)(hd:Nat.blt d n=true)(hf:YI fr fo=some (.func (.yield l) #[] #[]))(hx:evs (YI fr) xs.toList=some vs)
 (hS:Sp wm T h0 G h) (pk:Pk G (ob wm l LO) Gr) (hLO:LO=.loop .ready none Xm n2 ps as2 bd2 df) (hl:Nat.beq vs.length ps.toList.length=true) (hs:XL (ps.toList.zip vs) n2 Xm=some Wj)
 (k:WC X n2 wm (some l) as2 ⟨Wj,[],h,none⟩ (AsZ X n2 wm wm l Xm ps as2 bd2 df (fun b h'=>WO X n wm rd ops ol ⟨Tr.set fr d (.bool b),ds,h',none⟩ Q) (fun v h'=>Q (.panic v) ⟨fr,ds,h',none⟩))):
 WO X n wm rd ops (⟨some d,.call {callee:=.value fo,args:=xs,argTypes:=ts},ty,p,af,g⟩::ol) ⟨fr,ds,h,none⟩ Q:=by
 obtain⟨h1,h2,h3⟩:=hS.get pk;have hat:=h1.trans hLO;rcases RdZ.mk (lo:=wm) hat h2 hl hs k with hr|⟨v,h',hz,hj⟩
 ·exact WO.yld hg hd hf hx hat (Nb0 hl) hr fun b h' hk=>hk
 ·refine WO.Zob (E:=.none) hg ?_ rfl hj hz;rw[Zc3,hx];dsimp only;rw[hf];dsimp only;unfold Ul;dsimp only;rw[hat];dsimp only;rw[hl];rfl
section
variable{Xm:Fr}{R:Z->H->Prop}{Z':N->H->Prop}
def AsZ.sp(hLO:LO=.loop .ready none fr n ps Yg bd df)(hS:Sp wm T h0 G h)(pk:Pk G (ob wm l LO) Gr)(k:∀h1,Sp wm T h0 (ob wm l (bsy LO)::Gr) h1->WC X n wm (some l) bd ⟨Xm,ds,h1,none⟩ (BdZ n wm l fr ps Yg bd df R Z')):AsZ X n wm wm l fr ps Yg bd df R Z' .normal ⟨Xm,ds,h,none⟩:=by
 obtain⟨h1,h2,h3⟩:=hS.get pk;refine⟨⟨rfl,h1.trans hLO,fun h' u e=>k h' ?_⟩⟩;exact hS.one pk (u h2) (fun _ q=>q) ⟨by rw[e,hLO];rfl,h2,by rw[hLO];rfl⟩ fun _ q=>.inl q
def BdZ.sp(hLO:LO=.loop .ready none fr n ps Yg bd df)(hS:Sp wm T h0 G h)(pk:Pk G (ob wm l (bsy LO)) Gr)(k:∀h1,Sp wm T h0 (ob wm l LO::Gr) h1->R true h1):BdZ n wm l fr ps Yg bd df R Z' .normal ⟨Xm,ds,h,none⟩:=⟨.inl (BdS.sp hLO hS pk k)⟩
def BdZ.Z6{v:N}(hLO:LO=.loop .ready none fr n ps Yg bd df)(hS:Sp wm T h0 G h)(pk:Pk G (ob wm l (bsy LO)) Gr)(k:Z' v h):BdZ n wm l fr ps Yg bd df R Z' (.panic v) ⟨Xm,[],h,none⟩:=by
 obtain⟨h1,h2,h3⟩:=hS.get pk;exact⟨.inr ⟨v,h1.trans (by rw[hLO];rfl),rfl,rfl,k⟩⟩
end
def WC.ZqY{Q:XX->Fs->Prop}{gg:GV}{f:GX}{first cap:U N}(hS:Sp wm T h0 G h)(hg:YI fr gg=some (.func (.func f) first.toArray cap.toArray))(hf:(X.fns.get f).isSome=true)
 (k:∀h' l df LO,LO=YR.loop .ready none fr n ps Yg bd df->Sp wm T h0 (ob wm l LO::ob wm df .deferred::G) h'->WF X f (first++([Value.func (.yield l) #[] #[]]++cap)).toArray wm h' (RP (fun _ h2=>RgS X wm l fr n ps Yg bd df ds Q h2) (fun v h2=>Q (.panic v) ⟨fr,⟨.collected df,#[]⟩::ds,h2,none⟩))):
 WC X n wm none (.rangeFunc gg ps Yg bd) ⟨fr,ds,h,none⟩ Q:=by
 have s1:Sp wm T h0 (ob wm h.size .deferred::G) (h.push .deferred):=ZdJ rfl hS
 have s2:Sp wm T h0 (ob wm (h.size+1) (.loop .ready none fr n ps Yg bd h.size)::ob wm h.size .deferred::G) ((h.push .deferred).push (.loop .ready none fr n ps Yg bd h.size)):=by
  have:=ZdJ (A:=.loop .ready none fr n ps Yg bd h.size) rfl s1
  rwa[H.size_push]at this
 obtain⟨fn,hf⟩:=GI.1 hf;obtain⟨e,h3,hr,hj⟩:=k _ _ _ _ rfl s2
 have hac:Ul (cfg X fun _=>false).X ((h.push .deferred).push (.loop .ready none fr n ps Yg bd h.size)) (.func (.func f) first.toArray cap.toArray) [Value.func (.yield (h.size+1)) #[] #[]]=some (.enter f (first++([Value.func (.yield (h.size+1)) #[] #[]]++cap)).toArray,.none):=by
  unfold Ul;have:(cfg X fun _=>false).X.fns.get f=some fn:=hf;dsimp only;rw[this];simp only[Gk]
 have pre:∀(ih:Ql->O YL),Xt (cfg X fun _=>false) ih gg n wm none (h.size+1) ⟨fr,⟨.collected h.size,#[]⟩::ds,(h.push .deferred).push (.loop .ready none fr n ps Yg bd h.size),none⟩=Q5 ih n wm none (h.size+1) ⟨fr,⟨.collected h.size,#[]⟩::ds,(h.push .deferred).push (.loop .ready none fr n ps Yg bd h.size),none⟩ (ih (.call f (first++([Value.func (.yield (h.size+1)) #[] #[]]++cap)).toArray wm ((h.push .deferred).push (.loop .ready none fr n ps Yg bd h.size)))):=fun ih=>by
  unfold Xt;dsimp only;rw[hg];dsimp only;rw[hac]
 cases e with
 | Z6 v=>
   refine⟨.panic v,_,hr,YX.2 (Qu (C:=cfg X fun _=>false) (ih:=QD (.call f _ wm _) (.fin (.Z6 v) h3)) (Y1 hj) ?_)⟩;show Xt (cfg X fun _=>false) _ gg n wm none (h.size+1) ⟨fr,⟨.collected h.size,#[]⟩::ds,(h.push .deferred).push (.loop .ready none fr n ps Yg bd h.size),none⟩=_;rw[pre,Y2]
   rfl
 | ret v=>
 rcases hr.k with⟨hat,hk⟩|⟨c,hat,hk⟩
 ·refine⟨.normal,_,hk (h3.put (h.size+1) (.loop .exhausted none fr n ps Yg bd h.size)) (Up.put hr.low (by rw[hat];rfl)),?_⟩;refine YX.2 (Qu (C:=cfg X fun _=>false) (ih:=QD (.call f _ wm _) (.fin (.ret v) h3)) (Y1 hj) ?_);show Xt (cfg X fun _=>false) _ gg n wm none (h.size+1) ⟨fr,⟨.collected h.size,#[]⟩::ds,(h.push .deferred).push (.loop .ready none fr n ps Yg bd h.size),none⟩=_;rw[pre,Y2];unfold Q5;dsimp only;rw[hat]
  rfl
 ·obtain⟨e2,s2,hq,hj2⟩:=hk (h3.put (h.size+1) (.loop .exhausted (some c) fr n ps Yg bd h.size)) (Up.put hr.low (by rw[hat];rfl));refine⟨e2,s2,hq,?_⟩
  classical
  let ih:Ql->O YL:=fun j=>if j=.code c n wm none ⟨fr,⟨.collected h.size,#[]⟩::ds,h3.put (h.size+1) (.loop .exhausted (some c) fr n ps Yg bd h.size),none⟩ then some (.code e2 s2) else QD (.call f (first++([Value.func (.yield (h.size+1)) #[] #[]]++cap)).toArray wm ((h.push .deferred).push (.loop .ready none fr n ps Yg bd h.size))) (.fin (.ret v) h3) j
  have HI:∀j r,ih j=some r->Ym X j r:=by
   intro j r e;dsimp only[ih]at e;split at e
   ·rename_i hj';cases e;rw[hj'];exact hj2
   ·exact Y1 (X:=X) hj j r e
  refine YX.2 (Qu (C:=cfg X fun _=>false) (ih:=ih) HI ?_);show Xt (cfg X fun _=>false) _ gg n wm none (h.size+1) ⟨fr,⟨.collected h.size,#[]⟩::ds,(h.push .deferred).push (.loop .ready none fr n ps Yg bd h.size),none⟩=_
  have i1:ih (.call f (first++([Value.func (.yield (h.size+1)) #[] #[]]++cap)).toArray wm ((h.push .deferred).push (.loop .ready none fr n ps Yg bd h.size)))=some (.fin (.ret v) h3):=by
   dsimp only[ih];split
   ·rename_i hj';cases hj'
   ·exact Y2 _ _
  rw[pre,i1];unfold Q5;dsimp only;rw[hat];show ih (.code c n wm none _)=_;dsimp only[ih];rw[if_pos rfl]
end
section
variable{X:Ctx}{n wm:Nat}{rd:O Nat}{ops:GZ Oper}{l:U Oper}{fr:Fr}{ds:U V2}{h h0:H}{ty:J}{p:String}{af:GZ Edge}{g:O (Nat×Z)}{T:Nat->Prop}{G Gr Ga:U (Ast wm)}{d:Nat}
def ZjX{x:GV}{it t:J}{v:N}{u:TypeDesc}(hu:X.P.underlying t=some u)(hi:(match u with | .interface _=>false|_=>true)=true)(hx:YI fr x=some (.iface t v)):Xx X h (YI fr) ⟨some d,.typeAssert x it t true,ty,p,af,g⟩=some (.val (.tuple #[v,.bool true]),.none):=by
 show(match YI fr x with|some x=>vN (Kg X.P x t true) | none=>none)=_;rw[hx];dsimp only
 have:Kg X.P (.iface t v) t true=some (.tuple #[v,.bool true]):=by
  unfold Kg;rw[hu];cases u<;>first | (dsimp only;rw[Nat.beq_refl];rfl) | cases hi
 rw[this];rfl
def ZjY{x:GV}{it t a:J}{v z:N}{u:TypeDesc}(hu:X.P.underlying t=some u)(hi:(match u with | .interface _=>false|_=>true)=true)(hz:YM X.P t=some z)(hne:Nat.beq a t=false)(hx:YI fr x=some (.iface a v)):Xx X h (YI fr) ⟨some d,.typeAssert x it t true,ty,p,af,g⟩=some (.val (.tuple #[z,.bool false]),.none):=by
 show(match YI fr x with|some x=>vN (Kg X.P x t true) | none=>none)=_;rw[hx];dsimp only
 have:Kg X.P (.iface a v) t true=some (.tuple #[z,.bool false]):=by
  unfold Kg;rw[hu];cases u<;>first | (dsimp only;rw[hne,Cq0,Cq1,hz]) | cases hi
 rw[this];rfl
def Yi.inv{f:GX}{r:GV}{nm:String}{xs:GZ GV}{ts:GZ J}{t:J}{v:N}{vs:U N}{d:O Tmp}(hr:YI fr r=some (.iface t v))(hm:Zns X.P t nm=some f)(hf:(X.fns.get f).isSome=true)(hx:evs (YI fr) xs.toList=some vs):
 Yi X fr ⟨d,.call {callee:=.invoke r nm,args:=xs,argTypes:=ts},ty,p,af,g⟩ f (v::vs).toArray:=fun h=>by
 obtain⟨fn,hf⟩:=GI.1 hf;unfold Xx;dsimp only;rw[hx];dsimp only;rw[hr];dsimp only;unfold Zbf;dsimp only;rw[hm];dsimp only;rw[hf]
end
end Go.ZK
end
end
section
namespace Go.Proofs.YtbnepjakjmnadaaGreat
structure Zg where
 op:Int
 n:Int
 text:ByteArray
 kids:List Zg
 deriving Inhabited
structure Z4 where
 text:ByteArray
 names:List ByteArray
 deriving Inhabited
mutual
structure Term where
 op:Int
 text:ByteArray
 args:List Zg
 defs:List Za
 kids:List Term
structure Za where
 form:Int
 text:ByteArray
 joins:List Z4
 defs:List Za
 kids:List Term
end
instance:Inhabited Term:=⟨⟨0,⟨#[]⟩,[],[],[]⟩⟩
instance:Inhabited Za:=⟨⟨0,⟨#[]⟩,[],[],[]⟩⟩
inductive Part
 | pr (t:Term)
 | ex (e:Zg)
 | cl (c:Za)
instance:Inhabited Part:=⟨.ex default⟩
def ZkY{β:Type}(p:Part)(f:Term->β)(g:Zg->β)(k:Za->β):β:=match p with
 | .pr t=>f t
 | .ex e=>g e
 | .cl c=>k c
end Go.Proofs.YtbnepjakjmnadaaGreat
end
section
noncomputable section
namespace Go.ZK
open Go.Lf
structure SlW{α P:Type}(sz:Nat)(sh:P->α->List Value)(wm:Nat)(h:H)(a:Option Addr)(c:Nat)(xs:List α)(ps:Nat->P):Prop where
 max:xs.length<=9223372036854775807
 cap:xs.length<=c / 2
 nl:ZnC a c
 mem:xs=[]\/∃i o cs own z,a=some ⟨i,o,none⟩/\h.at i=.row cs own z/\(i<wm\/own=false)/\o+xs.length*sz<=cs.length/\∀k x,xs[k]? =some x->(cs.drop (o+k*sz)).take sz=sh (ps k) x
def SlW.mono{α P:Type}{sz:Nat}{sh:P->α->U N}{wm:Nat}{h h':H}{a:O Addr}{c:Nat}{xs:U α}{ps:Nat->P}(f:Fz wm h h')(s:SlW sz sh wm h a c xs ps):SlW sz sh wm h' a c xs ps:=
 ⟨s.max,s.cap,s.nl,s.mem.imp id fun⟨i,o,cs,own,z,h1,h2,h3,h4⟩=>⟨i,o,cs,own,z,h1,f.keep _ _ _ _ h2 h3,h3,h4⟩⟩
def SlW.up{α P:Type}{sz:Nat}{sh:P->α->U N}{wm wm':Nat}{h:H}{a:O Addr}{c:Nat}{xs:U α}{ps:Nat->P}(f:wm<=wm')(s:SlW sz sh wm h a c xs ps):SlW sz sh wm' h a c xs ps:=
 ⟨s.max,s.cap,s.nl,s.mem.imp id fun⟨i,o,cs,own,z,h1,h2,h3,h4⟩=>⟨i,o,cs,own,z,h1,h2,h3.imp (fun x=>by omega) id,h4⟩⟩
def Sl.iff{α:Type}{e:Wh α}{wm:Nat}{h:H}{a:O Addr}{c:Nat}{xs:U α}:Sl e wm h a c xs↔∃ps,SlW e.sz e.sh wm h a c xs ps/\∀k x,xs[k]? =some x->e.F wm h (ps k) x:=by
 constructor
 ·intro s;rcases s.mem with h0|⟨i,o,cs,own,z,h1,h2,h3,h4⟩
  ·subst h0;exact⟨fun _=>e.dflt,⟨s.max,s.cap,s.nl,.inl rfl⟩,fun k x hk=>by simp at hk⟩
  ·have hq:∀k,∃q,∀x,xs[k]? =some x->(cs.drop (o+k*e.sz)).take e.sz=e.sh q x/\e.F wm h q x:=fun k=>by
    cases hx:xs[k]? with
    | none=>exact⟨e.dflt,fun x hx=>by cases hx⟩
    | some x=>
      obtain⟨q,g1,g2⟩:=h4.get k x hx;exact⟨q,fun y hy=>by cases hy;exact⟨g1,g2⟩⟩
   exact⟨fun k=>(hq k).choose,⟨s.max,s.cap,s.nl,.inr ⟨i,o,cs,own,z,h1,h2,h3,h4.len,fun k x hk=>((hq k).choose_spec x hk).1⟩⟩,fun k x hk=>((hq k).choose_spec x hk).2⟩
 ·rintro⟨ps,s,hF⟩;refine⟨s.max,s.cap,s.nl,s.mem.imp id ?_⟩;rintro⟨i,o,cs,own,z,h1,h2,h3,h4,h5⟩;exact⟨i,o,cs,own,z,h1,h2,h3,⟨h4,fun k x hk=>⟨ps k,h5 k x hk,hF k x hk⟩⟩⟩
end Go.ZK
end
end
section
set_option maxRecDepth 100000
noncomputable section
namespace Go.Proofs.YtbnepjakjmnadaaGreat
open Go.ZK Go.Lf
section
abbrev SlP:=O Addr×Nat
def ZT:Wh Z4 where
 sz:=2
 pos:=by decide
 Par:=SlP
 dflt:=(none,0)
 sh:=fun p x=>[.string x.text,.slice p.1 x.names.length p.2]
 len:=fun _ _=>rfl
 one:=fun _ _=>rfl
 F:=fun wm h p x=>Sl YG wm h p.1 p.2 x.names
 mono:=fun f x=>x.mono f
 up:=fun f x=>x.up f
def ZsI(p:SlP)(x:Zg):U N:=[V4 x.op,V4 x.n,.string x.text,.slice p.1 x.kids.length p.2]
inductive Zcr(wm:Nat)(h:H):SlP->Zg->Prop
 | mk {p:SlP} {x:Zg} (ps:Nat->SlP) (hk:SlW 4 ZsI wm h p.1 p.2 x.kids ps) (hF:∀k y,x.kids[k]? =some y->Zcr wm h (ps k) y):Zcr wm h p x
def Zcr.mono{wm:Nat}{h h':H}{p:SlP}{x:Zg}(f:Fz wm h h')(s:Zcr wm h p x):Zcr wm h' p x:=by
 induction s with
 | mk ps hk _ ih=>exact .mk ps (hk.mono f) ih
def Zcr.up{wm wm':Nat}{h:H}{p:SlP}{x:Zg}(f:wm<=wm')(s:Zcr wm h p x):Zcr wm' h p x:=by
 induction s with
 | mk ps hk _ ih=>exact .mk ps (hk.up f) ih
def Zh:Wh Zg where
 sz:=4
 pos:=by decide
 Par:=SlP
 dflt:=(none,0)
 sh:=ZsI
 len:=fun _ _=>rfl
 one:=fun _ _=>rfl
 F:=Zcr
 mono:=Zcr.mono
 up:=Zcr.up
def YJ{wm:Nat}{h:H}{p:SlP}{x:Zg}:Zh.F wm h p x↔Sl Zh wm h p.1 p.2 x.kids:=by
 rw[Sl.iff];exact⟨fun s=>by cases s with|mk ps hk hF=>exact⟨ps,hk,hF⟩,fun⟨ps,hk,hF⟩=>.mk ps hk hF⟩
abbrev TmP:=SlP×SlP×SlP
def Ja(p:TmP)(x:Term):U N:=[V4 x.op,.string x.text,.slice p.1.1 x.args.length p.1.2,.slice p.2.1.1 x.defs.length p.2.1.2,.slice p.2.2.1 x.kids.length p.2.2.2]
def Ky(p:TmP)(x:Za):U N:=[V4 x.form,.string x.text,.slice p.1.1 x.joins.length p.1.2,.slice p.2.1.1 x.defs.length p.2.1.2,.slice p.2.2.1 x.kids.length p.2.2.2]
mutual
inductive Jk (wm:Nat) (h:H):TmP->Term->Prop
 | mk {p:TmP} {x:Term} (pd pk:Nat->TmP) (ha:Sl Zh wm h p.1.1 p.1.2 x.args) (hd:SlW 5 Ky wm h p.2.1.1 p.2.1.2 x.defs pd) (hk:SlW 5 Ja wm h p.2.2.1 p.2.2.2 x.kids pk)
    (hdF:∀k y,x.defs[k]? =some y->XF wm h (pd k) y) (hkF:∀k y,x.kids[k]? =some y->Jk wm h (pk k) y):Jk wm h p x
inductive XF (wm:Nat) (h:H):TmP->Za->Prop
 | mk {p:TmP} {x:Za} (pd pk:Nat->TmP) (ha:Sl ZT wm h p.1.1 p.1.2 x.joins) (hd:SlW 5 Ky wm h p.2.1.1 p.2.1.2 x.defs pd) (hk:SlW 5 Ja wm h p.2.2.1 p.2.2.2 x.kids pk)
    (hdF:∀k y,x.defs[k]? =some y->XF wm h (pd k) y) (hkF:∀k y,x.kids[k]? =some y->Jk wm h (pk k) y):XF wm h p x
end
def Jk.mono{wm:Nat}{h h':H}(f:Fz wm h h'){p:TmP}{x:Term}(s:Jk wm h p x):Jk wm h' p x:=
 Jk.rec (motive_1:=fun p x _=>Jk wm h' p x) (motive_2:=fun p x _=>XF wm h' p x)
  (fun pd pk ha hd hk _ _ i1 i2=>.mk pd pk (ha.mono f) (hd.mono f) (hk.mono f) i1 i2) (fun pd pk ha hd hk _ _ i1 i2=>.mk pd pk (ha.mono f) (hd.mono f) (hk.mono f) i1 i2) s
def XF.mono{wm:Nat}{h h':H}(f:Fz wm h h'){p:TmP}{x:Za}(s:XF wm h p x):XF wm h' p x:=
 XF.rec (motive_1:=fun p x _=>Jk wm h' p x) (motive_2:=fun p x _=>XF wm h' p x)
  (fun pd pk ha hd hk _ _ i1 i2=>.mk pd pk (ha.mono f) (hd.mono f) (hk.mono f) i1 i2) (fun pd pk ha hd hk _ _ i1 i2=>.mk pd pk (ha.mono f) (hd.mono f) (hk.mono f) i1 i2) s
def Jk.up{wm wm':Nat}{h:H}(f:wm<=wm'){p:TmP}{x:Term}(s:Jk wm h p x):Jk wm' h p x:=
 Jk.rec (motive_1:=fun p x _=>Jk wm' h p x) (motive_2:=fun p x _=>XF wm' h p x)
  (fun pd pk ha hd hk _ _ i1 i2=>.mk pd pk (ha.up f) (hd.up f) (hk.up f) i1 i2) (fun pd pk ha hd hk _ _ i1 i2=>.mk pd pk (ha.up f) (hd.up f) (hk.up f) i1 i2) s
def XF.up{wm wm':Nat}{h:H}(f:wm<=wm'){p:TmP}{x:Za}(s:XF wm h p x):XF wm' h p x:=
 XF.rec (motive_1:=fun p x _=>Jk wm' h p x) (motive_2:=fun p x _=>XF wm' h p x)
  (fun pd pk ha hd hk _ _ i1 i2=>.mk pd pk (ha.up f) (hd.up f) (hk.up f) i1 i2) (fun pd pk ha hd hk _ _ i1 i2=>.mk pd pk (ha.up f) (hd.up f) (hk.up f) i1 i2) s
def Zv:Wh Term where
 sz:=5
 pos:=by decide
 Par:=TmP
 dflt:=((none,0),(none,0),(none,0))
 sh:=Ja
 len:=fun _ _=>rfl
 one:=fun _ _=>rfl
 F:=Jk
 mono:=fun f s=>Jk.mono f s
 up:=fun f s=>Jk.up f s
def Zc:Wh Za where
 sz:=5
 pos:=by decide
 Par:=TmP
 dflt:=((none,0),(none,0),(none,0))
 sh:=Ky
 len:=fun _ _=>rfl
 one:=fun _ _=>rfl
 F:=XF
 mono:=fun f s=>XF.mono f s
 up:=fun f s=>XF.up f s
def Jf{wm:Nat}{h:H}{p:TmP}{x:Term}:Zv.F wm h p x↔Sl Zh wm h p.1.1 p.1.2 x.args/\Sl Zc wm h p.2.1.1 p.2.1.2 x.defs/\Sl Zv wm h p.2.2.1 p.2.2.2 x.kids:=by
 rw[Sl.iff (e:=Zc),Sl.iff (e:=Zv)];exact⟨fun s=>by cases s with|mk pd pk ha hd hk hdF hkF=>exact⟨ha,⟨pd,hd,hdF⟩,pk,hk,hkF⟩,fun⟨ha,⟨pd,hd,hdF⟩,pk,hk,hkF⟩=>Jk.mk pd pk ha hd hk hdF hkF⟩
def ZY{wm:Nat}{h:H}{p:TmP}{x:Za}:Zc.F wm h p x↔Sl ZT wm h p.1.1 p.1.2 x.joins/\Sl Zc wm h p.2.1.1 p.2.1.2 x.defs/\Sl Zv wm h p.2.2.1 p.2.2.2 x.kids:=by
 rw[Sl.iff (e:=Zc),Sl.iff (e:=Zv)];exact⟨fun s=>by cases s with|mk pd pk ha hd hk hdF hkF=>exact⟨ha,⟨pd,hd,hdF⟩,pk,hk,hkF⟩,fun⟨ha,⟨pd,hd,hdF⟩,pk,hk,hkF⟩=>XF.mk pd pk ha hd hk hdF hkF⟩
end
section
abbrev PtP:=TmP×SlP
def KV(p:PtP):Part->N
 | .pr t=>.iface 78 (.agg (Ja p.1 t).toArray)
 | .ex e=>.iface 88 (.agg (ZsI p.2 e).toArray)
 | .cl c=>.iface 166 (.agg (Ky p.1 c).toArray)
def Z7{p:PtP}{x:Part}:XG (KV p x)=false:=by cases x<;>rfl
def Zlg{p:PtP}{x:Part}:(KV p x).cells.toList=[KV p x]:=by cases x<;>rfl
def Zio{β:Type}{f:Term->O β}{g:Zg->O β}{k:Za->O β}{x:Term}{r:β}(h:ZkY (.pr x) f g k=some r):f x=some r:=h
def Ziq{β:Type}{f:Term->O β}{g:Zg->O β}{k:Za->O β}{x:Zg}{r:β}(h:ZkY (.ex x) f g k=some r):g x=some r:=h
def Zir{β:Type}{f:Term->O β}{g:Zg->O β}{k:Za->O β}{x:Za}{r:β}(h:ZkY (.cl x) f g k=some r):k x=some r:=h
def ZMB(wm:Nat)(h:H)(p:PtP):Part->Prop
 | .pr t=>Jk wm h p.1 t
 | .ex e=>Zcr wm h p.2 e
 | .cl c=>XF wm h p.1 c
def ZU:Wh Part where
 sz:=1
 pos:=by decide
 Par:=PtP
 dflt:=(((none,0),(none,0),(none,0)),(none,0))
 sh:=fun p x=>[KV p x]
 len:=fun _ _=>rfl
 one:=fun p x=>by cases x<;>rfl
 F:=ZMB
 mono:=fun{wm h h' p x} f s=>by
  cases x with
  | pr t=>exact Jk.mono f s
  | ex e=>exact Zcr.mono f s
  | cl c=>exact XF.mono f s
 up:=fun{wm wm' h p x} f s=>by
  cases x with
  | pr t=>exact Jk.up f s
  | ex e=>exact Zcr.up f s
  | cl c=>exact XF.up f s
def Zeu{wm:Nat}{h:H}{a1 a2 a3 a4:O Addr}{c1 c2 c3 c4:Nat}{t:Term}(x:ZU.F wm h (((a1,c1),(a2,c2),(a3,c3)),(a4,c4)) (.pr t)):Sl Zh wm h a1 c1 t.args/\Sl Zc wm h a2 c2 t.defs/\Sl Zv wm h a3 c3 t.kids:=Jf.1 x
def Zmg{wm:Nat}{h:H}{a1 a2 a3 a4:O Addr}{c1 c2 c3 c4:Nat}{e:Zg}(x:ZU.F wm h (((a1,c1),(a2,c2),(a3,c3)),(a4,c4)) (.ex e)):Sl Zh wm h a4 c4 e.kids:=YJ.1 x
def Zew{wm:Nat}{h:H}{a1 a2 a3 a4:O Addr}{c1 c2 c3 c4:Nat}{c:Za}(x:ZU.F wm h (((a1,c1),(a2,c2),(a3,c3)),(a4,c4)) (.cl c)):Sl ZT wm h a1 c1 c.joins/\Sl Zc wm h a2 c2 c.defs/\Sl Zv wm h a3 c3 c.kids:=ZY.1 x
def Zoz{wm:Nat}{h:H}{a1 a2 a3:O Addr}{c1 c2 c3:Nat}{t:Term}(x:Sl Zh wm h a1 c1 t.args)(y:Sl Zc wm h a2 c2 t.defs)(z:Sl Zv wm h a3 c3 t.kids):ZU.F wm h (((a1,c1),(a2,c2),(a3,c3)),(none,0)) (.pr t):=Jf.2 ⟨x,y,z⟩
def ZDT{wm:Nat}{h:H}{a4:O Addr}{c4:Nat}{e:Zg}(x:Sl Zh wm h a4 c4 e.kids):ZU.F wm h (((none,0),(none,0),(none,0)),(a4,c4)) (.ex e):=YJ.2 x
def ZJr{wm:Nat}{h:H}{a1 a2 a3:O Addr}{c1 c2 c3:Nat}{c:Za}(x:Sl ZT wm h a1 c1 c.joins)(y:Sl Zc wm h a2 c2 c.defs)(z:Sl Zv wm h a3 c3 c.kids):ZU.F wm h (((a1,c1),(a2,c2),(a3,c3)),(none,0)) (.cl c):=ZY.2 ⟨x,y,z⟩
end
section
structure Zud where
 Qh:Za
 deriving Inhabited
structure Process where
 term:Term
 deriving Inhabited
structure ZnE where
 WN:Zg
 deriving Inhabited
structure ZJ where
 at_:Int
 many:Int
 deriving DecidableEq,Inhabited
def U5(x y:ZJ):Z:=[x.at_==y.at_,x.many==y.many].all id
def ZHw:O Z:=some true
end
section
def ZsM:Wh ZJ where
 sz:=2
 pos:=by decide
 Par:=Unit
 dflt:=()
 sh:=fun _ x=>[V4 x.at_,V4 x.many]
 len:=fun _ _=>rfl
 one:=fun _ _=>rfl
 F:=fun _ _ _ _=>True
 mono:=fun _ x=>x
 up:=fun _ x=>x
def Qg(x:ZJ):N:=.agg #[V4 x.at_,V4 x.many]
def ZNy:XX.P.underlying 3=some (.int .i64):=Kq0
def ZNx:XX.P.underlying 4=some .bool:=Kq0
def ZI1:XX.P.underlying 5=some (.int .u8):=Kq0
def Zuo:XX.P.underlying 9=some .string:=Kq0
def ZDx:XX.P.underlying 20=some (.interface #[]):=Kq0
def Wy:XX.P.underlying 22=some (.slice 9):=Kq0
def Kr:XX.P.underlying 29=some (.slice 36):=Kq0
def Um:XX.P.underlying 30=some (.slice 130):=Kq0
def Zbj:XX.P.underlying 31=some (.slice 33):=Kq0
def Je:XX.P.underlying 70=some (.map 9 4):=Kq0
def ZFj:XX.P.underlying 102=some (.slice 3):=Kq0
def Un:XX.P.underlying 128=some (.slice 136):=Kq0
def ZqI:XX.P.underlying 138=some (.slice 5):=Kq0
def Kt:XX.P.underlying 142=some (.slice 140):=Kq0
def ZFh:XX.P.underlying 160=some (.slice 30):=Kq0
def ZqH:XX.P.underlying 185=some (.map 9 187):=Kq0
def ZIb:Yy XX.P 3=some false:=Kq0
def ZPF:Yy XX.P 4=some false:=Kq0
def Zde:Yy XX.P 9=some false:=Kq0
def Zcj:Yy XX.P 22=some false:=Kq0
def Zt3:Yy XX.P 28=some false:=Kq0
def ZzX:Yy XX.P 29=some false:=Kq0
def Zt2:Yy XX.P 30=some false:=Kq0
def ZlN:Yy XX.P 31=some false:=Kq0
def UK:Yy XX.P 33=some true:=Kq0
def ZMl:Yy XX.P 34=some false:=Kq0
def Ux:Yy XX.P 36=some true:=Kq0
def ZzW:Yy XX.P 37=some false:=Kq0
def Zj3:Yy XX.P 70=some false:=Kq0
def ZIi:Yy XX.P 102=some false:=Kq0
def ZIh:Yy XX.P 124=some true:=Kq0
def Zsg:Yy XX.P 127=some false:=Kq0
def Znt:Yy XX.P 128=some false:=Kq0
def JE:Yy XX.P 130=some true:=Kq0
def Zbg:Yy XX.P 136=some true:=Kq0
def Zd9:Yy XX.P 140=some false:=Kq0
def Zd8:Yy XX.P 141=some false:=Kq0
def ZIg:Yy XX.P 159=some true:=Kq0
def ZIf:Yy XX.P 185=some false:=Kq0
def ZIe:Yy XX.P 187=some true:=Kq0
def ZId:Yy XX.P 194=some false:=Kq0
def ZIc:Yy XX.P 195=some false:=Kq0
def Zws:Yv XX.P 3=some 1:=Kq0
def ZI9:Yv XX.P 4=some 1:=Kq0
def ZDE:Yv XX.P 5=some 1:=Kq0
def Kv:Yv XX.P 9=some 1:=Kq0
def Zh5:Yv XX.P 22=some 1:=Kq0
def Zl7:Yv XX.P 29=some 1:=Kq0
def ZFq:Yv XX.P 30=some 1:=Kq0
def ZqT:Yv XX.P 31=some 1:=Kq0
def Xp:Yv XX.P 33=some 5:=Kq0
def Xb:Yv XX.P 36=some 4:=Kq0
def ZFp:Yv XX.P 37=some 1:=Kq0
def ZFo:Yv XX.P 70=some 1:=Kq0
def Zl6:Yv XX.P 78=some 5:=Kq0
def ZFn:Yv XX.P 88=some 4:=Kq0
def ZA7:Yv XX.P 102=some 1:=Kq0
def ZA4:Yv XX.P 124=some 2:=Kq0
def ZsG:Yv XX.P 128=some 1:=Kq0
def Yo:Yv XX.P 130=some 5:=Kq0
def Xn:Yv XX.P 136=some 2:=Kq0
def WQ:Yv XX.P 140=some 1:=Kq0
def Zl8:Yv XX.P 141=some 1:=Kq0
def ZA3:Yv XX.P 147=some 1:=Kq0
def ZA2:Yv XX.P 159=some 2:=Kq0
def ZA1:Yv XX.P 166=some 5:=Kq0
def ZA0:Yv XX.P 185=some 1:=Kq0
def ZAZ:Yv XX.P 187=some 2:=Kq0
def ZAY:Yv XX.P 195=some 1:=Kq0
def ZhD:Zr XX.P 33 0 0:=Zr.of Kq0
def ZCm:Zr XX.P 33 1 1:=Zr.of Kq0
def Ztm:Zr XX.P 33 2 2:=Zr.of Kq0
def ZhC:Zr XX.P 33 3 3:=Zr.of Kq0
def ZhB:Zr XX.P 33 4 4:=Zr.of Kq0
def ZCl:Zr XX.P 36 0 0:=Zr.of Kq0
def ZCk:Zr XX.P 36 1 1:=Zr.of Kq0
def ZCj:Zr XX.P 36 2 2:=Zr.of Kq0
def ZmM:Zr XX.P 36 3 3:=Zr.of Kq0
def KW:Zr XX.P 78 0 0:=Zr.of Kq0
def ZCi:Zr XX.P 88 0 0:=Zr.of Kq0
def ZyJ:Zr XX.P 104 0 0:=Zr.of Kq0
def ZyI:Zr XX.P 104 1 1:=Zr.of Kq0
def ZyH:Zr XX.P 104 2 2:=Zr.of Kq0
def ZyG:Zr XX.P 104 3 3:=Zr.of Kq0
def ZyF:Zr XX.P 104 4 4:=Zr.of Kq0
def ZyC:Zr XX.P 119 0 0:=Zr.of Kq0
def ZyB:Zr XX.P 119 1 1:=Zr.of Kq0
def ZyA:Zr XX.P 119 2 2:=Zr.of Kq0
def Zyz:Zr XX.P 119 3 3:=Zr.of Kq0
def Zyy:Zr XX.P 119 4 4:=Zr.of Kq0
def Zyx:Zr XX.P 124 0 0:=Zr.of Kq0
def Zyw:Zr XX.P 124 1 1:=Zr.of Kq0
def Zpj:Zr XX.P 130 0 0:=Zr.of Kq0
def Zyv:Zr XX.P 130 1 1:=Zr.of Kq0
def ZbZ:Zr XX.P 130 2 2:=Zr.of Kq0
def Zyu:Zr XX.P 130 3 3:=Zr.of Kq0
def ZeU:Zr XX.P 130 4 4:=Zr.of Kq0
def Zpi:Zr XX.P 136 0 0:=Zr.of Kq0
def ZeT:Zr XX.P 136 1 1:=Zr.of Kq0
def Zyt:Zr XX.P 147 0 0:=Zr.of Kq0
def Zys:Zr XX.P 159 0 0:=Zr.of Kq0
def Zyr:Zr XX.P 159 1 1:=Zr.of Kq0
def Zpf:Zr XX.P 166 0 0:=Zr.of Kq0
def ZDt:YM XX.P 3=some (V4 0):=Kq0
def ZgJ:YM XX.P 4=some (.bool false):=Kq0
def ZDs:YM XX.P 5=some (.int .u8 0):=Kq0
def ZnO:YM XX.P 9=some (.string ⟨#[]⟩):=Kq0
def Zv1:YM XX.P 22=some (V3):=Kq0
def ZER:YM XX.P 30=some (V3):=Kq0
def ZhR:YM XX.P 33=some (.agg #[V4 0,.string ⟨#[]⟩,V3,V3,V3]):=Kq0
def ZfI:YM XX.P 36=some (.agg #[V4 0,V4 0,.string ⟨#[]⟩,V3]):=Kq0
def ZEQ:YM XX.P 37=some (V4 0):=Kq0
def ZEP:YM XX.P 70=some (.map none):=Kq0
def ZaM:YM XX.P 78=some (.agg #[V4 0,.string ⟨#[]⟩,V3,V3,V3]):=Kq0
def ZqA:YM XX.P 88=some (.agg #[V4 0,V4 0,.string ⟨#[]⟩,V3]):=Kq0
def ZAN:YM XX.P 104=some (.agg #[V3,V3,V3,V3,.bool false]):=Kq0
def ZAL:YM XX.P 119=some (.agg #[V4 0,.string ⟨#[]⟩,V3,V3,.bool false]):=Kq0
def ZAK:YM XX.P 124=some (.agg #[V3,V3]):=Kq0
def WK:YM XX.P 130=some (.agg #[V4 0,.string ⟨#[]⟩,V3,V3,V3]):=Kq0
def Zct:YM XX.P 136=some (.agg #[.string ⟨#[]⟩,V3]):=Kq0
def Zek:YM XX.P 140=some (.nilIface):=Kq0
def ZlU:YM XX.P 141=some (.nilFunc):=Kq0
def Zsz:YM XX.P 147=some (.agg #[V4 0]):=Kq0
def Zsy:YM XX.P 159=some (.agg #[V3,V4 0]):=Kq0
def Zsw:YM XX.P 166=some (.agg #[V4 0,.string ⟨#[]⟩,V3,V3,V3]):=Kq0
def ZAJ:YM XX.P 185=some (.map none):=Kq0
def ZlT:YM XX.P 187=some (.agg #[V4 0,V4 0]):=Kq0
def ZAI:YM XX.P 195=some (.nilFunc):=Kq0
def ZzC:JK XX.P 33 [V4 0,.string ⟨#[]⟩,V3,V3,V3] [(0,1),(1,1),(2,1),(3,1),(4,1)]:=⟨_,_,ZhR,rfl,Tryz.underlying33,by kernel_rfl⟩
def ZtX:JK XX.P 36 [V4 0,V4 0,.string ⟨#[]⟩,V3] [(0,1),(1,1),(2,1),(3,1)]:=⟨_,_,ZfI,rfl,Tryz.underlying36,by kernel_rfl⟩
def ZtW:JK XX.P 78 [V4 0,.string ⟨#[]⟩,V3,V3,V3] [(0,5)]:=⟨_,_,ZaM,rfl,Tryz.underlying78,by kernel_rfl⟩
def ZEH:JK XX.P 88 [V4 0,V4 0,.string ⟨#[]⟩,V3] [(0,4)]:=⟨_,_,ZqA,rfl,Tryz.underlying88,by kernel_rfl⟩
def ZzE:JK XX.P 130 [V4 0,.string ⟨#[]⟩,V3,V3,V3] [(0,1),(1,1),(2,1),(3,1),(4,1)]:=⟨_,_,WK,rfl,Tryz.underlying130,by kernel_rfl⟩
def ZH1:JK XX.P 136 [.string ⟨#[]⟩,V3] [(0,1),(1,1)]:=⟨_,_,Zct,rfl,Tryz.underlying136,by kernel_rfl⟩
def ZH0:JK XX.P 147 [V4 0] [(0,1)]:=⟨_,_,Zsz,rfl,Tryz.underlying147,by kernel_rfl⟩
def ZzD:JK XX.P 159 [V3,V4 0] [(0,1),(1,1)]:=⟨_,_,Zsy,rfl,Tryz.underlying159,by kernel_rfl⟩
def ZHZ:JK XX.P 166 [V4 0,.string ⟨#[]⟩,V3,V3,V3] [(0,5)]:=⟨_,_,Zsw,rfl,Tryz.underlying166,by kernel_rfl⟩
def ZHY:JK XX.P 187 [V4 0,V4 0] [(0,1),(1,1)]:=⟨_,_,ZlT,rfl,Tryz.underlying187,by kernel_rfl⟩
def ZaG:ZfD XX.P #[22,22] 1 16:=⟨9,.string ⟨#[]⟩,by kernel_rfl⟩
def Zj2:ZfD XX.P #[29,29] 4 56:=⟨36,.agg #[V4 0,V4 0,.string ⟨#[]⟩,V3],by kernel_rfl⟩
def Zfq:ZfD XX.P #[30,30] 5 96:=⟨130,.agg #[V4 0,.string ⟨#[]⟩,V3,V3,V3],by kernel_rfl⟩
def ZzN:ZfD XX.P #[31,31] 5 96:=⟨33,.agg #[V4 0,.string ⟨#[]⟩,V3,V3,V3],by kernel_rfl⟩
def Zsb:ZfD XX.P #[128,128] 2 40:=⟨136,.agg #[.string ⟨#[]⟩,V3],by kernel_rfl⟩
def Zsa:ZfD XX.P #[138,138] 1 1:=⟨5,.int .u8 0,by kernel_rfl⟩
def Zbd:ZfD XX.P #[142,142] 1 16:=⟨140,.nilIface,by kernel_rfl⟩
def ZHC(x y:ZJ):ZMG XX.P 187 (ZsM.sh () x) (ZsM.sh () y) (U5 x y):=
 ⟨by kernel_rfl,Zvi (d:=9999) (bs:=[x.at_==y.at_,x.many==y.many]) Tryz.underlying187 Kq0 ⟨⟨by decide,_,_,ZcD Kq0 rfl,ZcD Kq0 rfl,eq_int Kq0⟩,⟨by decide,_,_,ZcD Kq0 rfl,ZcD Kq0 rfl,eq_int Kq0⟩,trivial⟩⟩
def Uu:ZgH XX.P 9 Value.string:=ZgH.str Kq0
def ZEw:(XX.fns.get 14).isSome=true:=Kq0
def Zlk:(XX.fns.get 15).isSome=true:=Kq0
def ZEv:(XX.fns.get 19).isSome=true:=Kq0
def ZEu:(XX.fns.get 21).isSome=true:=Kq0
def Zo4:(XX.fns.get 23).isSome=true:=Kq0
def ZEt:(XX.fns.get 27).isSome=true:=Kq0
def ZEs:(XX.fns.get 31).isSome=true:=Kq0
def ZxV:(XX.fns.get 34).isSome=true:=Kq0
def ZKD:(XX.fns.get 35).isSome=true:=Kq0
def ZKC:(XX.fns.get 41).isSome=true:=Kq0
def ZEr:(XX.fns.get 43).isSome=true:=Kq0
def ZEq:(XX.fns.get 48).isSome=true:=Kq0
def ZKB:(XX.fns.get 53).isSome=true:=Kq0
def ZxU:(XX.fns.get 57).isSome=true:=Kq0
def ZxT:(XX.fns.get 59).isSome=true:=Kq0
def ZEp:(XX.fns.get 61).isSome=true:=Kq0
def ZeI:(XX.fns.get 80).isSome=true:=Kq0
def ZEo:(XX.fns.get 85).isSome=true:=Kq0
def ZEn:(XX.fns.get 86).isSome=true:=Kq0
def ZEm:(XX.fns.get 91).isSome=true:=Kq0
def ZxS:(XX.fns.get 92).isSome=true:=Kq0
def ZKA:(XX.fns.get 99).isSome=true:=Kq0
def Zrq:(XX.fns.get 100).isSome=true:=Kq0
def Zac:(XX.fns.get 101).isSome=true:=Kq0
def Y0:(XX.fns.get 104).isSome=true:=Kq0
def Zx7:(XX.fns.get 105).isSome=true:=Kq0
def Zf6:(XX.fns.get 106).isSome=true:=Kq0
def Zx6:(XX.fns.get 113).isSome=true:=Kq0
def Zx5:(XX.fns.get 129).isSome=true:=Kq0
def ZGs:(XX.fns.get 130).isSome=true:=Kq0
def Zx4:(XX.fns.get 131).isSome=true:=Kq0
def ZGr:(XX.fns.get 132).isSome=true:=Kq0
def Zx3:(XX.fns.get 133).isSome=true:=Kq0
def Zx2:(XX.fns.get 137).isSome=true:=Kq0
def Zx1:(XX.fns.get 138).isSome=true:=Kq0
def Zx0:(XX.fns.get 139).isSome=true:=Kq0
def ZxZ:(XX.fns.get 144).isSome=true:=Kq0
def Zf5:(XX.fns.get 145).isSome=true:=Kq0
def ZxY:(XX.fns.get 148).isSome=true:=Kq0
def ZGq:(XX.fns.get 156).isSome=true:=Kq0
def ZGp:(XX.fns.get 157).isSome=true:=Kq0
def ZGo:(XX.fns.get 158).isSome=true:=Kq0
def Ws:(XX.fns.get 160).isSome=true:=Kq0
def ZGn:(XX.fns.get 197).isSome=true:=Kq0
def ZxX:(XX.fns.get 198).isSome=true:=Kq0
def ZxW:(XX.fns.get 199).isSome=true:=Kq0
def ZGm:(XX.fns.get 200).isSome=true:=Kq0
def ZGl:(XX.fns.get 201).isSome=true:=Kq0
end
end Go.Proofs.YtbnepjakjmnadaaGreat
end
end
section
noncomputable section
namespace Go.ZK
open Go.Lf
class Wx(P:Program)(t:TypeId):Prop where
 out:Yy P t=some false
class Zql(P:Program)(t:TypeId):Prop where
 out:Yy P t=some true
class SzF(P:Program)(t:TypeId)(n:outParam Nat):Prop where
 out:Yv P t=some n
class QJ(P:Program)(t:TypeId)(f:Nat)(o:outParam Nat):Prop where
 out:Zr P t f o
class Zka(P:Program)(t:TypeId)(e:outParam TypeId):Prop where
 out:P.underlying t=some (.slice e)
class ZIv(P:Program)(t:TypeId):Prop where
 out:P.underlying t=some .bool
class Uy(P:Program)(t:TypeId)(v:outParam Value):Prop where
 out:YM P t=some v
def ia{v:N}(h:XG v=false):XG v=false:=h
def ZO6{fr:Fr}{t:Nat}{c:Z}{v:N}(h:fr.at t=cond c v undef)(ha:XG v=false)(hc:c=true):YI fr (.tmp t)=some v:=Jm h ha hc
section
variable{X:Ctx}{h:H}{fr:Fr}{ty:J}{p':String}{af:GZ Edge}{g:O (Nat×Z)}{d:O Tmp}{wm:Nat}{T:Nat->Prop}{h0:H}{G Gr:U (Ast wm)}
def ZMe{x:GV}{t:J}{f off b o:Nat}[hf:QJ X.P t f off](hx:YI fr x=some (.pointer (some ⟨b,o,none⟩))):Xx X h (YI fr) ⟨d,.fieldAddr t x f,ty,p',af,g⟩=some (.val (.pointer (some ⟨b,o+off,none⟩)),.none):=YV hf.out hx
def ZPD{x:GV}{t:J}{b oo:Nat}{vs:U N}{v:N}[ht:Wx X.P t](hx:YI fr x=some (.pointer (some ⟨b,oo,none⟩)))(hS:Sp wm T h0 G h)(pp:Pk G (bx wm b vs) Gr)(hv:vs[oo]? =some v):
 Xx X h (YI fr) ⟨d,.load t x,ty,p',af,g⟩=some (.val v,.none):=Ye ht.out hx (hS.J6 pp) (JT _).symm hv
def ZMc{x:GV}{t:J}{b oo sz:Nat}{vs ws:U N}[ht:Zql X.P t][hs:SzF X.P t sz](hx:YI fr x=some (.pointer (some ⟨b,oo,none⟩)))(hS:Sp wm T h0 G h)(pp:Pk G (bx wm b vs) Gr)(hj:Nat.ble (oo+sz) vs.length=true)(hv:(vs.drop oo).take sz=ws):
 Xx X h (YI fr) ⟨d,.load t x,ty,p',af,g⟩=some (.val (.agg ws.toArray),.none):=Yq ht.out hs.out hx (hS.J6 pp) (JT _).symm hj hv
def ZMf{dd:Tmp}{x:GV}{t:J}{v:N}{vs:U N}(hx:YI fr x=some v)(hS:Sp wm T h0 G h)(hv:v.cells.toList=vs):
 HN X wm ⟨some dd,.box t x,ty,p',af,g⟩ fr h (fun v h'=>∃b,h.size=b/\v=(V5 b)/\Sp wm T h0 (bx wm b vs::G) h'):=Zib hS hx hv
def ZMg{dd:Tmp}{t:J}{v:N}{vs:U N}[hz:Uy X.P t v](hS:Sp wm T h0 G h)(hv:v.cells.toList=vs):
 HN X wm ⟨some dd,.alloc t,ty,p',af,g⟩ fr h (fun v h'=>∃b,h.size=b/\v=(V5 b)/\Sp wm T h0 (bx wm b vs::G) h'):=KO hS hz.out hv
def ZPC{x y:GV}{t:J}{b o sz:Nat}{cs cs' vs:U N}{v:N}[hs:SzF X.P t sz](hx:YI fr x=some (.pointer (some ⟨b,o,none⟩)))(hS:Sp wm T h0 G h)(pk:Pk G (bx wm b cs) Gr)(hy:YI fr y=some v)
 (hvs:v.cells.toList=vs) (hn:Nat.beq vs.length sz=true) (hl:Nat.ble (o+sz) cs.length=true) (hc:vs.all Value.oneCell'=true) (hv:splice cs o vs=cs'):
 HU X wm ⟨none,.store t x y,ty,p',af,g⟩ fr h (fun i=>i=b) (fun h'=>Sp wm T h0 (bx wm b cs'::Gr) h'):=WT hS pk hs.out hx hy hvs hn hl hc hv
def ZMd{α:Type}{xs:U α}{v:α}{x y:GV}{t e:J}{sz b o nn c dd:Nat}{a:O Addr}{k:Int}[hu:Zka X.P t e][hs:SzF X.P e sz](hx:YI fr x=some (.slice a nn c))(hy:YI fr y=some (V4 k))(hn:nn=xs.length)(ha:a=some ⟨b,o,none⟩)(hk:YH xs k=some v):
 Xx X h (YI fr) ⟨some dd,.indexAddr t x y,ty,p',af,g⟩=some (.val (.pointer (some ⟨b,o+k.toNat*sz,none⟩)),.none):=Z8 hu.out hs.out hx hy hn ha hk
def ZMb{x:GV}{t:J}{b o oo j:Nat}{vs:U N}{v:N}[ht:Wx X.P t](hx:YI fr x=some (.pointer (some ⟨b,oo,none⟩)))(ha:At h b o vs)(ho:oo=o+j)(hv:vs[j]? =some v):
 Xx X h (YI fr) ⟨d,.load t x,ty,p',af,g⟩=some (.val v,.none):=Ye ht.out hx ha ho hv
def ZMa{x:GV}{t e':J}{a:O Addr}{mm cc dd:Nat}[hu:Zka X.P t e'](hx:YI fr x=some (.slice a mm cc)):
 Xx X h (YI fr) ⟨some dd,.call {callee:=.builtin .len,args:=#[x],argTypes:=#[t]},ty,p',af,g⟩=some (.val (V4 (mm:Int)),.none):=Zfo hu.out hx rfl
end
section
variable{X:Ctx}{n wm:Nat}{rd:O Nat}{ops:GZ Oper}{l:U Oper}{fr:Fr}{ds:U V2}{h:H}{ty:J}{p:String}{af:GZ Edge}{g:O (Nat×Z)}{sf:ST}{m:Nat}
def WX.w2{Q:Fr->H->Prop}{d:Nat}{op:Op}{v:N}(hg:ZX ops ⟨some d,op,ty,p,af,g⟩ fr)(hd:Nat.blt d n=true)(hM:okM ops sf m ⟨some d,op,ty,p,af,g⟩=true)(ha:Xx X h (YI fr) ⟨some d,op,ty,p,af,g⟩=some (.val v,.none))(k:WX X n wm rd ops sf (m+1) h l (Tr.set fr d v) Q):
 WX X n wm rd ops sf m h (⟨some d,op,ty,p,af,g⟩::l) fr Q:=WX.w hg hd ha k hM
def WX.gv2{Q:Fr->H->Prop}{d:Nat}{op:Op}{c:Z}{v:N}(hg:Zi ops ⟨some d,op,ty,p,af,g⟩ fr c)(hd:Nat.blt d n=true)(hM:okM ops sf m ⟨some d,op,ty,p,af,g⟩=true)(ha:c=true->Xx X h (YI fr) ⟨some d,op,ty,p,af,g⟩=some (.val v,.none))(k:WX X n wm rd ops sf (m+1) h l (Tr.set fr d (cond c v undef)) Q):
 WX X n wm rd ops sf m h (⟨some d,op,ty,p,af,g⟩::l) fr Q:=WX.gv hg hd ha k hM
end
structure Kp(q:Prop):Prop where
 out:q
def E0{p:Prop}(h:p:=by(focus (repeat (first|with_reducible exact fh | ((with_reducible apply YU);exact rfl) | ((with_reducible apply Yt);exact rfl) | ((with_reducible apply Z9);exact rfl) | ((with_reducible apply Zj);exact rfl) | with_reducible assumption));first|done|fail)):p:=h
def lk{p:Prop}(h:p:=by(first|exact UO rfl | (apply Zk;exact E0;(first|exact ia rfl|assumption)) | (apply ZO6;exact E0;(first|exact ia rfl|assumption);assumption) | fail)):p:=h
def pk{p:Prop}(h:p:=by
 (first|exact k0|exact k1|exact k2|exact k3|exact k4|exact k5|exact k6|exact k7 | (repeat (first|exact k7|apply Pk.s)))
 done):p:=h
def ce{p:Prop}(h:p:=by
 (focus (first | (simp only[Zvq,ZrZ,ZpP,Zvo,Zvp,Zvr,Zng,cells_func,ZkF,ZjP,ZpQ];exact rfl) | exact rfl))
 done):p:=h
def gi{p:Prop}(h:p:=by(first | (apply Zi.yes rfl rfl rfl;exact E0) | (apply Zi.no rfl rfl rfl;exact E0) | (apply Zi.ZNc rfl rfl rfl;exact E0) | (apply Zi.no2 rfl rfl rfl;exact E0) | fail)):p:=h
section
variable{X:Ctx}{n wm:Nat}{rd:O Nat}{Q:XX->Fs->Prop}
def cn{c:GV}{a b:Code}{t:Z}{fr:Fr}{ds:U V2}{h:H}{α:Type}{x y r:α}(hL:(bif t then x else y)=r)(h1:t=true->x=r->WC X n wm rd a ⟨fr,ds,h,none⟩ Q)(h2:t=false->y=r->WC X n wm rd b ⟨fr,ds,h,none⟩ Q)(hc:YI fr c=some (.bool t):=by exact lk):WC X n wm rd (.cond c a b) ⟨fr,ds,h,none⟩ Q:=
 WC.UJ hc (fun e=>h1 e (Xe e hL)) (fun e=>h2 e (Xf e hL))
def rt{fn:Func}{fr:Fr}{h h0:H}{T:Nat->Prop}{G G':U (Ast wm)}{wr:O Nat}{t:Tmp}{β:Type}{x r:β}{g:β->N}(hL:some x=some r)(hT:T=QI G)(hS:Sp wm T h0 G' h)(hr:fn.results.toList=[.tmp t]:=by exact rfl)(hv:YI fr (.tmp t)=some (g x):=by exact lk):
 Y6 X fn (fun e h'=>∃v,e=.ret v/\CP (fun v Gb=>v=g r/\Gb=[]) G h0 v h') .ret ⟨fr,[],h,wr⟩:=by
 cases hL;exact Y6.JQ hr (ZC hv Zm) ⟨_,⟨rfl,rfl⟩,hT▸hS.only .n⟩
def bg{f:GX}{fn:Func}{c:Code}{args:U N}{n:Nat}{K:N->U (Ast wm)->Prop}{G:U (Ast wm)}{h:H}{fr:Fr}(hnt:fn.ntmps=n)(Zx:wm<=h.size)(hO:Yh G h)
 (k:∀T,T=QI (wm:=wm) G->Sp wm T h G h->WC X n wm none c ⟨fr,[],h,none⟩ (Y6 X fn (fun e h'=>∃v,e=.ret v/\CP K G h v h'))) (hf:X.fns.get f=some fn:=by kernel_rfl) (hb:fn.body=some c:=by exact rfl) (hn:args.length<=n:=by simp)
 (hfr:X4 args 0 .nil=fr:=by(simp only[Zn,Zw,Nat.reduceAdd];exact rfl)):WR X f args.toArray wm h (CP K G h):=by
 subst hfr;exact WF.begin hf hb hnt hn (k _ rfl (Sp.start Zx hO))
end
def lks{p:Prop}(h:p:=by
 repeat (first|exact Zd | (apply Zb;(focus exact lk;done)))
 done):p:=h
def X9{p:Prop}(h:p:=by
 repeat (first|with_reducible exact fh | ((with_reducible apply YU);exact rfl) | ((with_reducible apply Yt);exact rfl) | ((with_reducible apply Z9);exact rfl) | ((with_reducible apply Zj);exact rfl) | with_reducible assumption|refine⟨?_,?_⟩)
 done):p:=h
theorem r1{p q:Prop}(k:q)(h:Kp q->p:=by
 intro k
 first
 | refine WO.nil ?_
 | refine ZH.Yf ?_
 | refine WC.seq ?_
 | refine WC.region ?_
 | ((first|apply WO.w gN rfl | (apply WO.gv;exact gi;rfl;intro hg) | (apply WX.w2 gN;rfl;rfl) | (apply WX.gv2;exact gi;rfl;rfl;intro hg));(focus (first
   | ((with_reducible apply ZW);exact lk)
   | ((with_reducible apply ZPD);exact lk;assumption;exact pk;rfl)
   | ((with_reducible apply ZMe);exact lk)
   | ((with_reducible apply Z5);exact lk)
   | ((with_reducible apply YW);exact lk;exact lk;(first|with_reducible exact Kn|with_reducible exact Zfv|with_reducible exact Zfu|with_reducible exact Zz3|with_reducible exact ZvH|with_reducible exact Zz5|with_reducible exact Zz6|with_reducible exact Zj5|with_reducible exact ZvO|with_reducible exact ZvP ZIv.out|with_reducible exact ZvK ZIv.out))
   | ((with_reducible apply ZMc);exact lk;assumption;exact pk;rfl;(focus simp only[Nat.zero_add,Nat.reduceAdd,List.drop_succ_cons,List.drop_zero,List.take_succ_cons,List.take_zero,List.take_nil];rfl))
   | ((with_reducible apply ZMa);exact lk)
   | ((with_reducible apply ZMd);exact lk;exact lk;(focus (exact rfl));assumption;assumption)
   | ((with_reducible apply ZMb);exact lk;(focus (first|assumption | (apply At.fz;(focus (apply Sp.fz;assumption));assumption;assumption));done);(focus (first|exact(Nat.add_zero _).symm|exact rfl);done);rfl)
   | ((with_reducible apply Xj);exact lk;rfl)
   | ((with_reducible apply Zce);exact lk)
   | ((with_reducible apply ZjZ);exact lk)
   | ((with_reducible apply Znn);exact lk;(focus (apply Zzj;exact E0);done);exact lk)
   | ((with_reducible apply ZMi);exact lk;exact lk;(apply Zzj;exact E0))
   | fail)))
 | (apply WO.hu gN;(focus (first | (((with_reducible apply ZPC));exact lk;assumption;exact pk;exact lk;exact ce;exact rfl;exact rfl;exact rfl;(focus simp only[splice,List.take_succ_cons,List.take_zero,List.drop_succ_cons,List.drop_zero,List.cons_append,List.nil_append,List.append_nil,List.length_cons,List.length_nil,Nat.reduceAdd,Nat.zero_add,List.take_nil,List.drop_nil];exact rfl)) | fail)))
 | (apply WO.hn gN rfl;(focus (first | (((with_reducible apply ZMf));exact lk;assumption;exact ce) | (((with_reducible apply ZMg));assumption;exact ce) | fail)))
 | refine WC.skip ?_
 | refine WC.ret ?_
 | refine WC.block ?_
 | refine WC.exit ?_
 | refine ZH.ret ?_
 | refine ZH.exit ?_
 | refine Yu.ret ?_
 | refine Yu.Yf ?_
 | refine Yu.here ?_
 | refine ZV.exit ?_
 | refine ZV.ret ?_
 | refine WX.nil ?_
 | fail
 exact k.out):p:=h ⟨k⟩
theorem r2{p q:Prop}(k:q)(h:Kp q->p:=by
 intro k
 iterate 2 (refine r1 ?_)
 exact k.out):p:=h ⟨k⟩
theorem r3{p q:Prop}(k:q)(h:Kp q->p:=by
 intro k
 iterate 3 (refine r1 ?_)
 exact k.out):p:=h ⟨k⟩
theorem r4{p q:Prop}(k:q)(h:Kp q->p:=by
 intro k
 iterate 4 (refine r1 ?_)
 exact k.out):p:=h ⟨k⟩
theorem r5{p q:Prop}(k:q)(h:Kp q->p:=by
 intro k
 iterate 5 (refine r1 ?_)
 exact k.out):p:=h ⟨k⟩
theorem r6{p q:Prop}(k:q)(h:Kp q->p:=by
 intro k
 iterate 6 (refine r1 ?_)
 exact k.out):p:=h ⟨k⟩
theorem r7{p q:Prop}(k:q)(h:Kp q->p:=by
 intro k
 iterate 7 (refine r1 ?_)
 exact k.out):p:=h ⟨k⟩
theorem r8{p q:Prop}(k:q)(h:Kp q->p:=by
 intro k
 iterate 8 (refine r1 ?_)
 exact k.out):p:=h ⟨k⟩
theorem r9{p q:Prop}(k:q)(h:Kp q->p:=by
 intro k
 iterate 9 (refine r1 ?_)
 exact k.out):p:=h ⟨k⟩
theorem r10{p q:Prop}(k:q)(h:Kp q->p:=by
 intro k
 iterate 10 (refine r1 ?_)
 exact k.out):p:=h ⟨k⟩
theorem KJ{p q:Prop}(k:q)(h:Kp q->p:=by
 intro k
 iterate 11 (refine r1 ?_)
 exact k.out):p:=h ⟨k⟩
theorem r12{p q:Prop}(k:q)(h:Kp q->p:=by
 intro k
 iterate 12 (refine r1 ?_)
 exact k.out):p:=h ⟨k⟩
theorem r13{p q:Prop}(k:q)(h:Kp q->p:=by
 intro k
 iterate 13 (refine r1 ?_)
 exact k.out):p:=h ⟨k⟩
theorem r14{p q:Prop}(k:q)(h:Kp q->p:=by
 intro k
 iterate 14 (refine r1 ?_)
 exact k.out):p:=h ⟨k⟩
theorem r15{p q:Prop}(k:q)(h:Kp q->p:=by
 intro k
 iterate 15 (refine r1 ?_)
 exact k.out):p:=h ⟨k⟩
theorem r16{p q:Prop}(k:q)(h:Kp q->p:=by
 intro k
 iterate 16 (refine r1 ?_)
 exact k.out):p:=h ⟨k⟩
end Go.ZK
end
end
section
set_option maxRecDepth 20000
noncomputable section
namespace Go.Proofs.YtbnepjakjmnadaaGreat
open Go.ZK Go.Lf
section
instance:Wx XX.P 3:=⟨ZIb⟩
instance:Wx XX.P 4:=⟨ZPF⟩
instance:Wx XX.P 9:=⟨Zde⟩
instance:Wx XX.P 22:=⟨Zcj⟩
instance:Wx XX.P 28:=⟨Zt3⟩
instance:Wx XX.P 29:=⟨ZzX⟩
instance:Wx XX.P 30:=⟨Zt2⟩
instance:Wx XX.P 31:=⟨ZlN⟩
instance:Zql XX.P 33:=⟨UK⟩
instance:Wx XX.P 34:=⟨ZMl⟩
instance:Zql XX.P 36:=⟨Ux⟩
instance:Wx XX.P 37:=⟨ZzW⟩
instance:Wx XX.P 70:=⟨Zj3⟩
instance:Wx XX.P 102:=⟨ZIi⟩
instance:Zql XX.P 124:=⟨ZIh⟩
instance:Wx XX.P 127:=⟨Zsg⟩
instance:Wx XX.P 128:=⟨Znt⟩
instance:Zql XX.P 130:=⟨JE⟩
instance:Zql XX.P 136:=⟨Zbg⟩
instance:Wx XX.P 140:=⟨Zd9⟩
instance:Wx XX.P 141:=⟨Zd8⟩
instance:Zql XX.P 159:=⟨ZIg⟩
instance:Wx XX.P 185:=⟨ZIf⟩
instance:Zql XX.P 187:=⟨ZIe⟩
instance:Wx XX.P 194:=⟨ZId⟩
instance:Wx XX.P 195:=⟨ZIc⟩
instance:SzF XX.P 3 1:=⟨Zws⟩
instance:SzF XX.P 4 1:=⟨ZI9⟩
instance:SzF XX.P 5 1:=⟨ZDE⟩
instance:SzF XX.P 9 1:=⟨Kv⟩
instance:SzF XX.P 22 1:=⟨Zh5⟩
instance:SzF XX.P 29 1:=⟨Zl7⟩
instance:SzF XX.P 30 1:=⟨ZFq⟩
instance:SzF XX.P 31 1:=⟨ZqT⟩
instance:SzF XX.P 33 5:=⟨Xp⟩
instance:SzF XX.P 36 4:=⟨Xb⟩
instance:SzF XX.P 37 1:=⟨ZFp⟩
instance:SzF XX.P 70 1:=⟨ZFo⟩
instance:SzF XX.P 78 5:=⟨Zl6⟩
instance:SzF XX.P 88 4:=⟨ZFn⟩
instance:SzF XX.P 102 1:=⟨ZA7⟩
instance:SzF XX.P 124 2:=⟨ZA4⟩
instance:SzF XX.P 128 1:=⟨ZsG⟩
instance:SzF XX.P 130 5:=⟨Yo⟩
instance:SzF XX.P 136 2:=⟨Xn⟩
instance:SzF XX.P 140 1:=⟨WQ⟩
instance:SzF XX.P 141 1:=⟨Zl8⟩
instance:SzF XX.P 147 1:=⟨ZA3⟩
instance:SzF XX.P 159 2:=⟨ZA2⟩
instance:SzF XX.P 166 5:=⟨ZA1⟩
instance:SzF XX.P 185 1:=⟨ZA0⟩
instance:SzF XX.P 187 2:=⟨ZAZ⟩
instance:SzF XX.P 195 1:=⟨ZAY⟩
instance:QJ XX.P 33 0 0:=⟨ZhD⟩
instance:QJ XX.P 33 1 1:=⟨ZCm⟩
instance:QJ XX.P 33 2 2:=⟨Ztm⟩
instance:QJ XX.P 33 3 3:=⟨ZhC⟩
instance:QJ XX.P 33 4 4:=⟨ZhB⟩
instance:QJ XX.P 36 0 0:=⟨ZCl⟩
instance:QJ XX.P 36 1 1:=⟨ZCk⟩
instance:QJ XX.P 36 2 2:=⟨ZCj⟩
instance:QJ XX.P 36 3 3:=⟨ZmM⟩
instance:QJ XX.P 78 0 0:=⟨KW⟩
instance:QJ XX.P 88 0 0:=⟨ZCi⟩
instance:QJ XX.P 104 0 0:=⟨ZyJ⟩
instance:QJ XX.P 104 1 1:=⟨ZyI⟩
instance:QJ XX.P 104 2 2:=⟨ZyH⟩
instance:QJ XX.P 104 3 3:=⟨ZyG⟩
instance:QJ XX.P 104 4 4:=⟨ZyF⟩
instance:QJ XX.P 119 0 0:=⟨ZyC⟩
instance:QJ XX.P 119 1 1:=⟨ZyB⟩
instance:QJ XX.P 119 2 2:=⟨ZyA⟩
instance:QJ XX.P 119 3 3:=⟨Zyz⟩
instance:QJ XX.P 119 4 4:=⟨Zyy⟩
instance:QJ XX.P 124 0 0:=⟨Zyx⟩
instance:QJ XX.P 124 1 1:=⟨Zyw⟩
instance:QJ XX.P 130 0 0:=⟨Zpj⟩
instance:QJ XX.P 130 1 1:=⟨Zyv⟩
instance:QJ XX.P 130 2 2:=⟨ZbZ⟩
instance:QJ XX.P 130 3 3:=⟨Zyu⟩
instance:QJ XX.P 130 4 4:=⟨ZeU⟩
instance:QJ XX.P 136 0 0:=⟨Zpi⟩
instance:QJ XX.P 136 1 1:=⟨ZeT⟩
instance:QJ XX.P 147 0 0:=⟨Zyt⟩
instance:QJ XX.P 159 0 0:=⟨Zys⟩
instance:QJ XX.P 159 1 1:=⟨Zyr⟩
instance:QJ XX.P 166 0 0:=⟨Zpf⟩
instance:Zka XX.P 22 9:=⟨Wy⟩
instance:Zka XX.P 29 36:=⟨Kr⟩
instance:Zka XX.P 30 130:=⟨Um⟩
instance:Zka XX.P 31 33:=⟨Zbj⟩
instance:Zka XX.P 102 3:=⟨ZFj⟩
instance:Zka XX.P 128 136:=⟨Un⟩
instance:Zka XX.P 138 5:=⟨ZqI⟩
instance:Zka XX.P 142 140:=⟨Kt⟩
instance:Zka XX.P 160 30:=⟨ZFh⟩
instance:ZIv XX.P 4:=⟨ZNx⟩
instance:Uy XX.P 3 (.int .i64 0):=⟨ZDt⟩
instance:Uy XX.P 4 (.bool false):=⟨ZgJ⟩
instance:Uy XX.P 5 (.int .u8 0):=⟨ZDs⟩
instance:Uy XX.P 9 (.string ⟨#[]⟩):=⟨ZnO⟩
instance:Uy XX.P 22 (.slice none 0 0):=⟨Zv1⟩
instance:Uy XX.P 30 (.slice none 0 0):=⟨ZER⟩
instance:Uy XX.P 33 (.agg #[.int .i64 0,.string ⟨#[]⟩,.slice none 0 0,.slice none 0 0,.slice none 0 0]):=⟨ZhR⟩
instance:Uy XX.P 36 (.agg #[.int .i64 0,.int .i64 0,.string ⟨#[]⟩,.slice none 0 0]):=⟨ZfI⟩
instance:Uy XX.P 37 (.int .i64 0):=⟨ZEQ⟩
instance:Uy XX.P 70 (.map none):=⟨ZEP⟩
instance:Uy XX.P 78 (.agg #[.int .i64 0,.string ⟨#[]⟩,.slice none 0 0,.slice none 0 0,.slice none 0 0]):=⟨ZaM⟩
instance:Uy XX.P 88 (.agg #[.int .i64 0,.int .i64 0,.string ⟨#[]⟩,.slice none 0 0]):=⟨ZqA⟩
instance:Uy XX.P 104 (.agg #[.slice none 0 0,.slice none 0 0,.slice none 0 0,.slice none 0 0,.bool false]):=⟨ZAN⟩
instance:Uy XX.P 119 (.agg #[.int .i64 0,.string ⟨#[]⟩,.slice none 0 0,.slice none 0 0,.bool false]):=⟨ZAL⟩
instance:Uy XX.P 124 (.agg #[.slice none 0 0,.slice none 0 0]):=⟨ZAK⟩
instance:Uy XX.P 130 (.agg #[.int .i64 0,.string ⟨#[]⟩,.slice none 0 0,.slice none 0 0,.slice none 0 0]):=⟨WK⟩
instance:Uy XX.P 136 (.agg #[.string ⟨#[]⟩,.slice none 0 0]):=⟨Zct⟩
instance:Uy XX.P 140 (.nilIface):=⟨Zek⟩
instance:Uy XX.P 141 (.nilFunc):=⟨ZlU⟩
instance:Uy XX.P 147 (.agg #[.int .i64 0]):=⟨Zsz⟩
instance:Uy XX.P 159 (.agg #[.slice none 0 0,.int .i64 0]):=⟨Zsy⟩
instance:Uy XX.P 166 (.agg #[.int .i64 0,.string ⟨#[]⟩,.slice none 0 0,.slice none 0 0,.slice none 0 0]):=⟨Zsw⟩
instance:Uy XX.P 185 (.map none):=⟨ZAJ⟩
instance:Uy XX.P 187 (.agg #[.int .i64 0,.int .i64 0]):=⟨ZlT⟩
instance:Uy XX.P 195 (.nilFunc):=⟨ZAI⟩
end
section
def ZyX:O (U (Y×Z)):=
 some (YT (YT (YT (YT (YT (YT (YT (YT (YT (YT ([]:(U (Y×Z))) (⟨#[97,110,100]⟩:Y) true) (⟨#[100,101,102]⟩:Y) true) (⟨#[101,108,115,101]⟩:Y) true) (⟨#[103,111]⟩:Y) true) (⟨#[105,102]⟩:Y) true) (⟨#[105,110]⟩:Y) true) (⟨#[112,108,97,99,101]⟩:Y) true) (⟨#[115,116,111,112]⟩:Y) true) (⟨#[116,104,101,110]⟩:Y) true) (⟨#[119,97,116,99,104]⟩:Y) true)
end
section
def ZHl{wm h}{r}(Zx:wm<=h.size)(hL:ZyX=some r):
 WR XX 53 #[] wm h (CP (fun v (Gb:U (Ast wm))=>∃ZDI,v=.map (some ZDI)/\Gb=[mp wm Value.string Value.bool (some ZDI) r]) [] h):=by
 refine bg Tryz.ntmps53 Zx Yh.nil ?_;intro T hT hS;unfold ZyX at hL;refine r7 ?_;refine Va (Zep Value.string Value.bool hS) ?_;rintro _ h1 ⟨b2,eb2,rfl,hS⟩;refine WO.hu gN (Zdj (kv:=Value.string) (vv:=Value.bool) (k:=(⟨#[97,110,100]⟩:Y)) (v:=true) hS k0 Uu Je lk lk lk) ?_;rintro h3 hS;refine WO.hu gN (Zdj (kv:=Value.string) (vv:=Value.bool) (k:=(⟨#[100,101,102]⟩:Y)) (v:=true) hS k0 Uu Je lk lk lk) ?_;rintro h4 hS;refine WO.hu gN (Zdj (kv:=Value.string) (vv:=Value.bool) (k:=(⟨#[101,108,115,101]⟩:Y)) (v:=true) hS k0 Uu Je lk lk lk) ?_;rintro h5 hS;refine WO.hu gN (Zdj (kv:=Value.string) (vv:=Value.bool) (k:=(⟨#[103,111]⟩:Y)) (v:=true) hS k0 Uu Je lk lk lk) ?_;rintro h6 hS;refine WO.hu gN (Zdj (kv:=Value.string) (vv:=Value.bool) (k:=(⟨#[105,102]⟩:Y)) (v:=true) hS k0 Uu Je lk lk lk) ?_;rintro h7 hS;refine WO.hu gN (Zdj (kv:=Value.string) (vv:=Value.bool) (k:=(⟨#[105,110]⟩:Y)) (v:=true) hS k0 Uu Je lk lk lk) ?_;rintro h8 hS;refine WO.hu gN (Zdj (kv:=Value.string) (vv:=Value.bool) (k:=(⟨#[112,108,97,99,101]⟩:Y)) (v:=true) hS k0 Uu Je lk lk lk) ?_;rintro h9 hS;refine WO.hu gN (Zdj (kv:=Value.string) (vv:=Value.bool) (k:=(⟨#[115,116,111,112]⟩:Y)) (v:=true) hS k0 Uu Je lk lk lk) ?_;rintro h10 hS;refine WO.hu gN (Zdj (kv:=Value.string) (vv:=Value.bool) (k:=(⟨#[116,104,101,110]⟩:Y)) (v:=true) hS k0 Uu Je lk lk lk) ?_;rintro h11 hS;refine WO.hu gN (Zdj (kv:=Value.string) (vv:=Value.bool) (k:=(⟨#[119,97,116,99,104]⟩:Y)) (v:=true) hS k0 Uu Je lk lk lk) ?_;rintro h12 hS;refine r5 ?_;have hr:=Oi0 hL;subst hr;exact Y6.JQ rfl (ZC lk Zm) ⟨_,⟨b2,rfl,rfl⟩,hT▸hS.only (.c k0 .n)⟩
end
section
def Zgi(p0:Y):Int->(Int->O Z)->O Z:=fun v5 Zdn=>
 (bif decide (v5<(p0.size:Int)) then(ZkR p0 v5).bind fun z8=>(gd (!(decide (z8<97))) (ZkR p0 v5) default).bind fun z9=>(bif((decide (z8<97))||(decide (z9>122))) then some false else Zdn (XD (v5+1))) else(bif((decide ((p0.size:Int)>0))&&(decide ((p0.size:Int)<=8))) then(ZyX).bind fun x11=>(Zim x11 p0 false).bind fun x15=>some (!x15) else some false))
def Zgj(F:Nat)(p0:Y):O Z:=
 loop F (Zgi p0) 0
def ZmP:Y×Z->O Y:=fun(v12,Zwp)=>
 (bif Zwp then some v12 else some (⟨#[]⟩:Y))
def Zjr(F:Nat)(p0:(U (Y×Z)))(v23:Int)(v25:Y)(ZqM:Z)(Ziy:(Int×Y×Z->O Y)):(U Int)×Int->((U Int)×Int->O Y)->O Y:=fun(v32,v37) ZwW=>
 (bif decide (v37>0) then(ZuE (XD (v37-1)) 26).bind fun x40=>(app 1 [IntKind.wrap .u8 (XD (97+x40))] v32).bind fun z43=>(ZuH (XD (v37-1)) 26).bind fun x47=>ZwW (z43,x47) else(ZFm v32).bind fun z48=>(bif ZqM then none else(Zgj F z48).bind fun x51=>(gd x51 (Zim p0 z48 false) default).bind fun x52=>(bif(x51&&(!x52)) then(bif(!false) then(ZmP) (z48,true) else Ziy (XD (v23+1),z48,true)) else(bif(!true) then(ZmP) (v25,false) else Ziy (XD (v23+1),v25,false)))))
def ZmQ(F:Nat)(p0:(U (Y×Z))):Int×Y×Z->(Int×Y×Z->O Y)->O Y:=fun(v23,v25,ZqM) Ziy=>
 loop F (Zjr F p0 v23 v25 ZqM Ziy) ([],v23)
def ZyW(F:Nat)(p0:(U (Y×Z))):O Y:=
 loop F (ZmQ F p0) (1,(⟨#[]⟩:Y),false)
end
section
def ZHv{F wm h}{p0:Y}{r}(Zx:wm<=h.size)(hL:Zgj F p0=some r):
 WR XX 15 #[.string p0] wm h (CP (fun v (Gb:U (Ast wm))=>v=.bool r/\Gb=[]) [] h):=by
 refine bg Tryz.ntmps15 Zx Yh.nil ?_;intro T hT hS;unfold Zgj at hL;refine r9 ?_;refine V8 (Zgv Zuo lk)<|r4 ?_;refine WC.loop (WL.lift hL (fun v5 s=>∃Xm h1,s=⟨Xm,[],h1,none⟩/\Sp wm T h [] h1/\Xm.at 0=.string p0/\Xm.at 5= V4 (p0.size:Int)/\Xm.at 6= V4 v5) ⟨_,_,rfl,hS.only .n,X9⟩ ?_);rintro Zdn v5 s ZiV hL ⟨Xm,h1,rfl,hS,e3,e4,e6⟩;refine r6 ?_;refine cn hL ?_ ?_
 ·intro hc hL;refine r14 ?_;obtain⟨z8,hz8,hL⟩:=bS hL;refine V8 (ZlK Zuo lk lk hz8)<|r4 ?_;obtain⟨z9,hz9,hL⟩:=Ji hL;refine WO.gv (Zi.no rfl rfl rfl (Z9 rfl fh)) rfl (fun hg=>(ZlK Zuo (Jm (Zj rfl fh) rfl hg) (Jm fh rfl hg) (hz9 hg)))<|r4 ?_;refine cn hL ?_ ?_
  ·intro hc hL;refine KJ ?_;exact rt hL hT hS
  ·intro hc hL;refine r7 ?_;exact ZV.Yf (ZiV _ _ hL ⟨_,_,rfl,hS.only .n,X9⟩)
 ·intro hc hL;refine r8 ?_;refine V8 (Zgv Zuo lk)<|r3 ?_;refine WO.gv (Zi.yes rfl rfl rfl (Zj rfl fh)) rfl (fun hg=>(Zgv Zuo (Jm fh rfl hg)))<|r3 ?_;refine WO.Za1 (Zi.yes rfl rfl rfl fh) (fun hk10=>?_) (fun hk10=>?_)
  ·replace hL:=Xe hk10 hL;obtain⟨x11,ZoP,hL⟩:=bS hL;refine WO.cl (Zi.on (Zi.yes rfl rfl rfl fh) hk10) rfl (Yi.fn ZKB Zd) hS .n (fun g' hz hf hO=>ZHl (hS.Vc hz) ZoP) ?_;rintro _ h13 _ ⟨m12,rfl,rfl⟩ hS;refine WO.w (Zi.on (Zi.yes rfl rfl rfl (Zj rfl fh)) hk10) rfl (ZW lk) ?_;obtain⟨x15,ZiS,hL⟩:=bS hL;refine WO.w (Zi.on (Zi.yes rfl rfl rfl (Z9 rfl fh)) hk10) rfl (Zbb (kv:=Value.string) (vv:=Value.bool) (k:=p0) (z:=false) Uu Je ZgJ (Zk (Zj rfl fh) rfl) (Zk fh rfl) (hS.get k0).at_ ZiS (w:=.bool x15) rfl)<|WO.w (Zi.on (Zi.yes rfl rfl rfl (Z9 rfl (Zj rfl fh))) hk10) rfl (Zce lk)<|V8 (Zba lk hk10 lk)<|r4 ?_;exact rt hL hT hS
  ·replace hL:=Xf hk10 hL;refine WO.Js (Zi.yes rfl rfl rfl fh) hk10 rfl<|WO.Js (Zi.yes rfl rfl rfl (Zj rfl fh)) hk10 rfl<|WO.Js (Zi.yes rfl rfl rfl (Z9 rfl fh)) hk10 rfl<|WO.Js (Zi.yes rfl rfl rfl (Z9 rfl (Zj rfl fh))) hk10 rfl<|V8 (UR lk hk10 lk)<|r4 ?_;exact rt hL hT hS
def Zgh{F h}{p0:Y}{r}(hL:Zgj F p0=some r):Pure XX 15 #[.string p0] h (.bool r):=
 WR.WA rfl (ZHv V7 hL)
def ZHj{F wm h}{p0:(U (Y×Z))}{ZgR:O Nat}{r}(Zx:wm<=h.size)(Zl:Zhq Value.string Value.bool wm h ZgR p0)(hL:ZyW F p0=some r):
 WR XX 54 #[.map ZgR] wm h (CP (fun v (Gb:U (Ast wm))=>v=.string r/\Gb=[]) [] h):=by
 refine WF.Qo (args:=[_]) (fn:=Tryz.f54) Kq0 (by exact rfl) Tryz.ntmps54 (by simp) ?_;simp only[Zn,Zw,Nat.reduceAdd];obtain⟨T,hT,hS⟩:∃T,T=QI (wm:=wm) []/\Sp wm T h [] h:=⟨_,rfl,Sp.start Zx Yh.nil⟩
 unfold ZyW at hL;refine r3 ?_;rintro _ h2 ⟨b1,eb1,rfl,hS⟩;refine r1 ?_;rintro _ h4 ⟨b3,eb3,rfl,hS⟩;refine r4 ?_;refine WC.ZFy (first:=[]) (cap:=[]) hS Zm0 ZKA ?_;intro h5 l6 df7 LO8 Zu0 hS;refine WR.ZFT (r:=r) (fun(p:Y×Z)(v:N)(h10:H)=>match p with | (v12,Zwp)=>v=.tuple #[]/\Sp wm T h [bx wm b1 [.map ZgR],bx wm b3 [.string v12],ob wm l6 (lst Zwp Code.ret LO8),ob wm df7 .deferred] h10) (ZmP) ?_ (WF.begin (args:=[_]) (fn:=Tryz.f99) Kq0 (by exact rfl) Tryz.ntmps99 (by simp) ?_)
 ·rintro⟨v12,Zwp⟩ v h10 hL ⟨rfl,hS⟩;rcases Zr1 Zwp with hc|hc
  ·replace hL:=Xe hc hL;rw[hc]at hS;refine RgS.stop (c:=Code.ret) Zu0 hS k2 ?_;rintro h15 hS;refine r3 ?_;refine ZO.Zfj hS k2 ?_;rintro h16 hS;have hr:=Oi0 hL;subst hr;exact ZO.gen rfl (Xa fh (Km Zde (hS.J6 k1) (j:=0) rfl (v:=.string v12) rfl) Zm) rfl ⟨_,⟨rfl,rfl⟩,hT▸hS.only .n⟩
  ·replace hL:=Xf hc hL;rw[hc]at hS;refine RgS.sp Zu0 hS k2 ?_;rintro h17 hS;refine r5 ?_;rintro h18 hS;refine r3 ?_;refine ZO.Zfj hS k2 ?_;rintro h19 hS;have hr:=Oi0 hL;subst hr;exact ZO.gen rfl (Xa fh (Km Zde (hS.J6 k0) (j:=0) rfl (v:=.string (⟨#[]⟩:Y)) rfl) Zm) rfl ⟨_,⟨rfl,rfl⟩,hT▸hS.only .n⟩
 ·skip;simp only[Zn,Zw,Nat.reduceAdd];refine r6 ?_;refine WC.loop (WL.lift hL (fun p s=>match p with | (v23,v25,ZqM)=>∃ZCg h20,s=⟨ZCg,[],h20,none⟩/\Sp wm T h [bx wm b1 [.map ZgR],bx wm b3 [.string v25],ob wm l6 (lst ZqM Code.ret LO8),ob wm df7 .deferred] h20/\ZCg.at 0=.func (.yield l6) #[] #[]/\ZCg.at 2= V4 v23) ⟨_,_,rfl,hS.only (.c k3 (.c k2 (.c k0 (.c k0 .n)))),X9⟩ ?_);rintro Ziy ⟨v23,v25,ZqM⟩ s Ztc hL ⟨ZCg,h20,rfl,hS,e22,e24⟩;refine r15 ?_;have hS:=hS.nil (e:=(Zif .u8));refine WC.loop (WL.lift hL (fun p s=>match p with | (v32,v37)=>∃Zu7 h28 a33 c34 n35,s=⟨Zu7,[],h28,none⟩/\Sp wm T h [ow wm (Zif .u8) a33 n35 c34 v32,bx wm b1 [.map ZgR],bx wm b3 [.string v25],ob wm l6 (lst ZqM Code.ret LO8),ob wm df7 .deferred] h28/\Zu7.at 0=.func (.yield l6) #[] #[]/\Zu7.at 2= V4 v23/\Zu7.at 3=.slice a33 n35 c34/\Zu7.at 4= V4 v37) ⟨_,_,none,0,0,rfl,hS.only (.c k0 (.c k0 (.c k0 (.c k0 (.c k0 .n))))),X9⟩ ?_);rintro ZwW ⟨v32,v37⟩ s ZBT hL ⟨Zu7,h28,a33,c34,n35,rfl,hS,e30,e31,e36,e38⟩;obtain rfl:=hS.on k0;refine r7 ?_;refine cn hL ?_ ?_
  ·intro hc hL;refine r7 ?_;obtain⟨x40,ZBF,hL⟩:=bS hL;refine V8 (YW (Zk fh rfl) (UO rfl) (ZvI ZBF))<|r1 ?_;refine V8 (ZH8 ZNy ZI1 lk)<|Va (Zam (e:=(Zif .u8)) hS ZqI ZDE ZDs rfl rfl rfl (ZG lk Ya) rfl [((),IntKind.wrap .u8 (XD (97+x40)))] rfl (xs:=[IntKind.wrap .u8 (XD (97+x40))]) rfl (by intro q hq;simp only[Kx,Gi,or_false]at hq;subst hq;exact trivial) rfl) ?_;rintro _ h42 ⟨b41,ZTU,rfl,hS⟩;refine r1 ?_;obtain⟨z43,ZNZ,hL⟩:=bS hL;refine WO.hv gN rfl (Zan (e:=(Zif .u8)) hS k0 Zsa lk lk (hS.UN k1) rfl ZNZ) ?_;rintro _ h46 ⟨a44,c45,rfl,hS⟩;refine r7 ?_;obtain⟨x47,ZN9,hL⟩:=bS hL;refine V8 (YW (Zk fh rfl) (UO rfl) (ZvJ ZN9))<|r2 ?_;exact ZV.Yf (ZBT _ _ hL ⟨_,_,a44,c45,z43.length,rfl,hS.only (.c k0 (.c k1 (.c k1 (.c k1 (.c k1 .n))))),X9⟩)
  ·intro hc hL;refine r9 ?_;obtain⟨z48,ZNY,hL⟩:=bS hL;refine V8 (Zvy ZqI ZI1 Zuo lk rfl (hS.UN k0) ZNY) ?_;obtain⟨ZOw,hL⟩:=ZCX hL;rw[ZOw]at hS;refine WO.ZNa gN rfl lk lks hS k3 Zu0 rfl rfl<|r3 ?_;refine AsS.sp Zu0 hS k3 ?_;rintro h50 hS;refine r4 ?_;obtain⟨x51,ZoM,hL⟩:=bS hL;refine WO.cp gN rfl (Yi.fn Zlk (Zb lk Zd)) (Zgh ZoM)<|r3 ?_;obtain⟨x52,Zxm,hL⟩:=Ji hL;refine WO.gv (Zi.yes rfl rfl rfl (Z9 rfl fh)) rfl (fun hg=>(Zbb (kv:=Value.string) (vv:=Value.bool) (k:=z48) (z:=false) Uu Je ZgJ (Jm (Zj rfl fh) rfl hg) (Jm fh rfl hg) (hS.ms Zl).at_ (Zxm hg) (w:=.bool x52) rfl))<|r4 ?_;refine cn hL ?_ ?_
   ·intro hc hL;refine r4 ?_;rintro h53 hS;refine r4 ?_;refine BdS.stop .ret Zu0 hS k1 ?_;rintro h54 hS;refine r3 ?_;refine cn hL ?_ ?_
    ·intro hc hL;refine r5 ?_;exact Y6.gen (vs:=[]) rfl Zm rfl ⟨_,hL,⟨rfl,hS.only (.c k3 (.c k1 (.c k0 (.c k1 .n))))⟩⟩
    ·intro hc hL;refine r8 ?_;exact ZV.Yf (Ztc _ _ hL ⟨_,_,rfl,hS.only (.c k3 (.c k1 (.c k0 (.c k1 .n)))),X9⟩)
   ·intro hc hL;refine r2 ?_;refine BdS.sp Zu0 hS k0 ?_;rintro h55 hS;refine r3 ?_;refine cn hL ?_ ?_
    ·intro hc hL;refine r5 ?_;exact Y6.gen (vs:=[]) rfl Zm rfl ⟨_,hL,⟨rfl,hS.only (.c k2 (.c k2 (.c k0 (.c k1 .n))))⟩⟩
    ·intro hc hL;refine r8 ?_;exact ZV.Yf (Ztc _ _ hL ⟨_,_,rfl,hS.only (.c k2 (.c k2 (.c k0 (.c k1 .n)))),X9⟩)
def ZHk{F h}{p0:(U (Y×Z))}{ZgR:O Nat}{r}(Zl:Zhq Value.string Value.bool h.size h ZgR p0)(hL:ZyW F p0=some r):Pure XX 54 #[.map ZgR] h (.string r):=
 WR.WA rfl (ZHj V7 Zl hL)
end
section
end
section
end
section
open Go.ZK Go.RowKit
def Zae(fn:Func):Code:=fn.body.getD .skip
def UH:Nat->Code->Code
 | 0,c=>c
 | k+1,.seq _ b=>UH k b
 | _+1,c=>c
def Zh7(ih:Ql->O YL)(n:Nat):Nat->Code->Fs->O Fs
 | 0,_,s=>some s
 | k+1,.seq a b,s=>match ih (.code a n 0 none s) with
   | some (.code .normal s1)=>Zh7 ih n k b s1
   | _=>none
 | _+1,_,_=>none
def Zhb:Nat->Fr
 | 0=>.nil
 | n+1=>Tr.set (Zhb n) n Znr
def ZDb(n:Nat):Fs:= {fr:=Zhb n,ds:=[],h:=⟨.nil,0⟩}
def Zp7(n t:Nat):(Zhb n).at t=if t<n then Znr else undef:=by
 induction n with
 | zero=>rfl
 | succ n ih=>
   unfold Fr.at at ih ⊢;rw[Zhb,Tr.XE];by_cases h:t=n
   ·subst h;simp
   ·rw[if_neg h,ih];by_cases h2:t<n
    ·rw[if_pos h2,if_pos V6]
    ·rw[if_neg h2,if_neg V6]
def ZzR{n:Nat}{a:Act}{w:GY}(h1:a.tmps.size=n)(h2:a.defers=[]):Inv Zou n (ZDb n) a w:=by
 refine⟨⟨fun _ _ _ e=>(by cases e),fun _ _ _ e=>(by cases e),fun _ _ _ _ _ e=>(by cases e)⟩,⟨h1,fun t ht=>?_⟩,?_⟩
 ·have e:(ZDb n).fr.at t=if t<n then Znr else undef:=Zp7 n t
  rw[e]at ht ⊢;by_cases h:t<n
  ·rw[if_pos h]at ht;cases ht
  ·rw[if_neg h,Q2,Array.getElem?_eq_none V6];exact VR.undef _
 ·rw[h2];exact .nil
variable{X:Ctx}{k:Nat}
def Zmb{ih:Ql->O YL}(HI:∀j r,ih j=some r->Ym X j r){n:Nat}{Q:Exit->Act->GY->Prop}:∀(m:Nat)(c:Code)(s s':Fs),Zh7 ih n m c s=some s'->∀(ρ:Ren)(a:Act)(w:GY),Inv ρ n s a w ->
 (∀ρ' a' w',Inv ρ' n s' a' w'->Stp 0 ρ s.h w ρ' s'.h w'->(UH m c).wpIn base 0 X.P Q a' w')->c.wpIn base 0 X.P Q a w:=by
 intro m
 induction m with
 | zero=>intro c s s' h ρ a w hi hk;cases h;exact hk ρ a w hi (Stp.refl _ _ _ _)
 | succ m ihm=>
   intro c s s' h ρ a w hi hk;cases c with
   | seq x y=>
     simp only[Zh7]at h;split at h
     ·rename_i s1 h1;refine wpIn_seq (wpIn_mono (HI _ _ h1 ρ a w base (GE _) hi rfl) ?_);rintro e' a' w' ⟨ρ',he,hi',hst⟩;cases he;exact ihm y s1 s' h ρ' a' w' hi' fun ρ2 a2 w2 hi2 Zc9=>hk ρ2 a2 w2 hi2 (hst.trans hi.rel.lt Zc9)
     ·cases h
   | _=>cases h
def Zuw{ρ ρ':Ren}{h':H}{w w':GY}{h:H}(hρ:ρ=Zou)(st:Stp 0 ρ h w ρ' h' w'):Below w.heap.size w w':=by
 subst hρ;exact st.below fun i b d _ e=>by cases e
end
section
open Go.ZK Go.RowKit
def mkS(n:Nat)(fv:U (Nat×N))(ov:U (Nat×YR))(sz:Nat):Fs:=
 {fr:=fv.foldr (fun p f=>Tr.set f p.1 p.2) (Zhb n),ds:=[],h:=⟨ov.foldr (fun p t=>Tr.set t p.1 p.2) .nil,sz⟩}
def Zol(n:Nat)(K O':U Nat)(s:Fs):Fs:=mkS n (K.map fun t=>(t,s.fr.at t)) (O'.map fun i=>(i,s.h.at i)) s.h.size
def QX(ih:Ql->O YL)(n:Nat)(K O':U Nat)(m:Nat)(c:Code)(s:Fs):O Fs:=
 match Zh7 ih n m c s with
 | some s1=>match s1.ds with
   | []=>some (Zol n K O' s1)
   | _::_=>none
 | none=>none
def Zkm{ih:Ql->O YL}{n m:Nat}{K O':U Nat}{c:Code}{s s':Fs}(h:QX ih n K O' m c s=some s'):∃s1,Zh7 ih n m c s=some s1/\s1.ds=[]/\s'=Zol n K O' s1:=by
 unfold QX at h;split at h
 ·rename_i s1 h1;split at h
  ·rename_i h2;cases h;exact⟨s1,h1,h2,rfl⟩
  ·cases h
 ·cases h
def Zpd{α:Type}(g:Nat->α)(t0:Tr α):∀(K:U Nat)(t:Nat),((K.map fun t=>(t,g t)).foldr (fun p f=>Tr.set f p.1 p.2) t0).get t=if t∈K then some (g t) else t0.get t:=by
 intro K
 induction K with
 | nil=>intro t;simp
 | cons k K ih=>
   intro t;simp only[G8,List.foldr_cons,Tr.XE,ih];by_cases h:t=k
   ·subst h;simp
   ·simp[h]
def ZwG{ρ:Ren}{n:Nat}{K O':U Nat}{s:Fs}{a:Act}{w:GY}(hi:Inv ρ n s a w)(hd:s.ds=[]):Inv ρ n (Zol n K O' s) a w:=by
 have hat:∀i,(Zol n K O' s).h.at i=if i∈O' then s.h.at i else .dead:=by
  intro i;show H.at ⟨_,s.h.size⟩ i=_;by_cases hlt:i<s.h.size
  ·have hb:Nat.blt i s.h.size=true:=by rw[G0];exact hlt
   have hf:=Zpd (fun i=>s.h.at i) Tr.nil O' i;show(bif Nat.blt i s.h.size then(Tr.get (List.foldr _ Tr.nil (O'.map fun i=>(i,s.h.at i))) i).getD YR.dead else YR.dead)=_;rw[hb,Cq1,hf];by_cases ho:i∈O'
   ·rw[if_pos ho,if_pos ho];rfl
   ·rw[if_neg ho,if_neg ho];rfl
  ·have hb:Nat.blt i s.h.size=false:=by rw[Gg];intro z;rw[G0]at z;omega
   rw[H.ZaF (h:=s.h) V6];simp[H.at,hb]
 refine⟨⟨hi.rel.dom,fun i b d e=>?_,fun i j b d d' e e' ho hl=>?_⟩,⟨hi.fr.size,fun t ht=>?_⟩,?_⟩
 ·rw[hat];split
  ·exact hi.rel.obj i b d e
  ·trivial
 ·rw[hat]at ho hl;split at ho
  ·split at hl
   ·exact hi.rel.inj i j b d d' e e' ho hl
   ·cases hl
  ·cases ho
 ·have e:(Zol n K O' s).fr.at t=if t∈K then s.fr.at t else(Zhb n).at t:=by
   have hf:=Zpd (fun t=>s.fr.at t) (Zhb n) K t;show(Tr.get (List.foldr _ (Zhb n) (K.map fun t=>(t,s.fr.at t))) t).getD undef=_;rw[hf];split<;>rfl
  rw[e]at ht ⊢;split at ht
  ·rw[if_pos (by assumption)];exact hi.fr.val t ht
  ·rename_i hn;rw[if_neg hn];rw[Zp7]at ht ⊢;by_cases h:t<n
   ·rw[if_pos h]at ht;cases ht
   ·have:=hi.fr.size;rw[if_neg h,Q2,Array.getElem?_eq_none V6];exact VR.undef _
 ·have h:=hi.ds;rw[hd]at h;exact h
variable{X:Ctx}
inductive Wi(X:Ctx)(fn:Func):Code->Fs->Prop
 | last {c:Code} {s:Fs} {k:Nat} (h:isTrue (Zfk (fun e s=>match xPM e with
    | some pm=>ev (cfg X fun _=>false) k (.leave fn 0 pm s)
    | none=>none) (ev (cfg X fun _=>false) k (.code c fn.ntmps 0 none s)))=true):Wi X fn c s
 | seg {c:Code} {s s':Fs} {k:Nat} (m:Nat) (K O':List Nat) (h:QX (ev (cfg X fun _=>false) k) fn.ntmps K O' m c s=some s') (t:Wi X fn (UH m c) s'):Wi X fn c s
def Zus(m:Nat):∀(k:Nat)(c:Code),UH m (UH k c)=UH (k+m) c:=by
 intro k
 induction k with
 | zero=>intro c;rw[JT];rfl
 | succ k ih=>
   intro c;rw[Nat.add_right_comm];cases c with
   | seq a b=>exact ih b
   | _=>cases m<;>rfl
def Wi.Zn8{fn:Func}{body:Code}{s s':Fs}{k pos:Nat}(m:Nat){K O':U Nat}(h:QX (ev (cfg X fun _=>false) k) fn.ntmps K O' m (UH pos body) s=some s')(t:Wi X fn (UH (pos+m) body) s'):Wi X fn (UH pos body) s:=
 .seg m K O' h (by rw[Zus];exact t)
def Zwm{ρ ρ':Ren}{w w':GY}{h' h2:H}(st:Stp 0 ρ ⟨.nil,0⟩ w ρ' h' w')(hs:h2.size=h'.size):Stp 0 ρ ⟨.nil,0⟩ w ρ' h2 w':=
 ⟨st.ext,by rw[hs];exact st.size,fun i hi=>absurd hi (Nat.not_lt_zero _),fun i hi=>absurd hi (Nat.not_lt_zero _),fun i hi=>absurd hi (Nat.not_lt_zero _),st.os,st.tape,st.output,st.Xc,st.frame,st.JH⟩
def Wi.sound{fn:Func}(hm:X.P.follows .mixedOrders=true){c:Code}{s:Fs}(h:Wi X fn c s):∀(ρ:Ren)(a:Act)(w w0:GY),Inv ρ fn.ntmps s a w->Stp 0 Zou ⟨.nil,0⟩ w0 ρ s.h w ->
 c.wpIn base 0 X.P (bodyPostM base 0 X.P fn (fun e w'=>e=.returned (.bool true)/\Below w0.heap.size w0 w')) a w:=by
 have hd0:∀i p,Zou i=some p->i<(⟨.nil,0⟩:H).size:=fun i p e=>by cases e
 induction h with
 | last h=>
   intro ρ a w w0 hi Zrk;rename_i s k;obtain⟨h',hc⟩:=ZoK h;obtain⟨e,s1,ha,hk⟩:=QR hc;have ka:=Zcw (X:=X) (YS:=fun _=>false) hm k _ _ ha;split at hk
   ·rename_i pm hpm;have hj:=Zcw (X:=X) (YS:=fun _=>false) hm k _ _ hk;refine wpIn_mono (ka ρ a w base (GE _) hi rfl) ?_;rintro e' a' w' ⟨ρ',he,hi',hst⟩
    have fin:∀e2 w2,Uz 0 ρ' s1.h w' (.ret (.bool true)) h' e2 w2->e2=.returned (.bool true)/\Below w0.heap.size w0 w2:=by
     rintro e2 w2 ⟨ρ2,hr,hrel,Zc9⟩;have hbb:=Zuw rfl ((Zrk.trans hd0 hst).trans hd0 Zc9);refine⟨?_,hbb⟩;cases hr with
     | ret hv=>cases hv;rfl
    cases he with
    | normal=>cases hpm;exact hj ρ' _ a' .returning w' _ (GE _) hi' .ret fin
    | ret=>cases hpm;exact hj ρ' _ a' .returning w' _ (GE _) hi' .ret fin
    | panic hv'=>cases hpm;exact hj ρ' _ a' _ w' _ (GE _) hi' (.Z6 hv') fin
    | exit id=>cases hpm
    | goto l=>cases hpm
   ·cases hk
 | seg m K O' h t iht=>
   intro ρ a w w0 hi Zrk;rename_i c s s' k;obtain⟨s1,h1,h2,rfl⟩:=Zkm h;refine Zmb (Zcw (X:=X) (YS:=fun _=>false) hm k) m c s s1 h1 ρ a w hi fun ρ' a' w' hi' hst=>?_
   exact iht ρ' a' w' w0 (ZwG hi' h2) (Zwm (Zrk.trans hd0 hst) rfl)
def ZrU(X:Ctx)(hX:X.P=Tryz.prog){f:GX}(hlt:f<nfs){fn:Func}{c:Code}(hf:Tryz.prog.funcs[f]? =some fn)(hb:fn.body=some c)(h:Wi X fn c (ZDb fn.ntmps))(w:GY):
 CallsIn base 0 Tryz.prog f #[] w fun e w'=>e=.returned (.bool true)/\Below w.heap.size w w':=by
 rw[<-hX]at hf ⊢;refine(callsIn_of_wp_marks hf hb hlt (h.sound (by rw[hX];exact mixed) Zou _ w w (ZzR ?_ rfl) (Stp.refl _ _ _ _)) ?_)
 ·simp
 ·rfl
end
end Go.Proofs.YtbnepjakjmnadaaGreat
end
end
