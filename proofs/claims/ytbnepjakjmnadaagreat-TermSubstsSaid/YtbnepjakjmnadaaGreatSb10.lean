/- Part 10. -/
import Derived.Laws.Strings
import Derived.Test.YtbnepjakjmnadaaGreatSb9
set_option linter.all false
set_option maxHeartbeats 2000000
section
noncomputable section
namespace Go.ZU
open Go.Lf
section
variable{X:Ctx}{P:V2}{h:H}{ev:V0->O N}{d:O Tmp}{ty:J}{p:String}{af:V5 Edge}{g:O (Nat×Z)}
def U2{x:V0}{t:J}{s:Y}(hu:X.P.underlying t=some .string)(l:ev x=some (.string s)):
 XM X h ev ⟨d,.call {callee:=.builtin .len,args:=#[x],argTypes:=#[t]},ty,p,af,g⟩=some (.val (V9 (s.size:Int)),.none):=by
 have he:evs ev [x]=some [.string s]:=Zb l Zd;rw[U4];show(match evs ev [x] with|some args=>Uv X.P h .len #[t] ty args|none=>none)=_;rw[he];show vN (Zve X.P h t (.string s))=_;unfold Zve;rw[hu];rfl
def Zez{x y:V0}{t:J}{s:Y}{i z:Int}(hu:X.P.underlying t=some .string)(r:ev x=some (.string s))(q:ev y=some (V9 i))(l:ZiG s i=some z):
 XM X h ev ⟨d,.index t x y,ty,p,af,g⟩=some (.val (.int .u8 z),.none):=by
 show(match ev x,ev y with|some x,some i=>bif plain x&&plain i then pN (Kr X.P (Instr.index t x i)) else vN (Zj0 X.P t x i)|_,_=>none)=_;rw[r,q];show pN (Kr X.P (Instr.index t (.string s) (V9 i)))=_
 have:ZF X.P (Instr.index t (.string s) (V9 i))=some (.ok (.int .u8 z)):=by
  unfold Instr.index;show ZF X.P (underlying t >>=_)=_;rw[prb (YW hu)];unfold ZiG at l;dsimp only;generalize (if 0<=i then s[i.toNat]? else none)=o at l ⊢;cases o with|some b=>cases l;rfl|none=>cases l
 unfold Kr;rw[this];rfl
def ZJC(a b:Y):(a.toList==b.toList)=decide (a=b):=by rw[Gt,decide_eq_true_iff,beq_iff_eq,ByteArray.toList_eq,ByteArray.toList_eq];exact⟨fun e=>by cases a;cases b;simp at e;simp[e],fun e=>by rw[e]⟩
def Zmp{h:BinOp}{t:J}{x y:V0}{a b:Y}{r:Z}(q:Op.stringOp h a b=pure (.bool r))(l:h=.eql\/h=.neq\/h=.lss):X9 P h t x y (.string a) (.string b)=some (.val (.bool r),.none):=by
 have p:(plain (.string a)&&plain (.string b))=true:=rfl;unfold X9;rw[p,Cq1]
 have B:binOp h t (.string a) (.string b)=pure (.bool r):=by
  rcases l with rfl|rfl|rfl<;>exact q
 have A:(do eqGuard h t x y (.string a) (.string b);binOp h t (.string a) (.string b):Sem N)=pure (.bool r):=by
  rw[B];rcases l with rfl|rfl|rfl<;>rfl
 rw[A];rfl
def XL{t:J}{x y:V0}{a b:Y}:X9 P .eql t x y (.string a) (.string b)=some (.val (.bool (decide (a=b))),.none):=Zmp (by rw[<-ZJC];rfl) (.inl rfl)
def UJ{t:J}{x y:V0}{a b:Y}:X9 P .neq t x y (.string a) (.string b)=some (.val (.bool (!decide (a=b))),.none):=Zmp (by rw[<-ZJC];rfl) (.inr (.inl rfl))
def Zvj{t:J}{x y:V0}{a b:Y}:X9 P .lss t x y (.string a) (.string b)=some (.val (.bool (ZeT a b)),.none):=Zmp (by unfold ZeT;rw[<-ByteArray.toList_eq,<-ByteArray.toList_eq];rfl) (.inr (.inr rfl))
def Zd2.str{h:J}(hu:P.underlying h=some .string):Zd2 P h Value.string where
 pl:=fun _=>rfl
 ok:=fun e x=>by
  unfold KW;rw[show(10000:Nat)=9999+1 from rfl,ZO6 hu];rfl
 same:=fun x=>by simp[Instr.sameBits,Zjn]
 eq:=fun x y=>by
  have:=ZOP (P:=P) (d:=9999) (a:=x) (b:=y) hu;rw[Zjn]at this;exact this
 kind:=⟨_,hu,.inr fun x y=>by simp only[Instr.sameNow,Zjn]⟩
def bytesOf_map:∀(xs:U Int),bytesOf (xs.map (Value.int .u8))=some (xs.map fun n=>UInt8.ofNat n.toNat):=by
 intro xs
 induction xs with|nil=>rfl|cons x xs ih=>
   show(match bytesOf (xs.map (Value.int .u8)) with|some l=>some (UInt8.ofNat x.toNat::l)|none=>none)=_;rw[ih];rfl
def Jg.ints{k:IntKind}{V:Nat}{cs:U N}{o:Nat}{xs:U Int}(e:Jg (Qh k) V h cs o xs):(cs.drop o).take xs.length=xs.map (Value.int k):=by
 have p:=e.len;have p:o+xs.length*1<=cs.length:=p;apply GL;intro j;by_cases l:j<xs.length
 .have⟨q,h1,_⟩:=e.get j _ (Q4 l);have h1:(cs.drop (o+j*1)).take 1=[.int k xs[j]]:=h1
  have h2:(cs.drop (o+j*1))[0]? =some (.int k xs[j]):=by
   rw[<-GB (i:=0) (j:=1) Vb,h1];rfl
  rw[Gz]at h2;rw[GB l,Gz,GN,Q4 l];simpa using h2
 rw[G0 (by simp;omega),G0 (by simp;omega)]
def Zze{s t e:J}{x:V0}{V n:Nat}{a:O Addr}{c:Nat}{xs:U Int}{z:Y}(G:X.P.underlying s=some (.slice e))(he:X.P.underlying e=some (.int .u8))(F:X.P.underlying t=some .string)(E:ev x=some (.slice a n c))(hn:n=xs.length)(D:Src (Qh .u8) V h a c xs)(l:ZLk xs=some z):
 XM X h ev ⟨d,.convert s t x,ty,p,af,g⟩=some (.val (.string z),.none):=by
 subst hn;have r:xs≠[]:=fun e=>by subst e;cases l
 have l:z=⟨(xs.map fun n=>UInt8.ofNat n.toNat).toArray⟩:=by
  cases xs with|nil=>cases l|cons _ _=>cases l;rfl
 subst l;rcases D.mem with L|⟨i,o,cs,own,q,rfl,A,y⟩
 .exact absurd L r
 show(match ev x with|some a=>bif plain a then pN (Kr X.P (convert s t a)) else vN (Ziy X.P h s t a)|none=>none)=_;rw[E];have I:plain (.slice (some ⟨i,o,none⟩) xs.length c)=false:=rfl;dsimp only;rw[I,Cq0];have C:=y.len;have C:o+xs.length*1<=cs.length:=C;have B:0<xs.length:=List.length_pos_iff.2 r
 have K:(Nat.ble 1 xs.length&&Nat.ble (o+xs.length) cs.length)=true:=by
  rw[Ba0,Nat.ble_eq,Nat.ble_eq];omega
 unfold Ziy;rw[G,F];dsimp only;rw[he,A];dsimp only;rw[K,Cq1,y.ints,bytesOf_map];rfl
end
section
variable{X:Ctx}{n V:Nat}{rd:O Nat}{ops:V5 Oper}{l:U Oper}{rest:Code}{bs:U Nat}
variable{G Gr:U (Ast V)}{h h0:H}{T0:Nat->Prop}{fr:Fr}{ds:U V7}{ty:J}{p:String}{af:V5 Edge}{g:O (Nat×Z)}{κ ν:Type}{kv:κ->N}{vv:ν->N}{ll:U (κ×ν)}{d:Nat}
def At.rk{p:Nat}{h h2:H}{b o:Nat}{vs:U N}(s:At h b o vs)(k:RK p h h2):At h2 b o vs:=by have⟨cs,own,z,h1,h2',h3⟩:=s;have⟨a,b',c,d,e1⟩:=k.it_;exact⟨cs,own,z,by rw[k.at_ b fun l=>(by rw[l,e1]at h1;cases h1)];exact h1,h2',h3⟩
def WL.ZRq{Q:XX->Fs->Prop}{id:Nat}{o:Oper}{t it m XE:Nat}{bs:U Nat}{b:κ->ν->O Z}{q:Z}(T:U Nat)(v:N)(hq:Zns b ll=some q)(hS:Sp V T0 h0 G h)(pi:Pk G (ob V it (.iter m XE XE none)) Gr)(hat:fr.at t=(Va it))(hm:h.at m=.map (Xz kv vv ll bs) XE)(hb:bs.length=ll.length/\bs.Nodup/\∀x∈bs,x<XE)
 (hops:ops.toList=o::l) (hop:o.op=.next (.tmp t) false) (hgu:o.guard=none) (hd:o.dst=some d) (hdn:Nat.blt d n=true) (hT:T.contains t=false) (hdT:T.contains d=true) (hv:plain v=true)
 (body:∀(x:κ×ν)(p:Z),b x.1 x.2=some p->∀h2 r,Agr T fr r->RK it h h2->Sp h.size (QA ([]:U (Ast h.size))) h2 [] h2->Zvv kv vv h2 it x->WO X n h.size rd ops l ⟨Tr.set r d (.tuple #[.bool true,kv x.1,vv x.2]),ds,h2,none⟩ (Yx X n h.size rd rest (Zvr T r ds v p)))
 (W:q=false->∀h' r,Agr T fr r->Sp V T0 h0 Gr h'->WO X n V rd ops l ⟨Tr.set r d (.tuple #[.bool false]),ds,h',none⟩ (Yx X n V rd rest (Zzz Q)))
 (Ym:q=true->∀h' r,Agr T fr r->Sp V T0 h0 Gr h'->Q (.panic v) ⟨r,ds,h',none⟩):WL X n V rd (.seq (.region id ops false) rest) ⟨fr,ds,h,none⟩ Q:=by
 obtain⟨hb1,K,hb3⟩:=hb;obtain⟨o1,o2,o3⟩:=hS.get pi;obtain⟨m1,m2⟩:=ZkE hq
 have ZyA:Agr T fr (Y4 T fr):=fun t' v' C hv'=>by
  rw[Qd,if_neg (fun z=>by rw[<-List.contains_iff_mem]at z;rw[z]at C;cases C),hv']
 have htT:t∉T:=fun z=>by rw[<-List.contains_iff_mem]at z;rw[z]at hT;cases hT
 have ZMv:d∈T:=List.contains_iff_mem.1 hdT;have ZX6:m≠it:=fun z=>by rw[z,o1]at hm;cases hm
 classical
 let pn:Nat->Z:=fun B=>decide (∃(j:Nat) (y:κ×ν),ll[j]? =some y/\bs[j]? =some B/\b y.1 y.2=some true)
 have ZoH:∀(j:Nat)(y:κ×ν)(B:Nat),ll[j]? =some y->bs[j]? =some B->∀p,b y.1 y.2=some p->pn B=p:=by
  intro j y B h1 h2 p I;cases p with|true=>exact decide_eq_true ⟨j,y,h1,h2,I⟩|false=>
    refine decide_eq_false ?_;rintro⟨j',y',h1',h2',D⟩
    have hj:j'=j:=by
     obtain⟨q1,e1⟩:=Li0 h2';obtain⟨q2,e2⟩:=Li0 h2;exact(List.getElem_inj K).1 (e1.trans e2.symm)
    subst hj;rw[h1]at h1';cases h1';rw[I]at D;cases D
 have ZJ7:Sp V T0 h0 Gr (h.put it .dead):=
  Sp.step (Ga:=[ob V it (.iter m XE XE none)]) (Gb:=[]) (hS.perm pi.perm) (Up.put o2 (by rw[o1];rfl)) (fun i e=>⟨_,J1.2 rfl,e⟩) ZV.nil fun i ⟨A,mm,f⟩=>by simp at mm
 have ZkX:∀x∈Xz kv vv ll bs,∃ex S,(S.ds=ds/\(∀t,t∉T->S.fr.at t=fr.at t)/\(ex=.normal/\pn x.born=false\/ex=.panic v/\pn x.born=true))/\∀{ρ:Ren}{F:Fence}{a:Act}{w:V4},Inv ρ n {fr:=U6 (Y4 T fr) o.dst (.tuple #[.bool true,x.key,x.val]),ds:=ds,h:=h.put it (.iter m XE XE (some x.born)),wr:=none} a w->h.size<=(h.put it (.iter m XE XE (some x.born))).size->FR' ρ rd F->∀L:Exit->Act->V4->Prop,
  (∀e' a' w',Qz h.size n ρ (h.put it (.iter m XE XE (some x.born))) w ex S e' a' w'->L e' a' w')->wpListIn F 0 X.P ops (Exit.then (rest.wpIn F 0 X.P L) L) l a w:=by
  intro x hx;obtain⟨j,y,B,h1,h2,rfl⟩:=ZkF hx;obtain⟨p,I⟩:=m1 y (Gn.2 ⟨j,h1⟩);have E:=ZoH j y B h1 h2 p I;have hsz:(h.put it (.iter m XE XE (some B))).size=h.size:=H.size_put _ _ _;have e1:(h.put it (.iter m XE XE (some B))).at it=.iter m XE XE (some B):=Yp (Y8 o1 rfl) _;have e2:(h.put it (.iter m XE XE (some B))).at m=.map (Xz kv vv ll bs) XE:=by rw[XG ZX6,hm]
  have hent:Zvv kv vv (h.put it (.iter m XE XE (some B))) it y:=by
   unfold Zvv Zd0;simp only[e1,e2,Nat.beq_refl,Cq1,ZhM K h1 h2]
  obtain⟨ex,S,⟨q1,q2,q3⟩,q4⟩:=WO.body (body y p I (h.put it (.iter m XE XE (some B))) (Y4 T fr) ZyA ⟨⟨_,_,_,_,o1⟩,fun i hi=>XG hi _⟩ (Sp.start (Nat.le_of_eq hsz.symm) ZV.nil) hent);refine⟨ex,S,⟨q1,fun t' C=>?_,?_⟩,?_⟩
  ·rw[q2 t' C,Qd,if_neg C]
  ·dsimp only;rw[E];exact q3
  rw[hd];intro ρ F a w i1 i2 i3 L i4;exact q4 i1 i2 i3 L i4
 have key:=fun(e:XX)(s2:Fs)=>ZA3 (X:=X) (n:=n) (V:=V) (rd:=rd) (rest:=rest) (id:=id) (s:=⟨fr,ds,h,none⟩) (e:=e) (s2:=s2) (T:=T) (v:=v) pn hops hop hgu hat o1 hm Vc (Zfq K hb3) o2 htT hd (by rwa[Gd]at hdn) ZMv hv ZkX
 cases q with
 | true=>
   refine⟨.panic v,⟨Y4 T fr,ds,h.put it .dead,none⟩,Ym rfl _ _ ZyA ZJ7,key _ _ (fun hall=>?_) fun _=>⟨rfl,rfl⟩⟩;exfalso;obtain⟨y,hy,hyb⟩:=m2.1 rfl;obtain⟨j,hj⟩:=Gn.1 hy;have hjl:=(Li0 hj).1;have h2:bs[j]? =some (bs[j]'Vb):=Q4 _;have:=hall _ (Zwk hj h2);rw[ZoH j y _ hj h2 true hyb]at this;cases this
 | false=>
   obtain⟨e,s2,⟨q1,q2⟩,q3⟩:=WO.body (W rfl _ _ ZyA ZJ7);refine⟨e,s2,q2,key e s2 (fun _=>⟨q1,?_⟩) fun⟨x,hx,I⟩=>?_⟩
   ·rw[hd];intro ρ F a w i1 i2 i3 L i4;exact q3 i1 i2 i3 L i4
   exfalso;obtain⟨j,y,B,h1,h2,rfl⟩:=ZkF hx;obtain⟨p,D⟩:=m1 y (Gn.2 ⟨j,h1⟩);have E:=ZoH j y B h1 h2 p D;rw[show pn B=true from I]at E;subst E;exact absurd (m2.2 ⟨y,Gn.2 ⟨j,h1⟩,D⟩) (by simp)
def Xg.ZfJ{T:Nat->Prop}{l:Nat}{fn:Func}{q:PM}{R:WJ->H->Prop}(r:Sp V T h0 G h)(pk:Pk G (ob V l .deferred) Gr)(k:∀p,Sp V T h0 Gr p->Xg X fn V R q ⟨fr,ds,p,none⟩):Xg X fn V R q ⟨fr,⟨.collected l,#[]⟩::ds,h,none⟩:=by have⟨h1,h2,h3⟩:=r.get pk;have hu:Up V (fun i=>i=l) h (h.put l .dead):=Up.put h2 (by rw[h1];rfl);have⟨E,p,hR,hj⟩:=k _ (Sp.step (Ga:=[ob V l .deferred]) (Gb:=[]) (r.perm pk.perm) hu (fun i e=>⟨_,J1.2 rfl,e⟩) ZV.nil fun i ⟨A,m,f⟩=>by simp at m);exact⟨E,p,hR,Znw h1 h2 hj⟩
section
variable{fn:Func}{R:WJ->H->Prop}{s:Fs}{v:N}{pm:PM}
def Xg.ZuV{f:V3}{fn2:Func}{c:Code}{YF:U N}{A:Nat}(G:X.fns.get f=some fn2)(W:fn2.body=some c)(B:fn2.ntmps=A)(hn:YF.length<=A)(T:fn2.results.toList=[])
 (k:DC X A V c pm ⟨QI YF 0 .nil,[],h,none⟩ (DEn X fn V R fr ds)):Xg X fn V R pm ⟨fr,⟨.fn (.func f) #[],YF.toArray⟩::ds,h,none⟩:=by
 subst B;obtain⟨e,l,K,⟨rfl,t,E,I,hR,F⟩,L⟩:=k;obtain⟨x,ds',h2,y⟩:=K;dsimp only at t F;subst t
 have Q:Y7 X (.dcall f (YF++([]:U N)).toArray pm V h) (.Zg9 l h2):=by
  refine Zm0 (C:=cfg X fun _=>false) (ih:=Jb (.QL c fn2.ntmps V pm ⟨QI YF 0 .nil,[],h,none⟩) (.QL .normal l ⟨x,[],h2,y⟩)) (Xx L) ?_;unfold ZpH;have p:(cfg X fun _=>false).X.fns.get f=some fn2:=G;rw[p];dsimp only;rw[W];dsimp only;have e1:Nat.ble (YF++([]:U N)).toArray.toList.length fn2.ntmps=true:=Nm0 (by rw[Ge];exact hn);rw[e1,Cq1];rw[Ge,Xy];unfold ZEa;dsimp only;have e3:Q9 (cfg X fun _=>false).X.P fn2 x h2=some (.tuple #[]):=by unfold Q9;rw[T];rfl
  rw[e3]
 refine⟨E,I,hR,?_⟩
 classical
 let ih:WI->O QJ:=fun j=>if j=.dcall f (YF++([]:U N)).toArray pm V h then some (.Zg9 l h2) else if j=.leave fn V (Zjw l) ⟨fr,ds,h2,none⟩ then some (.fin E I) else none
 refine Us (C:=cfg X fun _=>false) (ih:=ih) ?_ ?_
 ·intro j r e;dsimp only[ih]at e;split at e
  ·rename_i D;cases e;rw[D];exact Q
  split at e
  ·rename_i D;cases e;rw[D];exact F
  cases e
 unfold Kk;dsimp only;have p:(cfg X fun _=>false).X.fns.get f=some fn2:=G;rw[p];dsimp only;have S:ih (.dcall f (YF.toArray.toList++(#[]:V5 N).toList).toArray pm V h)=some (.Zg9 l h2):=by dsimp only[ih];rw[if_pos rfl]
 rw[S];dsimp only[ih];rw[if_neg (by intro q;cases q),if_pos rfl]
end
def WO.ZO0{Q:XX->Fs->Prop}{q x:V0}{ts:V5 J}{f:V3}{v:N}(r:Yg ops ⟨none,.defer {callee:=.value q,args:=#[x],argTypes:=ts},ty,p,af,g⟩ fr)(y:YI fr q=some (.func (.func f) #[] #[]))(t:YI fr x=some v)
 (k:WO X n V none ops l ⟨fr,⟨.fn (.func f) #[],#[v]⟩::ds,h,none⟩ Q):WO X n V none ops (⟨none,.defer {callee:=.value q,args:=#[x],argTypes:=ts},ty,p,af,g⟩::l) ⟨fr,ds,h,none⟩ Q:=by
 refine WO.cons (ZaS X) (s1:=⟨fr,⟨.fn (.func f) #[],#[v]⟩::ds,h,none⟩) ?_ k;have he:evs (YI fr) [x]=some [v]:=Zb t Zd
 have A:XM X h (YI fr) ⟨none,.defer {callee:=.value q,args:=#[x],argTypes:=ts},ty,p,af,g⟩=some (.dfr ⟨.fn (.func f) #[],#[v]⟩,.none):=by
  show(match Callee.value q,evs (YI fr) [x] with
   | .value f,some args=>match YI fr f with
     | some (.func (.func g) first cap)=>some (AN.dfr {target:=.fn (.func g) cap,args:=first++args.toArray},Eff.none)
     | _=>none
   | _,_=>none)=_
  rw[he];dsimp only;rw[y];rfl
 unfold KE;rw[r.1,r.2];dsimp only[J0,Cq0,Cq1];rw[A];rfl
section
variable{P:V2}
def ZeC{t a:J}{x:V0}{v:N}{ms}(l:plain (.iface a v)=true)(hu:P.underlying t=some (.interface ms)):X9 P .neq t x (.const .nilIface) (.iface a v) .nilIface=some (.val (.bool true),.none):=by
 have h:(plain (.iface a v)&&plain .nilIface)=true:=by rw[l];rfl
 unfold X9;rw[h,Cq1];unfold Kr
 have h1:ZF P (eqGuard .neq t x (.const .nilIface) (.iface a v) .nilIface)=some (.ok ()):=by
  cases x<;>rfl
 rw[prb h1]
 have h2:ZF P (Op.equal t (.iface a v) .nilIface)=some (.ok false):=by
  show ZF P (Op.equalIn (9999+1) t (.iface a v) .nilIface)=_;unfold Op.equalIn;rw[prb (YW hu)];rfl
 have:ZF P (binOp .neq t (.iface a v) .nilIface)=some (.ok (.bool true)):=by
  show ZF P (do pure (Value.bool (!(<-Op.equal t (.iface a v) .nilIface))):Sem N)=_;rw[prb h2];rfl
 rw[this];rfl
def ZfR{t:J}{x:V0}{ms}(hu:P.underlying t=some (.interface ms)):X9 P .neq t x (.const .nilIface) .nilIface .nilIface=some (.val (.bool false),.none):=by
 unfold X9;rw[show(plain .nilIface&&plain .nilIface)=true from rfl,Cq1];unfold Kr
 have h1:ZF P (eqGuard .neq t x (.const .nilIface) .nilIface .nilIface)=some (.ok ()):=by
  cases x<;>rfl
 rw[prb h1]
 have h2:ZF P (Op.equal t .nilIface .nilIface)=some (.ok true):=by
  show ZF P (Op.equalIn (9999+1) t .nilIface .nilIface)=_;unfold Op.equalIn;rw[prb (YW hu)];rfl
 have:ZF P (binOp .neq t .nilIface .nilIface)=some (.ok (.bool false)):=by
  show ZF P (do pure (Value.bool (!(<-Op.equal t .nilIface .nilIface))):Sem N)=_;rw[prb h2];rfl
 rw[this];rfl
end
end
section
variable{X:Ctx}{n V:Nat}{rd:O Nat}{ops:V5 Oper}{ol:U Oper}{fr:Fr}{ds:U V7}{h h0:H}{ty:J}{p:String}{af:V5 Edge}{g:O (Nat×Z)}{T:Nat->Prop}{G Gr:U (Ast V)}{d l df:Nat}{LO:Xv}{ps:V5 Tmp}{YF bd:Code}
def RP(K l:N->H->Prop):WJ->H->Prop:=fun e h=>match e with|.ret v=>K v h|.Ym v=>l v h
section
variable{fn:Func}{K Z':N->H->Prop}{v:N}{s:Fs}
def Z8.ZyH{l:U ResultVar}{vs:U N}(q:fn.results.toList=l)(hv:ZdR X.P fr h l=some vs)(r:(match vs with | [v]=>v|vs=>.tuple vs.toArray)=v)(k:K v h):Z8 X fn V (RP K Z') .ret ⟨fr,[],h,none⟩:=by obtain⟨p,E,x,h1,⟨v',rfl,h2⟩,t⟩:=(Z8.gen (X:=X) (V:=V) (R:=K) q hv r k).out;exact⟨⟨p,.ret v',x,h1,h2,t⟩⟩
def Xg.ZLI(k:Z' v h):Xg X fn V (RP K Z') (.Ym v) ⟨fr,[],h,none⟩:=Xg.Ym k
def WF.ZBh{f:V3}{args:V5 N}{p β:Type}{r:β}(I:p->N->H->Prop)(j:p->O β)(k:∀x v l,j x=some r->I x v l->K v l)(t:WF X f args V h (RP (fun v l=>∃x,j x=some r/\I x v l) Z')):WF X f args V h (RP K Z'):=
 t.mono fun e l q=>by
   cases e with|ret v=>have⟨x,h1,h2⟩:=q;exact k x v l h1 h2|Ym v=>exact q
end
def WO.ZLT{Q:XX->Fs->Prop}{q:Op}{f:V3}{args:V5 N}(r:Yg ops ⟨some d,q,ty,p,af,g⟩ fr)(t:Nat.blt d n=true)(he:ZX X fr ⟨some d,q,ty,p,af,g⟩ f args)
 (k:WF X f args V h (RP (fun v l=>WO X n V rd ops ol ⟨Tr.set fr d v,ds,l,none⟩ Q) (fun v l=>Q (.panic v) ⟨fr,ds,l,none⟩))):WO X n V rd ops (⟨some d,q,ty,p,af,g⟩::ol) ⟨fr,ds,h,none⟩ Q:=by
 have⟨e,l,hk,hj⟩:=k;cases e with|ret v=>exact WO.en r t he hj hk|Ym v=>exact WO.Zl6 r (he h) rfl hj hk
structure BdZ(n lo l:Nat)(fr:Fr)(ps:Array Tmp)(YF bd:Code)(df:Nat)(R:Bool->H->Prop)(Z':Value->H->Prop)(e:XX)(s:Fs):Prop where
 out:BdS n lo l fr ps YF bd df R e s\/∃v,s.h.at l=.loop .busy none fr n ps YF bd df/\e=.panic v/\s.ds=[]/\Z' v s.h
structure AsZ(X:Ctx)(n V lo l:Nat)(fr:Fr)(ps:Array Tmp)(YF bd:Code)(df:Nat)(R:Bool->H->Prop)(Z':Value->H->Prop)(e:XX)(s:Fs):Prop where
 out:e=.normal/\s.h.at l=.loop .ready none fr n ps YF bd df/\∀h1,(lo<=l->Up lo (fun i=>i=l) s.h h1)->h1.at l=.loop .busy none fr n ps YF bd df->WC X n V (some l) bd ⟨s.fr,s.ds,h1,s.wr⟩ (BdZ n lo l fr ps YF bd df R Z')
def RdZ(X:Ctx)(l:Nat)(args:V5 N)(V:Nat)(h:H)(R:Z->H->Prop)(q:N->H->Prop):Prop:=
 Zs7 X l args V h R\/∃v p,q v p/\Y7 X (.round l args V h) (.fin (.Ym v) p)
def RdZ.mk{l:Nat}{args:U N}{fr KJ:Fr}{p:V5 Tmp}{YF t:Code}{df:Nat}{R:Z->H->Prop}{Z':N->H->Prop}(lo:Nat)(D:h.at l=.loop .ready none fr n p YF t df)(hw:V<=l)(x:Nat.beq args.length p.toList.length=true)(K:X7 (p.toList.zip args) n fr=some KJ)
 (k:WC X n V (some l) YF ⟨KJ,[],h,none⟩ (AsZ X n V lo l fr p YF t df R Z')):RdZ X l args.toArray V h R Z':=by
 obtain⟨e1,s1,⟨rfl,h1,k1⟩,W⟩:=k;have S:(s1.h.at l).own=true:=by rw[h1];rfl
 have B:=Y8 h1 rfl;obtain⟨E,s2,⟨k2⟩,T⟩:=k1 (s1.h.put l (.loop .busy none fr n p YF t df)) (fun x=>Up.put x S) (Yp B _)
 have h2:s2.h.at l=.loop .busy none fr n p YF t df:=by
  rcases k2 with k2|⟨v,h2,_⟩
  ·exact k2.out.1
  exact h2
 have Q:(s2.h.at l).own=true:=by rw[h2];rfl
 have y:=Y8 h2 rfl
 have F:(∃b A,R b (s2.h.put l A)/\Je l E s2=some (.fin (.ret (.bool b)) (s2.h.put l A)))\/∃v,Z' v s2.h/\Je l E s2=some (.fin (.Ym v) s2.h):=by
  rcases k2 with⟨_,⟨rfl,k2⟩|⟨c,hx,k2⟩⟩|⟨v,_,rfl,hd,G⟩
  ·refine .inl ⟨true,_,k2 _ (fun x=>Up.put x Q) (Yp y _),?_⟩;unfold Je;rw[h2]
  ·refine .inl ⟨false,_,k2 _ (fun x=>Up.put x Q) (Yp y _),?_⟩;unfold Je;rw[h2];cases hx<;>rfl
  refine .inr ⟨v,G,?_⟩;unfold Je;rw[h2];dsimp only;rw[hd]
 classical
 let ih:WI->O QJ:=fun j=>if j=.code YF n V (some l) ⟨KJ,[],h,none⟩ then some (.code .normal s1) else Jb (.code t n V (some l) {s1 with h:=s1.h.put l (.loop .busy none fr n p YF t df)}) (.code E s2) j
 have HI:∀j r,ih j=some r->Y7 X j r:=by
  intro j r e;dsimp only[ih]at e;split at e
  ·rename_i P;cases e;rw[P];exact W
  exact Xx (X:=X) T j r e
 have fin:∀r,Je l E s2=some r->Y7 X (.round l args.toArray V h) r:=fun r q=>by
  refine Zbe (C:=cfg X fun _=>false) (ih:=ih) HI ?_;unfold Zg6;rw[D];have L:Nat.beq args.toArray.toList.length p.toList.length=true:=x;dsimp only;rw[Nm0 hw,L];simp only[Bool.and_self,Cq1];have I:X7 (p.toList.zip args.toArray.toList) n fr=some KJ:=K;rw[I];dsimp only;have i1:ih (.code YF n V (some l) {fr:=KJ,ds:=[],h:=h})=some (.code .normal s1):=by dsimp only[ih];rw[if_pos rfl]
  rw[i1];show Kz ih l t n V .normal s1=_;unfold Kz;dsimp only;rw[h1];dsimp only
  have i2:ih (.code t n V (some l) {s1 with h:=s1.h.put l (.loop .busy none fr n p YF t df)})=some (.code E s2):=by
   dsimp only[ih];split
   ·rename_i P;exfalso;injection P with _ _ _ _ K
    have:({s1 with h:=s1.h.put l (.loop .busy none fr n p YF t df)}:Fs).h.at l=h.at l:=by rw[K]
    dsimp only at this;rw[Yp B,D]at this;cases this
   exact Xy _ _
  rw[i2];exact q
 rcases F with⟨b,A,hR,q⟩|⟨v,G,q⟩
 ·exact .inl ⟨b,_,hR,fin _ q⟩
 exact .inr ⟨v,_,G,fin _ q⟩
def WO.ZqS{Q:XX->Fs->Prop}{o:Oper}{args:V5 N}{E:Eff}{v:N}{h1 h2:H}(p:Yg ops o fr)(r:XM X h (YI fr) o=some (.round l args,E))(t:E.apply V h=some h1)
 (q:Y7 X (.round l args V h1) (.fin (.Ym v) h2)) (k:Q (.panic v) ⟨fr,ds,h2,none⟩):WO X n V rd ops (o::ol) ⟨fr,ds,h,none⟩ Q:=by
 refine WO.panics (Xx q) ?_ k;unfold KE;rw[p.1,p.2];dsimp only[J0,Cq0,Cq1];rw[r];dsimp only[J0,Cq0,Cq1];rw[t];unfold Zcs;dsimp only[Wd,Cq0];rw[Xy];rfl
def WO.ZKQ{Q:XX->Fs->Prop}{C:V0}{xs:V5 V0}{ts:V5 J}{vs:U N}{y:Nat}{D L:Fr}{r x:Code}(I:Yg ops ⟨some d,.call {callee:=.value C,args:=xs,argTypes:=ts},ty,p,af,g⟩ fr)(hd:Nat.blt d n=true)(K:YI fr C=some (.func (.yield l) #[] #[]))(F:evs (YI fr) xs.toList=some vs)
 (hS:Sp V T h0 G h) (pk:Pk G (ob V l LO) Gr) (B:LO=.loop .ready none D y ps r x df) (A:Nat.beq vs.length ps.toList.length=true) (S:X7 (ps.toList.zip vs) y D=some L)
 (k:WC X y V (some l) r ⟨L,[],h,none⟩ (AsZ X y V V l D ps r x df (fun b t=>WO X n V rd ops ol ⟨Tr.set fr d (.bool b),ds,t,none⟩ Q) (fun v t=>Q (.panic v) ⟨fr,ds,t,none⟩))):
 WO X n V rd ops (⟨some d,.call {callee:=.value C,args:=xs,argTypes:=ts},ty,p,af,g⟩::ol) ⟨fr,ds,h,none⟩ Q:=by
 have⟨h1,h2,h3⟩:=hS.get pk;have q:=h1.trans B;rcases RdZ.mk (lo:=V) q h2 A S k with W|⟨v,t,P,hj⟩
 .exact WO.yld I hd K F q (Nb0 A) W fun b t hk=>hk
 refine WO.ZqS (E:=.none) I ?_ rfl hj P;rw[ZeA,F];dsimp only;rw[K];dsimp only;unfold U5;dsimp only;rw[q];dsimp only;rw[A];rfl
section
variable{XI:Fr}{R:Z->H->Prop}{Z':N->H->Prop}
def AsZ.sp(p:LO=.loop .ready none fr n ps YF bd df)(r:Sp V T h0 G h)(pk:Pk G (ob V l LO) Gr)(k:∀h1,Sp V T h0 (ob V l (bsy LO)::Gr) h1->WC X n V (some l) bd ⟨XI,ds,h1,none⟩ (BdZ n V l fr ps YF bd df R Z')):AsZ X n V V l fr ps YF bd df R Z' .normal ⟨XI,ds,h,none⟩:=by have⟨h1,h2,h3⟩:=r.get pk;refine⟨⟨rfl,h1.trans p,fun t u e=>k t ?_⟩⟩;exact r.one pk (u h2) (fun _ q=>q) ⟨by rw[e,p];rfl,h2,by rw[p];rfl⟩ fun _ q=>.inl q
def BdZ.sp(hLO:LO=.loop .ready none fr n ps YF bd df)(hS:Sp V T h0 G h)(pk:Pk G (ob V l (bsy LO)) Gr)(k:∀h1,Sp V T h0 (ob V l LO::Gr) h1->R true h1):BdZ n V l fr ps YF bd df R Z' .normal ⟨XI,ds,h,none⟩:=⟨.inl (BdS.sp hLO hS pk k)⟩
def BdZ.Ym{v:N}(p:LO=.loop .ready none fr n ps YF bd df)(q:Sp V T h0 G h)(pk:Pk G (ob V l (bsy LO)) Gr)(k:Z' v h):BdZ n V l fr ps YF bd df R Z' (.panic v) ⟨XI,[],h,none⟩:=by have⟨h1,h2,h3⟩:=q.get pk;exact⟨.inr ⟨v,h1.trans (by rw[p];rfl),rfl,rfl,k⟩⟩
end
def WC.ZtS{Q:XX->Fs->Prop}{x:V0}{f:V3}{first cap:U N}(hS:Sp V T h0 G h)(hg:YI fr x=some (.func (.func f) first.toArray cap.toArray))(I:(X.fns.get f).isSome=true)
 (k:∀L l B S,S=Xv.loop .ready none fr n ps YF bd B->Sp V T h0 (ob V l S::ob V B .deferred::G) L->WF X f (first++([Value.func (.yield l) #[] #[]]++cap)).toArray V L (RP (fun _ h2=>RgS X V l fr n ps YF bd B ds Q h2) (fun v h2=>Q (.panic v) ⟨fr,⟨.collected B,#[]⟩::ds,h2,none⟩))):
 WC X n V none (.rangeFunc x ps YF bd) ⟨fr,ds,h,none⟩ Q:=by
 have s1:Sp V T h0 (ob V h.size .deferred::G) (h.push .deferred):=Zfo rfl hS
 have s2:Sp V T h0 (ob V (h.size+1) (.loop .ready none fr n ps YF bd h.size)::ob V h.size .deferred::G) ((h.push .deferred).push (.loop .ready none fr n ps YF bd h.size)):=by
  have:=Zfo (A:=.loop .ready none fr n ps YF bd h.size) rfl s1
  rwa[H.size_push]at this
 obtain⟨fn,I⟩:=GJ.1 I;obtain⟨e,t,y,F⟩:=k _ _ _ _ rfl s2
 have K:U5 (cfg X fun _=>false).X ((h.push .deferred).push (.loop .ready none fr n ps YF bd h.size)) (.func (.func f) first.toArray cap.toArray) [Value.func (.yield (h.size+1)) #[] #[]]=some (.enter f (first++([Value.func (.yield (h.size+1)) #[] #[]]++cap)).toArray,.none):=by
  unfold U5;have:(cfg X fun _=>false).X.fns.get f=some fn:=I;dsimp only;rw[this];simp only[G9]
 have pre:∀(ih:WI->O QJ),QF (cfg X fun _=>false) ih x n V none (h.size+1) ⟨fr,⟨.collected h.size,#[]⟩::ds,(h.push .deferred).push (.loop .ready none fr n ps YF bd h.size),none⟩=Wx ih n V none (h.size+1) ⟨fr,⟨.collected h.size,#[]⟩::ds,(h.push .deferred).push (.loop .ready none fr n ps YF bd h.size),none⟩ (ih (.call f (first++([Value.func (.yield (h.size+1)) #[] #[]]++cap)).toArray V ((h.push .deferred).push (.loop .ready none fr n ps YF bd h.size)))):=fun ih=>by
  unfold QF;dsimp only;rw[hg];dsimp only;rw[K]
 cases e with
 | Ym v=>
   refine⟨.panic v,_,y,QU.2 (JK (C:=cfg X fun _=>false) (ih:=Jb (.call f _ V _) (.fin (.Ym v) t)) (Xx F) ?_)⟩;show QF (cfg X fun _=>false) _ x n V none (h.size+1) ⟨fr,⟨.collected h.size,#[]⟩::ds,(h.push .deferred).push (.loop .ready none fr n ps YF bd h.size),none⟩=_;rw[pre,Xy]
   rfl
 | ret v=>
 rcases y.k with⟨p,D⟩|⟨c,p,D⟩
 ·refine⟨.normal,_,D (t.put (h.size+1) (.loop .exhausted none fr n ps YF bd h.size)) (Up.put y.low (by rw[p];rfl)),?_⟩;refine QU.2 (JK (C:=cfg X fun _=>false) (ih:=Jb (.call f _ V _) (.fin (.ret v) t)) (Xx F) ?_);show QF (cfg X fun _=>false) _ x n V none (h.size+1) ⟨fr,⟨.collected h.size,#[]⟩::ds,(h.push .deferred).push (.loop .ready none fr n ps YF bd h.size),none⟩=_;rw[pre,Xy];unfold Wx;dsimp only;rw[p]
  rfl
 obtain⟨P,s2,hq,E⟩:=D (t.put (h.size+1) (.loop .exhausted (some c) fr n ps YF bd h.size)) (Up.put y.low (by rw[p];rfl));refine⟨P,s2,hq,?_⟩
 classical
 let ih:WI->O QJ:=fun j=>if j=.code c n V none ⟨fr,⟨.collected h.size,#[]⟩::ds,t.put (h.size+1) (.loop .exhausted (some c) fr n ps YF bd h.size),none⟩ then some (.code P s2) else Jb (.call f (first++([Value.func (.yield (h.size+1)) #[] #[]]++cap)).toArray V ((h.push .deferred).push (.loop .ready none fr n ps YF bd h.size))) (.fin (.ret v) t) j
 have HI:∀j r,ih j=some r->Y7 X j r:=by
  intro j r e;dsimp only[ih]at e;split at e
  ·rename_i q;cases e;rw[q];exact E
  exact Xx (X:=X) F j r e
 refine QU.2 (JK (C:=cfg X fun _=>false) (ih:=ih) HI ?_);show QF (cfg X fun _=>false) _ x n V none (h.size+1) ⟨fr,⟨.collected h.size,#[]⟩::ds,(h.push .deferred).push (.loop .ready none fr n ps YF bd h.size),none⟩=_
 have W:ih (.call f (first++([Value.func (.yield (h.size+1)) #[] #[]]++cap)).toArray V ((h.push .deferred).push (.loop .ready none fr n ps YF bd h.size)))=some (.fin (.ret v) t):=by
  dsimp only[ih];split
  ·rename_i q;cases q
  exact Xy _ _
 rw[pre,W];unfold Wx;dsimp only;rw[p];show ih (.code c n V none _)=_;dsimp only[ih];rw[if_pos rfl]
end
section
variable{X:Ctx}{n V:Nat}{rd:O Nat}{ops:V5 Oper}{l:U Oper}{fr:Fr}{ds:U V7}{h h0:H}{ty:J}{p:String}{af:V5 Edge}{g:O (Nat×Z)}{T:Nat->Prop}{G Gr Ga:U (Ast V)}{d:Nat}
def ZaK{x:V0}{l t:J}{v:N}{u:TypeDesc}(hu:X.P.underlying t=some u)(r:(match u with | .interface _=>false|_=>true)=true)(q:YI fr x=some (.iface t v)):XM X h (YI fr) ⟨some d,.typeAssert x l t true,ty,p,af,g⟩=some (.val (.tuple #[v,.bool true]),.none):=by
 show(match YI fr x with|some x=>vN (Zah X.P x t true) | none=>none)=_;rw[q];dsimp only
 have:Zah X.P (.iface t v) t true=some (.tuple #[v,.bool true]):=by
  unfold Zah;rw[hu];cases u<;>first | (dsimp only;rw[Nat.beq_refl];rfl) | cases r
 rw[this];rfl
def ZdQ{x:V0}{q t a:J}{v z:N}{u:TypeDesc}(hu:X.P.underlying t=some u)(A:(match u with | .interface _=>false|_=>true)=true)(r:Y5 X.P t=some z)(l:Nat.beq a t=false)(y:YI fr x=some (.iface a v)):XM X h (YI fr) ⟨some d,.typeAssert x q t true,ty,p,af,g⟩=some (.val (.tuple #[z,.bool false]),.none):=by
 show(match YI fr x with|some x=>vN (Zah X.P x t true) | none=>none)=_;rw[y];dsimp only
 have:Zah X.P (.iface a v) t true=some (.tuple #[z,.bool false]):=by
  unfold Zah;rw[hu];cases u<;>first | (dsimp only;rw[l,Cq0,Cq1,r]) | cases A
 rw[this];rfl
def ZX.inv{f:V3}{r:V0}{q:String}{xs:V5 V0}{ts:V5 J}{t:J}{v:N}{vs:U N}{d:O Tmp}(y:YI fr r=some (.iface t v))(A:Zqa X.P t q=some f)(l:(X.fns.get f).isSome=true)(x:evs (YI fr) xs.toList=some vs):
 ZX X fr ⟨d,.call {callee:=.invoke r q,args:=xs,argTypes:=ts},ty,p,af,g⟩ f (v::vs).toArray:=fun h=>by
 have⟨fn,l⟩:=GJ.1 l;unfold XM;dsimp only;rw[x];dsimp only;rw[y];dsimp only;unfold Zb8;dsimp only;rw[A];dsimp only;rw[l]
def Sp.nfz{r:Nat->Prop}(s:Sp V r h0 G h)(p:Sel G Ga Gr){b:Nat}(q:Stb V h b):∀x,QA Ga x->x≠b:=fun x l e=>by
 subst e;have⟨h1,h2⟩:=(s.Zac p).own l;rcases q with z|z
 .omega
 rw[z]at h2;cases h2
end
end Go.ZU
end
end
section
namespace Go.Proofs.YtbnepjakjmnadaaGreat
structure Zf where
 op:Int
 n:Int
 qG:ByteArray
 qQ:List Zf
 deriving Inhabited
structure ZN where
 qG:ByteArray
 names:List ByteArray
 deriving Inhabited
mutual
structure Term where
 op:Int
 qG:ByteArray
 args:List Zf
 qJ:List Za
 qQ:List Term
structure Za where
 qX:Int
 qG:ByteArray
 qV:List ZN
 qJ:List Za
 qQ:List Term
end
instance:Inhabited Term:=⟨⟨0,⟨#[]⟩,[],[],[]⟩⟩
instance:Inhabited Za:=⟨⟨0,⟨#[]⟩,[],[],[]⟩⟩
inductive Part
 | pr (t:Term)
 | ex (e:Zf)
 | cl (c:Za)
instance:Inhabited Part:=⟨.ex default⟩
def Zkx{β:Type}(p:Part)(f:Term->β)(g:Zf->β)(k:Za->β):β:=match p with|.pr t=>f t|.ex e=>g e|.cl c=>k c
end Go.Proofs.YtbnepjakjmnadaaGreat
end
section
noncomputable section
namespace Go.ZU
open Go.Lf
structure SlW{α P:Type}(sz:Nat)(sh:P->α->List Value)(V:Nat)(h:H)(a:Option Addr)(c:Nat)(xs:List α)(ps:Nat->P):Prop where
 max:xs.length<=9223372036854775807
 cap:xs.length<=c / 2
 nl:Zqf a c
 mem:xs=[]\/∃i o cs own z,a=some ⟨i,o,none⟩/\h.at i=.row cs own z/\(i<V\/own=false)/\o+xs.length*sz<=cs.length/\∀k x,xs[k]? =some x->(cs.drop (o+k*sz)).take sz=sh (ps k) x
def SlW.mono{l P:Type}{sz:Nat}{p:P->l->U N}{V:Nat}{h r:H}{a:O Addr}{c:Nat}{xs:U l}{ps:Nat->P}(f:Fz V h r)(s:SlW sz p V h a c xs ps):SlW sz p V r a c xs ps:=
 ⟨s.max,s.cap,s.nl,s.mem.imp id fun⟨i,o,cs,own,z,h1,h2,q,t⟩=>⟨i,o,cs,own,z,h1,f.keep _ _ _ _ h2 q,q,t⟩⟩
def SlW.up{p P:Type}{sz:Nat}{q:P->p->U N}{V l:Nat}{h:H}{a:O Addr}{c:Nat}{xs:U p}{ps:Nat->P}(f:V<=l)(s:SlW sz q V h a c xs ps):SlW sz q l h a c xs ps:=
 ⟨s.max,s.cap,s.nl,s.mem.imp id fun⟨i,o,cs,own,z,h1,h2,t,r⟩=>⟨i,o,cs,own,z,h1,h2,t.imp (fun x=>by omega) id,r⟩⟩
def Sl.iff{C:Type}{e:U8 C}{V:Nat}{h:H}{a:O Addr}{c:Nat}{xs:U C}:Sl e V h a c xs↔∃p,SlW e.sz e.sh V h a c xs p/\∀k x,xs[k]? =some x->e.F V h (p k) x:=by
 constructor
 .intro s;rcases s.mem with I|⟨i,o,cs,own,z,h1,h2,B,r⟩
  .subst I;exact⟨fun _=>e.dflt,⟨s.max,s.cap,s.nl,.inl rfl⟩,fun k x l=>by simp at l⟩
  have A:∀k,∃q,∀x,xs[k]? =some x->(cs.drop (o+k*e.sz)).take e.sz=e.sh q x/\e.F V h q x:=fun k=>by
   cases t:xs[k]? with
   | none=>exact⟨e.dflt,fun x t=>by cases t⟩
   | some x=>
     have⟨q,g1,g2⟩:=r.get k x t;exact⟨q,fun y D=>by cases D;exact⟨g1,g2⟩⟩
  exact⟨fun k=>(A k).choose,⟨s.max,s.cap,s.nl,.inr ⟨i,o,cs,own,z,h1,h2,B,r.len,fun k x l=>((A k).choose_spec x l).1⟩⟩,fun k x l=>((A k).choose_spec x l).2⟩
 rintro⟨p,s,E⟩;refine⟨s.max,s.cap,s.nl,s.mem.imp id ?_⟩;rintro⟨i,o,cs,own,z,h1,h2,B,r,G⟩;exact⟨i,o,cs,own,z,h1,h2,B,⟨r,fun k x l=>⟨p k,G k x l,E k x l⟩⟩⟩
end Go.ZU
end
end
section
set_option maxRecDepth 100000
noncomputable section
namespace Go.Proofs.YtbnepjakjmnadaaGreat
open Go.ZU Go.Lf
section
abbrev SlP:=O Addr×Nat
def ZO:U8 ZN where
 sz:=2
 pos:=by decide
 Par:=SlP
 dflt:=(none,0)
 sh:=fun p x=>[.string x.qG,.slice p.1 x.names.length p.2]
 len:=fun _ _=>rfl
 one:=fun _ _=>rfl
 F:=fun V h p x=>Sl ZH V h p.1 p.2 x.names
 mono:=fun f x=>x.mono f
 up:=fun f x=>x.up f
def ZvY(p:SlP)(x:Zf):U N:=[V9 x.op,V9 x.n,.string x.qG,.slice p.1 x.qQ.length p.2]
inductive Zd3(V:Nat)(h:H):SlP->Zf->Prop
 | mk {p:SlP} {x:Zf} (ps:Nat->SlP) (hk:SlW 4 ZvY V h p.1 p.2 x.qQ ps) (hF:∀k y,x.qQ[k]? =some y->Zd3 V h (ps k) y):Zd3 V h p x
def Zd3.mono{V:Nat}{h l:H}{p:SlP}{x:Zf}(f:Fz V h l)(s:Zd3 V h p x):Zd3 V l p x:=by induction s with|mk q r _ ih=>exact .mk q (r.mono f) ih
def Zd3.up{V l:Nat}{h:H}{p:SlP}{x:Zf}(f:V<=l)(s:Zd3 V h p x):Zd3 l h p x:=by induction s with|mk q r _ ih=>exact .mk q (r.up f) ih
def Zi:U8 Zf where
 sz:=4
 pos:=by decide
 Par:=SlP
 dflt:=(none,0)
 sh:=ZvY
 len:=fun _ _=>rfl
 one:=fun _ _=>rfl
 F:=Zd3
 mono:=Zd3.mono
 up:=Zd3.up
def Yd{V:Nat}{h:H}{p:SlP}{x:Zf}:Zi.F V h p x↔Sl Zi V h p.1 p.2 x.qQ:=by rw[Sl.iff];exact⟨fun s=>by cases s with|mk l q r=>exact⟨l,q,r⟩,fun⟨l,q,r⟩=>.mk l q r⟩
abbrev TmP:=SlP×SlP×SlP
def Qg(p:TmP)(x:Term):U N:=[V9 x.op,.string x.qG,.slice p.1.1 x.args.length p.1.2,.slice p.2.1.1 x.qJ.length p.2.1.2,.slice p.2.2.1 x.qQ.length p.2.2.2]
def Wi(p:TmP)(x:Za):U N:=[V9 x.qX,.string x.qG,.slice p.1.1 x.qV.length p.1.2,.slice p.2.1.1 x.qJ.length p.2.1.2,.slice p.2.2.1 x.qQ.length p.2.2.2]
mutual
inductive JO (V:Nat) (h:H):TmP->Term->Prop
 | mk {p:TmP} {x:Term} (l pk:Nat->TmP) (B:Sl Zi V h p.1.1 p.1.2 x.args) (A:SlW 5 Wi V h p.2.1.1 p.2.1.2 x.qJ l) (t:SlW 5 Qg V h p.2.2.1 p.2.2.2 x.qQ pk)
    (r:∀k y,x.qJ[k]? =some y->X3 V h (l k) y) (q:∀k y,x.qQ[k]? =some y->JO V h (pk k) y):JO V h p x
inductive X3 (V:Nat) (h:H):TmP->Za->Prop
 | mk {p:TmP} {x:Za} (l pk:Nat->TmP) (B:Sl ZO V h p.1.1 p.1.2 x.qV) (A:SlW 5 Wi V h p.2.1.1 p.2.1.2 x.qJ l) (t:SlW 5 Qg V h p.2.2.1 p.2.2.2 x.qQ pk)
    (r:∀k y,x.qJ[k]? =some y->X3 V h (l k) y) (q:∀k y,x.qQ[k]? =some y->JO V h (pk k) y):X3 V h p x
end
def JO.mono{V:Nat}{h l:H}(f:Fz V h l){p:TmP}{x:Term}(s:JO V h p x):JO V l p x:=
 JO.rec (motive_1:=fun p x _=>JO V l p x) (motive_2:=fun p x _=>X3 V l p x)
  (fun q pk B A y _ _ t r=>.mk q pk (B.mono f) (A.mono f) (y.mono f) t r) (fun q pk B A y _ _ t r=>.mk q pk (B.mono f) (A.mono f) (y.mono f) t r) s
def X3.mono{V:Nat}{h l:H}(f:Fz V h l){p:TmP}{x:Za}(s:X3 V h p x):X3 V l p x:=
 X3.rec (motive_1:=fun p x _=>JO V l p x) (motive_2:=fun p x _=>X3 V l p x)
  (fun q pk B A y _ _ t r=>.mk q pk (B.mono f) (A.mono f) (y.mono f) t r) (fun q pk B A y _ _ t r=>.mk q pk (B.mono f) (A.mono f) (y.mono f) t r) s
def JO.up{V l:Nat}{h:H}(f:V<=l){p:TmP}{x:Term}(s:JO V h p x):JO l h p x:=
 JO.rec (motive_1:=fun p x _=>JO l h p x) (motive_2:=fun p x _=>X3 l h p x)
  (fun q pk B A y _ _ t r=>.mk q pk (B.up f) (A.up f) (y.up f) t r) (fun q pk B A y _ _ t r=>.mk q pk (B.up f) (A.up f) (y.up f) t r) s
def X3.up{V l:Nat}{h:H}(f:V<=l){p:TmP}{x:Za}(s:X3 V h p x):X3 l h p x:=
 X3.rec (motive_1:=fun p x _=>JO l h p x) (motive_2:=fun p x _=>X3 l h p x)
  (fun q pk B A y _ _ t r=>.mk q pk (B.up f) (A.up f) (y.up f) t r) (fun q pk B A y _ _ t r=>.mk q pk (B.up f) (A.up f) (y.up f) t r) s
def Zt:U8 Term where
 sz:=5
 pos:=by decide
 Par:=TmP
 dflt:=((none,0),(none,0),(none,0))
 sh:=Qg
 len:=fun _ _=>rfl
 one:=fun _ _=>rfl
 F:=JO
 mono:=fun f s=>JO.mono f s
 up:=fun f s=>JO.up f s
def Zc:U8 Za where
 sz:=5
 pos:=by decide
 Par:=TmP
 dflt:=((none,0),(none,0),(none,0))
 sh:=Wi
 len:=fun _ _=>rfl
 one:=fun _ _=>rfl
 F:=X3
 mono:=fun f s=>X3.mono f s
 up:=fun f s=>X3.up f s
def Xa{V:Nat}{h:H}{p:TmP}{x:Term}:Zt.F V h p x↔Sl Zi V h p.1.1 p.1.2 x.args/\Sl Zc V h p.2.1.1 p.2.1.2 x.qJ/\Sl Zt V h p.2.2.1 p.2.2.2 x.qQ:=by rw[Sl.iff (e:=Zc),Sl.iff (e:=Zt)];exact⟨fun s=>by cases s with|mk r pk A y t q l=>exact⟨A,⟨r,y,q⟩,pk,t,l⟩,fun⟨A,⟨r,y,q⟩,pk,t,l⟩=>JO.mk r pk A y t q l⟩
def ZK{V:Nat}{h:H}{p:TmP}{x:Za}:Zc.F V h p x↔Sl ZO V h p.1.1 p.1.2 x.qV/\Sl Zc V h p.2.1.1 p.2.1.2 x.qJ/\Sl Zt V h p.2.2.1 p.2.2.2 x.qQ:=by rw[Sl.iff (e:=Zc),Sl.iff (e:=Zt)];exact⟨fun s=>by cases s with|mk r pk A y t q l=>exact⟨A,⟨r,y,q⟩,pk,t,l⟩,fun⟨A,⟨r,y,q⟩,pk,t,l⟩=>X3.mk r pk A y t q l⟩
end
section
abbrev PtP:=TmP×SlP
def ifV(p:PtP):Part->N
 | .pr t=>.iface 78 (.agg (Qg p.1 t).toArray)
 | .ex e=>.iface 88 (.agg (ZvY p.2 e).toArray)
 | .cl c=>.iface 166 (.agg (Wi p.1 c).toArray)
def ZW{p:PtP}{x:Part}:X4 (ifV p x)=false:=by cases x<;>rfl
def ZnA{p:PtP}{x:Part}:(ifV p x).cells.toList=[ifV p x]:=by cases x<;>rfl
def Zge{β:Type}{f:Term->O β}{g:Zf->O β}{k:Za->O β}{x:Term}{r:β}(h:Zkx (.pr x) f g k=some r):f x=some r:=h
def Zgf{β:Type}{f:Term->O β}{g:Zf->O β}{k:Za->O β}{x:Zf}{r:β}(h:Zkx (.ex x) f g k=some r):g x=some r:=h
def Zgg{β:Type}{f:Term->O β}{g:Zf->O β}{k:Za->O β}{x:Za}{r:β}(h:Zkx (.cl x) f g k=some r):k x=some r:=h
def ZVS(V:Nat)(h:H)(p:PtP):Part->Prop
 | .pr t=>JO V h p.1 t
 | .ex e=>Zd3 V h p.2 e
 | .cl c=>X3 V h p.1 c
def Z6:U8 Part where
 sz:=1
 pos:=by decide
 Par:=PtP
 dflt:=(((none,0),(none,0),(none,0)),(none,0))
 sh:=fun p x=>[ifV p x]
 len:=fun _ _=>rfl
 one:=fun p x=>by cases x<;>rfl
 F:=ZVS
 mono:=fun{V h q p x} f s=>by
  cases x with|pr t=>exact JO.mono f s|ex e=>exact Zd3.mono f s|cl c=>exact X3.mono f s
 up:=fun{V l h p x} f s=>by
  cases x with|pr t=>exact JO.up f s|ex e=>exact Zd3.up f s|cl c=>exact X3.up f s
def ZaQ{V:Nat}{h:H}{A y r C:O Addr}{q p l B:Nat}{t:Term}(x:Z6.F V h (((A,q),(y,p),(r,l)),(C,B)) (.pr t)):Sl Zi V h A q t.args/\Sl Zc V h y p t.qJ/\Sl Zt V h r l t.qQ:=Xa.1 x
def ZjA{V:Nat}{h:H}{B A y p:O Addr}{t r q l:Nat}{e:Zf}(x:Z6.F V h (((B,t),(A,r),(y,q)),(p,l)) (.ex e)):Sl Zi V h p l e.qQ:=Yd.1 x
def ZaR{V:Nat}{h:H}{y t r B:O Addr}{q p l A:Nat}{c:Za}(x:Z6.F V h (((y,q),(t,p),(r,l)),(B,A)) (.cl c)):Sl ZO V h y q c.qV/\Sl Zc V h t p c.qJ/\Sl Zt V h r l c.qQ:=ZK.1 x
def Znt{V:Nat}{h:H}{B A r:O Addr}{q p l:Nat}{t:Term}(x:Sl Zi V h B q t.args)(y:Sl Zc V h A p t.qJ)(z:Sl Zt V h r l t.qQ):Z6.F V h (((B,q),(A,p),(r,l)),(none,0)) (.pr t):=Xa.2 ⟨x,y,z⟩
def Zwj{V:Nat}{h:H}{p:O Addr}{l:Nat}{e:Zf}(x:Sl Zi V h p l e.qQ):Z6.F V h (((none,0),(none,0),(none,0)),(p,l)) (.ex e):=Yd.2 x
def ZJz{V:Nat}{h:H}{A t r:O Addr}{q p l:Nat}{c:Za}(x:Sl ZO V h A q c.qV)(y:Sl Zc V h t p c.qJ)(z:Sl Zt V h r l c.qQ):Z6.F V h (((A,q),(t,p),(r,l)),(none,0)) (.cl c):=ZK.2 ⟨x,y,z⟩
end
section
structure XO where
 channels:(List ByteArray)
 many:(List Int)
 at_:(List Int)
 places:(List ByteArray)
 bad:Bool
 deriving Inhabited
structure ZxK where
 QE:Za
 deriving Inhabited
structure Process where
 term:Term
 deriving Inhabited
structure Zqh where
 K6:Zf
 deriving Inhabited
structure Z4 where
 at_:Int
 many:Int
 deriving DecidableEq,Inhabited
structure Change where
 from_:(List ByteArray)
 to_:(List Zf)
 deriving Inhabited
structure Two where
 x:ByteArray
 y:ByteArray
 e:Zf
 f:Zf
 deriving Inhabited
def KA(x y:Z4):Z:=[x.at_==y.at_,x.many==y.many].all id
def ZmY:O Z:=some true
end
section
def Zv2:U8 Z4 where
 sz:=2
 pos:=by decide
 Par:=Unit
 dflt:=()
 sh:=fun _ x=>[V9 x.at_,V9 x.many]
 len:=fun _ _=>rfl
 one:=fun _ _=>rfl
 F:=fun _ _ _ _=>True
 mono:=fun _ x=>x
 up:=fun _ x=>x
def ZW9:U8 Two where
 sz:=10
 pos:=by decide
 Par:=(O Addr×Nat)×(O Addr×Nat)
 dflt:=((none,0),(none,0))
 sh:=fun p x=>[.string x.x,.string x.y,V9 x.e.op,V9 x.e.n,.string x.e.qG,.slice p.1.1 x.e.qQ.length p.1.2,V9 x.f.op,V9 x.f.n,.string x.f.qG,.slice p.2.1 x.f.qQ.length p.2.2]
 len:=fun _ _=>rfl
 one:=fun _ _=>rfl
 F:=fun V h p x=>Sl Zi V h p.1.1 p.1.2 x.e.qQ/\Sl Zi V h p.2.1 p.2.2 x.f.qQ
 mono:=fun f ⟨q,l⟩=>⟨q.mono f,l.mono f⟩
 up:=fun f ⟨q,l⟩=>⟨q.up f,l.up f⟩
def QD(x:Z4):N:=.agg #[V9 x.at_,V9 x.many]
def ZWY:XX.P.underlying 3=some (.int .i64):=Kq0
def ZLh:XX.P.underlying 4=some .bool:=Kq0
def ZQO:XX.P.underlying 5=some (.int .u8):=Kq0
def ZeK:XX.P.underlying 9=some .string:=Kq0
def Zke:XX.P.underlying 20=some (.interface #[]):=Kq0
def Xk:XX.P.underlying 22=some (.slice 9):=Kq0
def JM:XX.P.underlying 29=some (.slice 36):=Kq0
def QR:XX.P.underlying 30=some (.slice 130):=Kq0
def JV:XX.P.underlying 31=some (.slice 33):=Kq0
def XY:XX.P.underlying 70=some (.map 9 4):=Kq0
def Zkg:XX.P.underlying 102=some (.slice 3):=Kq0
def JX:XX.P.underlying 128=some (.slice 136):=Kq0
def ZtB:XX.P.underlying 138=some (.slice 5):=Kq0
def KM:XX.P.underlying 142=some (.slice 140):=Kq0
def ZhB:XX.P.underlying 160=some (.slice 30):=Kq0
def ZtA:XX.P.underlying 185=some (.map 9 187):=Kq0
def ZPv:YV XX.P 3=some false:=Kq0
def Z0k:YV XX.P 4=some false:=Kq0
def Uu:YV XX.P 9=some false:=Kq0
def Zct:YV XX.P 22=some false:=Kq0
def ZxD:YV XX.P 28=some false:=Kq0
def ZEI:YV XX.P 29=some false:=Kq0
def Zhl:YV XX.P 30=some false:=Kq0
def Zmm:YV XX.P 31=some false:=Kq0
def Qy:YV XX.P 33=some true:=Kq0
def ZVu:YV XX.P 34=some false:=Kq0
def QG:YV XX.P 36=some true:=Kq0
def Zff:YV XX.P 37=some false:=Kq0
def Zhk:YV XX.P 70=some false:=Kq0
def ZPD:YV XX.P 102=some false:=Kq0
def ZPC:YV XX.P 124=some true:=Kq0
def Zmn:YV XX.P 127=some false:=Kq0
def Zix:YV XX.P 128=some false:=Kq0
def J9:YV XX.P 130=some true:=Kq0
def ZaL:YV XX.P 136=some true:=Kq0
def ZdV:YV XX.P 140=some false:=Kq0
def ZPB:YV XX.P 141=some false:=Kq0
def ZPA:YV XX.P 159=some true:=Kq0
def ZPz:YV XX.P 185=some false:=Kq0
def ZPy:YV XX.P 187=some true:=Kq0
def ZPx:YV XX.P 194=some false:=Kq0
def ZPw:YV XX.P 195=some false:=Kq0
def ZqP:YO XX.P 3=some 1:=Kq0
def ZvU:YO XX.P 4=some 1:=Kq0
def ZJh:YO XX.P 5=some 1:=Kq0
def Xo:YO XX.P 9=some 1:=Kq0
def Zfk:YO XX.P 22=some 1:=Kq0
def ZhE:YO XX.P 29=some 1:=Kq0
def ZhD:YO XX.P 30=some 1:=Kq0
def ZtM:YO XX.P 31=some 1:=Kq0
def Yt:YO XX.P 33=some 5:=Kq0
def Yz:YO XX.P 36=some 4:=Kq0
def ZLq:YO XX.P 37=some 1:=Kq0
def ZLp:YO XX.P 70=some 1:=Kq0
def ZLo:YO XX.P 78=some 5:=Kq0
def ZLn:YO XX.P 88=some 4:=Kq0
def ZvW:YO XX.P 102=some 1:=Kq0
def ZF2:YO XX.P 124=some 2:=Kq0
def ZvV:YO XX.P 128=some 1:=Kq0
def Yn:YO XX.P 130=some 5:=Kq0
def Xp:YO XX.P 136=some 2:=Kq0
def Ux:YO XX.P 140=some 1:=Kq0
def ZF1:YO XX.P 141=some 1:=Kq0
def ZF0:YO XX.P 147=some 1:=Kq0
def ZFZ:YO XX.P 159=some 2:=Kq0
def ZFY:YO XX.P 166=some 5:=Kq0
def ZFX:YO XX.P 185=some 1:=Kq0
def ZFW:YO XX.P 187=some 2:=Kq0
def ZFV:YO XX.P 195=some 1:=Kq0
def ZjR:ZB XX.P 33 0 0:=ZB.of Kq0
def ZHA:ZB XX.P 33 1 1:=ZB.of Kq0
def Zpo:ZB XX.P 33 2 2:=ZB.of Kq0
def ZHz:ZB XX.P 33 3 3:=ZB.of Kq0
def ZgJ:ZB XX.P 33 4 4:=ZB.of Kq0
def ZHy:ZB XX.P 36 0 0:=ZB.of Kq0
def ZHx:ZB XX.P 36 1 1:=ZB.of Kq0
def ZHw:ZB XX.P 36 2 2:=ZB.of Kq0
def ZjQ:ZB XX.P 36 3 3:=ZB.of Kq0
def ZwR:ZB XX.P 59 0 0:=ZB.of Kq0
def ZHv:ZB XX.P 59 1 1:=ZB.of Kq0
def ZHu:ZB XX.P 59 2 2:=ZB.of Kq0
def ZHt:ZB XX.P 59 3 6:=ZB.of Kq0
def ZgI:ZB XX.P 78 0 0:=ZB.of Kq0
def ZHs:ZB XX.P 88 0 0:=ZB.of Kq0
def Zr3:ZB XX.P 104 0 0:=ZB.of Kq0
def Zr2:ZB XX.P 104 1 1:=ZB.of Kq0
def ZC4:ZB XX.P 104 2 2:=ZB.of Kq0
def Zlj:ZB XX.P 104 3 3:=ZB.of Kq0
def ZC3:ZB XX.P 104 4 4:=ZB.of Kq0
def ZC0:ZB XX.P 119 0 0:=ZB.of Kq0
def ZCZ:ZB XX.P 119 1 1:=ZB.of Kq0
def ZCY:ZB XX.P 119 2 2:=ZB.of Kq0
def ZCX:ZB XX.P 119 3 3:=ZB.of Kq0
def ZCW:ZB XX.P 119 4 4:=ZB.of Kq0
def ZCV:ZB XX.P 124 0 0:=ZB.of Kq0
def ZCU:ZB XX.P 124 1 1:=ZB.of Kq0
def Zr1:ZB XX.P 130 0 0:=ZB.of Kq0
def ZCT:ZB XX.P 130 1 1:=ZB.of Kq0
def Zdv:ZB XX.P 130 2 2:=ZB.of Kq0
def ZCS:ZB XX.P 130 3 3:=ZB.of Kq0
def ZgM:ZB XX.P 130 4 4:=ZB.of Kq0
def Zr0:ZB XX.P 136 0 0:=ZB.of Kq0
def ZgL:ZB XX.P 136 1 1:=ZB.of Kq0
def ZCR:ZB XX.P 147 0 0:=ZB.of Kq0
def ZCQ:ZB XX.P 159 0 0:=ZB.of Kq0
def ZCP:ZB XX.P 159 1 1:=ZB.of Kq0
def ZrZ:ZB XX.P 166 0 0:=ZB.of Kq0
def ZzO:Y5 XX.P 3=some (V9 0):=Kq0
def Zcc:Y5 XX.P 4=some (.bool false):=Kq0
def ZI5:Y5 XX.P 5=some (.int .u8 0):=Kq0
def JA:Y5 XX.P 9=some (.string ⟨#[]⟩):=Kq0
def ZzP:Y5 XX.P 22=some (V8):=Kq0
def Ztr:Y5 XX.P 30=some (V8):=Kq0
def U9:Y5 XX.P 33=some (.agg #[V9 0,.string ⟨#[]⟩,V8,V8,V8]):=Kq0
def Za4:Y5 XX.P 36=some (.agg #[V9 0,V9 0,.string ⟨#[]⟩,V8]):=Kq0
def ZKM:Y5 XX.P 37=some (V9 0):=Kq0
def ZKL:Y5 XX.P 70=some (.map none):=Kq0
def ZcL:Y5 XX.P 78=some (.agg #[V9 0,.string ⟨#[]⟩,V8,V8,V8]):=Kq0
def Zok:Y5 XX.P 88=some (.agg #[V9 0,V9 0,.string ⟨#[]⟩,V8]):=Kq0
def ZvG:Y5 XX.P 104=some (.agg #[V8,V8,V8,V8,.bool false]):=Kq0
def ZFz:Y5 XX.P 119=some (.agg #[V9 0,.string ⟨#[]⟩,V8,V8,.bool false]):=Kq0
def ZvE:Y5 XX.P 124=some (.agg #[V8,V8]):=Kq0
def Kh:Y5 XX.P 130=some (.agg #[V9 0,.string ⟨#[]⟩,V8,V8,V8]):=Kq0
def ZbL:Y5 XX.P 136=some (.agg #[.string ⟨#[]⟩,V8]):=Kq0
def Zf0:Y5 XX.P 140=some (.nilIface):=Kq0
def ZFy:Y5 XX.P 141=some (.nilFunc):=Kq0
def ZvD:Y5 XX.P 147=some (.agg #[V9 0]):=Kq0
def ZvC:Y5 XX.P 159=some (.agg #[V8,V9 0]):=Kq0
def ZvA:Y5 XX.P 166=some (.agg #[V9 0,.string ⟨#[]⟩,V8,V8,V8]):=Kq0
def ZFx:Y5 XX.P 185=some (.map none):=Kq0
def Zol:Y5 XX.P 187=some (.agg #[V9 0,V9 0]):=Kq0
def ZFw:Y5 XX.P 195=some (.nilFunc):=Kq0
def Ze9:Jz XX.P 33 [V9 0,.string ⟨#[]⟩,V8,V8,V8] [(0,1),(1,1),(2,1),(3,1),(4,1)]:=⟨_,_,U9,rfl,Tryz.underlying33,by kernel_rfl⟩
def Zhe:Jz XX.P 36 [V9 0,V9 0,.string ⟨#[]⟩,V8] [(0,1),(1,1),(2,1),(3,1)]:=⟨_,_,Za4,rfl,Tryz.underlying36,by kernel_rfl⟩
def ZsO:Jz XX.P 78 [V9 0,.string ⟨#[]⟩,V8,V8,V8] [(0,5)]:=⟨_,_,ZcL,rfl,Tryz.underlying78,by kernel_rfl⟩
def ZEn:Jz XX.P 88 [V9 0,V9 0,.string ⟨#[]⟩,V8] [(0,4)]:=⟨_,_,Zok,rfl,Tryz.underlying88,by kernel_rfl⟩
def ZPk:Jz XX.P 104 [V8,V8,V8,V8,.bool false] [(0,1),(1,1),(2,1),(3,1),(4,1)]:=⟨_,_,ZvG,rfl,Tryz.underlying104,by kernel_rfl⟩
def ZEp:Jz XX.P 124 [V8,V8] [(0,1),(1,1)]:=⟨_,_,ZvE,rfl,Tryz.underlying124,by kernel_rfl⟩
def Zp0:Jz XX.P 130 [V9 0,.string ⟨#[]⟩,V8,V8,V8] [(0,1),(1,1),(2,1),(3,1),(4,1)]:=⟨_,_,Kh,rfl,Tryz.underlying130,by kernel_rfl⟩
def Zu6:Jz XX.P 136 [.string ⟨#[]⟩,V8] [(0,1),(1,1)]:=⟨_,_,ZbL,rfl,Tryz.underlying136,by kernel_rfl⟩
def ZPj:Jz XX.P 147 [V9 0] [(0,1)]:=⟨_,_,ZvD,rfl,Tryz.underlying147,by kernel_rfl⟩
def ZEo:Jz XX.P 159 [V8,V9 0] [(0,1),(1,1)]:=⟨_,_,ZvC,rfl,Tryz.underlying159,by kernel_rfl⟩
def ZPi:Jz XX.P 166 [V9 0,.string ⟨#[]⟩,V8,V8,V8] [(0,5)]:=⟨_,_,ZvA,rfl,Tryz.underlying166,by kernel_rfl⟩
def ZPh:Jz XX.P 187 [V9 0,V9 0] [(0,1),(1,1)]:=⟨_,_,Zol,rfl,Tryz.underlying187,by kernel_rfl⟩
def QV:Zd4 XX.P #[22,22] 1 16:=⟨9,.string ⟨#[]⟩,by kernel_rfl⟩
def ZdT:Zd4 XX.P #[29,29] 4 56:=⟨36,.agg #[V9 0,V9 0,.string ⟨#[]⟩,V8],by kernel_rfl⟩
def Zhi:Zd4 XX.P #[30,30] 5 96:=⟨130,.agg #[V9 0,.string ⟨#[]⟩,V8,V8,V8],by kernel_rfl⟩
def ZsY:Zd4 XX.P #[31,31] 5 96:=⟨33,.agg #[V9 0,.string ⟨#[]⟩,V8,V8,V8],by kernel_rfl⟩
def Zmj:Zd4 XX.P #[102,102] 1 8:=⟨3,V9 0,by kernel_rfl⟩
def Zvc:Zd4 XX.P #[128,128] 2 40:=⟨136,.agg #[.string ⟨#[]⟩,V8],by kernel_rfl⟩
def Zvb:Zd4 XX.P #[138,138] 1 1:=⟨5,.int .u8 0,by kernel_rfl⟩
def Zb6:Zd4 XX.P #[142,142] 1 16:=⟨140,.nilIface,by kernel_rfl⟩
def Zva:Zd4 XX.P #[160,160] 1 24:=⟨30,V8,by kernel_rfl⟩
def ZOO(x y:Z4):ZV1 XX.P 187 (Zv2.sh () x) (Zv2.sh () y) (KA x y):=
 ⟨by kernel_rfl,ZyZ (d:=9999) (bs:=[x.at_==y.at_,x.many==y.many]) Tryz.underlying187 Kq0 ⟨⟨by decide,_,_,Zee Kq0 rfl,Zee Kq0 rfl,eq_int Kq0⟩,⟨by decide,_,_,Zee Kq0 rfl,Zee Kq0 rfl,eq_int Kq0⟩,trivial⟩⟩
def Jd:Zd2 XX.P 9 Value.string:=Zd2.str Kq0
def ZrF:(XX.fns.get 14).isSome=true:=Kq0
def Zdm:(XX.fns.get 15).isSome=true:=Kq0
def ZTn:(XX.fns.get 16).isSome=true:=Kq0
def ZKm:(XX.fns.get 17).isSome=true:=Kq0
def ZTm:(XX.fns.get 19).isSome=true:=Kq0
def ZTl:(XX.fns.get 21).isSome=true:=Kq0
def Zgy:(XX.fns.get 23).isSome=true:=Kq0
def ZTk:(XX.fns.get 25).isSome=true:=Kq0
def ZKl:(XX.fns.get 26).isSome=true:=Kq0
def ZTj:(XX.fns.get 27).isSome=true:=Kq0
def ZTi:(XX.fns.get 29).isSome=true:=Kq0
def Zgx:(XX.fns.get 31).isSome=true:=Kq0
def ZnG:(XX.fns.get 32).isSome=true:=Kq0
def ZKk:(XX.fns.get 34).isSome=true:=Kq0
def ZKj:(XX.fns.get 35).isSome=true:=Kq0
def ZnF:(XX.fns.get 36).isSome=true:=Kq0
def ZTh:(XX.fns.get 37).isSome=true:=Kq0
def ZTg:(XX.fns.get 39).isSome=true:=Kq0
def ZTf:(XX.fns.get 40).isSome=true:=Kq0
def ZTe:(XX.fns.get 41).isSome=true:=Kq0
def ZTd:(XX.fns.get 43).isSome=true:=Kq0
def ZKi:(XX.fns.get 48).isSome=true:=Kq0
def ZKh:(XX.fns.get 51).isSome=true:=Kq0
def ZKg:(XX.fns.get 52).isSome=true:=Kq0
def ZTc:(XX.fns.get 53).isSome=true:=Kq0
def ZTb:(XX.fns.get 54).isSome=true:=Kq0
def ZTa:(XX.fns.get 55).isSome=true:=Kq0
def ZwG:(XX.fns.get 57).isSome=true:=Kq0
def ZB1:(XX.fns.get 59).isSome=true:=Kq0
def ZwF:(XX.fns.get 61).isSome=true:=Kq0
def ZKf:(XX.fns.get 64).isSome=true:=Kq0
def ZKe:(XX.fns.get 65).isSome=true:=Kq0
def ZS9:(XX.fns.get 70).isSome=true:=Kq0
def ZS8:(XX.fns.get 71).isSome=true:=Kq0
def ZS7:(XX.fns.get 72).isSome=true:=Kq0
def Ze0:(XX.fns.get 80).isSome=true:=Kq0
def ZKd:(XX.fns.get 85).isSome=true:=Kq0
def ZKc:(XX.fns.get 86).isSome=true:=Kq0
def ZKb:(XX.fns.get 87).isSome=true:=Kq0
def ZB0:(XX.fns.get 89).isSome=true:=Kq0
def ZBZ:(XX.fns.get 90).isSome=true:=Kq0
def ZKa:(XX.fns.get 91).isSome=true:=Kq0
def ZBY:(XX.fns.get 92).isSome=true:=Kq0
def ZJ9:(XX.fns.get 98).isSome=true:=Kq0
def ZS6:(XX.fns.get 99).isSome=true:=Kq0
def Zpf:(XX.fns.get 100).isSome=true:=Kq0
def Wu:(XX.fns.get 101).isSome=true:=Kq0
def ZMM:(XX.fns.get 102).isSome=true:=Kq0
def Xw:(XX.fns.get 104).isSome=true:=Kq0
def ZCf:(XX.fns.get 105).isSome=true:=Kq0
def ZhX:(XX.fns.get 106).isSome=true:=Kq0
def ZCe:(XX.fns.get 113).isSome=true:=Kq0
def ZCd:(XX.fns.get 114).isSome=true:=Kq0
def ZML:(XX.fns.get 115).isSome=true:=Kq0
def ZMK:(XX.fns.get 116).isSome=true:=Kq0
def ZMJ:(XX.fns.get 125).isSome=true:=Kq0
def ZMI:(XX.fns.get 127).isSome=true:=Kq0
def ZMH:(XX.fns.get 128).isSome=true:=Kq0
def ZCc:(XX.fns.get 129).isSome=true:=Kq0
def ZMG:(XX.fns.get 130).isSome=true:=Kq0
def ZCb:(XX.fns.get 131).isSome=true:=Kq0
def ZMF:(XX.fns.get 132).isSome=true:=Kq0
def ZCa:(XX.fns.get 133).isSome=true:=Kq0
def ZB9:(XX.fns.get 137).isSome=true:=Kq0
def ZB8:(XX.fns.get 138).isSome=true:=Kq0
def ZB7:(XX.fns.get 139).isSome=true:=Kq0
def ZB6:(XX.fns.get 144).isSome=true:=Kq0
def ZhW:(XX.fns.get 145).isSome=true:=Kq0
def ZB5:(XX.fns.get 146).isSome=true:=Kq0
def ZB4:(XX.fns.get 148).isSome=true:=Kq0
def ZME:(XX.fns.get 156).isSome=true:=Kq0
def ZMD:(XX.fns.get 157).isSome=true:=Kq0
def ZMC:(XX.fns.get 158).isSome=true:=Kq0
def KR:(XX.fns.get 160).isSome=true:=Kq0
def ZMB:(XX.fns.get 197).isSome=true:=Kq0
def ZB3:(XX.fns.get 198).isSome=true:=Kq0
def ZB2:(XX.fns.get 199).isSome=true:=Kq0
def ZMA:(XX.fns.get 200).isSome=true:=Kq0
def ZMz:(XX.fns.get 201).isSome=true:=Kq0
end
end Go.Proofs.YtbnepjakjmnadaaGreat
end
end
section
noncomputable section
namespace Go.ZU
open Go.Lf
class KV(P:Program)(t:TypeId):Prop where
 out:YV P t=some false
class Zte(P:Program)(t:TypeId):Prop where
 out:YV P t=some true
class SzF(P:Program)(t:TypeId)(n:outParam Nat):Prop where
 out:YO P t=some n
class QO(P:Program)(t:TypeId)(f:Nat)(o:outParam Nat):Prop where
 out:ZB P t f o
class Zmv(P:Program)(t:TypeId)(e:outParam TypeId):Prop where
 out:P.underlying t=some (.slice e)
class ZPT(P:Program)(t:TypeId):Prop where
 out:P.underlying t=some .bool
class Wz(P:Program)(t:TypeId)(v:outParam Value):Prop where
 out:Y5 P t=some v
def ia{v:N}(h:X4 v=false):X4 v=false:=h
def ZZh{fr:Fr}{t:Nat}{c:Z}{v:N}(h:fr.at t=cond c v undef)(p:X4 v=false)(l:c=true):YI fr (.tmp t)=some v:=XT h p l
section
variable{X:Ctx}{h:H}{fr:Fr}{ty:J}{p':String}{af:V5 Edge}{g:O (Nat×Z)}{d:O Tmp}{V:Nat}{T:Nat->Prop}{h0:H}{G Gr:U (Ast V)}
def ZVn{x:V0}{t:J}{f off b o:Nat}[hf:QO X.P t f off](l:YI fr x=some (.pointer (some ⟨b,o,none⟩))):XM X h (YI fr) ⟨d,.fieldAddr t x f,ty,p',af,g⟩=some (.val (.pointer (some ⟨b,o+off,none⟩)),.none):=Y3 hf.out l
def ZZ8{x:V0}{t:J}{b l:Nat}{vs:U N}{v:N}[ht:KV X.P t](q:YI fr x=some (.pointer (some ⟨b,l,none⟩)))(r:Sp V T h0 G h)(p:Pk G (bx V b vs) Gr)(hv:vs[l]? =some v):
 XM X h (YI fr) ⟨d,.load t x,ty,p',af,g⟩=some (.val v,.none):=Z0 ht.out q (r.Jo p) (Gc _).symm hv
def ZVl{x:V0}{t:J}{b l sz:Nat}{vs ws:U N}[ht:Zte X.P t][hs:SzF X.P t sz](q:YI fr x=some (.pointer (some ⟨b,l,none⟩)))(y:Sp V T h0 G h)(p:Pk G (bx V b vs) Gr)(r:Nat.ble (l+sz) vs.length=true)(hv:(vs.drop l).take sz=ws):
 XM X h (YI fr) ⟨d,.load t x,ty,p',af,g⟩=some (.val (.agg ws.toArray),.none):=Yo ht.out hs.out q (y.Jo p) (Gc _).symm r hv
def ZVo{r:Tmp}{x:V0}{t:J}{v:N}{vs:U N}(l:YI fr x=some v)(p:Sp V T h0 G h)(hv:v.cells.toList=vs):
 HN X V ⟨some r,.box t x,ty,p',af,g⟩ fr h (fun v q=>∃b,h.size=b/\v=(Va b)/\Sp V T h0 (bx V b vs::G) q):=Zko p l hv
def ZVp{q:Tmp}{t:J}{v:N}{vs:U N}[hz:Wz X.P t v](l:Sp V T h0 G h)(hv:v.cells.toList=vs):
 HN X V ⟨some q,.alloc t,ty,p',af,g⟩ fr h (fun v p=>∃b,h.size=b/\v=(Va b)/\Sp V T h0 (bx V b vs::G) p):=ZeV l hz.out hv
def ZZ7{x y:V0}{t:J}{b o sz:Nat}{cs cs' vs:U N}{v:N}[hs:SzF X.P t sz](q:YI fr x=some (.pointer (some ⟨b,o,none⟩)))(B:Sp V T h0 G h)(pk:Pk G (bx V b cs) Gr)(p:YI fr y=some v)
 (l:v.cells.toList=vs) (hn:Nat.beq vs.length sz=true) (r:Nat.ble (o+sz) cs.length=true) (A:vs.all Value.oneCell'=true) (hv:splice cs o vs=cs'):
 HU X V ⟨none,.store t x y,ty,p',af,g⟩ fr h (fun i=>i=b) (fun C=>Sp V T h0 (bx V b cs'::Gr) C):=WG B pk hs.out q p l hn r A hv
def ZVm{l:Type}{xs:U l}{v:l}{x y:V0}{t e:J}{sz b o p c C:Nat}{a:O Addr}{k:Int}[hu:Zmv X.P t e][hs:SzF X.P e sz](r:YI fr x=some (.slice a p c))(q:YI fr y=some (V9 k))(hn:p=xs.length)(B:a=some ⟨b,o,none⟩)(A:Yl xs k=some v):
 XM X h (YI fr) ⟨some C,.indexAddr t x y,ty,p',af,g⟩=some (.val (.pointer (some ⟨b,o+k.toNat*sz,none⟩)),.none):=ZJ hu.out hs.out r q hn B A
def ZVk{x:V0}{t:J}{b o l j:Nat}{vs:U N}{v:N}[ht:KV X.P t](p:YI fr x=some (.pointer (some ⟨b,l,none⟩)))(r:At h b o vs)(q:l=o+j)(hv:vs[j]? =some v):
 XM X h (YI fr) ⟨d,.load t x,ty,p',af,g⟩=some (.val v,.none):=Z0 ht.out p r q hv
def ZVj{x:V0}{t q:J}{a:O Addr}{l y r:Nat}[hu:Zmv X.P t q](p:YI fr x=some (.slice a l y)):
 XM X h (YI fr) ⟨some r,.call {callee:=.builtin .len,args:=#[x],argTypes:=#[t]},ty,p',af,g⟩=some (.val (V9 (l:Int)),.none):=Zp5 hu.out p rfl
end
section
variable{X:Ctx}{n V:Nat}{rd:O Nat}{ops:V5 Oper}{l:U Oper}{fr:Fr}{ds:U V7}{h:H}{ty:J}{p:String}{af:V5 Edge}{g:O (Nat×Z)}{sf:ST}{m:Nat}
def WX.w2{Q:Fr->H->Prop}{d:Nat}{q:Op}{v:N}(r:Yg ops ⟨some d,q,ty,p,af,g⟩ fr)(t:Nat.blt d n=true)(y:okM ops sf m ⟨some d,q,ty,p,af,g⟩=true)(x:XM X h (YI fr) ⟨some d,q,ty,p,af,g⟩=some (.val v,.none))(k:WX X n V rd ops sf (m+1) h l (Tr.set fr d v) Q):
 WX X n V rd ops sf m h (⟨some d,q,ty,p,af,g⟩::l) fr Q:=WX.w r t x k y
def WX.gv2{Q:Fr->H->Prop}{d:Nat}{q:Op}{c:Z}{v:N}(r:Ze ops ⟨some d,q,ty,p,af,g⟩ fr c)(t:Nat.blt d n=true)(y:okM ops sf m ⟨some d,q,ty,p,af,g⟩=true)(x:c=true->XM X h (YI fr) ⟨some d,q,ty,p,af,g⟩=some (.val v,.none))(k:WX X n V rd ops sf (m+1) h l (Tr.set fr d (cond c v undef)) Q):
 WX X n V rd ops sf m h (⟨some d,q,ty,p,af,g⟩::l) fr Q:=WX.gv r t x k y
end
structure Kp(q:Prop):Prop where
 out:q
def E9{p:Prop}(h:p:=by(focus (repeat (first|with_reducible exact fh | ((with_reducible apply Xe);exact rfl) | ((with_reducible apply Yy);exact rfl) | ((with_reducible apply Z5);exact rfl) | ((with_reducible apply Zj);exact rfl) | with_reducible assumption));first|done|fail)):p:=h
def lk{p:Prop}(h:p:=by(first|exact JS rfl | (apply Zu;exact E9;(first|exact ia rfl|assumption)) | (apply ZZh;exact E9;(first|exact ia rfl|assumption);assumption) | fail)):p:=h
def pk{p:Prop}(h:p:=by (first|exact k0|exact k1|exact k2|exact k3|exact k4|exact k5|exact k6|exact k7 | (repeat (first|exact k7|apply Pk.s)));done):p:=h
def ce{p:Prop}(h:p:=by (focus (first | (simp only[Zy6,Zu2,ZsF,Zy4,Zy5,Zy7,ZpR,cells_func,Zm2,Zl5,ZsG];exact rfl) | exact rfl));done):p:=h
def gi{p:Prop}(h:p:=by(first | (apply Ze.yes rfl rfl rfl;exact E9) | (apply Ze.no rfl rfl rfl;exact E9) | (apply Ze.ZQr rfl rfl rfl;exact E9) | (apply Ze.no2 rfl rfl rfl;exact E9) | fail)):p:=h
section
variable{X:Ctx}{n V:Nat}{rd:O Nat}{Q:XX->Fs->Prop}
def cn{c:V0}{a b:Code}{t:Z}{fr:Fr}{ds:U V7}{h:H}{p:Type}{x y r:p}(l:(bif t then x else y)=r)(h1:t=true->x=r->WC X n V rd a ⟨fr,ds,h,none⟩ Q)(h2:t=false->y=r->WC X n V rd b ⟨fr,ds,h,none⟩ Q)(q:YI fr c=some (.bool t):=by exact lk):WC X n V rd (.cond c a b) ⟨fr,ds,h,none⟩ Q:=
 WC.UZ q (fun e=>h1 e (YS e l)) (fun e=>h2 e (YT e l))
def rt{fn:Func}{fr:Fr}{h l:H}{T:Nat->Prop}{G C:U (Ast V)}{wr:O Nat}{t:Tmp}{β:Type}{x r:β}{g:β->N}(A:some x=some r)(q:T=QA G)(y:Sp V T l C h)(p:fn.results.toList=[.tmp t]:=by exact rfl)(hv:YI fr (.tmp t)=some (g x):=by exact lk):
 Yk X fn (fun e B=>∃v,e=.ret v/\CP (fun v Gb=>v=g r/\Gb=[]) G l v B) .ret ⟨fr,[],h,wr⟩:=by
 cases A;exact Yk.XA p (Zp hv Zl) ⟨_,⟨rfl,rfl⟩,q▸y.only .n⟩
def bg{f:V3}{fn:Func}{c:Code}{args:U N}{n:Nat}{K:N->U (Ast V)->Prop}{G:U (Ast V)}{h:H}{fr:Fr}(l:fn.ntmps=n)(y:V<=h.size)(t:ZV G h)
 (k:∀T,T=QA (V:=V) G->Sp V T h G h->WC X n V none c ⟨fr,[],h,none⟩ (Yk X fn (fun e x=>∃v,e=.ret v/\CP K G h v x))) (q:X.fns.get f=some fn:=by kernel_rfl) (r:fn.body=some c:=by exact rfl) (hn:args.length<=n:=by simp)
 (p:QI args 0 .nil=fr:=by(simp only[Zv,Zy,Nat.reduceAdd];exact rfl)):WR X f args.toArray V h (CP K G h):=by
 subst p;exact WF.begin q r l hn (k _ rfl (Sp.start y t))
end
def lks{p:Prop}(h:p:=by
 repeat (first|exact Zd | (apply Zb;(focus exact lk;done)))
 done):p:=h
def YQ{p:Prop}(h:p:=by
 repeat (first|with_reducible exact fh | ((with_reducible apply Xe);exact rfl) | ((with_reducible apply Yy);exact rfl) | ((with_reducible apply Z5);exact rfl) | ((with_reducible apply Zj);exact rfl) | with_reducible assumption|refine⟨?_,?_⟩)
 done):p:=h
theorem r1{p q:Prop}(k:q)(h:Kp q->p:=by
 intro k;first
 | refine WO.nil ?_
 | refine Yx.YC ?_
 | refine WC.seq ?_
 | refine WC.region ?_
 | ((first|apply WO.w gN rfl | (apply WO.gv;exact gi;rfl;intro l) | (apply WX.w2 gN;rfl;rfl) | (apply WX.gv2;exact gi;rfl;rfl;intro l));(focus (first
   | ((with_reducible apply Ye);exact lk)
   | ((with_reducible apply ZZ8);exact lk;assumption;exact pk;rfl)
   | ((with_reducible apply ZVn);exact lk)
   | ((with_reducible apply YE);exact lk)
   | ((with_reducible apply YN);exact lk;exact lk;(first|with_reducible exact ZiA|with_reducible exact Zho|with_reducible exact Zs5|with_reducible exact ZEM|with_reducible exact Zzn|with_reducible exact ZEO|with_reducible exact ZEP|with_reducible exact ZEN|with_reducible exact Zzv|with_reducible exact Ziz ZPT.out|with_reducible exact Zzs ZPT.out))
   | ((with_reducible apply ZVl);exact lk;assumption;exact pk;rfl;(focus simp only[Nat.zero_add,Nat.reduceAdd,List.drop_succ_cons,List.drop_zero,List.take_succ_cons,List.take_zero,List.take_nil];rfl))
   | ((with_reducible apply ZVj);exact lk)
   | ((with_reducible apply ZVm);exact lk;exact lk;(focus (exact rfl));assumption;assumption)
   | ((with_reducible apply ZVk);exact lk;(focus (first|assumption | (apply At.fz;(focus (apply Sp.fz;assumption));assumption;assumption));done);(focus (first|exact(Nat.add_zero _).symm|exact rfl);done);rfl)
   | ((with_reducible apply Jv);exact lk;rfl)
   | ((with_reducible apply Kc);exact lk)
   | ((with_reducible apply KU);exact lk)
   | ((with_reducible apply Zmf);exact lk;(focus (apply ZD4;exact E9);done);exact lk)
   | ((with_reducible apply ZKG);exact lk;exact lk;(apply ZD4;exact E9))
   | fail)))
 | (apply WO.hu gN;(focus (first | (((with_reducible apply ZZ7));exact lk;assumption;exact pk;exact lk;exact ce;exact rfl;exact rfl;exact rfl;(focus simp only[splice,List.take_succ_cons,List.take_zero,List.drop_succ_cons,List.drop_zero,List.cons_append,List.nil_append,List.append_nil,List.length_cons,List.length_nil,Nat.reduceAdd,Nat.zero_add,List.take_nil,List.drop_nil];exact rfl)) | fail)))
 | (apply WO.hn gN rfl;(focus (first | (((with_reducible apply ZVo));exact lk;assumption;exact ce) | (((with_reducible apply ZVp));assumption;exact ce) | fail)))
 | refine WC.skip ?_
 | refine WC.ret ?_
 | refine WC.block ?_
 | refine WC.exit ?_
 | refine Yx.ret ?_
 | refine Yx.exit ?_
 | refine Xh.ret ?_
 | refine Xh.YC ?_
 | refine Xh.here ?_
 | refine ZQ.exit ?_
 | refine ZQ.ret ?_
 | refine WX.nil ?_
 | fail
 exact k.out):p:=h ⟨k⟩
def sl{p:Prop}(h:p:=by
 repeat (first|exact Sel.n | (apply Sel.c;(focus exact pk)))
 done):p:=h
theorem r2{p q:Prop}(k:q)(h:Kp q->p:=by
 intro k;iterate 2 (refine r1 ?_)
 exact k.out):p:=h ⟨k⟩
theorem r3{p q:Prop}(k:q)(h:Kp q->p:=by
 intro k;iterate 3 (refine r1 ?_)
 exact k.out):p:=h ⟨k⟩
theorem r4{p q:Prop}(k:q)(h:Kp q->p:=by
 intro k;iterate 4 (refine r1 ?_)
 exact k.out):p:=h ⟨k⟩
theorem r5{p q:Prop}(k:q)(h:Kp q->p:=by
 intro k;iterate 5 (refine r1 ?_)
 exact k.out):p:=h ⟨k⟩
theorem r6{p q:Prop}(k:q)(h:Kp q->p:=by
 intro k;iterate 6 (refine r1 ?_)
 exact k.out):p:=h ⟨k⟩
theorem r7{p q:Prop}(k:q)(h:Kp q->p:=by
 intro k;iterate 7 (refine r1 ?_)
 exact k.out):p:=h ⟨k⟩
theorem r8{p q:Prop}(k:q)(h:Kp q->p:=by
 intro k;iterate 8 (refine r1 ?_)
 exact k.out):p:=h ⟨k⟩
theorem r9{p q:Prop}(k:q)(h:Kp q->p:=by
 intro k;iterate 9 (refine r1 ?_)
 exact k.out):p:=h ⟨k⟩
theorem r10{p q:Prop}(k:q)(h:Kp q->p:=by
 intro k;iterate 10 (refine r1 ?_)
 exact k.out):p:=h ⟨k⟩
theorem WV{p q:Prop}(k:q)(h:Kp q->p:=by
 intro k;iterate 11 (refine r1 ?_)
 exact k.out):p:=h ⟨k⟩
theorem r12{p q:Prop}(k:q)(h:Kp q->p:=by
 intro k;iterate 12 (refine r1 ?_)
 exact k.out):p:=h ⟨k⟩
theorem r13{p q:Prop}(k:q)(h:Kp q->p:=by
 intro k;iterate 13 (refine r1 ?_)
 exact k.out):p:=h ⟨k⟩
theorem r14{p q:Prop}(k:q)(h:Kp q->p:=by
 intro k;iterate 14 (refine r1 ?_)
 exact k.out):p:=h ⟨k⟩
theorem r15{p q:Prop}(k:q)(h:Kp q->p:=by
 intro k;iterate 15 (refine r1 ?_)
 exact k.out):p:=h ⟨k⟩
theorem r16{p q:Prop}(k:q)(h:Kp q->p:=by
 intro k;iterate 16 (refine r1 ?_)
 exact k.out):p:=h ⟨k⟩
end Go.ZU
end
end
section
set_option maxRecDepth 20000
noncomputable section
namespace Go.Proofs.YtbnepjakjmnadaaGreat
open Go.Lf
section
open Go.ZU Go.Lf
instance:KV XX.P 3:=⟨ZPv⟩
instance:KV XX.P 4:=⟨Z0k⟩
instance:KV XX.P 9:=⟨Uu⟩
instance:KV XX.P 22:=⟨Zct⟩
instance:KV XX.P 28:=⟨ZxD⟩
instance:KV XX.P 29:=⟨ZEI⟩
instance:KV XX.P 30:=⟨Zhl⟩
instance:KV XX.P 31:=⟨Zmm⟩
instance:Zte XX.P 33:=⟨Qy⟩
instance:KV XX.P 34:=⟨ZVu⟩
instance:Zte XX.P 36:=⟨QG⟩
instance:KV XX.P 37:=⟨Zff⟩
instance:KV XX.P 70:=⟨Zhk⟩
instance:KV XX.P 102:=⟨ZPD⟩
instance:Zte XX.P 124:=⟨ZPC⟩
instance:KV XX.P 127:=⟨Zmn⟩
instance:KV XX.P 128:=⟨Zix⟩
instance:Zte XX.P 130:=⟨J9⟩
instance:Zte XX.P 136:=⟨ZaL⟩
instance:KV XX.P 140:=⟨ZdV⟩
instance:KV XX.P 141:=⟨ZPB⟩
instance:Zte XX.P 159:=⟨ZPA⟩
instance:KV XX.P 185:=⟨ZPz⟩
instance:Zte XX.P 187:=⟨ZPy⟩
instance:KV XX.P 194:=⟨ZPx⟩
instance:KV XX.P 195:=⟨ZPw⟩
instance:SzF XX.P 3 1:=⟨ZqP⟩
instance:SzF XX.P 4 1:=⟨ZvU⟩
instance:SzF XX.P 5 1:=⟨ZJh⟩
instance:SzF XX.P 9 1:=⟨Xo⟩
instance:SzF XX.P 22 1:=⟨Zfk⟩
instance:SzF XX.P 29 1:=⟨ZhE⟩
instance:SzF XX.P 30 1:=⟨ZhD⟩
instance:SzF XX.P 31 1:=⟨ZtM⟩
instance:SzF XX.P 33 5:=⟨Yt⟩
instance:SzF XX.P 36 4:=⟨Yz⟩
instance:SzF XX.P 37 1:=⟨ZLq⟩
instance:SzF XX.P 70 1:=⟨ZLp⟩
instance:SzF XX.P 78 5:=⟨ZLo⟩
instance:SzF XX.P 88 4:=⟨ZLn⟩
instance:SzF XX.P 102 1:=⟨ZvW⟩
instance:SzF XX.P 124 2:=⟨ZF2⟩
instance:SzF XX.P 128 1:=⟨ZvV⟩
instance:SzF XX.P 130 5:=⟨Yn⟩
instance:SzF XX.P 136 2:=⟨Xp⟩
instance:SzF XX.P 140 1:=⟨Ux⟩
instance:SzF XX.P 141 1:=⟨ZF1⟩
instance:SzF XX.P 147 1:=⟨ZF0⟩
instance:SzF XX.P 159 2:=⟨ZFZ⟩
instance:SzF XX.P 166 5:=⟨ZFY⟩
instance:SzF XX.P 185 1:=⟨ZFX⟩
instance:SzF XX.P 187 2:=⟨ZFW⟩
instance:SzF XX.P 195 1:=⟨ZFV⟩
instance:QO XX.P 33 0 0:=⟨ZjR⟩
instance:QO XX.P 33 1 1:=⟨ZHA⟩
instance:QO XX.P 33 2 2:=⟨Zpo⟩
instance:QO XX.P 33 3 3:=⟨ZHz⟩
instance:QO XX.P 33 4 4:=⟨ZgJ⟩
instance:QO XX.P 36 0 0:=⟨ZHy⟩
instance:QO XX.P 36 1 1:=⟨ZHx⟩
instance:QO XX.P 36 2 2:=⟨ZHw⟩
instance:QO XX.P 36 3 3:=⟨ZjQ⟩
instance:QO XX.P 59 0 0:=⟨ZwR⟩
instance:QO XX.P 59 1 1:=⟨ZHv⟩
instance:QO XX.P 59 2 2:=⟨ZHu⟩
instance:QO XX.P 59 3 6:=⟨ZHt⟩
instance:QO XX.P 78 0 0:=⟨ZgI⟩
instance:QO XX.P 88 0 0:=⟨ZHs⟩
instance:QO XX.P 104 0 0:=⟨Zr3⟩
instance:QO XX.P 104 1 1:=⟨Zr2⟩
instance:QO XX.P 104 2 2:=⟨ZC4⟩
instance:QO XX.P 104 3 3:=⟨Zlj⟩
instance:QO XX.P 104 4 4:=⟨ZC3⟩
instance:QO XX.P 119 0 0:=⟨ZC0⟩
instance:QO XX.P 119 1 1:=⟨ZCZ⟩
instance:QO XX.P 119 2 2:=⟨ZCY⟩
instance:QO XX.P 119 3 3:=⟨ZCX⟩
instance:QO XX.P 119 4 4:=⟨ZCW⟩
instance:QO XX.P 124 0 0:=⟨ZCV⟩
instance:QO XX.P 124 1 1:=⟨ZCU⟩
instance:QO XX.P 130 0 0:=⟨Zr1⟩
instance:QO XX.P 130 1 1:=⟨ZCT⟩
instance:QO XX.P 130 2 2:=⟨Zdv⟩
instance:QO XX.P 130 3 3:=⟨ZCS⟩
instance:QO XX.P 130 4 4:=⟨ZgM⟩
instance:QO XX.P 136 0 0:=⟨Zr0⟩
instance:QO XX.P 136 1 1:=⟨ZgL⟩
instance:QO XX.P 147 0 0:=⟨ZCR⟩
instance:QO XX.P 159 0 0:=⟨ZCQ⟩
instance:QO XX.P 159 1 1:=⟨ZCP⟩
instance:QO XX.P 166 0 0:=⟨ZrZ⟩
instance:Zmv XX.P 22 9:=⟨Xk⟩
instance:Zmv XX.P 29 36:=⟨JM⟩
instance:Zmv XX.P 30 130:=⟨QR⟩
instance:Zmv XX.P 31 33:=⟨JV⟩
instance:Zmv XX.P 102 3:=⟨Zkg⟩
instance:Zmv XX.P 128 136:=⟨JX⟩
instance:Zmv XX.P 138 5:=⟨ZtB⟩
instance:Zmv XX.P 142 140:=⟨KM⟩
instance:Zmv XX.P 160 30:=⟨ZhB⟩
instance:ZPT XX.P 4:=⟨ZLh⟩
instance:Wz XX.P 3 (.int .i64 0):=⟨ZzO⟩
instance:Wz XX.P 4 (.bool false):=⟨Zcc⟩
instance:Wz XX.P 5 (.int .u8 0):=⟨ZI5⟩
instance:Wz XX.P 9 (.string ⟨#[]⟩):=⟨JA⟩
instance:Wz XX.P 22 (.slice none 0 0):=⟨ZzP⟩
instance:Wz XX.P 30 (.slice none 0 0):=⟨Ztr⟩
instance:Wz XX.P 33 (.agg #[.int .i64 0,.string ⟨#[]⟩,.slice none 0 0,.slice none 0 0,.slice none 0 0]):=⟨U9⟩
instance:Wz XX.P 36 (.agg #[.int .i64 0,.int .i64 0,.string ⟨#[]⟩,.slice none 0 0]):=⟨Za4⟩
instance:Wz XX.P 37 (.int .i64 0):=⟨ZKM⟩
instance:Wz XX.P 70 (.map none):=⟨ZKL⟩
instance:Wz XX.P 78 (.agg #[.int .i64 0,.string ⟨#[]⟩,.slice none 0 0,.slice none 0 0,.slice none 0 0]):=⟨ZcL⟩
instance:Wz XX.P 88 (.agg #[.int .i64 0,.int .i64 0,.string ⟨#[]⟩,.slice none 0 0]):=⟨Zok⟩
instance:Wz XX.P 104 (.agg #[.slice none 0 0,.slice none 0 0,.slice none 0 0,.slice none 0 0,.bool false]):=⟨ZvG⟩
instance:Wz XX.P 119 (.agg #[.int .i64 0,.string ⟨#[]⟩,.slice none 0 0,.slice none 0 0,.bool false]):=⟨ZFz⟩
instance:Wz XX.P 124 (.agg #[.slice none 0 0,.slice none 0 0]):=⟨ZvE⟩
instance:Wz XX.P 130 (.agg #[.int .i64 0,.string ⟨#[]⟩,.slice none 0 0,.slice none 0 0,.slice none 0 0]):=⟨Kh⟩
instance:Wz XX.P 136 (.agg #[.string ⟨#[]⟩,.slice none 0 0]):=⟨ZbL⟩
instance:Wz XX.P 140 (.nilIface):=⟨Zf0⟩
instance:Wz XX.P 141 (.nilFunc):=⟨ZFy⟩
instance:Wz XX.P 147 (.agg #[.int .i64 0]):=⟨ZvD⟩
instance:Wz XX.P 159 (.agg #[.slice none 0 0,.int .i64 0]):=⟨ZvC⟩
instance:Wz XX.P 166 (.agg #[.int .i64 0,.string ⟨#[]⟩,.slice none 0 0,.slice none 0 0,.slice none 0 0]):=⟨ZvA⟩
instance:Wz XX.P 185 (.map none):=⟨ZFx⟩
instance:Wz XX.P 187 (.agg #[.int .i64 0,.int .i64 0]):=⟨Zol⟩
instance:Wz XX.P 195 (.nilFunc):=⟨ZFw⟩
end
section
def ZDv(p0:(U Y)):Int×(U (Y×Z))->(Int×(U (Y×Z))->O (U (Y×Z)))->O (U (Y×Z)):=fun(p,h) ZAT=>
 (bif decide (p<(p0.length:Int)) then(Yl p0 p).bind fun l=>ZAT (XD (p+1),Yu h l true) else some h)
def ZOg(F:Nat)(p0:(U Y)):O (U (Y×Z)):=
 loop F (ZDv p0) (0,[])
def Zic(p0:(U Y))(p1:Y):Int->(Int->O Z)->O Z:=fun h Zdh=>
 (bif decide (h<(p0.length:Int)) then(Yl p0 h).bind fun l=>(bif decide (l=p1) then some true else Zdh (XD (h+1))) else some false)
def Zjj(F:Nat)(p0:(U Y))(p1:Y):O Z:=
 loop F (Zic p0 p1) 0
def ZDw:O (U (Y×Z)):=
 some (Yu (Yu (Yu (Yu (Yu (Yu (Yu (Yu (Yu (Yu ([]:(U (Y×Z))) (⟨#[97,110,100]⟩:Y) true) (⟨#[100,101,102]⟩:Y) true) (⟨#[101,108,115,101]⟩:Y) true) (⟨#[103,111]⟩:Y) true) (⟨#[105,102]⟩:Y) true) (⟨#[105,110]⟩:Y) true) (⟨#[112,108,97,99,101]⟩:Y) true) (⟨#[115,116,111,112]⟩:Y) true) (⟨#[116,104,101,110]⟩:Y) true) (⟨#[119,97,116,99,104]⟩:Y) true)
end
section
open Go.ZU Go.Lf
def ZOf{F V h}{p0:(U Y)}{Zh Zg}{r}(L:V<=h.size)(K:Sl ZH V h Zh Zg p0)(q:ZOg F p0=some r):
 WR XX 55 #[.slice Zh p0.length Zg] V h (CP (fun v (Gb:U (Ast V))=>∃ZiK,v=.map (some ZiK)/\Gb=[mp V Value.string Value.bool (some ZiK) r]) [] h):=by
 refine bg Tryz.ntmps55 L ZV.nil ?_;intro T E t;unfold ZOg at q;refine r7 ?_;refine Vf (Zbo Value.string Value.bool t) ?_;rintro _ h1 ⟨A,I,rfl,t⟩;refine r12 ?_;refine WC.loop (WL.lift q (fun p s=>match p with | (B,x)=>∃l y,s=⟨l,[],y,none⟩/\Sp V T h [mp V Value.string Value.bool (some A) x] y/\l.at 3=.map (some A)/\l.at 7=.slice Zh p0.length Zg/\l.at 8= V9 (p0.length:Int)/\l.at 9= V9 B) ⟨_,_,rfl,t.only (.a .n),YQ⟩ ?_);rintro ZAT ⟨B,x⟩ s ZG6 q ⟨l,y,rfl,t,W,S,Q,P⟩;refine r6 ?_;refine cn q ?_ ?_;.intro D q;refine r6 ?_;have⟨x12,Zfv,q⟩:=bS q;have⟨b13,o14,_,ZCl,ZCA,ZCu,ZTT⟩:=Sl.at_ K Zfv;refine Vd (ZJ Xk Xo lk lk rfl ZCl Zfv)<|Vd (Z0 Uu (Zu fh rfl) (At.fz t.fz ZCu ZCA) (j:=0) rfl (v:=.string x12) rfl)<|r6 ?_;refine WO.hu gN (Kn (kv:=Value.string) (vv:=Value.bool) (k:=x12) (v:=true) t k0 Jd XY (Zu (Zj rfl fh) rfl) (Zu fh rfl) (JS rfl)) ?_;rintro G t;refine r7 ?_;exact ZQ.YC (ZG6 _ _ q ⟨_,_,rfl,t.only (.a .n),YQ⟩)
 intro D q;refine r12 ?_;have C:=Oi0 q;subst C;exact Yk.XA rfl (Zp lk Zl) ⟨_,⟨A,rfl,rfl⟩,E▸t.only (.a .n)⟩
def ZOq{F V h}{p0:(U Y)}{p1:Y}{Zh Zg}{r}(B:V<=h.size)(A:Sl ZH V h Zh Zg p0)(l:Zjj F p0 p1=some r):
 WR XX 36 #[.slice Zh p0.length Zg,.string p1] V h (CP (fun v (Gb:U (Ast V))=>v=.bool r/\Gb=[]) [] h):=by
 refine bg Tryz.ntmps36 B ZV.nil ?_;intro T y p;unfold Zjj at l;refine r12 ?_;refine WC.loop (WL.lift l (fun x s=>∃q h1,s=⟨q,[],h1,none⟩/\Sp V T h [] h1/\q.at 0=.slice Zh p0.length Zg/\q.at 1=.string p1/\q.at 5= V9 x) ⟨_,_,rfl,p.only .n,YQ⟩ ?_);rintro Zdh x s Zfz l ⟨q,h1,rfl,p,E,D,C⟩;refine r9 ?_;refine cn l ?_ ?_
 .intro t l;refine r8 ?_;have⟨x8,hx8,l⟩:=bS l;have⟨b9,o10,_,ZCg,ZCv,ZCr,Zuq⟩:=Sl.at_ A hx8;refine Vd (ZJ Xk Xo lk lk rfl ZCg hx8)<|Vd (Z0 Uu (Zu fh rfl) (At.fz p.fz ZCr ZCv) (j:=0) rfl (v:=.string x8) rfl)<|r1 ?_;refine Vd (YN (Zu (Zj rfl fh) rfl) (Zu fh rfl) XL)<|r2 ?_;refine cn l ?_ ?_;.intro t l;refine WV ?_;exact rt l y p
  intro t l;refine r8 ?_;exact ZQ.YC (Zfz _ _ l ⟨_,_,rfl,p.only .n,YQ⟩)
 intro t l;refine WV ?_;exact rt l y p
def Zib{F h}{p0:(U Y)}{p1:Y}{Zh Zg}{r}(p:Sl ZH h.size h Zh Zg p0)(l:Zjj F p0 p1=some r):Pure XX 36 #[.slice Zh p0.length Zg,.string p1] h (.bool r):=
 WR.JC rfl (ZOq Vc p l)
def ZOj{V h}{r}(D:V<=h.size)(p:ZDw=some r):
 WR XX 53 #[] V h (CP (fun v (Gb:U (Ast V))=>∃ZiK,v=.map (some ZiK)/\Gb=[mp V Value.string Value.bool (some ZiK) r]) [] h):=by
 refine bg Tryz.ntmps53 D ZV.nil ?_;intro T t l;unfold ZDw at p;refine r7 ?_;refine Vf (Zbo Value.string Value.bool l) ?_;rintro _ h1 ⟨C,B,rfl,l⟩;refine WO.hu gN (ZcT (kv:=Value.string) (vv:=Value.bool) (k:=(⟨#[97,110,100]⟩:Y)) (v:=true) l k0 Jd XY lk lk lk) ?_;rintro P l;refine WO.hu gN (ZcT (kv:=Value.string) (vv:=Value.bool) (k:=(⟨#[100,101,102]⟩:Y)) (v:=true) l k0 Jd XY lk lk lk) ?_;rintro L l;refine WO.hu gN (ZcT (kv:=Value.string) (vv:=Value.bool) (k:=(⟨#[101,108,115,101]⟩:Y)) (v:=true) l k0 Jd XY lk lk lk) ?_;rintro K l;refine WO.hu gN (ZcT (kv:=Value.string) (vv:=Value.bool) (k:=(⟨#[103,111]⟩:Y)) (v:=true) l k0 Jd XY lk lk lk) ?_;rintro I l;refine WO.hu gN (ZcT (kv:=Value.string) (vv:=Value.bool) (k:=(⟨#[105,102]⟩:Y)) (v:=true) l k0 Jd XY lk lk lk) ?_;rintro G l;refine WO.hu gN (ZcT (kv:=Value.string) (vv:=Value.bool) (k:=(⟨#[105,110]⟩:Y)) (v:=true) l k0 Jd XY lk lk lk) ?_;rintro F l;refine WO.hu gN (ZcT (kv:=Value.string) (vv:=Value.bool) (k:=(⟨#[112,108,97,99,101]⟩:Y)) (v:=true) l k0 Jd XY lk lk lk) ?_;rintro E l;refine WO.hu gN (ZcT (kv:=Value.string) (vv:=Value.bool) (k:=(⟨#[115,116,111,112]⟩:Y)) (v:=true) l k0 Jd XY lk lk lk) ?_;rintro A l;refine WO.hu gN (ZcT (kv:=Value.string) (vv:=Value.bool) (k:=(⟨#[116,104,101,110]⟩:Y)) (v:=true) l k0 Jd XY lk lk lk) ?_;rintro y l;refine WO.hu gN (ZcT (kv:=Value.string) (vv:=Value.bool) (k:=(⟨#[119,97,116,99,104]⟩:Y)) (v:=true) l k0 Jd XY lk lk lk) ?_;rintro x l;refine r5 ?_;have q:=Oi0 p;subst q;exact Yk.XA rfl (Zp lk Zl) ⟨_,⟨C,rfl,rfl⟩,t▸l.only (.a .n)⟩
end
section
def Zie(F:Nat)(p0:Y):Int->(Int->O Z)->O Z:=fun h ZJx=>
 (bif decide (h<(p0.size:Int)) then(ZiG p0 h).bind fun p=>(gd (!(decide (p<97))) (ZiG p0 h) default).bind fun q=>(bif((decide (p<97))||(decide (q>122))) then some false else ZJx (XD (h+1))) else(Zjj F ([(⟨#[97,110,100]⟩:Y),(⟨#[100,101,102]⟩:Y),(⟨#[101,108,115,101]⟩:Y),(⟨#[103,111]⟩:Y),(⟨#[105,102]⟩:Y),(⟨#[105,110]⟩:Y),(⟨#[112,108,97,99,101]⟩:Y),(⟨#[115,116,111,112]⟩:Y),(⟨#[116,104,101,110]⟩:Y),(⟨#[119,97,116,99,104]⟩:Y)]) p0).bind fun l=>some (!l))
def ZuM(F:Nat)(p0:Y):O Z:=
 (bif((decide ((p0.size:Int)<1))||(decide ((p0.size:Int)>8))) then some false else loop F (Zie F p0) 0)
def Zif(p0:Y):Int->(Int->O Z)->O Z:=fun h Zdh=>
 (bif decide (h<(p0.size:Int)) then(ZiG p0 h).bind fun q=>(gd (!(decide (q<97))) (ZiG p0 h) default).bind fun r=>(bif((decide (q<97))||(decide (r>122))) then some false else Zdh (XD (h+1))) else(bif((decide ((p0.size:Int)>0))&&(decide ((p0.size:Int)<=8))) then(ZDw).bind fun p=>(ZeN p p0 false).bind fun l=>some (!l) else some false))
def ZcA(F:Nat)(p0:Y):O Z:=
 loop F (Zif p0) 0
def Zps:Y×Z->O Y:=fun(h,ZAf)=>
 (bif ZAf then some h else some (⟨#[]⟩:Y))
def ZlE(F:Nat)(p0:(U (Y×Z)))(t:Int)(r:Y)(ZtH:Z)(ZkB:(Int×Y×Z->O Y)):(U Int)×Int->((U Int)×Int->O Y)->O Y:=fun(q,l) ZAN=>
 (bif decide (l>0) then(Zx6 (XD (l-1)) 26).bind fun B=>(app 1 [IntKind.wrap .u8 (XD (97+B))] q).bind fun x=>(Zx9 (XD (l-1)) 26).bind fun A=>ZAN (x,A) else(ZLk q).bind fun h=>(bif ZtH then none else(ZcA F h).bind fun p=>(gd p (ZeN p0 h false) default).bind fun y=>(bif(p&&(!y)) then(bif(!false) then(Zps) (h,true) else ZkB (XD (t+1),h,true)) else(bif(!true) then(Zps) (r,false) else ZkB (XD (t+1),r,false)))))
def Zpt(F:Nat)(p0:(U (Y×Z))):Int×Y×Z->(Int×Y×Z->O Y)->O Y:=fun(h,l,ZtH) ZkB=>
 loop F (ZlE F p0 h l ZtH ZkB) ([],h)
def Zsc(F:Nat)(p0:(U (Y×Z))):O Y:=
 loop F (Zpt F p0) (1,(⟨#[]⟩:Y),false)
end
end Go.Proofs.YtbnepjakjmnadaaGreat
end
end
section
noncomputable section
namespace Go.ZU
open Go.Lf
section
variable{X:Ctx}{n V:Nat}{rd:O Nat}{ops:V5 Oper}{l:U Oper}{fr:Fr}{ds:U V7}{h h0 h1 h2:H}{ty:J}{p:String}{af:V5 Edge}{T:Nat->Prop}{G Gr Ga:U (Ast V)}{d:Nat}
def ZHc(o:Oper)(k:Nat):Z:=o.after.toList.any fun e=>Region.binds .any e&&Nat.beq e.on k
def ZLJ(ops:U Oper)(c i:Nat)(o:Oper):Z:=
 Zij i o&&bif Nat.ble i c then o.op.operands.toList.all fun x=>match x with
  | .tmp t=>UI (fun k h=>!isT h.dst t||ZHc o k) ops 0
  | _=>true
 else ZHc o c
def ZJv(ops:U Oper)(c:Nat):Z:=UI (ZLJ ops c) ops 0&&UI (Zsx ops) ops 0
def ZnE{o:Oper}{k:Nat}(h:ZHc o k=true):∃e∈o.after,Region.binds .any e=true/\e.on=k:=by unfold ZHc at h;rw[GF]at h;have⟨e,he,h⟩:=h;rw[Ba0]at h;exact⟨e,by simpa using he,h.1,Nb0 h.2⟩
structure PX(X:Ctx)(n:Nat)(h:H)(c:Nat)(l:List Oper)(fr:Fr)(Q:Fr->Oper->Prop):Prop where
 out:∃(fs:Nat->Fr) (vs:Nat->Value) (o:Oper),fs 0=fr/\l[c]? =some o/\Q (fs c) o/\∀k,k<c->∃d op ty p af,l[k]? =some ⟨some d,op,ty,p,af,none⟩/\d<n/\XM X h (YI (fs k)) ⟨some d,op,ty,p,af,none⟩=some (.val (vs k),.none)/\fs (k+1)=Tr.set (fs k) d (vs k)
def PX.w{c:Nat}{q:Op}{v:N}{Q:Fr->Oper->Prop}(t:Nat.blt d n=true)(x:XM X h (YI fr) ⟨some d,q,ty,p,af,none⟩=some (.val v,.none))(k:PX X n h c l (Tr.set fr d v) Q):PX X n h (c+1) (⟨some d,q,ty,p,af,none⟩::l) fr Q:=by
 have⟨fs,vs,o,e0,ho,hq,hk⟩:=k;refine⟨fun k=>match k with|0=>fr|k+1=>fs k,fun k=>match k with|0=>v|k+1=>vs k,o,rfl,by simpa using ho,hq,fun k r=>?_⟩;cases k with|zero=>exact⟨d,q,ty,p,af,rfl,by rwa[Gd]at t,x,e0⟩|succ k=>
   have⟨d',op',ty',p',af',q1,q2,q3,q4⟩:=hk k Vb;exact⟨d',op',ty',p',af',by simpa using q1,q2,q3,q4⟩
def PX.call{o:Oper}{Q:Fr->Oper->Prop}(p:Q fr o):PX X n h 0 (o::l) fr Q:=⟨⟨fun _=>fr,fun _=>undef,o,rfl,rfl,p,fun k q=>absurd q (Nat.not_lt_zero _)⟩⟩
def Zzm{fr h:Fr}{x:V0}(l:∀t,x=.tmp t->fr.at t=h.at t):YI fr x=YI h x:=by
 cases x with
 | tmp t=>
   have:=l t rfl;show(bif X4 (fr.at t) then none else some (fr.at t))=(bif X4 (h.at t) then none else some (h.at t));rw[this]
 | const v=>rfl
 | func f=>rfl
 | global g=>rfl
def Zzf{ih:WI->O QJ}{o:Oper}{v:N}(p:o.guard=none)(t:XM X h (YI fr) o=some (.val v,.none))(l:o.dst=some d)(q:d<n):KE X (fun _=>false) ih n V rd ops.toList o ⟨fr,ds,h,none⟩=some (.normal,⟨Tr.set fr d v,ds,h,none⟩):=by
 have g:=Yg.none (ops:=ops) (fr:=fr) p;unfold KE;rw[g.1,g.2];dsimp only[J0,Cq0,Cq1];rw[t];dsimp only;unfold Eff.apply Zcs;dsimp only;rw[l];unfold ZsX;have r:Nat.blt d n=true:=by rw[Gd];exact q
 simp[Wd,r,allowed]
def ZdL(ops:V5 Oper)(k:Nat):O Tmp:=(ops.toList[k]?).bind (·.dst)
def frP(ops:V5 Oper)(fr:Fr):Nat->Fr
 | 0=>fr
 | k+1=>match ZdL ops k with|some d=>Tr.set (frP ops fr k) d ZEB|none=>frP ops fr k
def Zuy{t:Nat}:∀m,X4 ((frP ops fr m).at t)=false->(∀k,k<m->ZdL ops k≠some t)/\(frP ops fr m).at t=fr.at t
 | 0,_=>⟨fun k h=>absurd h (Nat.not_lt_zero _),rfl⟩
 | m+1,ha=>by
   unfold frP at ha ⊢;cases e:ZdL ops m with
   | none=>
     rw[e]at ha;have⟨i1,i2⟩:=Zuy m ha;refine⟨fun k h=>?_,i2⟩;rcases Nat.lt_or_eq_of_le (Nat.le_of_lt_succ h) with z|z
     .exact i1 k z
     subst z;rw[e];exact fun z=>by cases z
   | some d=>
     rw[e]at ha;dsimp only at ha ⊢;by_cases l:t=d
     .subst l;simp[Fr.at,Tr.Qp,ZEB,X4]at ha
     have p:Fr.at (Tr.set (frP ops fr m) d ZEB) t=(frP ops fr m).at t:=by simp[Fr.at,Tr.Qp,l]
     rw[p]at ha ⊢;have⟨i1,i2⟩:=Zuy m ha;refine⟨fun k h=>?_,i2⟩;rcases Nat.lt_or_eq_of_le (Nat.le_of_lt_succ h) with z|z
     .exact i1 k z
     subst z;rw[e];exact fun z=>l (Oi0 z).symm
def WC.ZU0{R:XX->Fs->Prop}{id c:Nat}(hm:X.P.follows .mixedOrders=true)(hp:ZJv ops.toList c=true)(k:PX X n h c ops.toList fr (fun fr' o=>∃f args v h2,o.guard=none/\XM X h (YI fr') o=some (.enter f args,.none)/\Y7 X (.call f args V h) (.fin (.Ym v) h2)/\∀XI,R (.panic v) ⟨XI,ds,h2,none⟩)):WC X n V rd (.region id ops true) ⟨fr,ds,h,none⟩ R:=by
 have⟨fs,vs,oc,e0,hoc,⟨f,args,v,h2,hg,hcall,ZBR,hR⟩,hk⟩:=k;unfold ZJv at hp;rw[Ba0]at hp;have hpl:=Qx _ _ hp.1;have hdst:=Qx _ _ hp.2;simp only[Gc]at hpl hdst;have G:∀{k:Nat}{o:Oper},ops[k]? =some o->ops.toList[k]? =some o:=fun h=>by rwa[Gi]
 have hcs:c<ops.size:=by
  have:=Li0 hoc;have⟨q,_⟩:=this;simpa using q
 have uniq:∀{j k t},ZdL ops j=some t->ZdL ops k=some t->j=k:=fun{j k t} hj r=>by
  unfold ZdL at hj r;cases e1:ops.toList[j]? with|none=>rw[e1]at hj;cases hj|some o1=>
    cases e2:ops.toList[k]? with|none=>rw[e2]at r;cases r|some o2=>
      rw[e1]at hj;rw[e2]at r;have hj:o1.dst=some t:=hj;have r:o2.dst=some t:=r;have:=hdst k o2 e2;unfold Zsx at this;rw[r]at this;dsimp only at this;have:=Qx _ _ this j o1 e1;rw[ZjM.2 hj,Cq1,Gc]at this;exact Nb0 this
 have K:∀m,m<=c->(∀k t,k<m->ZdL ops k=some t->(fs m).at t=vs k)/\(∀t,(∀k,k<m->ZdL ops k≠some t)->(fs m).at t=fr.at t):=by
  intro m;induction m with
  | zero=>intro _;exact⟨fun k t r=>absurd r (Nat.not_lt_zero _),fun t _=>by rw[e0]⟩
  | succ m ih=>
    intro hm';have⟨i1,i2⟩:=ih Vb;have⟨d,op,ty,p,af,q1,q2,q3,q4⟩:=hk m Vb;have hdm:ZdL ops m=some d:=by unfold ZdL;rw[q1];rfl
    have hat:∀t,(fs (m+1)).at t=if t=d then vs m else(fs m).at t:=fun t=>by
     rw[q4];show Fr.at (Tr.set (fs m) d (vs m)) t=_;by_cases e:t=d;.subst e;simp[Fr.at,Tr.Qp]
     have e':¬ d=t:=fun z=>e z.symm;simp[Fr.at,Tr.Qp,e]
    refine⟨fun k t r C=>?_,fun t C=>?_⟩
    .rw[hat];by_cases e:t=d;.subst e;rw[if_pos rfl,uniq C hdm]
     rw[if_neg e];refine i1 k t ?_ C;rcases Nat.lt_or_eq_of_le (Nat.le_of_lt_succ r) with z|z
     .exact z
     subst z;rw[hdm]at C;cases C;exact absurd rfl e
    rw[hat,if_neg fun e=>C m Vb (by rw[hdm,e]),i2 t fun k r=>C k Vb]
 refine⟨.panic v,_,hR (frP ops fr c),fun ρ a w F ZG hi hF=>?_⟩;refine wpIn_region_any hm ?_;have hi':Inv ρ n {fr:=fr,ds:=ds,h:=h} a {w with drawn:=w.drawn+1}:=⟨⟨hi.rel.dom,fun i b d e=>(hi.rel.obj i b d e).world rfl,hi.rel.inj⟩,hi.fr,hi.ds⟩
 have main:∀(B:Nat)(listed:V5 Z),listed.size=ops.size->((List.range ops.size).filter (fun k=>!listed.getD k true)).length<=B->(∀j,c<=j->¬ Data.SL listed j) ->
  ∀ρ' y a' w',Inv ρ' n ⟨y,ds,h,none⟩ a' w'->Stp V ρ h {w with drawn:=w.drawn+1} ρ' h w'->((∀k t,k<c->Data.SL listed k->ZdL ops k=some t->y.at t=vs k)/\(∀t,(∀k,k<c->Data.SL listed k->ZdL ops k≠some t)->y.at t=fr.at t)) ->
  wpAnyIn F 0 X.P .any ops (Qz V n ρ h w (.panic v) ⟨frP ops fr c,ds,h2,none⟩) B listed a' w':=by
  intro B;induction B with
  | zero=>
    intro listed L hn hc;exfalso
    have S:c∈(List.range ops.size).filter (fun k=>!listed.getD k true):=by
     rw[List.mem_filter];exact⟨GP.2 hcs,by rw[(Data.ZcR L hcs).2 (hc c Vc)];rfl⟩
    have:=List.length_pos_of_mem S;omega
  | succ B ih=>
    intro listed L hn hc ρ' y a' w' hinv hst hfs;refine⟨fun hnil=>?_,fun i hi=>?_⟩
    .exfalso
     have:∀k,k<=c->Data.SL listed k:=by
      intro k
      induction k using Nat.strongRecOn with|ind k ihk=>
        intro hkc;apply Classical.byContradiction;intro Q;have hks:k<ops.size:=Vb;obtain⟨o,ho⟩:∃o,ops[k]? =some o:=⟨ops[k],by simp[hks]⟩
        have:k∈Region.ready .any ops listed:=mem_ready.2 ⟨(Data.ZcR L hks).2 Q,o,ho,fun e he hb=>by
         have A:=hpl k o (G ho);unfold ZLJ at A;rw[Ba0]at A;have E:=A.1;unfold Zij at E;rw[Q2]at E;have:=E e (by simpa using he);rw[hb,Cq1,Gd]at this;exact ihk e.on this Vb⟩
        rw[hnil]at this;cases this
     exact hc c Vc (this c Vc)
    have⟨q1,o,ho,hr⟩:=mem_ready.1 hi;have him:i<ops.size:=(G4.1 ho).1;have Q:¬ Data.SL listed i:=(Data.ZcR L him).1 q1;have A:=hpl i o (G ho);unfold ZLJ at A;rw[Ba0]at A;unfold wpOpIn;rw[ho];dsimp only;by_cases W:i<=c
    .have hle:Nat.ble i c=true:=Nm0 W;have T:=A.2;rw[hle,Cq1,Q2]at T
     have ZJ8:XM X h (YI y) o=XM X h (YI (fs i)) o:=Zob X h o fun x hx=>Zzm fun t C=>by
      subst C;have I:=T (.tmp t) (by simpa using hx);have I:=Qx _ _ I;simp only[Gc]at I
      have ZrE:∀k,ZdL ops k=some t->k<i/\Data.SL listed k:=fun k l=>by
       unfold ZdL at l;cases e1:ops.toList[k]? with|none=>rw[e1]at l;cases l|some o1=>
         rw[e1]at l;have l:o1.dst=some t:=l;have:=I k o1 e1;rw[ZjM.2 l,J0,GX]at this;obtain⟨e,he,hb,rfl⟩:=ZnE this;have E:=A.1;unfold Zij at E;rw[Q2]at E;have h3:=E e (by simpa using he);rw[hb,Cq1,Gd]at h3;exact⟨h3,hr e he hb⟩
      by_cases hex:∃k,ZdL ops k=some t;.have⟨k,l⟩:=hex;have⟨k1,k2⟩:=ZrE k l;rw[hfs.1 k t Vb k2 l,(K i W).1 k t k1 l]
      rw[hfs.2 t fun k _ _ z=>hex ⟨k,z⟩,(K i W).2 t fun k _ z=>hex ⟨k,z⟩]
     rcases Nat.lt_or_eq_of_le W with hlt|rfl
     .have⟨d,op,ty,p,af,z1,z2,z3,z4⟩:=hk i hlt;have eo:o=⟨some d,op,ty,p,af,none⟩:=by have:=G ho;rw[z1]at this;exact(Oi0 this).symm
      subst eo;have hdi:ZdL ops i=some d:=by unfold ZdL;rw[z1];rfl
      have hS:∀k,Data.SL (listed.setIfInBounds i true) k↔Data.SL listed k\/k=i:=by
       intro k;unfold Data.SL;by_cases D:k=i;.subst D;simp[QP,show k<listed.size by omega]
       rw[getD_set_ne false (Ne.symm D)];simp[D]
      refine Za2 (ZaS X) (Zzf (ih:=fun _=>none) (rd:=rd) rfl (ZJ8.trans z3) rfl z2) hinv (KK ZG Vc) (hF.mono hst.ext) (fun _ ρ2 a2 w2 ZnD Zjg=>?_) (fun v he=>by cases he);refine ih (listed.setIfInBounds i true) (by simpa using L) ?_ (fun j hj z=>?_) ρ2 (Tr.set y d (vs i)) a2 w2 ZnD (hst.trans hi'.rel.lt Zjg) ⟨fun k t hkc hSk l=>?_,fun t C=>?_⟩
      .have heq:(List.range ops.size).filter (fun k=>!(listed.setIfInBounds i true).getD k true)=((List.range ops.size).filter (fun k=>!listed.getD k true)).filter (fun k=>k≠i):=by
        rw[List.filter_filter];apply List.filter_congr;intro k r;rw[GP]at r;by_cases D:k=i;.subst D;simp[QP,show k<listed.size by omega]
        rw[getD_set_ne true (Ne.symm D)];simp[D]
       rw[heq]
       have S:i∈(List.range ops.size).filter (fun k=>!listed.getD k true):=by
        rw[List.mem_filter];exact⟨GP.2 him,by rw[q1];rfl⟩
       have:(((List.range ops.size).filter (fun k=>!listed.getD k true)).filter (fun k=>k≠i)).length<((List.range ops.size).filter (fun k=>!listed.getD k true)).length:=
        List.length_filter_lt_length_iff_exists.2 ⟨i,S,by simp⟩
       omega
      .rcases(hS j).1 z with z|z
       .exact hc j hj z
       omega
      .show Fr.at (Tr.set y d (vs i)) t=vs k;by_cases e:t=d;.subst e;rw[uniq l hdi];simp[Fr.at,Tr.Qp]
       have:Fr.at (Tr.set y d (vs i)) t=y.at t:=by simp[Fr.at,Tr.Qp,e]
       rw[this];refine hfs.1 k t hkc ?_ l;rcases(hS k).1 hSk with z|z
       .exact z
       subst z;rw[hdi]at l;cases l;exact absurd rfl e
      have e:¬ t=d:=fun e=>C i hlt ((hS i).2 (.inr rfl)) (by rw[hdi,e]);have:Fr.at (Tr.set y d (vs i)) t=y.at t:=by simp[Fr.at,Tr.Qp,e]
      show Fr.at (Tr.set y d (vs i)) t=fr.at t;rw[this];exact hfs.2 t fun k hkc hSk=>C k hkc ((hS k).2 (.inl hSk))
     have eo:o=oc:=by have:=G ho;rw[hoc]at this;exact(Oi0 this).symm
     subst eo;have g:=Yg.none (ops:=ops) (fr:=y) hg
     have ZYr:KE X (fun _=>false) (Jb (.call f args V h) (.fin (.Ym v) h2)) n V rd ops.toList o ⟨y,ds,h,none⟩=some (.panic v,⟨y,ds,h2,none⟩):=by
      unfold KE;rw[g.1,g.2];dsimp only[J0,Cq0,Cq1];rw[ZJ8.trans hcall];dsimp only[J0,Cq0,Cq1];rw[show Eff.apply V h Eff.none=some h from rfl];unfold Zcs;dsimp only[Wd,Cq0];rw[Xy];rfl
     refine Za2 (Xx ZBR) ZYr hinv ZG (hF.mono hst.ext) (fun he=>by cases he) (fun v' he ρ2 v2 a2 w2 hv ZnD Zjg=>?_);cases he;have Jt:=hst.trans hi'.rel.lt Zjg;exact⟨ρ2,.panic hv,⟨ZnD.rel,⟨ZnD.fr.size,fun t C=>(by have⟨z1,z2⟩:=Zuy i C;have z3:=hfs.2 t fun k r _=>z1 k r;show VR ρ2 ((frP ops fr i).at t) _;rw[z2,<-z3];refine ZnD.fr.val t ?_;show X4 (y.at t)=false;rw[z3,<-z2];exact C)⟩,ZnD.ds⟩,⟨Jt.ext,Jt.size,Jt.keep,Jt.own,Jt.live,Jt.os,Jt.tape,Jt.output,Jt.XH,Jt.frame,Jt.Ud⟩⟩
    have hle:Nat.ble i c=false:=by
     cases z:Nat.ble i c;.rfl
     exact absurd (Nl0 z) W
    have T:=A.2;rw[hle,Cq0]at T;have⟨e,he,hb,hec⟩:=ZnE T;have:=hr e he hb;rw[hec]at this;exact absurd this (hc c Vc)
 have Q:∀k,¬ Data.SL (Array.replicate ops.size false) k:=by
  intro k;unfold Data.SL;rw[QP,Array.getElem?_replicate];split<;>simp
 exact main ops.size _ (by simp) (KK (List.length_filter_le _ _) (by simp)) (fun j _=>Q j) ρ fr a _ hi' (Stp.refl _ _ _ _) ⟨fun k t _ z=>absurd z (Q k),fun t _=>rfl⟩
end
section
variable{X:Ctx}{n V:Nat}{rd:O Nat}{ops:V5 Oper}{l:U Oper}{fr:Fr}{ds:U V7}{h h1 h2 h0:H}{ty:J}{p:String}{af:V5 Edge}{g:O (Nat×Z)}{T:Nat->Prop}{G Gr Ga Gb:U (Ast V)}{d:O Nat}{i:Nat}
def Uf{A:Xv}(l:i<h.size)(j:Nat):(h.put i A).at j=if j=i then A else h.at j:=by
 by_cases e:j=i;.subst e;rw[Yp l,if_pos rfl]
 rw[XG e,if_neg e]
def Rel.weak{ρ:Ren}{w:V4}{A:Xv}(B:(h.at i).own=true)(x:(h.at i).live=true)(C:∀b d,Q0 ρ w b d (ρ.lim i) (h.at i)->Q0 ρ w b d (ρ.lim i) A)(r:Rel ρ h w):Rel ρ (h.put i A) w:=by
 have y:=Y8 rfl x;refine⟨r.dom,fun j b d e=>?_,fun j k b d E D t p l=>?_⟩
 .rw[Uf y];have:=r.obj j b d e;split;next t=>subst t;exact C b d this
  exact this
 rw[Uf y]at p l;refine r.inj j k b d E D t ?_ ?_
 .split at p;next q=>subst q;exact B
  exact p
 split at l;next q=>subst q;exact x
 exact l
def Stp.weak{ρ p:Ren}{B:H}{w w':V4}{A:Xv}(hw:V<=i)(F:(h.at i).own=true)(y:(h.at i).live=true)(a:Stp V ρ (h.put i A) w p B w'):Stp V ρ h w p B w':=by
 have t:=Y8 rfl y
 have l:∀j,((h.put i A).at j).own=true->(h.at j).own=true:=fun j e=>by
  rw[Uf t]at e;split at e;next x=>subst x;exact F
  exact e
 refine⟨a.ext,a.size,fun j q=>?_,fun j q e=>l j (a.own j q e),fun j q e=>?_,a.os,a.tape,a.output,a.XH,fun b G r=>a.frame b G fun j d h1 h2 I=>r j d h1 h2 (l j I),fun j b d e K=>?_⟩;.rw[a.keep j q,Uf t,if_neg Vb]
 .have:=a.live j q e;rw[Uf t]at this;split at this;next x=>subst x;exact y
  exact this
 have⟨h1,h2⟩:=a.Ud j b d e K;exact⟨h1,h2.imp id fun⟨k,L,E,D,C⟩=>⟨k,L,E,D,l k C⟩⟩
def ks(V i:Nat)(m:U (Y×Z)):Ast V:=ob V i (.XP (ZC m))
def ZCN{ρ:Ren}(s:Y):∀(ll:U (Y×Z))(bs:U Nat)(es':U V6),bs.length=ll.length->EL ρ (Xz Value.string Value.bool ll bs) es'->(∀e∈es',∃s b,e.key=.string s/\e.val=.bool b)/\fnd s es'=ZC ll s:=by
 intro ll;induction ll with
 | nil=>intro bs es' p e;cases bs with|nil=>cases e;exact⟨by simp,rfl⟩|cons=>cases p
 | cons x ll ih=>
   intro bs es' p e;cases bs with|nil=>cases p|cons b bs=>
     cases e with|@cons _ y _ h r _ _ hv t=>
       have⟨q1,q2⟩:=ih bs h (by simpa using p) t;have⟨k',v',c'⟩:=y;dsimp only at r hv;obtain rfl:k'=.string x.1:=r;obtain rfl:v'=.bool x.2:=VR.Xr rfl hv;refine⟨fun e m=>?_,?_⟩
       .rcases K2.1 m with rfl|m
        .exact⟨_,_,rfl,rfl⟩
        exact q1 e m
       show(bif s==x.1 then some x.2 else fnd s h)=_;rw[q2,Zjn];have e:Yq (x::ll) s=if x.1=s then some (0,x.2) else(Yq ll s).map fun q=>(q.1+1,q.2):=rfl;unfold ZC;rw[e];by_cases l:x.1=s;.rw[if_pos l,decide_eq_true l.symm];rfl
       rw[if_neg l,decide_eq_false (fun z=>l z.symm)];cases Yq ll s<;>rfl
def ZRt{ρ:Ren}{w:V4}{b d:Nat}{l:Nat×Nat}{m:U (Y×Z)}{bs:U Nat}{c:Nat}(h:bs.length=m.length)(o:Q0 ρ w b d l (.map (Xz Value.string Value.bool m bs) c)):Q0 ρ w b d l (.XP (ZC m)):=by have⟨q,es',h1,h2⟩:=o;exact⟨q,es',c,h1,fun e he=>(ZCN ⟨#[]⟩ m bs _ h h2).1 e he,fun s=>(ZCN s m bs _ h h2).2⟩
def ZRs{m:U (Y×Z)}(x:Sp V T h0 G h)(pk:Pk G (mp V Value.string Value.bool (some i) m) Gr):∃h',((h.at i).own=true/\(h.at i).live=true/\∃A,h'=h.put i A/\∀(ρ:Ren) w b d l,Q0 ρ w b d l (h.at i)->Q0 ρ w b d l A)/\Sp V T h0 (ks V i m::Gr) h':=by
 have s:=x.get pk;have hw:V<=i:=s.low i rfl;rcases s.at_.mem with⟨q,_⟩|⟨j,bs,y,q,h1,h2,_⟩
 .cases q
 cases q;have p:(h.at i).own=true:=by rw[h1];rfl
 have r:(h.at i).live=true:=by rw[h1];rfl
 refine⟨_,⟨p,r,.XP (ZC m),rfl,fun ρ w b d l o=>?_⟩,?_⟩;.rw[h1]at o;exact ZRt h2 o
 exact x.one pk (t:=fun j=>j=i) ⟨K1 _,fun j _ hn=>XG hn _,fun j e=>by rw[show j=i from e];exact⟨hw,p⟩⟩ (fun j e=>by show some i=some j;rw[show j=i from e]) ⟨Yp (Y8 rfl r) _,hw,rfl⟩ fun j e=>.inl (by show some i=some j;rw[show j=i from e])
def WO.ks{Q:XX->Fs->Prop}{m:U (Y×Z)}(y:Sp V T h0 G h)(pk:Pk G (mp V Value.string Value.bool (some i) m) Gr)(k:∀r,Sp V T h0 (ZU.ks V i m::Gr) r->WO X n V rd ops l ⟨fr,ds,r,none⟩ Q):WO X n V rd ops l ⟨fr,ds,h,none⟩ Q:=by obtain⟨r,⟨t,x,A,rfl,E⟩,C⟩:=ZRs y pk;have⟨e,s',hq,hk⟩:=k _ C;have hw:=(y.get pk).low i rfl;refine⟨e,s',hq,fun P ρ F a w q L D p=>hk P ⟨q.rel.weak t x fun b d=>E ρ w b d _,q.fr,q.ds⟩ (by simpa using L) D fun I K w' B=>p I K w' ?_⟩;have⟨ρ',h1,h2,h3⟩:=B;exact⟨ρ',h1,h2,h3.weak hw t x⟩
section
variable{m:U (Y×Z)}{kt vt t:J}{s:Y}
def ZEH{P:V2}(hu:P.underlying t=some (.map kt vt))(l:P.underlying kt=some .string)(p:h.at i=.XP (ZC m)):aks P h t (.map (some i)) (.string s)=some (vt,i,ZC m,s):=by have K:=Zd2.str l;unfold aks;rw[hu];dsimp only;rw[p,l];dsimp only;rw[K.ok true s,K.ok false s];rfl
def ZEG{P:V2}{ok:Z}{k:N}(l:h.at i=.XP (ZC m)):KF P h t (.map (some i)) k ok=none/\∀x,XZ P h t (.map (some i)) k x=none:=by
 have:ZcD h (.map (some i))=none:=by unfold ZcD;dsimp only;rw[l]
 unfold KF XZ;rw[this];exact⟨by split<;>first|rfl|contradiction,fun x=>by split<;>first|rfl|contradiction⟩
def ZPo{x y:V0}{ev:V0->O N}(B:X.P.underlying kt=some .string)(hu:X.P.underlying t=some (.map kt vt))(q:Y5 X.P vt=some (.bool false))(A:ev x=some (.map (some i)))(r:ev y=some (.string s))(l:h.at i=.XP (ZC m)):
 XM X h ev ⟨d,.lookup t x y false,ty,p,af,g⟩=some (.val (.bool ((ZC m s).getD false)),.none):=by
 show(match ev x,ev y with|some m,some k=>vN (UA X.P h t m k false) | _,_=>none)=_;rw[A,r];dsimp only
 have:UA X.P h t (.map (some i)) (.string s) false=some (.bool ((ZC m s).getD false)):=by
  unfold UA;rw[(ZEG l).1,ZEH hu B l];dsimp only;cases ZC m s with|some b=>rfl|none=>dsimp only;rw[q];rfl
 rw[this];rfl
def ZoW(m:U (Y×Z))(s:Y)(v:Z):(fun t=>bif t==s then some v else ZC m t)=ZC (Yu m s v):=by
 funext t;rw[Zjn];rw[WZ];by_cases e:t=s;.rw[e,decide_eq_true rfl,if_pos rfl];rfl
 rw[decide_eq_false e,if_neg e];rfl
def ZLt{x y z:V0}{v:Z}(q:Sp V T h0 G h)(pk:Pk G (ks V i m) Gr)(D:X.P.underlying kt=some .string)(hu:X.P.underlying t=some (.map kt vt))(B:YI fr x=some (.map (some i)))(A:YI fr y=some (.string s))(r:YI fr z=some (.bool v)):
 HU X V ⟨none,.mapUpdate t x y z,ty,p,af,g⟩ fr h (fun j=>j=i) (fun E=>Sp V T h0 (ks V i (Yu m s v)::Gr) E):=by
 have⟨hi,hw,_⟩:=q.get pk;have l:(h.at i).own=true:=by rw[hi];rfl
 have C:(h.at i).live=true:=by rw[hi];rfl
 refine⟨.upd i (.XP (ZC (Yu m s v))),h.put i (.XP (ZC (Yu m s v))),?_,?_,fun F e=>by cases e;rfl,K1 _,?_⟩
 .show(match YI fr x,YI fr y,YI fr z with|some m,some k,some x=>sE (XC X.P h t m k x) | _,_,_=>none)=_;rw[B,A,r];dsimp only
  have:XC X.P h t (.map (some i)) (.string s) (.bool v)=some (.upd i (.XP (ZC (Yu m s v)))):=by
   unfold XC;rw[(ZEG (ok:=false) hi).2,ZEH hu D hi];dsimp only;rw[ZoW]
  rw[this];rfl
 .show(bif Nat.ble V i&&(h.at i).own then some (h.put i _) else none)=_;rw[l,Nm0 hw];rfl
 exact q.one pk (t:=fun j=>j=i) ⟨K1 _,fun j _ hn=>XG hn _,fun j e=>by rw[show j=i from e];exact⟨hw,l⟩⟩ (fun j e=>e) ⟨Yp (Y8 rfl C) _,hw,rfl⟩ fun j e=>.inl e
end
end
end Go.ZU
end
end
section
set_option maxRecDepth 20000
noncomputable section
namespace Go.Proofs.YtbnepjakjmnadaaGreat
open Go.ZU Go.RowKit
section
open Go.ZU Go.Lf
def ZOG{F V h}{p0:Y}{r}(I:V<=h.size)(l:ZuM F p0=some r):
 WR XX 16 #[.string p0] V h (CP (fun v (Gb:U (Ast V))=>v=.bool r/\Gb=[]) [] h):=by
 refine bg Tryz.ntmps16 I ZV.nil ?_;intro T A p;unfold ZuM at l;refine r9 ?_;refine Vd (U2 ZeK (Zu fh rfl))<|r3 ?_;refine WO.gv (Ze.no rfl rfl rfl (Zj rfl fh)) rfl (fun t=>(U2 ZeK (XT fh rfl t)))<|r4 ?_;refine cn l ?_ ?_;.intro x l;refine r7 ?_;exact rt l A p
 intro x l;refine r9 ?_;refine WC.loop (WL.lift l (fun B s=>∃y h1,s=⟨y,[],h1,none⟩/\Sp V T h [] h1/\y.at 0=.string p0/\y.at 3= V9 B) ⟨_,_,rfl,p.only .n,(Xe rfl (Z5 rfl fh)),fh⟩ ?_);rintro ZJx B s ZMm l ⟨y,h1,rfl,p,G,K⟩;refine r5 ?_;refine Vd (U2 ZeK (Zu fh rfl))<|r3 ?_;refine cn l ?_ ?_
 .intro x l;refine r8 ?_;have⟨z7,hz7,l⟩:=bS l;refine Vd (Zez ZeK (Zu (Zj rfl fh) rfl) (Zu fh rfl) hz7)<|r4 ?_;have⟨z8,hz8,l⟩:=Xd l;refine WO.gv (Ze.no rfl rfl rfl (Z5 rfl fh)) rfl (fun t=>(Zez ZeK (XT (Zj rfl fh) rfl t) (XT fh rfl t) (hz8 t)))<|r4 ?_;refine cn l ?_ ?_;.intro x l;refine WV ?_;exact rt l A p
  intro x l;refine r8 ?_;exact ZQ.YC (ZMm _ _ l ⟨_,_,rfl,p.only .n,(Xe rfl (Xe rfl (Zj rfl G))),fh⟩)
 intro x l;refine r7 ?_;refine Vf (X0 (e:=ZH) p Xk Xo JA rfl rfl rfl (Zk (JS rfl) (Zk (JS rfl) (Zk (JS rfl) (Zk (JS rfl) (Zk (JS rfl) (Zk (JS rfl) (Zk (JS rfl) (Zk (JS rfl) (Zk (JS rfl) (Zk (JS rfl) Zz)))))))))) rfl [((),(⟨#[97,110,100]⟩:Y)),((),(⟨#[100,101,102]⟩:Y)),((),(⟨#[101,108,115,101]⟩:Y)),((),(⟨#[103,111]⟩:Y)),((),(⟨#[105,102]⟩:Y)),((),(⟨#[105,110]⟩:Y)),((),(⟨#[112,108,97,99,101]⟩:Y)),((),(⟨#[115,116,111,112]⟩:Y)),((),(⟨#[116,104,101,110]⟩:Y)),((),(⟨#[119,97,116,99,104]⟩:Y))] rfl (xs:=[(⟨#[97,110,100]⟩:Y),(⟨#[100,101,102]⟩:Y),(⟨#[101,108,115,101]⟩:Y),(⟨#[103,111]⟩:Y),(⟨#[105,102]⟩:Y),(⟨#[105,110]⟩:Y),(⟨#[112,108,97,99,101]⟩:Y),(⟨#[115,116,111,112]⟩:Y),(⟨#[116,104,101,110]⟩:Y),(⟨#[119,97,116,99,104]⟩:Y)]) rfl (by intro q C;simp only[K2,KB,or_false]at C;rcases C with rfl|rfl|rfl|rfl|rfl|rfl|rfl|rfl|rfl|rfl<;>first|exact trivial) rfl) ?_;rintro _ D ⟨L,E,rfl,p⟩;refine r1 ?_;have⟨x11,Zfw,l⟩:=bS l;refine WO.cp gN rfl (ZX.fn ZnF (Zb (Zu (Zj rfl fh) rfl) (Zb (Zu fh rfl) Zd))) (Zib (p.ord k0) Zfw)<|r5 ?_;exact rt l A p
def ZOH{F h}{p0:Y}{r}(l:ZuM F p0=some r):Pure XX 16 #[.string p0] h (.bool r):=
 WR.JC rfl (ZOG Vc l)
def ZOI{F V h}{p0:Y}{r}(G:V<=h.size)(p:ZcA F p0=some r):
 WR XX 15 #[.string p0] V h (CP (fun v (Gb:U (Ast V))=>v=.bool r/\Gb=[]) [] h):=by
 refine bg Tryz.ntmps15 G ZV.nil ?_;intro T A q;unfold ZcA at p;refine r9 ?_;refine Vd (U2 ZeK lk)<|r4 ?_;refine WC.loop (WL.lift p (fun B s=>∃x h1,s=⟨x,[],h1,none⟩/\Sp V T h [] h1/\x.at 0=.string p0/\x.at 5= V9 (p0.size:Int)/\x.at 6= V9 B) ⟨_,_,rfl,q.only .n,YQ⟩ ?_);rintro Zdh B s Zfz p ⟨x,h1,rfl,q,S,Q,P⟩;refine r6 ?_;refine cn p ?_ ?_
 .intro y p;refine r14 ?_;have⟨z8,hz8,p⟩:=bS p;refine Vd (Zez ZeK lk lk hz8)<|r4 ?_;have⟨z9,hz9,p⟩:=Xd p;refine WO.gv (Ze.no rfl rfl rfl (Z5 rfl fh)) rfl (fun t=>(Zez ZeK (XT (Zj rfl fh) rfl t) (XT fh rfl t) (hz9 t)))<|r4 ?_;refine cn p ?_ ?_;.intro y p;refine WV ?_;exact rt p A q
  intro y p;refine r7 ?_;exact ZQ.YC (Zfz _ _ p ⟨_,_,rfl,q.only .n,YQ⟩)
 intro y p;refine r8 ?_;refine Vd (U2 ZeK lk)<|r3 ?_;refine WO.gv (Ze.yes rfl rfl rfl (Zj rfl fh)) rfl (fun t=>(U2 ZeK (XT fh rfl t)))<|r3 ?_;refine WO.QX (Ze.yes rfl rfl rfl fh) (fun l=>?_) (fun l=>?_);.replace p:=YS l p;have⟨x11,Zfw,p⟩:=bS p;refine WO.cl (Ze.on (Ze.yes rfl rfl rfl fh) l) rfl (ZX.fn ZTc Zd) q .n (fun L D I K=>ZOj (q.Vh D) Zfw) ?_;rintro _ E _ ⟨C,rfl,rfl⟩ q;refine WO.w (Ze.on (Ze.yes rfl rfl rfl (Zj rfl fh)) l) rfl (Ye lk) ?_;have⟨x15,ZhV,p⟩:=bS p;refine WO.w (Ze.on (Ze.yes rfl rfl rfl (Z5 rfl fh)) l) rfl (Kl (kv:=Value.string) (vv:=Value.bool) (k:=p0) (z:=false) Jd XY Zcc (Zu (Zj rfl fh) rfl) (Zu fh rfl) (q.get k0).at_ ZhV (w:=.bool x15) rfl)<|WO.w (Ze.on (Ze.yes rfl rfl rfl (Z5 rfl (Zj rfl fh))) l) rfl (Kc lk)<|Vd (QZ lk l lk)<|r4 ?_;exact rt p A q
 replace p:=YT l p;refine WO.Xm (Ze.yes rfl rfl rfl fh) l rfl<|WO.Xm (Ze.yes rfl rfl rfl (Zj rfl fh)) l rfl<|WO.Xm (Ze.yes rfl rfl rfl (Z5 rfl fh)) l rfl<|WO.Xm (Ze.yes rfl rfl rfl (Z5 rfl (Zj rfl fh))) l rfl<|Vd (Qs lk l lk)<|r4 ?_;exact rt p A q
def ZaF{F h}{p0:Y}{r}(l:ZcA F p0=some r):Pure XX 15 #[.string p0] h (.bool r):=
 WR.JC rfl (ZOI Vc l)
def LkS(V:Nat)(h:H)(m:O Nat)(l:U (Y×Z)):Prop:=∀{q:H},Fz V h q->∀{ev:V0->O N}{d:O Nat}{x y:V0}{ty:J}{p:String}{af:V5 Edge}{g:O (Nat×Z)}{s:Y}{v:Z},ev x=some (.map m)->ev y=some (.string s)->ZeN l s false=some v->XM XX q ev ⟨d,.lookup 70 x y false,ty,p,af,g⟩=some (.val (.bool v),.none)
def LkS.m{V h m l}(s:ZiD Value.string Value.bool V h m l):LkS V h m l:=fun f _ _ _ _ _ _ _ _ _ _ q p hv=>Kl Jd XY Zcc q p (s.fz f).at_ hv rfl
def LkS.k{V h i l}(r:i<V)(s:h.at i=.XP (ZC l)):LkS V h (some i) l:=fun f _ _ _ _ _ _ _ _ _ _ q p hv=>by
 rw[<-Oi0 hv];exact ZPo ZeK XY Zcc q p ((f.low i r (Y8 s rfl)).trans s)
def ZwT{F V h}{p0:(U (Y×Z))}{Zdd:O Nat}{r}(ZG:V<=h.size)(X:LkS V h Zdd p0)(t:Zsc F p0=some r):
 WR XX 54 #[.map Zdd] V h (CP (fun v (Gb:U (Ast V))=>v=.string r/\Gb=[]) [] h):=by
 refine WF.Qj (args:=[_]) (fn:=Tryz.f54) Kq0 (by exact rfl) Tryz.ntmps54 (by simp) ?_;simp only[Zv,Zy,Nat.reduceAdd];obtain⟨T,hT,l⟩:∃T,T=QA (V:=V) []/\Sp V T h [] h:=⟨_,rfl,Sp.start ZG ZV.nil⟩;unfold Zsc at t;refine r3 ?_;rintro _ h2 ⟨b1,eb1,rfl,l⟩;refine r1 ?_;rintro _ h4 ⟨b3,eb3,rfl,l⟩;refine r4 ?_;refine WC.ZLA (first:=[]) (cap:=[]) l ZlW ZS6 ?_;intro h5 Q G LO8 ZyB l;refine WR.ZGA (r:=r) (fun(p:Y×Z)(v:N)(S:H)=>match p with | (B,ZAf)=>v=.tuple #[]/\Sp V T h [bx V b1 [.map Zdd],bx V b3 [.string B],ob V Q (lst ZAf Code.ret LO8),ob V G .deferred] S) (Zps) ?_ (WF.begin (args:=[_]) (fn:=Tryz.f99) Kq0 (by exact rfl) Tryz.ntmps99 (by simp) ?_)
 .rintro⟨B,ZAf⟩ v S t ⟨rfl,l⟩;rcases Zu5 ZAf with x|x
  .replace t:=YS x t;rw[x]at l;refine RgS.stop (c:=Code.ret) ZyB l k2 ?_;rintro h15 l;refine r3 ?_;refine Z8.ZfJ l k2 ?_;rintro h16 l;have W:=Oi0 t;subst W;exact Z8.gen rfl (Ya fh (QC Uu (l.Jo k1) (j:=0) rfl (v:=.string B) rfl) Zl) rfl ⟨_,⟨rfl,rfl⟩,hT▸l.only .n⟩
  replace t:=YT x t;rw[x]at l;refine RgS.sp ZyB l k2 ?_;rintro h17 l;refine r5 ?_;rintro h18 l;refine r3 ?_;refine Z8.ZfJ l k2 ?_;rintro h19 l;have W:=Oi0 t;subst W;exact Z8.gen rfl (Ya fh (QC Uu (l.Jo k0) (j:=0) rfl (v:=.string (⟨#[]⟩:Y)) rfl) Zl) rfl ⟨_,⟨rfl,rfl⟩,hT▸l.only .n⟩
 skip;simp only[Zv,Zy,Nat.reduceAdd];refine r6 ?_;refine WC.loop (WL.lift t (fun p s=>match p with | (A,y,ZtH)=>∃ZHq E,s=⟨ZHq,[],E,none⟩/\Sp V T h [bx V b1 [.map Zdd],bx V b3 [.string y],ob V Q (lst ZtH Code.ret LO8),ob V G .deferred] E/\ZHq.at 0=.func (.yield Q) #[] #[]/\ZHq.at 2= V9 A) ⟨_,_,rfl,l.only (.e (.d (.a (.a .n)))),YQ⟩ ?_);rintro ZkB ⟨A,y,ZtH⟩ s ZwD t ⟨ZHq,E,rfl,l,e22,e24⟩;refine r15 ?_;have l:=l.nil (e:=(Qh .u8));refine WC.loop (WL.lift t (fun p s=>match p with | (P,L)=>∃ZyL D K I C,s=⟨ZyL,[],D,none⟩/\Sp V T h [ow V (Qh .u8) K C I P,bx V b1 [.map Zdd],bx V b3 [.string y],ob V Q (lst ZtH Code.ret LO8),ob V G .deferred] D/\ZyL.at 0=.func (.yield Q) #[] #[]/\ZyL.at 2= V9 A/\ZyL.at 3=.slice K C I/\ZyL.at 4= V9 L) ⟨_,_,none,0,0,rfl,l.only (.a (.a (.a (.a (.a .n))))),YQ⟩ ?_);rintro ZAN ⟨P,L⟩ s ZGZ t ⟨ZyL,D,K,I,C,rfl,l,e30,e31,e36,e38⟩;obtain rfl:=l.on k0;refine r7 ?_;refine cn t ?_ ?_;.intro x t;refine r7 ?_;have⟨x40,ZGH,t⟩:=bS t;refine Vd (YN (Zu fh rfl) (JS rfl) (Zzo ZGH))<|r1 ?_;refine Vd (ZPr ZWY ZQO lk)<|Vf (X0 (e:=(Qh .u8)) l ZtB ZJh ZI5 rfl rfl rfl (Zk lk Zz) rfl [((),IntKind.wrap .u8 (XD (97+x40)))] rfl (xs:=[IntKind.wrap .u8 (XD (97+x40))]) rfl (by intro q hq;simp only[K2,KB,or_false]at hq;subst hq;exact trivial) rfl) ?_;rintro _ h42 ⟨b41,Z5A,rfl,l⟩;refine r1 ?_;have⟨z43,ZXx,t⟩:=bS t;refine WO.hv gN rfl (Uc (e:=(Qh .u8)) l k0 Zvb lk lk (l.Qi k1) rfl ZXx) ?_;rintro _ h46 ⟨a44,c45,rfl,l⟩;refine r7 ?_;have⟨x47,ZL9,t⟩:=bS t;refine Vd (YN (Zu fh rfl) (JS rfl) (Zzp ZL9))<|r2 ?_;exact ZQ.YC (ZGZ _ _ t ⟨_,_,a44,c45,z43.length,rfl,l.only (.a (.b (.b (.b (.b .n))))),YQ⟩)
 intro x t;refine r9 ?_;have⟨z48,ZXw,t⟩:=bS t;refine Vd (Zze ZtB ZQO ZeK lk rfl (l.Qi k0) ZXw) ?_;have⟨ZYk,t⟩:=ZID t;rw[ZYk]at l;refine WO.ZWz gN rfl lk lks l k3 ZyB rfl rfl<|r3 ?_;refine AsS.sp ZyB l k3 ?_;rintro h50 l;refine r4 ?_;have⟨x51,Zyu,t⟩:=bS t;refine WO.cp gN rfl (ZX.fn Zdm (Zb lk Zd)) (ZaF Zyu)<|r3 ?_;have⟨x52,ZL7,t⟩:=Xd t;refine WO.gv (Ze.yes rfl rfl rfl (Z5 rfl fh)) rfl (fun hg=>(X l.fz (XT (Zj rfl fh) rfl hg) (XT fh rfl hg) (ZL7 hg)))<|r4 ?_;refine cn t ?_ ?_
 .intro x t;refine r4 ?_;rintro h53 l;refine r4 ?_;refine BdS.stop .ret ZyB l k1 ?_;rintro h54 l;refine r3 ?_;refine cn t ?_ ?_;.intro x t;refine r5 ?_;exact Yk.gen (vs:=[]) rfl Zl rfl ⟨_,t,⟨rfl,l.only (.e (.b (.a (.b .n))))⟩⟩
  intro x t;refine r8 ?_;exact ZQ.YC (ZwD _ _ t ⟨_,_,rfl,l.only (.e (.b (.a (.b .n)))),YQ⟩)
 intro x t;refine r2 ?_;refine BdS.sp ZyB l k0 ?_;rintro h55 l;refine r3 ?_;refine cn t ?_ ?_;.intro x t;refine r5 ?_;exact Yk.gen (vs:=[]) rfl Zl rfl ⟨_,t,⟨rfl,l.only (.d (.d (.a (.b .n))))⟩⟩
 intro x t;refine r8 ?_;exact ZQ.YC (ZwD _ _ t ⟨_,_,rfl,l.only (.d (.d (.a (.b .n)))),YQ⟩)
def ZOh{F V h}{p0:(U (Y×Z))}{Zdd:O Nat}{r}(q:V<=h.size)(p:ZiD Value.string Value.bool V h Zdd p0)(l:Zsc F p0=some r):WR XX 54 #[.map Zdd] V h (CP (fun v (Gb:U (Ast V))=>v=.string r/\Gb=[]) [] h):=ZwT q (LkS.m p) l
def ZHS{F h i}{p0:(U (Y×Z))}{r}(s:h.at i=.XP (ZC p0))(l:Zsc F p0=some r):Pure XX 54 #[.map (some i)] h (.string r):=
 WR.JC rfl (ZwT Vc (LkS.k (Y8 s rfl) s) l)
def ZOi{F h}{p0:(U (Y×Z))}{Zdd:O Nat}{r}(p:ZiD Value.string Value.bool h.size h Zdd p0)(l:Zsc F p0=some r):Pure XX 54 #[.map Zdd] h (.string r):=
 WR.JC rfl (ZOh Vc p l)
end
section
open Go.Lf
def ZDJ(F:Nat)(p0:(U Y)):O Y:=
 (ZOg F p0).bind fun l=>(Zsc F l).bind fun h=>some h
end
section
open Go.ZU Go.Lf
def ZOF{F V h}{p0:(U Y)}{Zh Zg}{r}(A:V<=h.size)(y:Sl ZH V h Zh Zg p0)(p:ZDJ F p0=some r):
 WR XX 17 #[.slice Zh p0.length Zg] V h (CP (fun v (Gb:U (Ast V))=>v=.string r/\Gb=[]) [] h):=by
 refine bg Tryz.ntmps17 A ZV.nil ?_;intro T x l;unfold ZDJ at p;refine r8 ?_;have⟨x1,hx1,p⟩:=bS p;refine Ve (ZX.fn ZTa (Zb lk Zd)) l .n (fun E q t C=>ZOf (l.Vh q) ((l.sl y).mono t) hx1) ?_;rintro _ D _ ⟨B,rfl,rfl⟩ l;have⟨x5,hx5,p⟩:=bS p;refine WO.cp gN rfl (ZX.fn ZTb (Zb lk Zd)) (ZOi (l.mrd k0) hx5)<|r4 ?_;exact rt p x l
def ZDI{F h}{p0:(U Y)}{Zh Zg}{r}(p:Sl ZH h.size h Zh Zg p0)(l:ZDJ F p0=some r):Pure XX 17 #[.slice Zh p0.length Zg] h (.string r):=
 WR.JC rfl (ZOF Vc p l)
end
end Go.Proofs.YtbnepjakjmnadaaGreat
end
end
