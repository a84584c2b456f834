/- Part 4. -/
import Derived.Laws.Strings
import Derived.Shelf.SlIter.Nil
import Derived.Test.YtbnepjakjmnadaaGreatAh3
set_option linter.all false
set_option maxHeartbeats 2000000
set_option maxRecDepth 100000
section
noncomputable section
namespace Go.Z9
open Go.Lf
variable{Q:XX->Fs->Prop}{a b:Y}{args:GZ N}{f:GX}{t:J}{ts:GZ J}{vs:U N}{x y:GV}
variable{X:Ctx}{P:GW}{h:H}{ev:GV->O N}{d:O Tmp}{ty:J}{p:String}{af:GZ Edge}{g:O (Nat×Z)}
def ZaQ{s:Y}(hu:X.P.underlying t=some .string)(l:ev x=some (.string s)):
 Qd X h ev ⟨d,.call {callee:=.builtin .len,args:=#[x],argTypes:=#[t]},ty,p,af,g⟩=some (.val (V4 (s.size:Int)),.none):=by
 have he:evs ev [x]=some [.string s]:=Zb l Zf;rw[K4];show(match evs ev [x] with|some args=>K6 X.P h .len #[t] ty args|none=>none)=_;rw[he];show vN (Zxk X.P h t (.string s))=_;unfold Zxk;rw[hu];rfl
def Ze9{s:Y}{i z:Int}(hu:X.P.underlying t=some .string)(q:ev x=some (.string s))(m:ev y=some (V4 i))(l:ZjU s i=some z):
 Qd X h ev ⟨d,.index t x y,ty,p,af,g⟩=some (.val (.int .u8 z),.none):=by
 show(match ev x,ev y with|some x,some i=>bif plain x&&plain i then pN (KC X.P (Instr.index t x i)) else vN (ZkU X.P t x i)|_,_=>none)=_;rw[q,m];show pN (KC X.P (Instr.index t (.string s) (V4 i)))=_
 have:ZP X.P (Instr.index t (.string s) (V4 i))=some (.ok (.int .u8 z)):=by
  unfold Instr.index;show ZP X.P (underlying t >>=_)=_;rw[prb (Xi hu)];unfold ZjU at l;dsimp only;generalize (if 0<=i then s[i.toNat]? else none)=o at l ⊢;cases o with|some b=>cases l;rfl|none=>cases l
 unfold KC;rw[this];rfl
def ZLn(a b:Y):(a.toList==b.toList)=decide (a=b):=by rw[Gu,decide_eq_true_iff,beq_iff_eq,ByteArray.toList_eq,ByteArray.toList_eq];exact⟨fun e=>by cases a;cases b;simp at e;simp[e],fun e=>by rw[e]⟩
def ZnE{h:BinOp}{r:Z}(p:Op.stringOp h a b=pure (.bool r))(l:h=.eql\/h=.neq\/h=.lss):Q0 P h t x y (.string a) (.string b)=some (.val (.bool r),.none):=by
 have m:(plain (.string a)&&plain (.string b))=true:=rfl;unfold Q0;rw[m,Cq1]
 have A:binOp h t (.string a) (.string b)=pure (.bool r):=by
  rcases l with rfl|rfl|rfl<;>exact p
 have q:(do eqGuard h t x y (.string a) (.string b);binOp h t (.string a) (.string b):Sem N)=pure (.bool r):=by
  rw[A];rcases l with rfl|rfl|rfl<;>rfl
 rw[q];rfl
def QD:Q0 P .eql t x y (.string a) (.string b)=some (.val (.bool (decide (a=b))),.none):=ZnE (by rw[<-ZLn];rfl) (.inl rfl)
def UB:Q0 P .neq t x y (.string a) (.string b)=some (.val (.bool (!decide (a=b))),.none):=ZnE (by rw[<-ZLn];rfl) (.inr (.inl rfl))
def Zxq:Q0 P .lss t x y (.string a) (.string b)=some (.val (.bool (Zk9 a b)),.none):=ZnE (by unfold Zk9;rw[<-ByteArray.toList_eq,<-ByteArray.toList_eq];rfl) (.inr (.inr rfl))
def Ziw.str{h:J}(hu:P.underlying h=some .string):Ziw P h Value.string where
 pl:=fun _=>rfl
 ok:=fun e x=>by
  unfold Zbr;rw[show(10000:Nat)=9999+1 from rfl,ZQh hu];rfl
 same:=fun x=>by simp[Instr.sameBits,Znp]
 eq:=fun x y=>by
  have:=ZP5 (P:=P) (d:=9999) (a:=x) (b:=y) hu;rw[Znp]at this;exact this
 kind:=⟨_,hu,.inr fun x y=>by simp only[Instr.sameNow,Znp]⟩
def bytesOf_map:∀(xs:U Int),bytesOf (xs.map (Value.int .u8))=some (xs.map fun n=>UInt8.ofNat n.toNat):=by
 intro xs
 induction xs with|nil=>rfl|cons x xs ih=>
   show(match bytesOf (xs.map (Value.int .u8)) with|some l=>some (UInt8.ofNat x.toNat::l)|none=>none)=_;rw[ih];rfl
def JL.ints{k:IntKind}{L:Nat}{cs:U N}{o:Nat}{xs:U Int}(e:JL (QL k) L h cs o xs):(cs.drop o).take xs.length=xs.map (Value.int k):=by
 have m:=e.len;have m:o+xs.length*1<=cs.length:=m;apply GO;intro j;by_cases l:j<xs.length
 .have⟨q,h1,_⟩:=e.get j _ (G4 l);have h1:(cs.drop (o+j*1)).take 1=[.int k xs[j]]:=h1
  have h2:(cs.drop (o+j*1))[0]? =some (.int k xs[j]):=by
   rw[<-List.getElem?_take_of_lt (i:=0) (j:=1) V6,h1];rfl
  rw[GS]at h2;rw[List.getElem?_take_of_lt l,GS,GD,G4 l];simpa using h2
 rw[G7 Vf,G7 Vf]
def ZpG{s e:J}{L n:Nat}{a:O Addr}{c:Nat}{xs:U Int}{z:Y}(F:X.P.underlying s=some (.slice e))(he:X.P.underlying e=some (.int .u8))(E:X.P.underlying t=some .string)(D:ev x=some (.slice a n c))(hn:n=xs.length)(C:Src (QL .u8) L h a c xs)(l:ZB8 xs=some z):
 Qd X h ev ⟨d,.convert s t x,ty,p,af,g⟩=some (.val (.string z),.none):=by
 subst hn;have m:xs≠[]:=fun e=>by subst e;cases l
 have l:z=⟨(xs.map fun n=>UInt8.ofNat n.toNat).toArray⟩:=by
  cases xs with|nil=>cases l|cons _ _=>cases l;rfl
 subst l;rcases C.mem with K|⟨i,o,cs,own,q,rfl,y,r⟩
 .exact absurd K m
 show(match ev x with|some a=>bif plain a then pN (KC X.P (convert s t a)) else vN (ZjL X.P h s t a)|none=>none)=_;rw[D];have G:plain (.slice (some ⟨i,o,none⟩) xs.length c)=false:=rfl;dsimp only;rw[G,Cq0];have B:=r.len;have B:o+xs.length*1<=cs.length:=B;have A:0<xs.length:=List.length_pos_iff.2 m
 have I:(Nat.ble 1 xs.length&&Nat.ble (o+xs.length) cs.length)=true:=by
  rw[Ba0,Nat.ble_eq,Nat.ble_eq];omega
 unfold ZjL;rw[F,E];dsimp only;rw[he,y];dsimp only;rw[I,Cq1,r.ints,bytesOf_map];rfl
def Zvb{z:Y}(h:Zla a b=some z):Q0 P .add t x y (.string a) (.string b)=some (.val (.string z),.none):=by
 have l:(plain (.string a)&&plain (.string b))=true:=rfl;unfold Zla at h;split at h;.cases h
 rename_i hn;cases h;unfold Q0;rw[l,Cq1]
 have p:binOp .add t (.string a) (.string b)=pure (.string (a++b)):=by
  show Op.stringOp .add a b=_;unfold Op.stringOp;exact if_neg hn
 have m:(do eqGuard .add t x y (.string a) (.string b);binOp .add t (.string a) (.string b):Sem N)=pure (.string (a++b)):=by
  rw[p];rfl
 rw[m];rfl
section
variable{n L:Nat}{rd:O Nat}{V:GZ Oper}{l:U Oper}{rest:Code}{bs:U Nat}
variable{G Gr:U (Ast L)}{h0:H}{T0:Nat->Prop}{fr:Fr}{ds:U V2}{κ ν:Type}{kv:κ->N}{vv:ν->N}{ll:U (κ×ν)}{d:Nat}
def At.rk{m:Nat}{h2:H}{b o:Nat}(s:At h b o vs)(k:RK m h h2):At h2 b o vs:=by have⟨cs,own,z,h1,h2',h3⟩:=s;have⟨a,b',c,d,e1⟩:=k.it_;exact⟨cs,own,z,by rw[k.at_ b fun l=>(by rw[l,e1]at h1;cases h1)];exact h1,h2',h3⟩
def WL.ZSl{id:Nat}{o:Oper}{t it m QW:Nat}{b:κ->ν->O Z}{q:Z}(T:U Nat)(v:N)(hq:ZoZ b ll=some q)(hS:Sp L T0 h0 G h)(pi:Pk G (ob L it (.iter m QW QW none)) Gr)(hat:fr.at t=(V5 it))(hm:h.at m=.map (QS kv vv ll bs) QW)(hb:bs.length=ll.length/\bs.Nodup/\∀x∈bs,x<QW)
 (hops:V.toList=o::l) (hop:o.op=.next (.tmp t) false) (hgu:o.guard=none) (hd:o.dst=some d) (hdn:Nat.blt d n=true) (hT:T.contains t=false) (hdT:T.contains d=true) (hv:plain v=true)
 (body:∀(x:κ×ν)(p:Z),b x.1 x.2=some p->∀h2 r,Agr T fr r->RK it h h2->Sp h.size (JO ([]:U (Ast h.size))) h2 [] h2->ZKG kv vv h2 it x->WO X n h.size rd V l ⟨Tr.set r d (.tuple #[.bool true,kv x.1,vv x.2]),ds,h2,none⟩ (YL X n h.size rd rest (Zxy T r ds v p)))
 (over:q=false->∀h' r,Agr T fr r->Sp L T0 h0 Gr h'->WO X n L rd V l ⟨Tr.set r d (.tuple #[.bool false]),ds,h',none⟩ (YL X n L rd rest (ZKD Q)))
 (Yq:q=true->∀h' r,Agr T fr r->Sp L T0 h0 Gr h'->Q (.panic v) ⟨r,ds,h',none⟩):WL X n L rd (.seq (.region id V false) rest) ⟨fr,ds,h,none⟩ Q:=by
 obtain⟨hb1,K,hb3⟩:=hb;obtain⟨o1,o2,o3⟩:=hS.get pi;obtain⟨m1,m2⟩:=ZlG hq
 have ZOb:Agr T fr (Y1 T fr):=fun t' v' C hv'=>by
  rw[Qr,if_neg (fun z=>by rw[<-GL]at z;rw[z]at C;cases C),hv']
 have htT:t∉T:=fun z=>by rw[<-GL]at z;rw[z]at hT;cases hT
 have ZY2:d∈T:=GL.1 hdT;have ZYR:m≠it:=fun z=>by rw[z,o1]at hm;cases hm
 classical
 let pn:Nat->Z:=fun B=>decide (∃(j:Nat) (y:κ×ν),ll[j]? =some y/\bs[j]? =some B/\b y.1 y.2=some true)
 have Zqh:∀(j:Nat)(y:κ×ν)(B:Nat),ll[j]? =some y->bs[j]? =some B->∀p,b y.1 y.2=some p->pn B=p:=by
  intro j y B h1 h2 p I;cases p with|true=>exact decide_eq_true ⟨j,y,h1,h2,I⟩|false=>
    refine decide_eq_false ?_;rintro⟨j',y',h1',h2',D⟩
    have hj:j'=j:=by
     obtain⟨q1,e1⟩:=Li0 h2';obtain⟨q2,e2⟩:=Li0 h2;exact(List.getElem_inj K).1 (e1.trans e2.symm)
    subst hj;rw[h1]at h1';cases h1';rw[I]at D;cases D
 have ZLT:Sp L T0 h0 Gr (h.put it .dead):=
  Sp.step (Ga:=[ob L it (.iter m QW QW none)]) (Gb:=[]) (hS.perm pi.perm) (Up.put o2 (by rw[o1];rfl)) (fun i e=>⟨_,Gf.2 rfl,e⟩) Z0.nil fun i ⟨A,mm,f⟩=>by simp at mm
 have ZlV:∀x∈QS kv vv ll bs,∃ex W,(W.ds=ds/\(∀t,t∉T->W.fr.at t=fr.at t)/\(ex=.normal/\pn x.born=false\/ex=.panic v/\pn x.born=true))/\∀{ρ:Ren}{F:Fence}{a:Act}{w:GY},Inv ρ n {fr:=UO (Y1 T fr) o.dst (.tuple #[.bool true,x.key,x.val]),ds:=ds,h:=h.put it (.iter m QW QW (some x.born)),wr:=none} a w->h.size<=(h.put it (.iter m QW QW (some x.born))).size->FR' ρ rd F->∀S:Exit->Act->GY->Prop,
  (∀e' a' w',Qx h.size n ρ (h.put it (.iter m QW QW (some x.born))) w ex W e' a' w'->S e' a' w')->wpListIn F 0 X.P V (Exit.then (rest.wpIn F 0 X.P S) S) l a w:=by
  intro x hx;obtain⟨j,y,B,h1,h2,rfl⟩:=ZsQ hx;obtain⟨p,I⟩:=m1 y (Gy.2 ⟨j,h1⟩);have E:=Zqh j y B h1 h2 p I;have hsz:(h.put it (.iter m QW QW (some B))).size=h.size:=H.size_put _ _ _;have e1:(h.put it (.iter m QW QW (some B))).at it=.iter m QW QW (some B):=YD (X4 o1 rfl) _;have e2:(h.put it (.iter m QW QW (some B))).at m=.map (QS kv vv ll bs) QW:=by rw[XE ZYR,hm]
  have hent:ZKG kv vv (h.put it (.iter m QW QW (some B))) it y:=by
   unfold ZKG ZgG;simp only[e1,e2,Nat.beq_refl,Cq1,Zo0 K h1 h2]
  obtain⟨ex,W,⟨q1,q2,q3⟩,q4⟩:=WO.body (body y p I (h.put it (.iter m QW QW (some B))) (Y1 T fr) ZOb ⟨⟨_,_,_,_,o1⟩,fun i hi=>XE hi _⟩ (Sp.start (Nat.le_of_eq hsz.symm) Z0.nil) hent);refine⟨ex,W,⟨q1,fun t' C=>?_,?_⟩,?_⟩
  ·rw[q2 t' C,Qr,if_neg C]
  ·dsimp only;rw[E];exact q3
  rw[hd];intro ρ F a w i1 i2 i3 S i4;exact q4 i1 i2 i3 S i4
 have key:=fun(e:XX)(s2:Fs)=>ZC3 (X:=X) (n:=n) (L:=L) (rd:=rd) (rest:=rest) (id:=id) (s:=⟨fr,ds,h,none⟩) (e:=e) (s2:=s2) (T:=T) (v:=v) pn hops hop hgu hat o1 hm V7 (ZlH K hb3) o2 htT hd (by rwa[G5]at hdn) ZY2 hv ZlV
 cases q with
 | true=>
   refine⟨.panic v,⟨Y1 T fr,ds,h.put it .dead,none⟩,Yq rfl _ _ ZOb ZLT,key _ _ (fun hall=>?_) fun _=>⟨rfl,rfl⟩⟩;exfalso;obtain⟨y,hy,hyb⟩:=m2.1 rfl;obtain⟨j,hj⟩:=Gy.1 hy;have hjl:=(Li0 hj).1;have h2:bs[j]? =some (bs[j]'V6):=G4 _;have:=hall _ (ZHA hj h2);rw[Zqh j y _ hj h2 true hyb]at this;cases this
 | false=>
   obtain⟨e,s2,⟨q1,q2⟩,q3⟩:=WO.body (over rfl _ _ ZOb ZLT);refine⟨e,s2,q2,key e s2 (fun _=>⟨q1,?_⟩) fun⟨x,hx,I⟩=>?_⟩
   ·rw[hd];intro ρ F a w i1 i2 i3 S i4;exact q3 i1 i2 i3 S i4
   exfalso;obtain⟨j,y,B,h1,h2,rfl⟩:=ZsQ hx;obtain⟨p,D⟩:=m1 y (Gy.2 ⟨j,h1⟩);have E:=Zqh j y B h1 h2 p D;rw[show pn B=true from I]at E;subst E;exact absurd (m2.2 ⟨y,Gy.2 ⟨j,h1⟩,D⟩) Vd
def XP.Zjx{T:Nat->Prop}{l:Nat}{fn:Func}{q:PM}{R:Kn->H->Prop}(r:Sp L T h0 G h)(pk:Pk G (ob L l .deferred) Gr)(k:∀p,Sp L T h0 Gr p->XP X fn L R q ⟨fr,ds,p,none⟩):XP X fn L R q ⟨fr,⟨.collected l,#[]⟩::ds,h,none⟩:=by have⟨h1,h2,h3⟩:=r.get pk;have hu:Up L (fun i=>i=l) h (h.put l .dead):=Up.put h2 (by rw[h1];rfl);have⟨E,p,hR,hj⟩:=k _ (Sp.step (Ga:=[ob L l .deferred]) (Gb:=[]) (r.perm pk.perm) hu (fun i e=>⟨_,Gf.2 rfl,e⟩) Z0.nil fun i ⟨A,m,f⟩=>by simp at m);exact⟨E,p,hR,Zo4 h1 h2 hj⟩
variable{fn:Func}{R:Kn->H->Prop}{s:Fs}{v:N}{pm:PM}
def XP.ZVV{fn2:Func}{c:Code}{YK:U N}{y:Nat}(F:X.fns.get f=some fn2)(T:fn2.body=some c)(A:fn2.ntmps=y)(hn:YK.length<=y)(S:fn2.results.toList=[])
 (k:DC X y L c pm ⟨QN YK 0 .nil,[],h,none⟩ (DEn X fn L R fr ds)):XP X fn L R pm ⟨fr,⟨.fn (.func f) #[],YK.toArray⟩::ds,h,none⟩:=by
 subst A;obtain⟨e,l,s',⟨rfl,p,E,G,V,D⟩,I⟩:=k;obtain⟨t,ds',h2,x⟩:=s';dsimp only at p D;subst p
 have K:YW X (.dcall f (YK++([]:U N)).toArray pm L h) (.Zfi l h2):=by
  refine ZfC (C:=cfg X fun _=>false) (ih:=JF (.Qn c fn2.ntmps L pm ⟨QN YK 0 .nil,[],h,none⟩) (.Qn .normal l ⟨t,[],h2,x⟩)) (XH I) ?_;unfold Zh6;have m:(cfg X fun _=>false).X.fns.get f=some fn2:=F;rw[m];dsimp only;rw[T];dsimp only;have e1:Nat.ble (YK++([]:U N)).toArray.toList.length fn2.ntmps=true:=Nm0 (by rw[G8];exact hn);rw[e1,Cq1];rw[G8,XI];unfold ZFw;dsimp only;have W:JB (cfg X fun _=>false).X.P fn2 t h2=some (.tuple #[]):=by unfold JB;rw[S];rfl
  rw[W]
 refine⟨E,G,V,?_⟩
 classical
 let ih:Jz->O Xr:=fun j=>if j=.dcall f (YK++([]:U N)).toArray pm L h then some (.Zfi l h2) else if j=.leave fn L (Zkz l) ⟨fr,ds,h2,none⟩ then some (.fin E G) else none
 refine Ua (C:=cfg X fun _=>false) (ih:=ih) ?_ ?_
 ·intro j r e;dsimp only[ih]at e;split at e
  ·rename_i B;cases e;rw[B];exact K
  split at e
  ·rename_i B;cases e;rw[B];exact D
  cases e
 unfold U4;dsimp only;have m:(cfg X fun _=>false).X.fns.get f=some fn2:=F;rw[m];dsimp only;have Q:ih (.dcall f (YK.toArray.toList++(#[]:GZ N).toList).toArray pm L h)=some (.Zfi l h2):=by dsimp only[ih];rw[if_pos rfl]
 rw[Q];dsimp only[ih];rw[if_neg (by intro q;cases q),if_pos rfl]
def WO.Z0r{m:GV}(q:Yh V ⟨none,.defer {callee:=.value m,args:=#[x],argTypes:=ts},ty,p,af,g⟩ fr)(t:YM fr m=some (.func (.func f) #[] #[]))(r:YM fr x=some v)
 (k:WO X n L none V l ⟨fr,⟨.fn (.func f) #[],#[v]⟩::ds,h,none⟩ Q):WO X n L none V (⟨none,.defer {callee:=.value m,args:=#[x],argTypes:=ts},ty,p,af,g⟩::l) ⟨fr,ds,h,none⟩ Q:=by
 refine WO.cons (Zbt X) (s1:=⟨fr,⟨.fn (.func f) #[],#[v]⟩::ds,h,none⟩) ?_ k;have he:evs (YM fr) [x]=some [v]:=Zb r Zf
 have y:Qd X h (YM fr) ⟨none,.defer {callee:=.value m,args:=#[x],argTypes:=ts},ty,p,af,g⟩=some (.dfr ⟨.fn (.func f) #[],#[v]⟩,.none):=by
  show(match Callee.value m,evs (YM fr) [x] with
   | .value f,some args=>match YM fr f with
     | some (.func (.func g) first cap)=>some (AN.dfr {target:=.fn (.func g) cap,args:=first++args.toArray},Eff.none)
     | _=>none
   | _,_=>none)=_
  rw[he];dsimp only;rw[t];rfl
 unfold UN;rw[q.1,q.2];dsimp only[Q1,Cq0,Cq1];rw[y];rfl
def ZBh{a:J}{ms}(l:plain (.iface a v)=true)(hu:P.underlying t=some (.interface ms)):Q0 P .neq t x (.const .nilIface) (.iface a v) .nilIface=some (.val (.bool true),.none):=by
 have h:(plain (.iface a v)&&plain .nilIface)=true:=by rw[l];rfl
 unfold Q0;rw[h,Cq1];unfold KC
 have h1:ZP P (eqGuard .neq t x (.const .nilIface) (.iface a v) .nilIface)=some (.ok ()):=by
  cases x<;>rfl
 rw[prb h1]
 have h2:ZP P (Op.equal t (.iface a v) .nilIface)=some (.ok false):=by
  show ZP P (Op.equalIn (9999+1) t (.iface a v) .nilIface)=_;unfold Op.equalIn;rw[prb (Xi hu)];rfl
 have:ZP P (binOp .neq t (.iface a v) .nilIface)=some (.ok (.bool true)):=by
  show ZP P (do pure (Value.bool (!(<-Op.equal t (.iface a v) .nilIface))):Sem N)=_;rw[prb h2];rfl
 rw[this];rfl
def Zxp{ms}(hu:P.underlying t=some (.interface ms)):Q0 P .neq t x (.const .nilIface) .nilIface .nilIface=some (.val (.bool false),.none):=by
 unfold Q0;rw[show(plain .nilIface&&plain .nilIface)=true from rfl,Cq1];unfold KC
 have h1:ZP P (eqGuard .neq t x (.const .nilIface) .nilIface .nilIface)=some (.ok ()):=by
  cases x<;>rfl
 rw[prb h1]
 have h2:ZP P (Op.equal t .nilIface .nilIface)=some (.ok true):=by
  show ZP P (Op.equalIn (9999+1) t .nilIface .nilIface)=_;unfold Op.equalIn;rw[prb (Xi hu)];rfl
 have:ZP P (binOp .neq t .nilIface .nilIface)=some (.ok (.bool false)):=by
  show ZP P (do pure (Value.bool (!(<-Op.equal t .nilIface .nilIface))):Sem N)=_;rw[prb h2];rfl
 rw[this];rfl
end
section
variable{X:Ctx}{n L:Nat}{rd:O Nat}{V:GZ Oper}{ol:U Oper}{fr:Fr}{ds:U V2}{h h0:H}{ty:J}{p:String}{af:GZ Edge}{g:O (Nat×Z)}{T:Nat->Prop}{G Gr:U (Ast L)}{d l df:Nat}{LO:YN}{ps:GZ Tmp}{YK bd:Code}
def RP(K l:N->H->Prop):Kn->H->Prop:=fun e h=>match e with|.ret v=>K v h|.Yq v=>l v h
section
variable{fn:Func}{K Z':N->H->Prop}{v:N}{s:Fs}
def Yi.ZAy{l:U ResultVar}(p:fn.results.toList=l)(hv:Zeh X.P fr h l=some vs)(q:(match vs with | [v]=>v|vs=>.tuple vs.toArray)=v)(k:K v h):Yi X fn L (RP K Z') .ret ⟨fr,[],h,none⟩:=by obtain⟨m,E,t,h1,⟨v',rfl,h2⟩,r⟩:=(Yi.gen (X:=X) (L:=L) (R:=K) p hv q k).out;exact⟨⟨m,.ret v',t,h1,h2,r⟩⟩
def XP.ZM7(k:Z' v h):XP X fn L (RP K Z') (.Yq v) ⟨fr,[],h,none⟩:=XP.Yq k
def WF.ZDd{m β:Type}{r:β}(q:m->N->H->Prop)(j:m->O β)(k:∀x v l,j x=some r->q x v l->K v l)(t:WF X f args L h (RP (fun v l=>∃x,j x=some r/\q x v l) Z')):WF X f args L h (RP K Z'):=
 t.mono fun e l p=>by
   cases e with|ret v=>have⟨x,h1,h2⟩:=p;exact k x v l h1 h2|Yq v=>exact p
end
def WO.ZNl{m:Op}(q:Yh V ⟨some d,m,ty,p,af,g⟩ fr)(r:Nat.blt d n=true)(he:Yc X fr ⟨some d,m,ty,p,af,g⟩ f args)
 (k:WF X f args L h (RP (fun v l=>WO X n L rd V ol ⟨Tr.set fr d v,ds,l,none⟩ Q) (fun v l=>Q (.panic v) ⟨fr,ds,l,none⟩))):WO X n L rd V (⟨some d,m,ty,p,af,g⟩::ol) ⟨fr,ds,h,none⟩ Q:=by
 have⟨e,l,hk,hj⟩:=k;cases e with|ret v=>exact WO.en q r he hj hk|Yq v=>exact WO.Znj q (he h) rfl hj hk
structure BdZ(n lo l:Nat)(fr:Fr)(ps:Array Tmp)(YK bd:Code)(df:Nat)(R:Bool->H->Prop)(Z':Value->H->Prop)(e:XX)(s:Fs):Prop where
 out:BdS n lo l fr ps YK bd df R e s\/∃v,s.h.at l=.loop .busy none fr n ps YK bd df/\e=.panic v/\s.ds=[]/\Z' v s.h
structure AsZ(X:Ctx)(n L lo l:Nat)(fr:Fr)(ps:Array Tmp)(YK bd:Code)(df:Nat)(R:Bool->H->Prop)(Z':Value->H->Prop)(e:XX)(s:Fs):Prop where
 out:e=.normal/\s.h.at l=.loop .ready none fr n ps YK bd df/\∀h1,(lo<=l->Up lo (fun i=>i=l) s.h h1)->h1.at l=.loop .busy none fr n ps YK bd df->WC X n L (some l) bd ⟨s.fr,s.ds,h1,s.wr⟩ (BdZ n lo l fr ps YK bd df R Z')
def RdZ(X:Ctx)(l:Nat)(args:GZ N)(L:Nat)(h:H)(R:Z->H->Prop)(p:N->H->Prop):Prop:=
 Zve X l args L h R\/∃v m,p v m/\YW X (.round l args L h) (.fin (.Yq v) m)
def RdZ.mk{l:Nat}{args:U N}{fr fr1:Fr}{m:GZ Tmp}{YK q:Code}{df:Nat}{R:Z->H->Prop}{Z':N->H->Prop}(lo:Nat)(B:h.at l=.loop .ready none fr n m YK q df)(hw:L<=l)(t:Nat.beq args.length m.toList.length=true)(I:Qz (m.toList.zip args) n fr=some fr1)
 (k:WC X n L (some l) YK ⟨fr1,[],h,none⟩ (AsZ X n L lo l fr m YK q df R Z')):RdZ X l args.toArray L h R Z':=by
 obtain⟨e1,s1,⟨rfl,h1,k1⟩,V⟩:=k;have S:(s1.h.at l).own=true:=by rw[h1];rfl
 have y:=X4 h1 rfl;obtain⟨D,s2,⟨k2⟩,T⟩:=k1 (s1.h.put l (.loop .busy none fr n m YK q df)) (fun t=>Up.put t S) (YD y _)
 have h2:s2.h.at l=.loop .busy none fr n m YK q df:=by
  rcases k2 with k2|⟨v,h2,_⟩
  ·exact k2.out.1
  exact h2
 have Q:(s2.h.at l).own=true:=by rw[h2];rfl
 have x:=X4 h2 rfl
 have E:(∃b A,R b (s2.h.put l A)/\Jp l D s2=some (.fin (.ret (.bool b)) (s2.h.put l A)))\/∃v,Z' v s2.h/\Jp l D s2=some (.fin (.Yq v) s2.h):=by
  rcases k2 with⟨_,⟨rfl,k2⟩|⟨c,hx,k2⟩⟩|⟨v,_,rfl,hd,F⟩
  ·refine .inl ⟨true,_,k2 _ (fun t=>Up.put t Q) (YD x _),?_⟩;unfold Jp;rw[h2]
  ·refine .inl ⟨false,_,k2 _ (fun t=>Up.put t Q) (YD x _),?_⟩;unfold Jp;rw[h2];cases hx<;>rfl
  refine .inr ⟨v,F,?_⟩;unfold Jp;rw[h2];dsimp only;rw[hd]
 classical
 let ih:Jz->O Xr:=fun j=>if j=.code YK n L (some l) ⟨fr1,[],h,none⟩ then some (.code .normal s1) else JF (.code q n L (some l) {s1 with h:=s1.h.put l (.loop .busy none fr n m YK q df)}) (.code D s2) j
 have HI:∀j r,ih j=some r->YW X j r:=by
  intro j r e;dsimp only[ih]at e;split at e
  ·rename_i P;cases e;rw[P];exact V
  exact XH (X:=X) T j r e
 have fin:∀r,Jp l D s2=some r->YW X (.round l args.toArray L h) r:=fun r p=>by
  refine KO (C:=cfg X fun _=>false) (ih:=ih) HI ?_;unfold ZcO;rw[B];have K:Nat.beq args.toArray.toList.length m.toList.length=true:=t;dsimp only;rw[Nm0 hw,K];simp only[Bool.and_self,Cq1];have G:Qz (m.toList.zip args.toArray.toList) n fr=some fr1:=I;rw[G];dsimp only;have i1:ih (.code YK n L (some l) {fr:=fr1,ds:=[],h:=h})=some (.code .normal s1):=by dsimp only[ih];rw[if_pos rfl]
  rw[i1];show Ke ih l q n L .normal s1=_;unfold Ke;dsimp only;rw[h1];dsimp only
  have W:ih (.code q n L (some l) {s1 with h:=s1.h.put l (.loop .busy none fr n m YK q df)})=some (.code D s2):=by
   dsimp only[ih];split
   ·rename_i P;exfalso;injection P with _ _ _ _ I
    have:({s1 with h:=s1.h.put l (.loop .busy none fr n m YK q df)}:Fs).h.at l=h.at l:=by rw[I]
    dsimp only at this;rw[YD y,B]at this;cases this
   exact XI _ _
  rw[W];exact p
 rcases E with⟨b,A,hR,p⟩|⟨v,F,p⟩
 ·exact .inl ⟨b,_,hR,fin _ p⟩
 exact .inr ⟨v,_,F,fin _ p⟩
def WO.Zsw{o:Oper}{E:Eff}{v:N}{h1 h2:H}(m:Yh V o fr)(q:Qd X h (YM fr) o=some (.round l args,E))(r:E.apply L h=some h1)
 (p:YW X (.round l args L h1) (.fin (.Yq v) h2)) (k:Q (.panic v) ⟨fr,ds,h2,none⟩):WO X n L rd V (o::ol) ⟨fr,ds,h,none⟩ Q:=by
 refine WO.panics (XH p) ?_ k;unfold UN;rw[m.1,m.2];dsimp only[Q1,Cq0,Cq1];rw[q];dsimp only[Q1,Cq0,Cq1];rw[r];unfold Zay;dsimp only[Uo,Cq0];rw[XI];rfl
def WO.ZMp{C:GV}{xs:GZ GV}{y:Nat}{D t:Fr}{q x:Code}(I:Yh V ⟨some d,.call {callee:=.value C,args:=xs,argTypes:=ts},ty,p,af,g⟩ fr)(hd:Nat.blt d n=true)(K:YM fr C=some (.func (.yield l) #[] #[]))(F:evs (YM fr) xs.toList=some vs)
 (hS:Sp L T h0 G h) (pk:Pk G (ob L l LO) Gr) (B:LO=.loop .ready none D y ps q x df) (A:Nat.beq vs.length ps.toList.length=true) (S:Qz (ps.toList.zip vs) y D=some t)
 (k:WC X y L (some l) q ⟨t,[],h,none⟩ (AsZ X y L L l D ps q x df (fun b r=>WO X n L rd V ol ⟨Tr.set fr d (.bool b),ds,r,none⟩ Q) (fun v r=>Q (.panic v) ⟨fr,ds,r,none⟩))):
 WO X n L rd V (⟨some d,.call {callee:=.value C,args:=xs,argTypes:=ts},ty,p,af,g⟩::ol) ⟨fr,ds,h,none⟩ Q:=by
 have⟨h1,h2,h3⟩:=hS.get pk;have m:=h1.trans B;rcases RdZ.mk (lo:=L) m h2 A S k with W|⟨v,r,P,hj⟩
 .exact WO.yld I hd K F m (Nb0 A) W fun b r hk=>hk
 refine WO.Zsw (E:=.none) I ?_ rfl hj P;rw[Zfa,F];dsimp only;rw[K];dsimp only;unfold WB;dsimp only;rw[m];dsimp only;rw[A];rfl
variable{Xk:Fr}{R:Z->H->Prop}{Z':N->H->Prop}
def AsZ.sp(m:LO=.loop .ready none fr n ps YK bd df)(p:Sp L T h0 G h)(pk:Pk G (ob L l LO) Gr)(k:∀h1,Sp L T h0 (ob L l (bsy LO)::Gr) h1->WC X n L (some l) bd ⟨Xk,ds,h1,none⟩ (BdZ n L l fr ps YK bd df R Z')):AsZ X n L L l fr ps YK bd df R Z' .normal ⟨Xk,ds,h,none⟩:=by have⟨h1,h2,h3⟩:=p.get pk;refine⟨⟨rfl,h1.trans m,fun r u e=>k r ?_⟩⟩;exact p.one pk (u h2) (fun _ q=>q) ⟨by rw[e,m];rfl,h2,by rw[m];rfl⟩ fun _ q=>.inl q
def BdZ.sp(hLO:LO=.loop .ready none fr n ps YK bd df)(hS:Sp L T h0 G h)(pk:Pk G (ob L l (bsy LO)) Gr)(k:∀h1,Sp L T h0 (ob L l LO::Gr) h1->R true h1):BdZ n L l fr ps YK bd df R Z' .normal ⟨Xk,ds,h,none⟩:=⟨.inl (BdS.sp hLO hS pk k)⟩
def BdZ.Yq{v:N}(m:LO=.loop .ready none fr n ps YK bd df)(p:Sp L T h0 G h)(pk:Pk G (ob L l (bsy LO)) Gr)(k:Z' v h):BdZ n L l fr ps YK bd df R Z' (.panic v) ⟨Xk,[],h,none⟩:=by have⟨h1,h2,h3⟩:=p.get pk;exact⟨.inr ⟨v,h1.trans (by rw[m];rfl),rfl,rfl,k⟩⟩
def WC.ZvN{t:GV}{first cap:U N}(hS:Sp L T h0 G h)(hg:YM fr t=some (.func (.func f) first.toArray cap.toArray))(F:(X.fns.get f).isSome=true)
 (k:∀K l y S,S=YN.loop .ready none fr n ps YK bd y->Sp L T h0 (ob L l S::ob L y .deferred::G) K->WF X f (first++([Value.func (.yield l) #[] #[]]++cap)).toArray L K (RP (fun _ h2=>RgS X L l fr n ps YK bd y ds Q h2) (fun v h2=>Q (.panic v) ⟨fr,⟨.collected y,#[]⟩::ds,h2,none⟩))):
 WC X n L none (.rangeFunc t ps YK bd) ⟨fr,ds,h,none⟩ Q:=by
 have s1:Sp L T h0 (ob L h.size .deferred::G) (h.push .deferred):=Zf4 rfl hS
 have s2:Sp L T h0 (ob L (h.size+1) (.loop .ready none fr n ps YK bd h.size)::ob L h.size .deferred::G) ((h.push .deferred).push (.loop .ready none fr n ps YK bd h.size)):=by
  have:=Zf4 (A:=.loop .ready none fr n ps YK bd h.size) rfl s1
  rwa[H.size_push]at this
 obtain⟨fn,F⟩:=GJ.1 F;obtain⟨e,q,x,E⟩:=k _ _ _ _ rfl s2
 have I:WB (cfg X fun _=>false).X ((h.push .deferred).push (.loop .ready none fr n ps YK bd h.size)) (.func (.func f) first.toArray cap.toArray) [Value.func (.yield (h.size+1)) #[] #[]]=some (.enter f (first++([Value.func (.yield (h.size+1)) #[] #[]]++cap)).toArray,.none):=by
  unfold WB;have:(cfg X fun _=>false).X.fns.get f=some fn:=F;dsimp only;rw[this];simp only[Q4]
 have pre:∀(ih:Jz->O Xr),Qm (cfg X fun _=>false) ih t n L none (h.size+1) ⟨fr,⟨.collected h.size,#[]⟩::ds,(h.push .deferred).push (.loop .ready none fr n ps YK bd h.size),none⟩=J8 ih n L none (h.size+1) ⟨fr,⟨.collected h.size,#[]⟩::ds,(h.push .deferred).push (.loop .ready none fr n ps YK bd h.size),none⟩ (ih (.call f (first++([Value.func (.yield (h.size+1)) #[] #[]]++cap)).toArray L ((h.push .deferred).push (.loop .ready none fr n ps YK bd h.size)))):=fun ih=>by
  unfold Qm;dsimp only;rw[hg];dsimp only;rw[I]
 cases e with
 | Yq v=>
   refine⟨.panic v,_,x,XB.2 (Ju (C:=cfg X fun _=>false) (ih:=JF (.call f _ L _) (.fin (.Yq v) q)) (XH E) ?_)⟩;show Qm (cfg X fun _=>false) _ t n L none (h.size+1) ⟨fr,⟨.collected h.size,#[]⟩::ds,(h.push .deferred).push (.loop .ready none fr n ps YK bd h.size),none⟩=_;rw[pre,XI]
   rfl
 | ret v=>
 rcases x.k with⟨m,B⟩|⟨c,m,B⟩
 ·refine⟨.normal,_,B (q.put (h.size+1) (.loop .exhausted none fr n ps YK bd h.size)) (Up.put x.low (by rw[m];rfl)),?_⟩;refine XB.2 (Ju (C:=cfg X fun _=>false) (ih:=JF (.call f _ L _) (.fin (.ret v) q)) (XH E) ?_);show Qm (cfg X fun _=>false) _ t n L none (h.size+1) ⟨fr,⟨.collected h.size,#[]⟩::ds,(h.push .deferred).push (.loop .ready none fr n ps YK bd h.size),none⟩=_;rw[pre,XI];unfold J8;dsimp only;rw[m]
  rfl
 obtain⟨P,s2,W,D⟩:=B (q.put (h.size+1) (.loop .exhausted (some c) fr n ps YK bd h.size)) (Up.put x.low (by rw[m];rfl));refine⟨P,s2,W,?_⟩
 classical
 let ih:Jz->O Xr:=fun j=>if j=.code c n L none ⟨fr,⟨.collected h.size,#[]⟩::ds,q.put (h.size+1) (.loop .exhausted (some c) fr n ps YK bd h.size),none⟩ then some (.code P s2) else JF (.call f (first++([Value.func (.yield (h.size+1)) #[] #[]]++cap)).toArray L ((h.push .deferred).push (.loop .ready none fr n ps YK bd h.size))) (.fin (.ret v) q) j
 have HI:∀j r,ih j=some r->YW X j r:=by
  intro j r e;dsimp only[ih]at e;split at e
  ·rename_i p;cases e;rw[p];exact D
  exact XH (X:=X) E j r e
 refine XB.2 (Ju (C:=cfg X fun _=>false) (ih:=ih) HI ?_);show Qm (cfg X fun _=>false) _ t n L none (h.size+1) ⟨fr,⟨.collected h.size,#[]⟩::ds,(h.push .deferred).push (.loop .ready none fr n ps YK bd h.size),none⟩=_
 have V:ih (.call f (first++([Value.func (.yield (h.size+1)) #[] #[]]++cap)).toArray L ((h.push .deferred).push (.loop .ready none fr n ps YK bd h.size)))=some (.fin (.ret v) q):=by
  dsimp only[ih];split
  ·rename_i p;cases p
  exact XI _ _
 rw[pre,V];unfold J8;dsimp only;rw[m];show ih (.code c n L none _)=_;dsimp only[ih];rw[if_pos rfl]
end
section
variable{X:Ctx}{n L:Nat}{rd:O Nat}{V:GZ Oper}{l:U Oper}{fr:Fr}{ds:U V2}{h h0:H}{ty:J}{p:String}{af:GZ Edge}{g:O (Nat×Z)}{T:Nat->Prop}{G Gr Ga:U (Ast L)}{d:Nat}
def Zns{l:J}{v:N}{u:TypeDesc}(hu:X.P.underlying t=some u)(q:(match u with | .interface _=>false|_=>true)=true)(m:YM fr x=some (.iface t v)):Qd X h (YM fr) ⟨some d,.typeAssert x l t true,ty,p,af,g⟩=some (.val (.tuple #[v,.bool true]),.none):=by
 show(match YM fr x with|some x=>vN (ZaJ X.P x t true) | none=>none)=_;rw[m];dsimp only
 have:ZaJ X.P (.iface t v) t true=some (.tuple #[v,.bool true]):=by
  unfold ZaJ;rw[hu];cases u<;>first | (dsimp only;rw[Nat.beq_refl];rfl) | cases q
 rw[this];rfl
def Znt{m a:J}{v z:N}{u:TypeDesc}(hu:X.P.underlying t=some u)(y:(match u with | .interface _=>false|_=>true)=true)(q:Xl X.P t=some z)(l:Nat.beq a t=false)(r:YM fr x=some (.iface a v)):Qd X h (YM fr) ⟨some d,.typeAssert x m t true,ty,p,af,g⟩=some (.val (.tuple #[z,.bool false]),.none):=by
 show(match YM fr x with|some x=>vN (ZaJ X.P x t true) | none=>none)=_;rw[r];dsimp only
 have:ZaJ X.P (.iface a v) t true=some (.tuple #[z,.bool false]):=by
  unfold ZaJ;rw[hu];cases u<;>first | (dsimp only;rw[l,Cq0,Cq1,q]) | cases y
 rw[this];rfl
def Yc.inv{r:GV}{m:String}{xs:GZ GV}{v:N}{d:O Tmp}(x:YM fr r=some (.iface t v))(y:ZrS X.P t m=some f)(l:(X.fns.get f).isSome=true)(q:evs (YM fr) xs.toList=some vs):
 Yc X fr ⟨d,.call {callee:=.invoke r m,args:=xs,argTypes:=ts},ty,p,af,g⟩ f (v::vs).toArray:=fun h=>by
 have⟨fn,l⟩:=GJ.1 l;unfold Qd;dsimp only;rw[q];dsimp only;rw[x];dsimp only;unfold ZcZ;dsimp only;rw[y];dsimp only;rw[l]
end
end Go.Z9
end
end
namespace Go.Proofs.YtbnepjakjmnadaaGreat
open Go.Proofs.Tryz
structure Zi where
 op:Int
 n:Int
 qJ:ByteArray
 qQ:List Zi
 deriving Inhabited
structure ZU where
 qJ:ByteArray
 names:List ByteArray
 deriving Inhabited
mutual
structure Term where
 op:Int
 qJ:ByteArray
 args:List Zi
 qK:List Za
 qQ:List Term
structure Za where
 qV:Int
 qJ:ByteArray
 qG:List ZU
 qK:List Za
 qQ:List Term
end
instance:Inhabited Term:=⟨⟨0,⟨#[]⟩,[],[],[]⟩⟩
instance:Inhabited Za:=⟨⟨0,⟨#[]⟩,[],[],[]⟩⟩
inductive Part
 | pr (t:Term)
 | ex (e:Zi)
 | cl (c:Za)
instance:Inhabited Part:=⟨.ex default⟩
def ZoQ{β:Type}(p:Part)(f:Term->β)(g:Zi->β)(k:Za->β):β:=match p with|.pr t=>f t|.ex e=>g e|.cl c=>k c
end Go.Proofs.YtbnepjakjmnadaaGreat
noncomputable section
namespace Go.Z9
open Go.Lf
variable{L c:Nat}{a:O Addr}{h:H}
structure SlW{α P:Type}(sz:Nat)(sh:P->α->List Value)(L:Nat)(h:H)(a:Option Addr)(c:Nat)(xs:List α)(ps:Nat->P):Prop where
 max:xs.length<=9223372036854775807
 cap:xs.length<=c / 2
 nl:Zes a c
 mem:xs=[]\/∃i o cs own z,a=some ⟨i,o,none⟩/\h.at i=.row cs own z/\(i<L\/own=false)/\o+xs.length*sz<=cs.length/\∀k x,xs[k]? =some x->(cs.drop (o+k*sz)).take sz=sh (ps k) x
def SlW.mono{l P:Type}{m:Nat}{p:P->l->U N}{r:H}{xs:U l}{ps:Nat->P}(f:Fz L h r)(s:SlW m p L h a c xs ps):SlW m p L r a c xs ps:=
 ⟨s.max,s.cap,s.nl,s.mem.imp id fun⟨i,o,cs,own,z,h1,h2,q,t⟩=>⟨i,o,cs,own,z,h1,f.keep _ _ _ _ h2 q,q,t⟩⟩
def SlW.up{m P:Type}{p:Nat}{q:P->m->U N}{l:Nat}{xs:U m}{ps:Nat->P}(f:L<=l)(s:SlW p q L h a c xs ps):SlW p q l h a c xs ps:=
 ⟨s.max,s.cap,s.nl,s.mem.imp id fun⟨i,o,cs,own,z,h1,h2,t,r⟩=>⟨i,o,cs,own,z,h1,h2,t.imp (fun x=>by omega) id,r⟩⟩
def Sl.iff{B:Type}{e:WG B}{xs:U B}:Sl e L h a c xs↔∃m,SlW e.sz e.sh L h a c xs m/\∀k x,xs[k]? =some x->e.F L h (m k) x:=by
 constructor
 .intro s;rcases s.mem with G|⟨i,o,cs,own,z,h1,h2,A,p⟩
  .subst G;exact⟨fun _=>e.dflt,⟨s.max,s.cap,s.nl,.inl rfl⟩,fun k x l=>by simp at l⟩
  have t:∀k,∃q,∀x,xs[k]? =some x->(cs.drop (o+k*e.sz)).take e.sz=e.sh q x/\e.F L h q x:=fun k=>by
   cases r:xs[k]? with
   | none=>exact⟨e.dflt,fun x r=>by cases r⟩
   | some x=>
     have⟨q,g1,g2⟩:=p.get k x r;exact⟨q,fun y C=>by cases C;exact⟨g1,g2⟩⟩
  exact⟨fun k=>(t k).choose,⟨s.max,s.cap,s.nl,.inr ⟨i,o,cs,own,z,h1,h2,A,p.len,fun k x l=>((t k).choose_spec x l).1⟩⟩,fun k x l=>((t k).choose_spec x l).2⟩
 rintro⟨m,s,D⟩;refine⟨s.max,s.cap,s.nl,s.mem.imp id ?_⟩;rintro⟨i,o,cs,own,z,h1,h2,A,p,E⟩;exact⟨i,o,cs,own,z,h1,h2,A,⟨p,fun k x l=>⟨m k,E k x l,D k x l⟩⟩⟩
end Go.Z9
end
section
noncomputable section
namespace Go.Proofs.YtbnepjakjmnadaaGreat
open Go.Proofs.Tryz Go.Z9 Go.Lf
variable{A q r t:O Addr}{L l p:Nat}{h:H}{β:Type}
abbrev SlP:=O Addr×Nat
def ZG:WG ZU where
 sz:=2
 pos:=by decide
 Par:=SlP
 dflt:=(none,0)
 sh:=fun p x=>[.string x.qJ,.slice p.1 x.names.length p.2]
 len:=fun _ _=>rfl
 one:=fun _ _=>rfl
 F:=fun L h p x=>Sl Zq L h p.1 p.2 x.names
 mono:=fun f x=>x.mono f
 up:=fun f x=>x.up f
def ZxR(p:SlP)(x:Zi):U N:=[V4 x.op,V4 x.n,.string x.qJ,.slice p.1 x.qQ.length p.2]
inductive Zet(L:Nat)(h:H):SlP->Zi->Prop
 | mk {p:SlP} {x:Zi} (ps:Nat->SlP) (hk:SlW 4 ZxR L h p.1 p.2 x.qQ ps) (hF:∀k y,x.qQ[k]? =some y->Zet L h (ps k) y):Zet L h p x
def Zet.mono{l:H}{p:SlP}{x:Zi}(f:Fz L h l)(s:Zet L h p x):Zet L l p x:=by induction s with|mk m q _ ih=>exact .mk m (q.mono f) ih
def Zet.up{p:SlP}{x:Zi}(f:L<=l)(s:Zet L h p x):Zet l h p x:=by induction s with|mk m q _ ih=>exact .mk m (q.up f) ih
def Zg:WG Zi where
 sz:=4
 pos:=by decide
 Par:=SlP
 dflt:=(none,0)
 sh:=ZxR
 len:=fun _ _=>rfl
 one:=fun _ _=>rfl
 F:=Zet
 mono:=Zet.mono
 up:=Zet.up
def Yj{p:SlP}{x:Zi}:Zg.F L h p x↔Sl Zg L h p.1 p.2 x.qQ:=by rw[Sl.iff];exact⟨fun s=>by cases s with|mk l m q=>exact⟨l,m,q⟩,fun⟨l,m,q⟩=>.mk l m q⟩
abbrev TmP:=SlP×SlP×SlP
def Uc(p:TmP)(x:Term):U N:=[V4 x.op,.string x.qJ,.slice p.1.1 x.args.length p.1.2,.slice p.2.1.1 x.qK.length p.2.1.2,.slice p.2.2.1 x.qQ.length p.2.2.2]
def ZaT(p:TmP)(x:Za):U N:=[V4 x.qV,.string x.qJ,.slice p.1.1 x.qG.length p.1.2,.slice p.2.1.1 x.qK.length p.2.1.2,.slice p.2.2.1 x.qQ.length p.2.2.2]
mutual
inductive Ul (L:Nat) (h:H):TmP->Term->Prop
 | mk {p:TmP} {x:Term} (l pk:Nat->TmP) (A:Sl Zg L h p.1.1 p.1.2 x.args) (t:SlW 5 ZaT L h p.2.1.1 p.2.1.2 x.qK l) (r:SlW 5 Uc L h p.2.2.1 p.2.2.2 x.qQ pk)
    (q:∀k y,x.qK[k]? =some y->Qu L h (l k) y) (m:∀k y,x.qQ[k]? =some y->Ul L h (pk k) y):Ul L h p x
inductive Qu (L:Nat) (h:H):TmP->Za->Prop
 | mk {p:TmP} {x:Za} (l pk:Nat->TmP) (A:Sl ZG L h p.1.1 p.1.2 x.qG) (t:SlW 5 ZaT L h p.2.1.1 p.2.1.2 x.qK l) (r:SlW 5 Uc L h p.2.2.1 p.2.2.2 x.qQ pk)
    (q:∀k y,x.qK[k]? =some y->Qu L h (l k) y) (m:∀k y,x.qQ[k]? =some y->Ul L h (pk k) y):Qu L h p x
end
def Ul.mono{l:H}(f:Fz L h l){p:TmP}{x:Term}(s:Ul L h p x):Ul L l p x:=
 Ul.rec (motive_1:=fun p x _=>Ul L l p x) (motive_2:=fun p x _=>Qu L l p x)
  (fun m pk A y t _ _ r q=>.mk m pk (A.mono f) (y.mono f) (t.mono f) r q) (fun m pk A y t _ _ r q=>.mk m pk (A.mono f) (y.mono f) (t.mono f) r q) s
def Qu.mono{l:H}(f:Fz L h l){p:TmP}{x:Za}(s:Qu L h p x):Qu L l p x:=
 Qu.rec (motive_1:=fun p x _=>Ul L l p x) (motive_2:=fun p x _=>Qu L l p x)
  (fun m pk A y t _ _ r q=>.mk m pk (A.mono f) (y.mono f) (t.mono f) r q) (fun m pk A y t _ _ r q=>.mk m pk (A.mono f) (y.mono f) (t.mono f) r q) s
def Ul.up(f:L<=l){p:TmP}{x:Term}(s:Ul L h p x):Ul l h p x:=
 Ul.rec (motive_1:=fun p x _=>Ul l h p x) (motive_2:=fun p x _=>Qu l h p x)
  (fun m pk A y t _ _ r q=>.mk m pk (A.up f) (y.up f) (t.up f) r q) (fun m pk A y t _ _ r q=>.mk m pk (A.up f) (y.up f) (t.up f) r q) s
def Qu.up(f:L<=l){p:TmP}{x:Za}(s:Qu L h p x):Qu l h p x:=
 Qu.rec (motive_1:=fun p x _=>Ul l h p x) (motive_2:=fun p x _=>Qu l h p x)
  (fun m pk A y t _ _ r q=>.mk m pk (A.up f) (y.up f) (t.up f) r q) (fun m pk A y t _ _ r q=>.mk m pk (A.up f) (y.up f) (t.up f) r q) s
def Zw:WG Term where
 sz:=5
 pos:=by decide
 Par:=TmP
 dflt:=((none,0),(none,0),(none,0))
 sh:=Uc
 len:=fun _ _=>rfl
 one:=fun _ _=>rfl
 F:=Ul
 mono:=fun f s=>Ul.mono f s
 up:=fun f s=>Ul.up f s
def Zc:WG Za where
 sz:=5
 pos:=by decide
 Par:=TmP
 dflt:=((none,0),(none,0),(none,0))
 sh:=ZaT
 len:=fun _ _=>rfl
 one:=fun _ _=>rfl
 F:=Qu
 mono:=fun f s=>Qu.mono f s
 up:=fun f s=>Qu.up f s
def XR{p:TmP}{x:Term}:Zw.F L h p x↔Sl Zg L h p.1.1 p.1.2 x.args/\Sl Zc L h p.2.1.1 p.2.1.2 x.qK/\Sl Zw L h p.2.2.1 p.2.2.2 x.qQ:=by rw[Sl.iff (e:=Zc),Sl.iff (e:=Zw)];exact⟨fun s=>by cases s with|mk q pk y t r m l=>exact⟨y,⟨q,t,m⟩,pk,r,l⟩,fun⟨y,⟨q,t,m⟩,pk,r,l⟩=>Ul.mk q pk y t r m l⟩
def ZH{p:TmP}{x:Za}:Zc.F L h p x↔Sl ZG L h p.1.1 p.1.2 x.qG/\Sl Zc L h p.2.1.1 p.2.1.2 x.qK/\Sl Zw L h p.2.2.1 p.2.2.2 x.qQ:=by rw[Sl.iff (e:=Zc),Sl.iff (e:=Zw)];exact⟨fun s=>by cases s with|mk q pk y t r m l=>exact⟨y,⟨q,t,m⟩,pk,r,l⟩,fun⟨y,⟨q,t,m⟩,pk,r,l⟩=>Qu.mk q pk y t r m l⟩
abbrev PtP:=TmP×SlP
def ifV(p:PtP):Part->N
 | .pr t=>.iface 78 (.agg (Uc p.1 t).toArray)
 | .ex e=>.iface 88 (.agg (ZxR p.2 e).toArray)
 | .cl c=>.iface 166 (.agg (ZaT p.1 c).toArray)
def YO{p:PtP}{x:Part}:Qv (ifV p x)=false:=by cases x<;>rfl
def Zo9{p:PtP}{x:Part}:(ifV p x).cells.toList=[ifV p x]:=by cases x<;>rfl
def Zlr{f:Term->O β}{g:Zi->O β}{k:Za->O β}{x:Term}{r:β}(h:ZoQ (.pr x) f g k=some r):f x=some r:=h
def Zls{f:Term->O β}{g:Zi->O β}{k:Za->O β}{x:Zi}{r:β}(h:ZoQ (.ex x) f g k=some r):g x=some r:=h
def Zlt{f:Term->O β}{g:Zi->O β}{k:Za->O β}{x:Za}{r:β}(h:ZoQ (.cl x) f g k=some r):k x=some r:=h
def ZWL(L:Nat)(h:H)(p:PtP):Part->Prop
 | .pr t=>Ul L h p.1 t
 | .ex e=>Zet L h p.2 e
 | .cl c=>Qu L h p.1 c
def Yr:WG Part where
 sz:=1
 pos:=by decide
 Par:=PtP
 dflt:=(((none,0),(none,0),(none,0)),(none,0))
 sh:=fun p x=>[ifV p x]
 len:=fun _ _=>rfl
 one:=fun p x=>by cases x<;>rfl
 F:=ZWL
 mono:=fun{L h m p x} f s=>by
  cases x with|pr t=>exact Ul.mono f s|ex e=>exact Zet.mono f s|cl c=>exact Qu.mono f s
 up:=fun{L l h p x} f s=>by
  cases x with|pr t=>exact Ul.up f s|ex e=>exact Zet.up f s|cl c=>exact Qu.up f s
def Zg4{y B:O Addr}{m A:Nat}{t:Term}(x:Yr.F L h (((y,p),(r,m),(q,l)),(B,A)) (.pr t)):Sl Zg L h y p t.args/\Sl Zc L h r m t.qK/\Sl Zw L h q l t.qQ:=XR.1 x
def Zqj{y m:O Addr}{r q:Nat}{e:Zi}(x:Yr.F L h (((A,r),(y,q),(t,p)),(m,l)) (.ex e)):Sl Zg L h m l e.qQ:=Yj.1 x
def Zg5{m y:Nat}{c:Za}(x:Yr.F L h (((t,p),(r,m),(q,l)),(A,y)) (.cl c)):Sl ZG L h t p c.qG/\Sl Zc L h r m c.qK/\Sl Zw L h q l c.qQ:=ZH.1 x
def ZCW{m:Nat}{t:Term}(x:Sl Zg L h A p t.args)(y:Sl Zc L h r m t.qK)(z:Sl Zw L h q l t.qQ):Yr.F L h (((A,p),(r,m),(q,l)),(none,0)) (.pr t):=XR.2 ⟨x,y,z⟩
def ZLk{m:O Addr}{e:Zi}(x:Sl Zg L h m l e.qQ):Yr.F L h (((none,0),(none,0),(none,0)),(m,l)) (.ex e):=Yj.2 x
def ZSj{m:Nat}{c:Za}(x:Sl ZG L h t p c.qG)(y:Sl Zc L h r m c.qK)(z:Sl Zw L h q l c.qQ):Yr.F L h (((t,p),(r,m),(q,l)),(none,0)) (.cl c):=ZH.2 ⟨x,y,z⟩
structure X9 where
 channels:(List ByteArray)
 many:(List Int)
 at_:(List Int)
 places:(List ByteArray)
 bad:Bool
 deriving Inhabited
structure Zzx where
 Jc:Za
 deriving Inhabited
structure Process where
 term:Term
 deriving Inhabited
structure Zr3 where
 ZaC:Zi
 deriving Inhabited
structure Ye where
 at_:Int
 many:Int
 deriving DecidableEq,Inhabited
structure Change where
 from_:(List ByteArray)
 JP:(List Zi)
 deriving Inhabited
structure Walk where
 mode:Int
 x:ByteArray
 free:(List ByteArray)
 taken:(List ByteArray)
 bad:Bool
 deriving Inhabited
def UY(x y:Ye):Z:=[x.at_==y.at_,x.many==y.many].all id
def ZVD:O Z:=some true
def ZxV:WG Ye where
 sz:=2
 pos:=by decide
 Par:=Unit
 dflt:=()
 sh:=fun _ x=>[V4 x.at_,V4 x.many]
 len:=fun _ _=>rfl
 one:=fun _ _=>rfl
 F:=fun _ _ _ _=>True
 mono:=fun _ x=>x
 up:=fun _ x=>x
def Jb(x:Ye):N:=.agg #[V4 x.at_,V4 x.many]
def ZRU:XX.P.underlying 3=some (.int .i64):=Kq0
def ZRT:XX.P.underlying 4=some .bool:=Kq0
def ZG3:XX.P.underlying 5=some (.int .u8):=Kq0
def ZgS:XX.P.underlying 9=some .string:=Kq0
def ZKS:XX.P.underlying 20=some (.interface #[]):=Kq0
def Qc:XX.P.underlying 22=some (.slice 9):=Kq0
def Jw:XX.P.underlying 29=some (.slice 36):=Kq0
def Qh:XX.P.underlying 30=some (.slice 130):=Kq0
def Uk:XX.P.underlying 31=some (.slice 33):=Kq0
def Uj:XX.P.underlying 70=some (.map 9 4):=Kq0
def Zk6:XX.P.underlying 102=some (.slice 3):=Kq0
def Qy:XX.P.underlying 128=some (.slice 136):=Kq0
def Zk5:XX.P.underlying 138=some (.slice 5):=Kq0
def Zdp:XX.P.underlying 142=some (.slice 140):=Kq0
def ZiI:XX.P.underlying 160=some (.slice 30):=Kq0
def ZvB:XX.P.underlying 185=some (.map 9 187):=Kq0
def ZKi:Y6 XX.P 3=some false:=Kq0
def UA:Y6 XX.P 9=some false:=Kq0
def Ki:Y6 XX.P 22=some false:=Kq0
def Zu5:Y6 XX.P 28=some false:=Kq0
def ZF6:Y6 XX.P 29=some false:=Kq0
def ZfJ:Y6 XX.P 30=some false:=Kq0
def Zin:Y6 XX.P 31=some false:=Kq0
def Q8:Y6 XX.P 33=some true:=Kq0
def QR:Y6 XX.P 36=some true:=Kq0
def ZF5:Y6 XX.P 37=some false:=Kq0
def ZnA:Y6 XX.P 70=some false:=Kq0
def Zxm:Y6 XX.P 124=some true:=Kq0
def ZjK:Y6 XX.P 127=some false:=Kq0
def ZjJ:Y6 XX.P 128=some false:=Kq0
def QK:Y6 XX.P 130=some true:=Kq0
def ZbP:Y6 XX.P 136=some true:=Kq0
def ZrT:Y6 XX.P 140=some false:=Kq0
def Zsq:YX XX.P 3=some 1:=Kq0
def ZxN:YX XX.P 4=some 1:=Kq0
def ZCd:YX XX.P 5=some 1:=Kq0
def Qi:YX XX.P 9=some 1:=Kq0
def Zds:YX XX.P 22=some 1:=Kq0
def ZfN:YX XX.P 29=some 1:=Kq0
def Zdr:YX XX.P 30=some 1:=Kq0
def Zlf:YX XX.P 31=some 1:=Kq0
def YB:YX XX.P 33=some 5:=Kq0
def Yo:YX XX.P 36=some 4:=Kq0
def ZxP:YX XX.P 102=some 1:=Kq0
def Zez:YX XX.P 124=some 2:=Kq0
def ZxO:YX XX.P 128=some 1:=Kq0
def ZW:YX XX.P 130=some 5:=Kq0
def YQ:YX XX.P 136=some 2:=Kq0
def Zbq:YX XX.P 140=some 1:=Kq0
def ZkK:ZJ XX.P 33 0 0:=ZJ.of Kq0
def ZIL:ZJ XX.P 33 1 1:=ZJ.of Kq0
def ZqW:ZJ XX.P 33 2 2:=ZJ.of Kq0
def ZyG:ZJ XX.P 33 3 3:=ZJ.of Kq0
def Zhq:ZJ XX.P 33 4 4:=ZJ.of Kq0
def ZIK:ZJ XX.P 36 0 0:=ZJ.of Kq0
def ZIJ:ZJ XX.P 36 1 1:=ZJ.of Kq0
def ZII:ZJ XX.P 36 2 2:=ZJ.of Kq0
def ZkJ:ZJ XX.P 36 3 3:=ZJ.of Kq0
def ZIH:ZJ XX.P 59 0 0:=ZJ.of Kq0
def ZIF:ZJ XX.P 59 1 1:=ZJ.of Kq0
def ZIE:ZJ XX.P 59 2 2:=ZJ.of Kq0
def ZID:ZJ XX.P 59 3 6:=ZJ.of Kq0
def Zhp:ZJ XX.P 78 0 0:=ZJ.of Kq0
def ZIC:ZJ XX.P 88 0 0:=ZJ.of Kq0
def ZtZ:ZJ XX.P 104 0 0:=ZJ.of Kq0
def ZtY:ZJ XX.P 104 1 1:=ZJ.of Kq0
def ZEL:ZJ XX.P 104 2 2:=ZJ.of Kq0
def Zmo:ZJ XX.P 104 3 3:=ZJ.of Kq0
def ZEK:ZJ XX.P 104 4 4:=ZJ.of Kq0
def ZEH:ZJ XX.P 119 0 0:=ZJ.of Kq0
def Zhs:ZJ XX.P 119 1 1:=ZJ.of Kq0
def ZEG:ZJ XX.P 119 2 2:=ZJ.of Kq0
def ZEF:ZJ XX.P 119 3 3:=ZJ.of Kq0
def ZEE:ZJ XX.P 119 4 4:=ZJ.of Kq0
def ZED:ZJ XX.P 124 0 0:=ZJ.of Kq0
def ZtX:ZJ XX.P 124 1 1:=ZJ.of Kq0
def ZtW:ZJ XX.P 130 0 0:=ZJ.of Kq0
def ZEC:ZJ XX.P 130 1 1:=ZJ.of Kq0
def ZdU:ZJ XX.P 130 2 2:=ZJ.of Kq0
def ZtV:ZJ XX.P 130 3 3:=ZJ.of Kq0
def ZdT:ZJ XX.P 130 4 4:=ZJ.of Kq0
def ZtU:ZJ XX.P 136 0 0:=ZJ.of Kq0
def Zhr:ZJ XX.P 136 1 1:=ZJ.of Kq0
def ZEB:ZJ XX.P 147 0 0:=ZJ.of Kq0
def ZEA:ZJ XX.P 159 0 0:=ZJ.of Kq0
def ZEz:ZJ XX.P 159 1 1:=ZJ.of Kq0
def ZtR:ZJ XX.P 166 0 0:=ZJ.of Kq0
def ZBC:Xl XX.P 3=some (V4 0):=Kq0
def ZjR:Xl XX.P 4=some (.bool false):=Kq0
def ZBB:Xl XX.P 5=some (.int .u8 0):=Kq0
def Zar:Xl XX.P 9=some (.string ⟨#[]⟩):=Kq0
def ZBD:Xl XX.P 22=some (V3):=Kq0
def Zvv:Xl XX.P 30=some (V3):=Kq0
def Zdk:Xl XX.P 33=some (.agg #[V4 0,.string ⟨#[]⟩,V3,V3,V3]):=Kq0
def ZbH:Xl XX.P 36=some (.agg #[V4 0,V4 0,.string ⟨#[]⟩,V3]):=Kq0
def ZiB:Xl XX.P 78=some (.agg #[V4 0,.string ⟨#[]⟩,V3,V3,V3]):=Kq0
def Zvu:Xl XX.P 88=some (.agg #[V4 0,V4 0,.string ⟨#[]⟩,V3]):=Kq0
def ZxI:Xl XX.P 104=some (.agg #[V3,V3,V3,V3,.bool false]):=Kq0
def ZxG:Xl XX.P 119=some (.agg #[V4 0,.string ⟨#[]⟩,V3,V3,.bool false]):=Kq0
def ZpW:Xl XX.P 124=some (.agg #[V3,V3]):=Kq0
def U1:Xl XX.P 130=some (.agg #[V4 0,.string ⟨#[]⟩,V3,V3,V3]):=Kq0
def Zbp:Xl XX.P 136=some (.agg #[.string ⟨#[]⟩,V3]):=Kq0
def ZgP:Xl XX.P 140=some (.nilIface):=Kq0
def ZxF:Xl XX.P 147=some (.agg #[V4 0]):=Kq0
def ZxE:Xl XX.P 159=some (.agg #[V3,V4 0]):=Kq0
def ZxC:Xl XX.P 166=some (.agg #[V4 0,.string ⟨#[]⟩,V3,V3,V3]):=Kq0
def ZpV:Xl XX.P 187=some (.agg #[V4 0,V4 0]):=Kq0
def ZuR:JC XX.P 33 [V4 0,.string ⟨#[]⟩,V3,V3,V3] [(0,1),(1,1),(2,1),(3,1),(4,1)]:=⟨_,_,Zdk,rfl,Tryz.underlying33,by kernel_rfl⟩
def Znm:JC XX.P 36 [V4 0,V4 0,.string ⟨#[]⟩,V3] [(0,1),(1,1),(2,1),(3,1)]:=⟨_,_,ZbH,rfl,Tryz.underlying36,by kernel_rfl⟩
def ZMa:JC XX.P 78 [V4 0,.string ⟨#[]⟩,V3,V3,V3] [(0,5)]:=⟨_,_,ZiB,rfl,Tryz.underlying78,by kernel_rfl⟩
def ZL9:JC XX.P 88 [V4 0,V4 0,.string ⟨#[]⟩,V3] [(0,4)]:=⟨_,_,Zvu,rfl,Tryz.underlying88,by kernel_rfl⟩
def ZQw:JC XX.P 104 [V3,V3,V3,V3,.bool false] [(0,1),(1,1),(2,1),(3,1),(4,1)]:=⟨_,_,ZxI,rfl,Tryz.underlying104,by kernel_rfl⟩
def ZQv:JC XX.P 119 [V4 0,.string ⟨#[]⟩,V3,V3,.bool false] [(0,1),(1,1),(2,1),(3,1),(4,1)]:=⟨_,_,ZxG,rfl,Tryz.underlying119,by kernel_rfl⟩
def Zw9:JC XX.P 124 [V3,V3] [(0,1),(1,1)]:=⟨_,_,ZpW,rfl,Tryz.underlying124,by kernel_rfl⟩
def Zw8:JC XX.P 130 [V4 0,.string ⟨#[]⟩,V3,V3,V3] [(0,1),(1,1),(2,1),(3,1),(4,1)]:=⟨_,_,U1,rfl,Tryz.underlying130,by kernel_rfl⟩
def ZFK:JC XX.P 136 [.string ⟨#[]⟩,V3] [(0,1),(1,1)]:=⟨_,_,Zbp,rfl,Tryz.underlying136,by kernel_rfl⟩
def ZQu:JC XX.P 147 [V4 0] [(0,1)]:=⟨_,_,ZxF,rfl,Tryz.underlying147,by kernel_rfl⟩
def ZFJ:JC XX.P 159 [V3,V4 0] [(0,1),(1,1)]:=⟨_,_,ZxE,rfl,Tryz.underlying159,by kernel_rfl⟩
def ZQt:JC XX.P 166 [V4 0,.string ⟨#[]⟩,V3,V3,V3] [(0,5)]:=⟨_,_,ZxC,rfl,Tryz.underlying166,by kernel_rfl⟩
def ZQs:JC XX.P 187 [V4 0,V4 0] [(0,1),(1,1)]:=⟨_,_,ZpV,rfl,Tryz.underlying187,by kernel_rfl⟩
def X5:Zev XX.P #[22,22] 1 16:=⟨9,.string ⟨#[]⟩,by kernel_rfl⟩
def Zbj:Zev XX.P #[29,29] 4 56:=⟨36,.agg #[V4 0,V4 0,.string ⟨#[]⟩,V3],by kernel_rfl⟩
def Zci:Zev XX.P #[30,30] 5 96:=⟨130,.agg #[V4 0,.string ⟨#[]⟩,V3,V3,V3],by kernel_rfl⟩
def Znw:Zev XX.P #[31,31] 5 96:=⟨33,.agg #[V4 0,.string ⟨#[]⟩,V3,V3,V3],by kernel_rfl⟩
def Zny:Zev XX.P #[102,102] 1 8:=⟨3,V4 0,by kernel_rfl⟩
def Znx:Zev XX.P #[128,128] 2 40:=⟨136,.agg #[.string ⟨#[]⟩,V3],by kernel_rfl⟩
def Zxh:Zev XX.P #[138,138] 1 1:=⟨5,.int .u8 0,by kernel_rfl⟩
def ZcW:Zev XX.P #[142,142] 1 16:=⟨140,.nilIface,by kernel_rfl⟩
def Zxg:Zev XX.P #[160,160] 1 24:=⟨30,V3,by kernel_rfl⟩
def ZP4(x y:Ye):ZWS XX.P 187 (ZxV.sh () x) (ZxV.sh () y) (UY x y):=
 ⟨by kernel_rfl,ZAO (d:=9999) (bs:=[x.at_==y.at_,x.many==y.many]) Tryz.underlying187 Kq0 ⟨⟨by decide,_,_,ZeJ Kq0 rfl,ZeJ Kq0 rfl,eq_int Kq0⟩,⟨by decide,_,_,ZeJ Kq0 rfl,ZeJ Kq0 rfl,eq_int Kq0⟩,trivial⟩⟩
def KF:Ziw XX.P 9 Value.string:=Ziw.str Kq0
def ZTU:(XX.fns.get 91).isSome=true:=Kq0
def ZTT:(XX.fns.get 99).isSome=true:=Kq0
def ZDX:(XX.fns.get 100).isSome=true:=Kq0
def ZdO:(XX.fns.get 101).isSome=true:=Kq0
def ZOa:(XX.fns.get 130).isSome=true:=Kq0
def ZN9:(XX.fns.get 132).isSome=true:=Kq0
def ZDW:(XX.fns.get 144).isSome=true:=Kq0
def ZiX:(XX.fns.get 145).isSome=true:=Kq0
def ZN8:(XX.fns.get 157).isSome=true:=Kq0
def ZN7:(XX.fns.get 197).isSome=true:=Kq0
def ZN6:(XX.fns.get 200).isSome=true:=Kq0
def ZN5:(XX.fns.get 201).isSome=true:=Kq0
end Go.Proofs.YtbnepjakjmnadaaGreat
end
end
noncomputable section
namespace Go.Z9
open Go.Lf
variable{b o:Nat}{q:Prop}{t:J}{v:N}{vs:U N}{x:GV}
class Zaq(P:Program)(t:TypeId):Prop where
 out:Y6 P t=some false
class Zvj(P:Program)(t:TypeId):Prop where
 out:Y6 P t=some true
class SzF(P:Program)(t:TypeId)(n:outParam Nat):Prop where
 out:YX P t=some n
class Jj(P:Program)(t:TypeId)(f:Nat)(o:outParam Nat):Prop where
 out:ZJ P t f o
class ZnK(P:Program)(t:TypeId)(e:outParam TypeId):Prop where
 out:P.underlying t=some (.slice e)
class ZRb(P:Program)(t:TypeId):Prop where
 out:P.underlying t=some .bool
class Kj(P:Program)(t:TypeId)(v:outParam Value):Prop where
 out:Xl P t=some v
def ia(h:Qv v=false):Qv v=false:=h
def ZZU{fr:Fr}{t:Nat}{c:Z}(h:fr.at t=cond c v undef)(m:Qv v=false)(l:c=true):YM fr (.tmp t)=some v:=Xz h m l
variable{X:Ctx}{h:H}{fr:Fr}{ty:J}{p':String}{af:GZ Edge}{g:O (Nat×Z)}{d:O Tmp}{L:Nat}{T:Nat->Prop}{h0:H}{G Gr:U (Ast L)}
def ZWk{f off:Nat}[hf:Jj X.P t f off](l:YM fr x=some (.pointer (some ⟨b,o,none⟩))):Qd X h (YM fr) ⟨d,.fieldAddr t x f,ty,p',af,g⟩=some (.val (.pointer (some ⟨b,o+off,none⟩)),.none):=Y9 hf.out l
def Z0W{l:Nat}[ht:Zaq X.P t](p:YM fr x=some (.pointer (some ⟨b,l,none⟩)))(q:Sp L T h0 G h)(m:Pk G (bx L b vs) Gr)(hv:vs[l]? =some v):
 Qd X h (YM fr) ⟨d,.load t x,ty,p',af,g⟩=some (.val v,.none):=Z4 ht.out p (q.Ug m) (G6 _).symm hv
def ZWi{m l:Nat}{ws:U N}[ht:Zvj X.P t][hs:SzF X.P t l](q:YM fr x=some (.pointer (some ⟨b,m,none⟩)))(y:Sp L T h0 G h)(p:Pk G (bx L b vs) Gr)(r:Nat.ble (m+l) vs.length=true)(hv:(vs.drop m).take l=ws):
 Qd X h (YM fr) ⟨d,.load t x,ty,p',af,g⟩=some (.val (.agg ws.toArray),.none):=Yb ht.out hs.out q (y.Ug p) (G6 _).symm r hv
def ZWl{q:Tmp}(l:YM fr x=some v)(m:Sp L T h0 G h)(hv:v.cells.toList=vs):
 HN X L ⟨some q,.box t x,ty,p',af,g⟩ fr h (fun v p=>∃b,h.size=b/\v=(V5 b)/\Sp L T h0 (bx L b vs::G) p):=Zsu m l hv
def ZWm{p:Tmp}[hz:Kj X.P t v](l:Sp L T h0 G h)(hv:v.cells.toList=vs):
 HN X L ⟨some p,.alloc t,ty,p',af,g⟩ fr h (fun v m=>∃b,h.size=b/\v=(V5 b)/\Sp L T h0 (bx L b vs::G) m):=Zc4 l hz.out hv
def Z0V{y:GV}{l:Nat}{cs cs':U N}[hs:SzF X.P t l](q:YM fr x=some (.pointer (some ⟨b,o,none⟩)))(B:Sp L T h0 G h)(pk:Pk G (bx L b cs) Gr)(p:YM fr y=some v)
 (m:v.cells.toList=vs) (hn:Nat.beq vs.length l=true) (r:Nat.ble (o+l) cs.length=true) (A:vs.all Value.oneCell'=true) (hv:splice cs o vs=cs'):
 HU X L ⟨none,.store t x y,ty,p',af,g⟩ fr h (fun i=>i=b) (fun C=>Sp L T h0 (bx L b cs'::Gr) C):=Ud B pk hs.out q p m hn r A hv
def ZWj{l:Type}{xs:U l}{v:l}{y:GV}{e:J}{m p c C:Nat}{a:O Addr}{k:Int}[hu:ZnK X.P t e][hs:SzF X.P e m](r:YM fr x=some (.slice a p c))(q:YM fr y=some (V4 k))(hn:p=xs.length)(B:a=some ⟨b,o,none⟩)(A:Z7 xs k=some v):
 Qd X h (YM fr) ⟨some C,.indexAddr t x y,ty,p',af,g⟩=some (.val (.pointer (some ⟨b,o+k.toNat*m,none⟩)),.none):=ZF hu.out hs.out r q hn B A
def ZWh{l j:Nat}[ht:Zaq X.P t](m:YM fr x=some (.pointer (some ⟨b,l,none⟩)))(q:At h b o vs)(p:l=o+j)(hv:vs[j]? =some v):
 Qd X h (YM fr) ⟨d,.load t x,ty,p',af,g⟩=some (.val v,.none):=Z4 ht.out m q p hv
def ZWg{p:J}{a:O Addr}{l r q:Nat}[hu:ZnK X.P t p](m:YM fr x=some (.slice a l r)):
 Qd X h (YM fr) ⟨some q,.call {callee:=.builtin .len,args:=#[x],argTypes:=#[t]},ty,p',af,g⟩=some (.val (V4 (l:Int)),.none):=ZrN hu.out m rfl
section
variable{n:Nat}{rd:O Nat}{V:GZ Oper}{l:U Oper}{ds:U V2}{p:String}{sf:ST}{m:Nat}
def WX.w2{Q:Fr->H->Prop}{d:Nat}{q:Op}(r:Yh V ⟨some d,q,ty,p,af,g⟩ fr)(t:Nat.blt d n=true)(y:okM V sf m ⟨some d,q,ty,p,af,g⟩=true)(x:Qd X h (YM fr) ⟨some d,q,ty,p,af,g⟩=some (.val v,.none))(k:WX X n L rd V sf (m+1) h l (Tr.set fr d v) Q):
 WX X n L rd V sf m h (⟨some d,q,ty,p,af,g⟩::l) fr Q:=WX.w r t x k y
def WX.gv2{Q:Fr->H->Prop}{d:Nat}{q:Op}{c:Z}(r:Zh V ⟨some d,q,ty,p,af,g⟩ fr c)(t:Nat.blt d n=true)(y:okM V sf m ⟨some d,q,ty,p,af,g⟩=true)(x:c=true->Qd X h (YM fr) ⟨some d,q,ty,p,af,g⟩=some (.val v,.none))(k:WX X n L rd V sf (m+1) h l (Tr.set fr d (cond c v undef)) Q):
 WX X n L rd V sf m h (⟨some d,q,ty,p,af,g⟩::l) fr Q:=WX.gv r t x k y
end
structure Kp(q:Prop):Prop where
 out:q
def E9{p:Prop}(h:p:=by(focus (repeat (first|with_reducible exact fh | ((with_reducible apply Xe);exact rfl) | ((with_reducible apply Ym);exact rfl) | ((with_reducible apply Yd);exact rfl) | ((with_reducible apply Zm);exact rfl) | with_reducible assumption));first|done|fail)):p:=h
def lk{p:Prop}(h:p:=by(first|exact KP rfl | (apply ZC;exact E9;(first|exact ia rfl|assumption)) | (apply ZZU;exact E9;(first|exact ia rfl|assumption);assumption) | fail)):p:=h
def pk{p:Prop}(h:p:=by (first|exact k0|exact k1|exact k2|exact k3|exact k4|exact k5|exact k6|exact k7 | (repeat (first|exact k7|apply Pk.s)));done):p:=h
def ce{p:Prop}(h:p:=by (focus (first | (simp only[ZAV,ZwY,ZuF,ZAT,ZAU,ZAW,ZrE,cells_func,Zou,Znh,ZuG];exact rfl) | exact rfl));done):p:=h
def gi{p:Prop}(h:p:=by(first | (apply Zh.yes rfl rfl rfl;exact E9) | (apply Zh.no rfl rfl rfl;exact E9) | (apply Zh.ZGT rfl rfl rfl;exact E9) | (apply Zh.no2 rfl rfl rfl;exact E9) | fail)):p:=h
section
variable{n:Nat}{rd:O Nat}{Q:XX->Fs->Prop}
def cn{c:GV}{a b:Code}{t:Z}{ds:U V2}{m:Type}{x y r:m}(l:(bif t then x else y)=r)(h1:t=true->x=r->WC X n L rd a ⟨fr,ds,h,none⟩ Q)(h2:t=false->y=r->WC X n L rd b ⟨fr,ds,h,none⟩ Q)(p:YM fr c=some (.bool t):=by exact lk):WC X n L rd (.cond c a b) ⟨fr,ds,h,none⟩ Q:=
 WC.Zed p (fun e=>h1 e (Qf e l)) (fun e=>h2 e (Qg e l))
def rt{fn:Func}{l:H}{B:U (Ast L)}{wr:O Nat}{t:Tmp}{β:Type}{x r:β}{g:β->N}(y:some x=some r)(p:T=JO G)(q:Sp L T l B h)(m:fn.results.toList=[.tmp t]:=by exact rfl)(hv:YM fr (.tmp t)=some (g x):=by exact lk):
 YG X fn (fun e A=>∃v,e=.ret v/\CP (fun v Gb=>v=g r/\Gb=[]) G l v A) .ret ⟨fr,[],h,wr⟩:=by
 cases y;exact YG.QM m (ZB hv Zp) ⟨_,⟨rfl,rfl⟩,p▸q.only .n⟩
def bg{f:GX}{fn:Func}{c:Code}{args:U N}{K:N->U (Ast L)->Prop}(l:fn.ntmps=n)(x:L<=h.size)(r:Z0 G h)
 (k:∀T,T=JO (L:=L) G->Sp L T h G h->WC X n L none c ⟨fr,[],h,none⟩ (YG X fn (fun e t=>∃v,e=.ret v/\CP K G h v t))) (p:X.fns.get f=some fn:=by kernel_rfl) (q:fn.body=some c:=by exact rfl) (hn:args.length<=n:=by simp)
 (m:QN args 0 .nil=fr:=by(simp only[ZM,ZT,Nat.reduceAdd];exact rfl)):WR X f args.toArray L h (CP K G h):=by
 subst m;exact WF.begin p q l hn (k _ rfl (Sp.start x r))
end
def lks{p:Prop}(h:p:=by
 repeat (first|exact Zf | (apply Zb;(focus exact lk;done)))
 done):p:=h
def YF{p:Prop}(h:p:=by
 repeat (first|with_reducible exact fh | ((with_reducible apply Xe);exact rfl) | ((with_reducible apply Ym);exact rfl) | ((with_reducible apply Yd);exact rfl) | ((with_reducible apply Zm);exact rfl) | with_reducible assumption|refine⟨?_,?_⟩)
 done):p:=h
theorem r1{p:Prop}(k:q)(h:Kp q->p:=by
 intro k;first
 | refine WO.nil ?_
 | refine YL.Yx ?_
 | refine WC.seq ?_
 | refine WC.region ?_
 | ((first|apply WO.w gN rfl | (apply WO.gv;exact gi;rfl;intro l) | (apply WX.w2 gN;rfl;rfl) | (apply WX.gv2;exact gi;rfl;rfl;intro l));(focus (first
   | ((with_reducible apply YA);exact lk)
   | ((with_reducible apply Z0W);exact lk;assumption;exact pk;rfl)
   | ((with_reducible apply ZWk);exact lk)
   | ((with_reducible apply Xb);exact lk)
   | ((with_reducible apply Xg);exact lk;exact lk;(first|with_reducible exact ZjM|with_reducible exact Ziq|with_reducible exact Zva|with_reducible exact ZGb|with_reducible exact ZBf|with_reducible exact ZGe|with_reducible exact ZGf|with_reducible exact ZGd|with_reducible exact ZBk|with_reducible exact ZpN ZRb.out|with_reducible exact ZBg ZRb.out))
   | ((with_reducible apply ZWi);exact lk;assumption;exact pk;rfl;(focus simp only[Nat.zero_add,Nat.reduceAdd,List.drop_succ_cons,List.drop_zero,List.take_succ_cons,List.take_zero,List.take_nil];rfl))
   | ((with_reducible apply ZWg);exact lk)
   | ((with_reducible apply ZWj);exact lk;exact lk;(focus (exact rfl));assumption;assumption)
   | ((with_reducible apply ZWh);exact lk;(focus (first|assumption | (apply At.fz;(focus (apply Sp.fz;assumption));assumption;assumption));done);(focus (first|exact(Nat.add_zero _).symm|exact rfl);done);rfl)
   | ((with_reducible apply JY);exact lk;rfl)
   | ((with_reducible apply ZgC);exact lk)
   | ((with_reducible apply Zap);exact lk)
   | ((with_reducible apply Zbi);exact lk;(focus (apply ZFo;exact E9);done);exact lk)
   | ((with_reducible apply Zii);exact lk;exact lk;(apply ZFo;exact E9))
   | fail)))
 | (apply WO.hu gN;(focus (first | (((with_reducible apply Z0V));exact lk;assumption;exact pk;exact lk;exact ce;exact rfl;exact rfl;exact rfl;(focus simp only[splice,List.take_succ_cons,List.take_zero,List.drop_succ_cons,List.drop_zero,List.cons_append,List.nil_append,List.append_nil,List.length_cons,List.length_nil,Nat.reduceAdd,Nat.zero_add,List.take_nil,List.drop_nil];exact rfl)) | fail)))
 | (apply WO.hn gN rfl;(focus (first | (((with_reducible apply ZWl));exact lk;assumption;exact ce) | (((with_reducible apply ZWm));assumption;exact ce) | fail)))
 | refine WC.skip ?_
 | refine WC.ret ?_
 | refine WC.block ?_
 | refine WC.exit ?_
 | refine YL.ret ?_
 | refine YL.exit ?_
 | refine Xy.ret ?_
 | refine Xy.Yx ?_
 | refine Xy.here ?_
 | refine ZR.exit ?_
 | refine ZR.ret ?_
 | refine WX.nil ?_
 | fail
 exact k.out):p:=h ⟨k⟩
def sl{p:Prop}(h:p:=by
 repeat (first|exact Sel.n | (apply Sel.c;(focus exact pk)))
 done):p:=h
theorem r2{p:Prop}(k:q)(h:Kp q->p:=by
 intro k;iterate 2 (refine r1 ?_)
 exact k.out):p:=h ⟨k⟩
theorem r3{p:Prop}(k:q)(h:Kp q->p:=by
 intro k;iterate 3 (refine r1 ?_)
 exact k.out):p:=h ⟨k⟩
theorem r4{p:Prop}(k:q)(h:Kp q->p:=by
 intro k;iterate 4 (refine r1 ?_)
 exact k.out):p:=h ⟨k⟩
theorem r5{p:Prop}(k:q)(h:Kp q->p:=by
 intro k;iterate 5 (refine r1 ?_)
 exact k.out):p:=h ⟨k⟩
theorem r6{p:Prop}(k:q)(h:Kp q->p:=by
 intro k;iterate 6 (refine r1 ?_)
 exact k.out):p:=h ⟨k⟩
theorem r7{p:Prop}(k:q)(h:Kp q->p:=by
 intro k;iterate 7 (refine r1 ?_)
 exact k.out):p:=h ⟨k⟩
theorem r8{p:Prop}(k:q)(h:Kp q->p:=by
 intro k;iterate 8 (refine r1 ?_)
 exact k.out):p:=h ⟨k⟩
theorem r9{p:Prop}(k:q)(h:Kp q->p:=by
 intro k;iterate 9 (refine r1 ?_)
 exact k.out):p:=h ⟨k⟩
theorem r10{p:Prop}(k:q)(h:Kp q->p:=by
 intro k;iterate 10 (refine r1 ?_)
 exact k.out):p:=h ⟨k⟩
theorem UC{p:Prop}(k:q)(h:Kp q->p:=by
 intro k;iterate 11 (refine r1 ?_)
 exact k.out):p:=h ⟨k⟩
theorem r12{p:Prop}(k:q)(h:Kp q->p:=by
 intro k;iterate 12 (refine r1 ?_)
 exact k.out):p:=h ⟨k⟩
theorem r13{p:Prop}(k:q)(h:Kp q->p:=by
 intro k;iterate 13 (refine r1 ?_)
 exact k.out):p:=h ⟨k⟩
theorem r14{p:Prop}(k:q)(h:Kp q->p:=by
 intro k;iterate 14 (refine r1 ?_)
 exact k.out):p:=h ⟨k⟩
theorem r15{p:Prop}(k:q)(h:Kp q->p:=by
 intro k;iterate 15 (refine r1 ?_)
 exact k.out):p:=h ⟨k⟩
theorem r16{p:Prop}(k:q)(h:Kp q->p:=by
 intro k;iterate 16 (refine r1 ?_)
 exact k.out):p:=h ⟨k⟩
end Go.Z9
end
section
noncomputable section
namespace Go.Proofs.YtbnepjakjmnadaaGreat
open Go.Proofs.Tryz Go.Lf
section
open Go.Z9 Go.Lf
instance:Zaq XX.P 3:=⟨ZKi⟩
instance:Zaq XX.P 4:=⟨Kq0⟩
instance:Zaq XX.P 9:=⟨UA⟩
instance:Zaq XX.P 22:=⟨Ki⟩
instance:Zaq XX.P 28:=⟨Zu5⟩
instance:Zaq XX.P 29:=⟨ZF6⟩
instance:Zaq XX.P 30:=⟨ZfJ⟩
instance:Zaq XX.P 31:=⟨Zin⟩
instance:Zvj XX.P 33:=⟨Q8⟩
instance:Zaq XX.P 34:=⟨Kq0⟩
instance:Zvj XX.P 36:=⟨QR⟩
instance:Zaq XX.P 37:=⟨ZF5⟩
instance:Zaq XX.P 70:=⟨ZnA⟩
instance:Zaq XX.P 102:=⟨Kq0⟩
instance:Zvj XX.P 124:=⟨Zxm⟩
instance:Zaq XX.P 127:=⟨ZjK⟩
instance:Zaq XX.P 128:=⟨ZjJ⟩
instance:Zvj XX.P 130:=⟨QK⟩
instance:Zvj XX.P 136:=⟨ZbP⟩
instance:Zaq XX.P 140:=⟨ZrT⟩
instance:Zaq XX.P 141:=⟨Kq0⟩
instance:Zvj XX.P 159:=⟨Kq0⟩
instance:Zaq XX.P 185:=⟨Kq0⟩
instance:Zvj XX.P 187:=⟨Kq0⟩
instance:Zaq XX.P 194:=⟨Kq0⟩
instance:Zaq XX.P 195:=⟨Kq0⟩
instance:SzF XX.P 3 1:=⟨Zsq⟩
instance:SzF XX.P 4 1:=⟨ZxN⟩
instance:SzF XX.P 5 1:=⟨ZCd⟩
instance:SzF XX.P 9 1:=⟨Qi⟩
instance:SzF XX.P 22 1:=⟨Zds⟩
instance:SzF XX.P 29 1:=⟨ZfN⟩
instance:SzF XX.P 30 1:=⟨Zdr⟩
instance:SzF XX.P 31 1:=⟨Zlf⟩
instance:SzF XX.P 33 5:=⟨YB⟩
instance:SzF XX.P 36 4:=⟨Yo⟩
instance:SzF XX.P 37 1:=⟨Kq0⟩
instance:SzF XX.P 70 1:=⟨Kq0⟩
instance:SzF XX.P 78 5:=⟨Kq0⟩
instance:SzF XX.P 88 4:=⟨Kq0⟩
instance:SzF XX.P 102 1:=⟨ZxP⟩
instance:SzF XX.P 124 2:=⟨Zez⟩
instance:SzF XX.P 128 1:=⟨ZxO⟩
instance:SzF XX.P 130 5:=⟨ZW⟩
instance:SzF XX.P 136 2:=⟨YQ⟩
instance:SzF XX.P 140 1:=⟨Zbq⟩
instance:SzF XX.P 141 1:=⟨Kq0⟩
instance:SzF XX.P 147 1:=⟨Kq0⟩
instance:SzF XX.P 159 2:=⟨Kq0⟩
instance:SzF XX.P 166 5:=⟨Kq0⟩
instance:SzF XX.P 185 1:=⟨Kq0⟩
instance:SzF XX.P 187 2:=⟨Kq0⟩
instance:SzF XX.P 195 1:=⟨Kq0⟩
instance:Jj XX.P 33 0 0:=⟨ZkK⟩
instance:Jj XX.P 33 1 1:=⟨ZIL⟩
instance:Jj XX.P 33 2 2:=⟨ZqW⟩
instance:Jj XX.P 33 3 3:=⟨ZyG⟩
instance:Jj XX.P 33 4 4:=⟨Zhq⟩
instance:Jj XX.P 36 0 0:=⟨ZIK⟩
instance:Jj XX.P 36 1 1:=⟨ZIJ⟩
instance:Jj XX.P 36 2 2:=⟨ZII⟩
instance:Jj XX.P 36 3 3:=⟨ZkJ⟩
instance:Jj XX.P 59 0 0:=⟨ZIH⟩
instance:Jj XX.P 59 1 1:=⟨ZIF⟩
instance:Jj XX.P 59 2 2:=⟨ZIE⟩
instance:Jj XX.P 59 3 6:=⟨ZID⟩
instance:Jj XX.P 78 0 0:=⟨Zhp⟩
instance:Jj XX.P 88 0 0:=⟨ZIC⟩
instance:Jj XX.P 104 0 0:=⟨ZtZ⟩
instance:Jj XX.P 104 1 1:=⟨ZtY⟩
instance:Jj XX.P 104 2 2:=⟨ZEL⟩
instance:Jj XX.P 104 3 3:=⟨Zmo⟩
instance:Jj XX.P 104 4 4:=⟨ZEK⟩
instance:Jj XX.P 119 0 0:=⟨ZEH⟩
instance:Jj XX.P 119 1 1:=⟨Zhs⟩
instance:Jj XX.P 119 2 2:=⟨ZEG⟩
instance:Jj XX.P 119 3 3:=⟨ZEF⟩
instance:Jj XX.P 119 4 4:=⟨ZEE⟩
instance:Jj XX.P 124 0 0:=⟨ZED⟩
instance:Jj XX.P 124 1 1:=⟨ZtX⟩
instance:Jj XX.P 130 0 0:=⟨ZtW⟩
instance:Jj XX.P 130 1 1:=⟨ZEC⟩
instance:Jj XX.P 130 2 2:=⟨ZdU⟩
instance:Jj XX.P 130 3 3:=⟨ZtV⟩
instance:Jj XX.P 130 4 4:=⟨ZdT⟩
instance:Jj XX.P 136 0 0:=⟨ZtU⟩
instance:Jj XX.P 136 1 1:=⟨Zhr⟩
instance:Jj XX.P 147 0 0:=⟨ZEB⟩
instance:Jj XX.P 159 0 0:=⟨ZEA⟩
instance:Jj XX.P 159 1 1:=⟨ZEz⟩
instance:Jj XX.P 166 0 0:=⟨ZtR⟩
instance:ZnK XX.P 22 9:=⟨Qc⟩
instance:ZnK XX.P 29 36:=⟨Jw⟩
instance:ZnK XX.P 30 130:=⟨Qh⟩
instance:ZnK XX.P 31 33:=⟨Uk⟩
instance:ZnK XX.P 102 3:=⟨Zk6⟩
instance:ZnK XX.P 128 136:=⟨Qy⟩
instance:ZnK XX.P 138 5:=⟨Zk5⟩
instance:ZnK XX.P 142 140:=⟨Zdp⟩
instance:ZnK XX.P 160 30:=⟨ZiI⟩
instance:ZRb XX.P 4:=⟨ZRT⟩
instance:Kj XX.P 3 (.int .i64 0):=⟨ZBC⟩
instance:Kj XX.P 4 (.bool false):=⟨ZjR⟩
instance:Kj XX.P 5 (.int .u8 0):=⟨ZBB⟩
instance:Kj XX.P 9 (.string ⟨#[]⟩):=⟨Zar⟩
instance:Kj XX.P 22 (.slice none 0 0):=⟨ZBD⟩
instance:Kj XX.P 30 (.slice none 0 0):=⟨Zvv⟩
instance:Kj XX.P 33 (.agg #[.int .i64 0,.string ⟨#[]⟩,.slice none 0 0,.slice none 0 0,.slice none 0 0]):=⟨Zdk⟩
instance:Kj XX.P 36 (.agg #[.int .i64 0,.int .i64 0,.string ⟨#[]⟩,.slice none 0 0]):=⟨ZbH⟩
instance:Kj XX.P 37 (.int .i64 0):=⟨Kq0⟩
instance:Kj XX.P 70 (.map none):=⟨Kq0⟩
instance:Kj XX.P 78 (.agg #[.int .i64 0,.string ⟨#[]⟩,.slice none 0 0,.slice none 0 0,.slice none 0 0]):=⟨ZiB⟩
instance:Kj XX.P 88 (.agg #[.int .i64 0,.int .i64 0,.string ⟨#[]⟩,.slice none 0 0]):=⟨Zvu⟩
instance:Kj XX.P 104 (.agg #[.slice none 0 0,.slice none 0 0,.slice none 0 0,.slice none 0 0,.bool false]):=⟨ZxI⟩
instance:Kj XX.P 119 (.agg #[.int .i64 0,.string ⟨#[]⟩,.slice none 0 0,.slice none 0 0,.bool false]):=⟨ZxG⟩
instance:Kj XX.P 124 (.agg #[.slice none 0 0,.slice none 0 0]):=⟨ZpW⟩
instance:Kj XX.P 130 (.agg #[.int .i64 0,.string ⟨#[]⟩,.slice none 0 0,.slice none 0 0,.slice none 0 0]):=⟨U1⟩
instance:Kj XX.P 136 (.agg #[.string ⟨#[]⟩,.slice none 0 0]):=⟨Zbp⟩
instance:Kj XX.P 140 (.nilIface):=⟨ZgP⟩
instance:Kj XX.P 141 (.nilFunc):=⟨Kq0⟩
instance:Kj XX.P 147 (.agg #[.int .i64 0]):=⟨ZxF⟩
instance:Kj XX.P 159 (.agg #[.slice none 0 0,.int .i64 0]):=⟨ZxE⟩
instance:Kj XX.P 166 (.agg #[.int .i64 0,.string ⟨#[]⟩,.slice none 0 0,.slice none 0 0,.slice none 0 0]):=⟨ZxC⟩
instance:Kj XX.P 185 (.map none):=⟨Kq0⟩
instance:Kj XX.P 187 (.agg #[.int .i64 0,.int .i64 0]):=⟨ZpV⟩
instance:Kj XX.P 195 (.nilFunc):=⟨Kq0⟩
end
abbrev MB:=U (Y×Z)
abbrev Lp(h β:Type):=h->(h->O β)->O β
def Zjl(I:(U Y))(p1:Y):Lp (Int) Z:=fun h m=>
 (bif decide (h<(I.length:Int)) then(Z7 I h).bind fun l=>(bif decide (l=p1) then some true else m (Xa (h+1))) else some false)
def ZbM(F:Nat)(I:(U Y))(p1:Y):O Z:=
 loop F (Zjl I p1) 0
def ZEZ:O MB:=
 some (Xh (Xh (Xh (Xh (Xh (Xh (Xh (Xh (Xh (Xh ([]:MB) (⟨#[97,110,100]⟩:Y) true) (⟨#[100,101,102]⟩:Y) true) (⟨#[101,108,115,101]⟩:Y) true) (⟨#[103,111]⟩:Y) true) (⟨#[105,102]⟩:Y) true) (⟨#[105,110]⟩:Y) true) (⟨#[112,108,97,99,101]⟩:Y) true) (⟨#[115,116,111,112]⟩:Y) true) (⟨#[116,104,101,110]⟩:Y) true) (⟨#[119,97,116,99,104]⟩:Y) true)
section
open Go.Z9 Go.Lf
def ZPM{F L h}{I:(U Y)}{p1:Y}{Ze Zd}{r}(A:L<=h.size)(y:Sl Zq L h Ze Zd I)(l:ZbM F I p1=some r):
 WR XX 36 #[.slice Ze I.length Zd,.string p1] L h (CP (fun v (Gb:U (Ast L))=>v=.bool r/\Gb=[]) [] h):=by
 refine bg ntmps36 A Z0.nil ?_;intro T x m;unfold ZbM at l;refine r12 ?_;refine WC.loop (WL.lift l (fun t s=>∃p h1,s=⟨p,[],h1,none⟩/\Sp L T h [] h1/\p.at 0=.slice Ze I.length Zd/\p.at 1=.string p1/\p.at 5= V4 t) ⟨_,_,rfl,m.only .n,YF⟩ ?_);rintro E t s Za9 l ⟨p,h1,rfl,m,D,C,B⟩;refine r9 ?_;refine cn l ?_ ?_
 .intro q l;refine r8 ?_;have⟨x8,hx8,l⟩:=bS l;have⟨b9,o10,_,Zwh,Zwk,Zwj,ZiY⟩:=Sl.at_ y hx8;refine V8 (ZF Qc Qi lk lk rfl Zwh hx8)<|V8 (Z4 UA (ZC fh rfl) (At.fz m.fz Zwj Zwk) (j:=0) rfl (v:=.string x8) rfl)<|r1 ?_;refine V8 (Xg (ZC (Zm rfl fh) rfl) (ZC fh rfl) QD)<|r2 ?_;refine cn l ?_ ?_;.intro q l;refine UC ?_;exact rt l x m
  intro q l;refine r8 ?_;exact ZR.Yx (Za9 _ _ l ⟨_,_,rfl,m.only .n,YF⟩)
 intro q l;refine UC ?_;exact rt l x m
def Zal{F h}{I:(U Y)}{p1:Y}{Ze Zd}{r}(m:Sl Zq h.size h Ze Zd I)(l:ZbM F I p1=some r):Pure XX 36 #[.slice Ze I.length Zd,.string p1] h (.bool r):=
 WR.JE rfl (ZPM V7 m l)
def ZPF{L h}{r}(B:L<=h.size)(m:ZEZ=some r):
 WR XX 53 #[] L h (CP (fun v Gb=>∃ZK6,v=.map (some ZK6)/\Gb=[mp L Value.string Value.bool (some ZK6) r]) [] h):=by
 refine bg ntmps53 B Z0.nil ?_;intro T p l;unfold ZEZ at m;refine r7 ?_;refine Va (ZgW Value.string Value.bool l) ?_;rintro _ h1 ⟨A,y,rfl,l⟩;refine WO.hu gN (Zfo (kv:=Value.string) (vv:=Value.bool) (k:=(⟨#[97,110,100]⟩:Y)) (v:=true) l k0 KF Uj lk lk lk) ?_;rintro K l;refine WO.hu gN (Zfo (kv:=Value.string) (vv:=Value.bool) (k:=(⟨#[100,101,102]⟩:Y)) (v:=true) l k0 KF Uj lk lk lk) ?_;rintro I l;refine WO.hu gN (Zfo (kv:=Value.string) (vv:=Value.bool) (k:=(⟨#[101,108,115,101]⟩:Y)) (v:=true) l k0 KF Uj lk lk lk) ?_;rintro G l;refine WO.hu gN (Zfo (kv:=Value.string) (vv:=Value.bool) (k:=(⟨#[103,111]⟩:Y)) (v:=true) l k0 KF Uj lk lk lk) ?_;rintro F l;refine WO.hu gN (Zfo (kv:=Value.string) (vv:=Value.bool) (k:=(⟨#[105,102]⟩:Y)) (v:=true) l k0 KF Uj lk lk lk) ?_;rintro E l;refine WO.hu gN (Zfo (kv:=Value.string) (vv:=Value.bool) (k:=(⟨#[105,110]⟩:Y)) (v:=true) l k0 KF Uj lk lk lk) ?_;rintro D l;refine WO.hu gN (Zfo (kv:=Value.string) (vv:=Value.bool) (k:=(⟨#[112,108,97,99,101]⟩:Y)) (v:=true) l k0 KF Uj lk lk lk) ?_;rintro C l;refine WO.hu gN (Zfo (kv:=Value.string) (vv:=Value.bool) (k:=(⟨#[115,116,111,112]⟩:Y)) (v:=true) l k0 KF Uj lk lk lk) ?_;rintro x l;refine WO.hu gN (Zfo (kv:=Value.string) (vv:=Value.bool) (k:=(⟨#[116,104,101,110]⟩:Y)) (v:=true) l k0 KF Uj lk lk lk) ?_;rintro t l;refine WO.hu gN (Zfo (kv:=Value.string) (vv:=Value.bool) (k:=(⟨#[119,97,116,99,104]⟩:Y)) (v:=true) l k0 KF Uj lk lk lk) ?_;rintro q l;refine r5 ?_;obtain rfl:=Oi0 m;exact YG.QM rfl (ZB lk Zp) ⟨_,⟨A,rfl,rfl⟩,p▸l.only (.a .n)⟩
end
def Zjm(F:Nat)(I:Y):Lp (Int) Z:=fun h ZsL=>
 (bif decide (h<(I.size:Int)) then(ZjU I h).bind fun m=>(gd (!(decide (m<97))) (ZjU I h) default).bind fun p=>(bif((decide (m<97))||(decide (p>122))) then some false else ZsL (Xa (h+1))) else(ZbM F ([(⟨#[97,110,100]⟩:Y),(⟨#[100,101,102]⟩:Y),(⟨#[101,108,115,101]⟩:Y),(⟨#[103,111]⟩:Y),(⟨#[105,102]⟩:Y),(⟨#[105,110]⟩:Y),(⟨#[112,108,97,99,101]⟩:Y),(⟨#[115,116,111,112]⟩:Y),(⟨#[116,104,101,110]⟩:Y),(⟨#[119,97,116,99,104]⟩:Y)]) I).bind fun l=>some (!l))
def Zon(F:Nat)(I:Y):O Z:=
 (bif((decide ((I.size:Int)<1))||(decide ((I.size:Int)>8))) then some false else loop F (Zjm F I) 0)
def Zjo(I:Y):Lp (Int) Z:=fun h r=>
 (bif decide (h<(I.size:Int)) then(ZjU I h).bind fun p=>(gd (!(decide (p<97))) (ZjU I h) default).bind fun q=>(bif((decide (p<97))||(decide (q>122))) then some false else r (Xa (h+1))) else(bif((decide ((I.size:Int)>0))&&(decide ((I.size:Int)<=8))) then(ZEZ).bind fun m=>(Zkq m I false).bind fun l=>some (!l) else some false))
def Zjp(F:Nat)(I:Y):O Z:=
 loop F (Zjo I) 0
def ZqZ:Lp (Int×Y) Y:=fun(m,p) t=>
 (bif decide (m>0) then(ZvM (Xa (m-1)) 26).bind fun q=>(ZB8 [IntKind.wrap .u8 (Xa (97+q))]).bind fun l=>(Zla l p).bind fun h=>(ZvO (Xa (m-1)) 26).bind fun r=>t (r,h) else some p)
def ZEX(F:Nat)(I:Int):O Y:=
 loop F (ZqZ) (I,(⟨#[]⟩:Y))
def Zq0:Y×Z->O Y:=fun(h,ZCb)=>
 (bif ZCb then some h else some (⟨#[]⟩:Y))
def ZmP(F:Nat)(I:MB)(r:Int)(q:Y)(ZvE:Z)(ZlB:(Int×Y×Z->O Y)):Lp ((U Int)×Int) Y:=fun(p,l) ZCK=>
 (bif decide (l>0) then(ZvM (Xa (l-1)) 26).bind fun A=>(app 1 [IntKind.wrap .u8 (Xa (97+A))] p).bind fun t=>(ZvO (Xa (l-1)) 26).bind fun y=>ZCK (t,y) else(ZB8 p).bind fun h=>(bif ZvE then none else(Zjp F h).bind fun m=>(gd m (Zkq I h false) default).bind fun x=>(bif(m&&(!x)) then(bif(!false) then(Zq0) (h,true) else ZlB (Xa (r+1),h,true)) else(bif(!true) then(Zq0) (q,false) else ZlB (Xa (r+1),q,false)))))
def Zq1(F:Nat)(I:MB):Lp (Int×Y×Z) Y:=fun(h,l,ZvE) ZlB=>
 loop F (ZmP F I h l ZvE ZlB) ([],h)
def ZEY(F:Nat)(I:MB):O Y:=
 loop F (Zq1 F I) (1,(⟨#[]⟩:Y),false)
end Go.Proofs.YtbnepjakjmnadaaGreat
end
end
noncomputable section
namespace Go.Z9
open Go.Lf
variable{A:YN}{c:Nat}{o:Oper}{x:GV}{ρ:Ren}
section
variable{X:Ctx}{n L:Nat}{rd:O Nat}{V:GZ Oper}{l:U Oper}{fr:Fr}{ds:U V2}{h h0 h1 h2:H}{ty:J}{p:String}{af:GZ Edge}{T:Nat->Prop}{G Gr Ga:U (Ast L)}{d:Nat}
def ZIl(o:Oper)(k:Nat):Z:=o.after.toList.any fun e=>Region.binds .any e&&Nat.beq e.on k
def ZM8(V:U Oper)(c i:Nat)(o:Oper):Z:=
 Zd9 i o&&bif Nat.ble i c then o.op.operands.toList.all fun x=>match x with
  | .tmp t=>Uh (fun k h=>!isT h.dst t||ZIl o k) V 0
  | _=>true
 else ZIl o c
def ZLi(V:U Oper)(c:Nat):Z:=Uh (ZM8 V c) V 0&&Uh (Zne V) V 0
def Zpe{k:Nat}(h:ZIl o k=true):∃e∈o.after,Region.binds .any e=true/\e.on=k:=by unfold ZIl at h;rw[GR]at h;have⟨e,he,h⟩:=h;rw[Ba0]at h;exact⟨e,by simpa using he,h.1,Nb0 h.2⟩
structure PX(X:Ctx)(n:Nat)(h:H)(c:Nat)(l:List Oper)(fr:Fr)(Q:Fr->Oper->Prop):Prop where
 out:∃(fs:Nat->Fr) (vs:Nat->Value) (o:Oper),fs 0=fr/\l[c]? =some o/\Q (fs c) o/\∀k,k<c->∃d op ty p af,l[k]? =some ⟨some d,op,ty,p,af,none⟩/\d<n/\Qd X h (YM (fs k)) ⟨some d,op,ty,p,af,none⟩=some (.val (vs k),.none)/\fs (k+1)=Tr.set (fs k) d (vs k)
def PX.w{m:Op}{v:N}{Q:Fr->Oper->Prop}(r:Nat.blt d n=true)(t:Qd X h (YM fr) ⟨some d,m,ty,p,af,none⟩=some (.val v,.none))(k:PX X n h c l (Tr.set fr d v) Q):PX X n h (c+1) (⟨some d,m,ty,p,af,none⟩::l) fr Q:=by
 have⟨fs,vs,o,e0,ho,hq,hk⟩:=k;refine⟨fun k=>match k with|0=>fr|k+1=>fs k,fun k=>match k with|0=>v|k+1=>vs k,o,rfl,by simpa using ho,hq,fun k q=>?_⟩;cases k with|zero=>exact⟨d,m,ty,p,af,rfl,by rwa[G5]at r,t,e0⟩|succ k=>
   have⟨d',op',ty',p',af',q1,q2,q3,q4⟩:=hk k V6;exact⟨d',op',ty',p',af',by simpa using q1,q2,q3,q4⟩
def PX.call{Q:Fr->Oper->Prop}(m:Q fr o):PX X n h 0 (o::l) fr Q:=⟨⟨fun _=>fr,fun _=>undef,o,rfl,rfl,m,fun k p=>absurd p (Nat.not_lt_zero _)⟩⟩
def ZBe{h:Fr}(l:∀t,x=.tmp t->fr.at t=h.at t):YM fr x=YM h x:=by
 cases x with
 | tmp t=>
   have:=l t rfl;show(bif Qv (fr.at t) then none else some (fr.at t))=(bif Qv (h.at t) then none else some (h.at t));rw[this]
 | const v=>rfl
 | func f=>rfl
 | global g=>rfl
def ZA6{ih:Jz->O Xr}{v:N}(m:o.guard=none)(r:Qd X h (YM fr) o=some (.val v,.none))(l:o.dst=some d)(p:d<n):UN X (fun _=>false) ih n L rd V.toList o ⟨fr,ds,h,none⟩=some (.normal,⟨Tr.set fr d v,ds,h,none⟩):=by
 have g:=Yh.none (V:=V) (fr:=fr) m;unfold UN;rw[g.1,g.2];dsimp only[Q1,Cq0,Cq1];rw[r];unfold Eff.apply Zay;rw[l];unfold ZjF;have q:Nat.blt d n=true:=by rw[G5];exact p
 simp[Uo,q,allowed]
def Zeb(V:GZ Oper)(k:Nat):O Tmp:=(V.toList[k]?).bind (·.dst)
def frP(V:GZ Oper)(fr:Fr):Nat->Fr
 | 0=>fr
 | k+1=>match Zeb V k with|some d=>Tr.set (frP V fr k) d ZrR|none=>frP V fr k
def Zws{t:Nat}:∀m,Qv ((frP V fr m).at t)=false->(∀k,k<m->Zeb V k≠some t)/\(frP V fr m).at t=fr.at t
 | 0,_=>⟨fun k h=>absurd h (Nat.not_lt_zero _),rfl⟩
 | m+1,ha=>by
   unfold frP at ha ⊢;cases e:Zeb V m with
   | none=>
     rw[e]at ha;have⟨i1,i2⟩:=Zws m ha;refine⟨fun k h=>?_,i2⟩;rcases Nat.lt_or_eq_of_le (Nat.le_of_lt_succ h) with z|z
     .exact i1 k z
     subst z;rw[e];exact fun z=>by cases z
   | some d=>
     rw[e]at ha;dsimp only at ha ⊢;by_cases l:t=d
     .subst l;simp[Fr.at,Tr.Qt,ZrR,Qv]at ha
     have p:Fr.at (Tr.set (frP V fr m) d ZrR) t=(frP V fr m).at t:=by simp[Fr.at,Tr.Qt,l]
     rw[p]at ha ⊢;have⟨i1,i2⟩:=Zws m ha;refine⟨fun k h=>?_,i2⟩;rcases Nat.lt_or_eq_of_le (Nat.le_of_lt_succ h) with z|z
     .exact i1 k z
     subst z;rw[e];exact fun z=>l (Oi0 z).symm
def WC.ZVS{R:XX->Fs->Prop}{id:Nat}(hm:X.P.follows .mixedOrders=true)(hp:ZLi V.toList c=true)(k:PX X n h c V.toList fr (fun fr' o=>∃f args v h2,o.guard=none/\Qd X h (YM fr') o=some (.enter f args,.none)/\YW X (.call f args L h) (.fin (.Yq v) h2)/\∀Xk,R (.panic v) ⟨Xk,ds,h2,none⟩)):WC X n L rd (.region id V true) ⟨fr,ds,h,none⟩ R:=by
 have⟨fs,vs,oc,e0,hoc,⟨f,args,v,h2,hg,hcall,ZDP,hR⟩,hk⟩:=k;unfold ZLi at hp;rw[Ba0]at hp;have hpl:=XO _ _ hp.1;have hdst:=XO _ _ hp.2;simp only[G6]at hpl hdst;have G:∀{k:Nat}{o:Oper},V[k]? =some o->V.toList[k]? =some o:=fun h=>by rwa[Gg]
 have hcs:c<V.size:=by
  have:=Li0 hoc;have⟨q,_⟩:=this;simpa using q
 have uniq:∀{j k t},Zeb V j=some t->Zeb V k=some t->j=k:=fun{j k t} hj r=>by
  unfold Zeb at hj r;cases e1:V.toList[j]? with|none=>rw[e1]at hj;cases hj|some o1=>
    cases e2:V.toList[k]? with|none=>rw[e2]at r;cases r|some o2=>
      rw[e1]at hj;rw[e2]at r;have hj:o1.dst=some t:=hj;have r:o2.dst=some t:=r;have:=hdst k o2 e2;unfold Zne at this;rw[r]at this;dsimp only at this;have:=XO _ _ this j o1 e1;rw[ZeS.2 hj,Cq1,G6]at this;exact Nb0 this
 have K:∀m,m<=c->(∀k t,k<m->Zeb V k=some t->(fs m).at t=vs k)/\(∀t,(∀k,k<m->Zeb V k≠some t)->(fs m).at t=fr.at t):=by
  intro m;induction m with
  | zero=>intro _;exact⟨fun k t r=>absurd r (Nat.not_lt_zero _),fun t _=>by rw[e0]⟩
  | succ m ih=>
    intro hm';have⟨i1,i2⟩:=ih V6;have⟨d,op,ty,p,af,q1,q2,q3,q4⟩:=hk m V6;have hdm:Zeb V m=some d:=by unfold Zeb;rw[q1];rfl
    have hat:∀t,(fs (m+1)).at t=if t=d then vs m else(fs m).at t:=fun t=>by
     rw[q4];show Fr.at (Tr.set (fs m) d (vs m)) t=_;by_cases e:t=d;.subst e;simp[Fr.at,Tr.Qt]
     have e':¬ d=t:=fun z=>e z.symm;simp[Fr.at,Tr.Qt,e]
    refine⟨fun k t r C=>?_,fun t C=>?_⟩
    .rw[hat];by_cases e:t=d;.subst e;rw[if_pos rfl,uniq C hdm]
     rw[if_neg e];refine i1 k t ?_ C;rcases Nat.lt_or_eq_of_le (Nat.le_of_lt_succ r) with z|z
     .exact z
     subst z;rw[hdm]at C;cases C;exact absurd rfl e
    rw[hat,if_neg fun e=>C m V6 (by rw[hdm,e]),i2 t fun k r=>C k V6]
 refine⟨.panic v,_,hR (frP V fr c),fun ρ a w F ZA hi hF=>?_⟩;refine wpIn_region_any hm ?_;have hi':Inv ρ n {fr:=fr,ds:=ds,h:=h} a {w with drawn:=w.drawn+1}:=⟨⟨hi.rel.dom,fun i b d e=>(hi.rel.obj i b d e).world rfl,hi.rel.inj⟩,hi.fr,hi.ds⟩
 have main:∀(B:Nat)(listed:GZ Z),listed.size=V.size->((List.range V.size).filter (fun k=>!listed.getD k true)).length<=B->(∀j,c<=j->¬ Data.SL listed j) ->
  ∀ρ' y a' w',Inv ρ' n ⟨y,ds,h,none⟩ a' w'->Stp L ρ h {w with drawn:=w.drawn+1} ρ' h w'->((∀k t,k<c->Data.SL listed k->Zeb V k=some t->y.at t=vs k)/\(∀t,(∀k,k<c->Data.SL listed k->Zeb V k≠some t)->y.at t=fr.at t)) ->
  wpAnyIn F 0 X.P .any V (Qx L n ρ h w (.panic v) ⟨frP V fr c,ds,h2,none⟩) B listed a' w':=by
  intro B;induction B with
  | zero=>
    intro listed Q hn hc;exfalso
    have T:c∈(List.range V.size).filter (fun k=>!listed.getD k true):=by
     rw[List.mem_filter];exact⟨GN.2 hcs,by rw[(Data.Zdo Q hcs).2 (hc c V7)];rfl⟩
    have:=List.length_pos_of_mem T;omega
  | succ B ih=>
    intro listed Q hn hc ρ' y a' w' hinv hst hfs;refine⟨fun hnil=>?_,fun i hi=>?_⟩
    .exfalso
     have:∀k,k<=c->Data.SL listed k:=by
      intro k
      induction k using Nat.strongRecOn with|ind k ihk=>
        intro hkc;apply Classical.byContradiction;intro S;have hks:k<V.size:=V6;obtain⟨o,ho⟩:∃o,V[k]? =some o:=⟨V[k],by simp[hks]⟩
        have:k∈Region.ready .any V listed:=mem_ready.2 ⟨(Data.Zdo Q hks).2 S,o,ho,fun e he hb=>by
         have A:=hpl k o (G ho);unfold ZM8 at A;rw[Ba0]at A;have E:=A.1;unfold Zd9 at E;rw[KB]at E;have:=E e (by simpa using he);rw[hb,Cq1,G5]at this;exact ihk e.on this V6⟩
        rw[hnil]at this;cases this
     exact hc c V7 (this c V7)
    have⟨q1,o,ho,hr⟩:=mem_ready.1 hi;have him:i<V.size:=(Jn.1 ho).1;have S:¬ Data.SL listed i:=(Data.Zdo Q him).1 q1;have A:=hpl i o (G ho);unfold ZM8 at A;rw[Ba0]at A;unfold wpOpIn;rw[ho];by_cases hic:i<=c
    .have hle:Nat.ble i c=true:=Nm0 hic;have W:=A.2;rw[hle,Cq1,KB]at W
     have ZLV:Qd X h (YM y) o=Qd X h (YM (fs i)) o:=ZpH X h o fun x hx=>ZBe fun t C=>by
      subst C;have I:=W (.tmp t) (by simpa using hx);have I:=XO _ _ I;simp only[G6]at I
      have Zhj:∀k,Zeb V k=some t->k<i/\Data.SL listed k:=fun k l=>by
       unfold Zeb at l;cases e1:V.toList[k]? with|none=>rw[e1]at l;cases l|some o1=>
         rw[e1]at l;have l:o1.dst=some t:=l;have:=I k o1 e1;rw[ZeS.2 l,Q1,Gk]at this;obtain⟨e,he,hb,rfl⟩:=Zpe this;have E:=A.1;unfold Zd9 at E;rw[KB]at E;have h3:=E e (by simpa using he);rw[hb,Cq1,G5]at h3;exact⟨h3,hr e he hb⟩
      by_cases hex:∃k,Zeb V k=some t;.have⟨k,l⟩:=hex;have⟨k1,k2⟩:=Zhj k l;rw[hfs.1 k t V6 k2 l,(K i hic).1 k t k1 l]
      rw[hfs.2 t fun k _ _ z=>hex ⟨k,z⟩,(K i hic).2 t fun k _ z=>hex ⟨k,z⟩]
     rcases Nat.lt_or_eq_of_le hic with hlt|rfl
     .have⟨d,op,ty,p,af,z1,z2,z3,z4⟩:=hk i hlt;have eo:o=⟨some d,op,ty,p,af,none⟩:=by have:=G ho;rw[z1]at this;exact(Oi0 this).symm
      subst eo;have hdi:Zeb V i=some d:=by unfold Zeb;rw[z1];rfl
      have hS:∀k,Data.SL (listed.setIfInBounds i true) k↔Data.SL listed k\/k=i:=by
       intro k;unfold Data.SL;by_cases D:k=i;.subst D;simp[Q3,show k<listed.size by omega]
       rw[getD_set_ne false (Ne.symm D)];simp[D]
      refine Wz (Zbt X) (ZA6 (ih:=fun _=>none) (rd:=rd) rfl (ZLV.trans z3) rfl z2) hinv (KK ZA V7) (hF.mono hst.ext) (fun _ ρ2 a2 w2 Zpd Zfg=>?_) (fun v he=>by cases he);refine ih (listed.setIfInBounds i true) (by simpa using Q) ?_ (fun j hj z=>?_) ρ2 (Tr.set y d (vs i)) a2 w2 Zpd (hst.trans hi'.rel.lt Zfg) ⟨fun k t hkc hSk l=>?_,fun t C=>?_⟩
      .have heq:(List.range V.size).filter (fun k=>!(listed.setIfInBounds i true).getD k true)=((List.range V.size).filter (fun k=>!listed.getD k true)).filter (fun k=>k≠i):=by
        rw[List.filter_filter];apply List.filter_congr;intro k r;rw[GN]at r;by_cases D:k=i;.subst D;simp[Q3,show k<listed.size by omega]
        rw[getD_set_ne true (Ne.symm D)];simp[D]
       rw[heq]
       have T:i∈(List.range V.size).filter (fun k=>!listed.getD k true):=by
        rw[List.mem_filter];exact⟨GN.2 him,by rw[q1];rfl⟩
       have:(((List.range V.size).filter (fun k=>!listed.getD k true)).filter (fun k=>k≠i)).length<((List.range V.size).filter (fun k=>!listed.getD k true)).length:=
        List.length_filter_lt_length_iff_exists.2 ⟨i,T,by simp⟩
       omega
      .rcases(hS j).1 z with z|z
       .exact hc j hj z
       omega
      .show Fr.at (Tr.set y d (vs i)) t=vs k;by_cases e:t=d;.subst e;rw[uniq l hdi];simp[Fr.at,Tr.Qt]
       have:Fr.at (Tr.set y d (vs i)) t=y.at t:=by simp[Fr.at,Tr.Qt,e]
       rw[this];refine hfs.1 k t hkc ?_ l;rcases(hS k).1 hSk with z|z
       .exact z
       subst z;rw[hdi]at l;cases l;exact absurd rfl e
      have e:¬ t=d:=fun e=>C i hlt ((hS i).2 (.inr rfl)) (by rw[hdi,e]);have:Fr.at (Tr.set y d (vs i)) t=y.at t:=by simp[Fr.at,Tr.Qt,e]
      show Fr.at (Tr.set y d (vs i)) t=fr.at t;rw[this];exact hfs.2 t fun k hkc hSk=>C k hkc ((hS k).2 (.inl hSk))
     have eo:o=oc:=by have:=G ho;rw[hoc]at this;exact(Oi0 this).symm
     subst eo;have g:=Yh.none (V:=V) (fr:=y) hg
     have ZY6:UN X (fun _=>false) (JF (.call f args L h) (.fin (.Yq v) h2)) n L rd V.toList o ⟨y,ds,h,none⟩=some (.panic v,⟨y,ds,h2,none⟩):=by
      unfold UN;rw[g.1,g.2];dsimp only[Q1,Cq0,Cq1];rw[ZLV.trans hcall];dsimp only[Q1,Cq0,Cq1];rw[show Eff.apply L h Eff.none=some h from rfl];unfold Zay;dsimp only[Uo,Cq0];rw[XI];rfl
     refine Wz (XH ZDP) ZY6 hinv ZA (hF.mono hst.ext) (fun he=>by cases he) (fun v' he ρ2 v2 a2 w2 hv Zpd Zfg=>?_);cases he;have JV:=hst.trans hi'.rel.lt Zfg;exact⟨ρ2,.panic hv,⟨Zpd.rel,⟨Zpd.fr.size,fun t C=>(by have⟨z1,z2⟩:=Zws i C;have z3:=hfs.2 t fun k r _=>z1 k r;show VR ρ2 ((frP V fr i).at t) _;rw[z2,<-z3];refine Zpd.fr.val t ?_;show Qv (y.at t)=false;rw[z3,<-z2];exact C)⟩,Zpd.ds⟩,⟨JV.ext,JV.size,JV.keep,JV.own,JV.live,JV.os,JV.tape,JV.output,JV.X0,JV.frame,JV.Uu⟩⟩
    have hle:Nat.ble i c=false:=by
     cases z:Nat.ble i c;.rfl
     exact absurd (Nl0 z) hic
    have W:=A.2;rw[hle,Cq0]at W;have⟨e,he,hb,hec⟩:=Zpe W;have:=hr e he hb;rw[hec]at this;exact absurd this (hc c V7)
 have S:∀k,¬ Data.SL (Array.replicate V.size false) k:=by
  intro k;unfold Data.SL;rw[Q3,Array.getElem?_replicate];split<;>simp
 exact main V.size _ Vd (KK (List.length_filter_le _ _) Vd) (fun j _=>S j) ρ fr a _ hi' (Stp.refl _ _ _ _) ⟨fun k t _ z=>absurd z (S k),fun t _=>rfl⟩
end
section
variable{X:Ctx}{n L:Nat}{rd:O Nat}{V:GZ Oper}{l:U Oper}{fr:Fr}{ds:U V2}{h h1 h2 h0:H}{ty:J}{p:String}{af:GZ Edge}{g:O (Nat×Z)}{T:Nat->Prop}{G Gr Ga Gb:U (Ast L)}{d:O Nat}{i:Nat}
def Zij(l:i<h.size)(j:Nat):(h.put i A).at j=if j=i then A else h.at j:=by
 by_cases e:j=i;.subst e;rw[YD l,if_pos rfl]
 rw[XE e,if_neg e]
def Rel.weak{w:GY}(y:(h.at i).own=true)(t:(h.at i).live=true)(B:∀b d,Jr ρ w b d (ρ.lim i) (h.at i)->Jr ρ w b d (ρ.lim i) A)(r:Rel ρ h w):Rel ρ (h.put i A) w:=by
 have x:=X4 rfl t;refine⟨r.dom,fun j b d e=>?_,fun j k b d D C q m l=>?_⟩
 .rw[Zij x];have:=r.obj j b d e;split;next q=>subst q;exact B b d this
  exact this
 rw[Zij x]at m l;refine r.inj j k b d D C q ?_ ?_
 .split at m;next p=>subst p;exact y
  exact m
 split at l;next p=>subst p;exact t
 exact l
def Stp.weak{m:Ren}{y:H}{w w':GY}(hw:L<=i)(E:(h.at i).own=true)(x:(h.at i).live=true)(a:Stp L ρ (h.put i A) w m y w'):Stp L ρ h w m y w':=by
 have r:=X4 rfl x
 have l:∀j,((h.put i A).at j).own=true->(h.at j).own=true:=fun j e=>by
  rw[Zij r]at e;split at e;next t=>subst t;exact E
  exact e
 refine⟨a.ext,a.size,fun j p=>?_,fun j p e=>l j (a.own j p e),fun j p e=>?_,a.os,a.tape,a.output,a.X0,fun b F q=>a.frame b F fun j d h1 h2 G=>q j d h1 h2 (l j G),fun j b d e I=>?_⟩;.rw[a.keep j p,Zij r,if_neg V6]
 .have:=a.live j p e;rw[Zij r]at this;split at this;next t=>subst t;exact x
  exact this
 have⟨h1,h2⟩:=a.Uu j b d e I;exact⟨h1,h2.imp id fun⟨k,K,D,C,B⟩=>⟨k,K,D,C,l k B⟩⟩
def ks(L i:Nat)(m:U (Y×Z)):Ast L:=ob L i (.ZdK (ZQ m))
def ZEw(s:Y):∀(ll:U (Y×Z))(bs:U Nat)(es':U V0),bs.length=ll.length->EL ρ (QS Value.string Value.bool ll bs) es'->(∀e∈es',∃s b,e.key=.string s/\e.val=.bool b)/\fnd s es'=ZQ ll s:=by
 intro ll;induction ll with
 | nil=>intro bs es' p e;cases bs with|nil=>cases e;exact⟨by simp,rfl⟩|cons=>cases p
 | cons x ll ih=>
   intro bs es' p e;cases bs with|nil=>cases p|cons b bs=>
     cases e with|@cons _ y _ h r _ _ hv t=>
       have⟨q1,q2⟩:=ih bs h (by simpa using p) t;have⟨k',v',c'⟩:=y;dsimp only at r hv;obtain rfl:k'=.string x.1:=r;obtain rfl:v'=.bool x.2:=VR.XA rfl hv;refine⟨fun e m=>?_,?_⟩
       .rcases Ks.1 m with rfl|m
        .exact⟨_,_,rfl,rfl⟩
        exact q1 e m
       show(bif s==x.1 then some x.2 else fnd s h)=_;rw[q2,Znp];have e:Yt (x::ll) s=if x.1=s then some (0,x.2) else(Yt ll s).map fun q=>(q.1+1,q.2):=rfl;unfold ZQ;rw[e];by_cases l:x.1=s;.rw[if_pos l,decide_eq_true l.symm];rfl
       rw[if_neg l,decide_eq_false (fun z=>l z.symm)];cases Yt ll s<;>rfl
def ZSo{w:GY}{b d:Nat}{l:Nat×Nat}{m:U (Y×Z)}{bs:U Nat}(h:bs.length=m.length)(o:Jr ρ w b d l (.map (QS Value.string Value.bool m bs) c)):Jr ρ w b d l (.ZdK (ZQ m)):=by have⟨q,es',h1,h2⟩:=o;exact⟨q,es',c,h1,fun e he=>(ZEw ⟨#[]⟩ m bs _ h h2).1 e he,fun s=>(ZEw s m bs _ h h2).2⟩
def ZSn{m:U (Y×Z)}(x:Sp L T h0 G h)(pk:Pk G (mp L Value.string Value.bool (some i) m) Gr):∃h',((h.at i).own=true/\(h.at i).live=true/\∃A,h'=h.put i A/\∀(ρ:Ren) w b d l,Jr ρ w b d l (h.at i)->Jr ρ w b d l A)/\Sp L T h0 (ks L i m::Gr) h':=by
 have s:=x.get pk;have hw:L<=i:=s.low i rfl;rcases s.at_.mem with⟨q,_⟩|⟨j,bs,y,q,h1,h2,_⟩
 .cases q
 cases q;have p:(h.at i).own=true:=by rw[h1];rfl
 have r:(h.at i).live=true:=by rw[h1];rfl
 refine⟨_,⟨p,r,.ZdK (ZQ m),rfl,fun ρ w b d l o=>?_⟩,?_⟩;.rw[h1]at o;exact ZSo h2 o
 exact x.one pk (t:=fun j=>j=i) ⟨K2 _,fun j _ hn=>XE hn _,fun j e=>by rw[show j=i from e];exact⟨hw,p⟩⟩ (fun j e=>by show some i=some j;rw[show j=i from e]) ⟨YD (X4 rfl r) _,hw,rfl⟩ fun j e=>.inl (by show some i=some j;rw[show j=i from e])
def WO.ks{Q:XX->Fs->Prop}{m:U (Y×Z)}(y:Sp L T h0 G h)(pk:Pk G (mp L Value.string Value.bool (some i) m) Gr)(k:∀r,Sp L T h0 (Z9.ks L i m::Gr) r->WO X n L rd V l ⟨fr,ds,r,none⟩ Q):WO X n L rd V l ⟨fr,ds,h,none⟩ Q:=by obtain⟨r,⟨t,x,A,rfl,E⟩,C⟩:=ZSn y pk;have⟨e,s',hq,hk⟩:=k _ C;have hw:=(y.get pk).low i rfl;refine⟨e,s',hq,fun S ρ F a w q P D p=>hk S ⟨q.rel.weak t x fun b d=>E ρ w b d _,q.fr,q.ds⟩ (by simpa using P) D fun I K w' B=>p I K w' ?_⟩;have⟨ρ',h1,h2,h3⟩:=B;exact⟨ρ',h1,h2,h3.weak hw t x⟩
section
variable{m:U (Y×Z)}{kt vt t:J}{s:Y}
def ZF4{P:GW}(hu:P.underlying t=some (.map kt vt))(l:P.underlying kt=some .string)(p:h.at i=.ZdK (ZQ m)):aks P h t (.map (some i)) (.string s)=some (vt,i,ZQ m,s):=by have K:=Ziw.str l;unfold aks;rw[hu];dsimp only;rw[p,l];dsimp only;rw[K.ok true s,K.ok false s];rfl
def ZF3{P:GW}{ok:Z}{k:N}(l:h.at i=.ZdK (ZQ m)):K5 P h t (.map (some i)) k ok=none/\∀x,Q7 P h t (.map (some i)) k x=none:=by
 have:Zkw h (.map (some i))=none:=by unfold Zkw;dsimp only;rw[l]
 unfold K5 Q7;rw[this];exact⟨by split<;>first|rfl|contradiction,fun x=>by split<;>first|rfl|contradiction⟩
def ZQA{y:GV}{ev:GV->O N}(B:X.P.underlying kt=some .string)(hu:X.P.underlying t=some (.map kt vt))(q:Xl X.P vt=some (.bool false))(A:ev x=some (.map (some i)))(r:ev y=some (.string s))(l:h.at i=.ZdK (ZQ m)):
 Qd X h ev ⟨d,.lookup t x y false,ty,p,af,g⟩=some (.val (.bool ((ZQ m s).getD false)),.none):=by
 show(match ev x,ev y with|some m,some k=>vN (U6 X.P h t m k false) | _,_=>none)=_;rw[A,r];dsimp only
 have:U6 X.P h t (.map (some i)) (.string s) false=some (.bool ((ZQ m s).getD false)):=by
  unfold U6;rw[(ZF3 l).1,ZF4 hu B l];dsimp only;cases ZQ m s with|some b=>rfl|none=>dsimp only;rw[q];rfl
 rw[this];rfl
def Zqu(m:U (Y×Z))(s:Y)(v:Z):(fun t=>bif t==s then some v else ZQ m t)=ZQ (Xh m s v):=by
 funext t;rw[Znp];rw[ZaN];by_cases e:t=s;.rw[e,decide_eq_true rfl,if_pos rfl];rfl
 rw[decide_eq_false e,if_neg e];rfl
def ZMU{y z:GV}{v:Z}(q:Sp L T h0 G h)(pk:Pk G (ks L i m) Gr)(D:X.P.underlying kt=some .string)(hu:X.P.underlying t=some (.map kt vt))(B:YM fr x=some (.map (some i)))(A:YM fr y=some (.string s))(r:YM fr z=some (.bool v)):
 HU X L ⟨none,.mapUpdate t x y z,ty,p,af,g⟩ fr h (fun j=>j=i) (fun E=>Sp L T h0 (ks L i (Xh m s v)::Gr) E):=by
 have⟨hi,hw,_⟩:=q.get pk;have l:(h.at i).own=true:=by rw[hi];rfl
 have C:(h.at i).live=true:=by rw[hi];rfl
 refine⟨.upd i (.ZdK (ZQ (Xh m s v))),h.put i (.ZdK (ZQ (Xh m s v))),?_,?_,fun F e=>by cases e;rfl,K2 _,?_⟩
 .show(match YM fr x,YM fr y,YM fr z with|some m,some k,some x=>sE (Qo X.P h t m k x) | _,_,_=>none)=_;rw[B,A,r];dsimp only
  have:Qo X.P h t (.map (some i)) (.string s) (.bool v)=some (.upd i (.ZdK (ZQ (Xh m s v)))):=by
   unfold Qo;rw[(ZF3 (ok:=false) hi).2,ZF4 hu D hi];dsimp only;rw[Zqu]
  rw[this];rfl
 .show(bif Nat.ble L i&&(h.at i).own then some (h.put i _) else none)=_;rw[l,Nm0 hw];rfl
 exact q.one pk (t:=fun j=>j=i) ⟨K2 _,fun j _ hn=>XE hn _,fun j e=>by rw[show j=i from e];exact⟨hw,l⟩⟩ (fun j e=>e) ⟨YD (X4 rfl C) _,hw,rfl⟩ fun j e=>.inl e
end
end
end Go.Z9
end
section
noncomputable section
namespace Go.Proofs.YtbnepjakjmnadaaGreat
open Go.Proofs.Tryz Go.Z9 Go.RowKit
variable{I:Y}{K:U Nat}{c:Code}{fn:Func}{s:Fs}{ρ:Ren}
section
open Go.Z9 Go.Lf
def ZPW{F L h}{r}(G:L<=h.size)(l:Zon F I=some r):
 WR XX 16 #[.string I] L h (CP (fun v (Gb:U (Ast L))=>v=.bool r/\Gb=[]) [] h):=by
 refine bg ntmps16 G Z0.nil ?_;intro T y m;unfold Zon at l;refine r9 ?_;refine V8 (ZaQ ZgS (ZC fh rfl))<|r3 ?_;refine WO.gv (Zh.no rfl rfl rfl (Zm rfl fh)) rfl (fun p=>(ZaQ ZgS (Xz fh rfl p)))<|r4 ?_;refine cn l ?_ ?_;.intro t l;refine r7 ?_;exact rt l y m
 intro t l;refine r9 ?_;refine WC.loop (WL.lift l (fun A s=>∃x h1,s=⟨x,[],h1,none⟩/\Sp L T h [] h1/\x.at 0=.string I/\x.at 3= V4 A) ⟨_,_,rfl,m.only .n,(Xe rfl (Yd rfl fh)),fh⟩ ?_);rintro ZsL A s Zwd l ⟨x,h1,rfl,m,E,K⟩;refine r5 ?_;refine V8 (ZaQ ZgS (ZC fh rfl))<|r3 ?_;refine cn l ?_ ?_
 .intro t l;refine r8 ?_;have⟨z7,hz7,l⟩:=bS l;refine V8 (Ze9 ZgS (ZC (Zm rfl fh) rfl) (ZC fh rfl) hz7)<|r4 ?_;have⟨z8,hz8,l⟩:=YS l;refine WO.gv (Zh.no rfl rfl rfl (Yd rfl fh)) rfl (fun p=>(Ze9 ZgS (Xz (Zm rfl fh) rfl p) (Xz fh rfl p) (hz8 p)))<|r4 ?_;refine cn l ?_ ?_;.intro t l;refine UC ?_;exact rt l y m
  intro t l;refine r8 ?_;exact ZR.Yx (Zwd _ _ l ⟨_,_,rfl,m.only .n,(Xe rfl (Xe rfl (Zm rfl E))),fh⟩)
 intro t l;refine r7 ?_;refine Va (Jg (e:=Zq) m Qc Qi Zar rfl rfl rfl (Zy (KP rfl) (Zy (KP rfl) (Zy (KP rfl) (Zy (KP rfl) (Zy (KP rfl) (Zy (KP rfl) (Zy (KP rfl) (Zy (KP rfl) (Zy (KP rfl) (Zy (KP rfl) ZN)))))))))) rfl [((),(⟨#[97,110,100]⟩:Y)),((),(⟨#[100,101,102]⟩:Y)),((),(⟨#[101,108,115,101]⟩:Y)),((),(⟨#[103,111]⟩:Y)),((),(⟨#[105,102]⟩:Y)),((),(⟨#[105,110]⟩:Y)),((),(⟨#[112,108,97,99,101]⟩:Y)),((),(⟨#[115,116,111,112]⟩:Y)),((),(⟨#[116,104,101,110]⟩:Y)),((),(⟨#[119,97,116,99,104]⟩:Y))] rfl (xs:=[(⟨#[97,110,100]⟩:Y),(⟨#[100,101,102]⟩:Y),(⟨#[101,108,115,101]⟩:Y),(⟨#[103,111]⟩:Y),(⟨#[105,102]⟩:Y),(⟨#[105,110]⟩:Y),(⟨#[112,108,97,99,101]⟩:Y),(⟨#[115,116,111,112]⟩:Y),(⟨#[116,104,101,110]⟩:Y),(⟨#[119,97,116,99,104]⟩:Y)]) rfl (by intro q B;simp only[Ks,Q2,or_false]at B;rcases B with rfl|rfl|rfl|rfl|rfl|rfl|rfl|rfl|rfl|rfl<;>first|exact trivial) rfl) ?_;rintro _ C ⟨P,D,rfl,m⟩;refine r1 ?_;have⟨x11,ZiV,l⟩:=bS l;refine WO.cp gN rfl (Yc.f (Zb (ZC (Zm rfl fh) rfl) (Zb (ZC fh rfl) Zf))) (Zal (m.ord k0) ZiV)<|r5 ?_;exact rt l y m
def Zrb{F h}{r}(l:Zon F I=some r):Pure XX 16 #[.string I] h (.bool r):=
 WR.JE rfl (ZPW V7 l)
def ZPX{F L h}{r}(E:L<=h.size)(m:Zjp F I=some r):
 WR XX 15 #[.string I] L h (CP (fun v (Gb:U (Ast L))=>v=.bool r/\Gb=[]) [] h):=by
 refine bg ntmps15 E Z0.nil ?_;intro T y p;unfold Zjp at m;refine r9 ?_;refine V8 (ZaQ ZgS lk)<|r4 ?_;refine WC.loop (WL.lift m (fun A s=>∃t h1,s=⟨t,[],h1,none⟩/\Sp L T h [] h1/\t.at 0=.string I/\t.at 5= V4 (I.size:Int)/\t.at 6= V4 A) ⟨_,_,rfl,p.only .n,YF⟩ ?_);rintro W A s Za9 m ⟨t,h1,rfl,p,V,S,Q⟩;refine r6 ?_;refine cn m ?_ ?_
 .intro x m;refine r14 ?_;have⟨z8,hz8,m⟩:=bS m;refine V8 (Ze9 ZgS lk lk hz8)<|r4 ?_;have⟨z9,hz9,m⟩:=YS m;refine WO.gv (Zh.no rfl rfl rfl (Yd rfl fh)) rfl (fun q=>(Ze9 ZgS (Xz (Zm rfl fh) rfl q) (Xz fh rfl q) (hz9 q)))<|r4 ?_;refine cn m ?_ ?_;.intro x m;refine UC ?_;exact rt m y p
  intro x m;refine r7 ?_;exact ZR.Yx (Za9 _ _ m ⟨_,_,rfl,p.only .n,YF⟩)
 intro x m;refine r8 ?_;refine V8 (ZaQ ZgS lk)<|r3 ?_;refine WO.gv (Zh.yes rfl rfl rfl (Zm rfl fh)) rfl (fun q=>(ZaQ ZgS (Xz fh rfl q)))<|r3 ?_;refine WO.Wl (Zh.yes rfl rfl rfl fh) (fun l=>?_) (fun l=>?_);.replace m:=Qf l m;have⟨x11,ZiV,m⟩:=bS m;refine WO.cl (Zh.on (Zh.yes rfl rfl rfl fh) l) rfl (Yc.f Zf) p .n (fun P C G K=>ZPF (p.Vc C) ZiV) ?_;rintro _ D _ ⟨B,rfl,rfl⟩ p;refine WO.w (Zh.on (Zh.yes rfl rfl rfl (Zm rfl fh)) l) rfl (YA lk) ?_;have⟨x15,ZlS,m⟩:=bS m;refine WO.w (Zh.on (Zh.yes rfl rfl rfl (Yd rfl fh)) l) rfl (Ze8 (kv:=Value.string) (vv:=Value.bool) (k:=I) (z:=false) KF Uj ZjR (ZC (Zm rfl fh) rfl) (ZC fh rfl) (p.get k0).at_ ZlS (w:=.bool x15) rfl)<|WO.w (Zh.on (Zh.yes rfl rfl rfl (Yd rfl (Zm rfl fh))) l) rfl (ZgC lk)<|V8 (Kh lk l lk)<|r4 ?_;exact rt m y p
 replace m:=Qg l m;refine WO.Ql (Zh.yes rfl rfl rfl fh) l rfl<|WO.Ql (Zh.yes rfl rfl rfl (Zm rfl fh)) l rfl<|WO.Ql (Zh.yes rfl rfl rfl (Yd rfl fh)) l rfl<|WO.Ql (Zh.yes rfl rfl rfl (Yd rfl (Zm rfl fh))) l rfl<|V8 (Uf lk l lk)<|r4 ?_;exact rt m y p
def Zjn{F h}{r}(l:Zjp F I=some r):Pure XX 15 #[.string I] h (.bool r):=
 WR.JE rfl (ZPX V7 l)
def ZPD{F L h}{I:Int}{r}(G:L<=h.size)(l:ZEX F I=some r):
 WR XX 56 #[V4 I] L h (CP (fun v (Gb:U (Ast L))=>v=.string r/\Gb=[]) [] h):=by
 refine bg ntmps56 G Z0.nil ?_;intro T C m;unfold ZEX at l;refine r12 ?_;refine WC.loop (WL.lift l (fun p s=>match p with | (y,x)=>∃t h1,s=⟨t,[],h1,none⟩/\Sp L T h [] h1/\t.at 0= V4 y/\t.at 3=.string x) ⟨_,_,rfl,m.only .n,YF⟩ ?_);rintro S ⟨y,x⟩ s Za9 l ⟨t,h1,rfl,m,P,K⟩;refine r7 ?_;refine cn l ?_ ?_;.intro B l;refine r13 ?_;have⟨x8,hx8,l⟩:=bS l;refine V8 (Xg (ZC fh rfl) (KP rfl) (ZpK hx8))<|r1 ?_;refine V8 (ZFS ZRU ZG3 lk)<|Va (Jg (e:=(QL .u8)) m Zk5 ZCd ZBB rfl rfl rfl (Zy lk ZN) rfl [((),IntKind.wrap .u8 (Xa (97+x8)))] rfl (xs:=[IntKind.wrap .u8 (Xa (97+x8))]) rfl (by intro q A;simp only[Ks,Q2,or_false]at A;subst A;exact trivial) rfl) ?_;rintro _ D ⟨Q,E,rfl,m⟩;have⟨z11,ZYu,l⟩:=bS l;refine V8 (ZpG Zk5 ZG3 ZgS lk (m.on k0) (m.QA k0) ZYu)<|r1 ?_;have⟨z12,ZYt,l⟩:=bS l;refine V8 (Xg lk lk (Zvb ZYt))<|r5 ?_;have⟨Qk,Ux,l⟩:=bS l;refine V8 (Xg (ZC fh rfl) (KP rfl) (ZpL Ux))<|r3 ?_;exact ZR.Yx (Za9 _ _ l ⟨_,_,rfl,m.only .n,YF⟩)
 intro B l;refine r12 ?_;exact rt l C m
def ZPE{F h}{I:Int}{r}(l:ZEX F I=some r):Pure XX 56 #[V4 I] h (.string r):=
 WR.JE rfl (ZPD V7 l)
def LkS(L:Nat)(h:H)(m:O Nat)(l:U (Y×Z)):Prop:=∀{q:H},Fz L h q->∀{ev:GV->O N}{d:O Nat}{x y:GV}{ty:J}{p:String}{af:GZ Edge}{g:O (Nat×Z)}{s:Y}{v:Z},ev x=some (.map m)->ev y=some (.string s)->Zkq l s false=some v->Qd XX q ev ⟨d,.lookup 70 x y false,ty,p,af,g⟩=some (.val (.bool v),.none)
def LkS.k{L h i l}(q:i<L)(s:h.at i=.ZdK (ZQ l)):LkS L h (some i) l:=fun f _ _ _ _ _ _ _ _ _ _ p m hv=>by
 rw[<-Oi0 hv];exact ZQA ZgS Uj ZjR p m ((f.low i q (X4 s rfl)).trans s)
def ZJa{F L h}{I:MB}{ZsD:O Nat}{r}(ZA:L<=h.size)(W:LkS L h ZsD I)(m:ZEY F I=some r):
 WR XX 54 #[.map ZsD] L h (CP (fun v (Gb:U (Ast L))=>v=.string r/\Gb=[]) [] h):=by
 refine WF.Jv (args:=[_]) (fn:=f54) Kq0 Ve ntmps54 Vd ?_;simp only[ZM,ZT,Nat.reduceAdd];obtain⟨T,hT,l⟩:∃T,T=JO (L:=L) []/\Sp L T h [] h:=⟨_,rfl,Sp.start ZA Z0.nil⟩;unfold ZEY at m;refine r3 ?_;rintro _ h2 ⟨b1,eb1,rfl,l⟩;refine r1 ?_;rintro _ h4 ⟨b3,eb3,rfl,l⟩;refine r4 ?_;refine WC.ZM3 (first:=[]) (cap:=[]) l Zrm ZTT ?_;intro h5 S E LO8 ZAw l;refine WR.ZSq (r:=r) (fun(p:Y×Z)(v:N)(V:H)=>match p with | (A,ZCb)=>v=.tuple #[]/\Sp L T h [bx L b1 [.map ZsD],bx L b3 [.string A],ob L S (lst ZCb Code.ret LO8),ob L E .deferred] V) (Zq0) ?_ (WF.begin (args:=[_]) (fn:=f99) Kq0 Ve ntmps99 Vd ?_)
 .rintro⟨A,ZCb⟩ v V m ⟨rfl,l⟩;rcases Zw6 ZCb with t|t
  .replace m:=Qf t m;rw[t]at l;refine RgS.stop (c:=Code.ret) ZAw l k2 ?_;rintro h15 l;refine r3 ?_;refine Yi.Zjx l k2 ?_;rintro h16 l;obtain rfl:=Oi0 m;exact Yi.gen rfl (YE fh (ZaR UA (l.Ug k1) (j:=0) rfl (v:=.string A) rfl) Zp) rfl ⟨_,⟨rfl,rfl⟩,hT▸l.only .n⟩
  replace m:=Qg t m;rw[t]at l;refine RgS.sp ZAw l k2 ?_;rintro h17 l;refine r5 ?_;rintro h18 l;refine r3 ?_;refine Yi.Zjx l k2 ?_;rintro h19 l;obtain rfl:=Oi0 m;exact Yi.gen rfl (YE fh (ZaR UA (l.Ug k0) (j:=0) rfl (v:=.string (⟨#[]⟩:Y)) rfl) Zp) rfl ⟨_,⟨rfl,rfl⟩,hT▸l.only .n⟩
 skip;simp only[ZM,ZT,Nat.reduceAdd];refine r6 ?_;refine WC.loop (WL.lift m (fun p s=>match p with | (y,x,ZvE)=>∃Zmk D,s=⟨Zmk,[],D,none⟩/\Sp L T h [bx L b1 [.map ZsD],bx L b3 [.string x],ob L S (lst ZvE Code.ret LO8),ob L E .deferred] D/\Zmk.at 0=.func (.yield S) #[] #[]/\Zmk.at 2= V4 y) ⟨_,_,rfl,l.only (.e (.d (.a (.a .n)))),YF⟩ ?_);rintro ZlB ⟨y,x,ZvE⟩ s Zyx m ⟨Zmk,D,rfl,l,e22,e24⟩;refine r15 ?_;have l:=l.nil (e:=(QL .u8));refine WC.loop (WL.lift m (fun p s=>match p with | (Q,P)=>∃Zfh C K G B,s=⟨Zfh,[],C,none⟩/\Sp L T h [ow L (QL .u8) K B G Q,bx L b1 [.map ZsD],bx L b3 [.string x],ob L S (lst ZvE Code.ret LO8),ob L E .deferred] C/\Zfh.at 0=.func (.yield S) #[] #[]/\Zfh.at 2= V4 y/\Zfh.at 3=.slice K B G/\Zfh.at 4= V4 P) ⟨_,_,none,0,0,rfl,l.only (.a (.a (.a (.a (.a .n))))),YF⟩ ?_);rintro ZCK ⟨Q,P⟩ s ZH9 m ⟨Zfh,C,K,G,B,rfl,l,e30,e31,e36,e38⟩;obtain rfl:=l.on k0;refine r7 ?_;refine cn m ?_ ?_;.intro t m;refine r7 ?_;have⟨x40,ZAu,m⟩:=bS m;refine V8 (Xg (ZC fh rfl) (KP rfl) (ZpK ZAu))<|r1 ?_;refine V8 (ZFS ZRU ZG3 lk)<|Va (Jg (e:=(QL .u8)) l Zk5 ZCd ZBB rfl rfl rfl (Zy lk ZN) rfl [((),IntKind.wrap .u8 (Xa (97+x40)))] rfl (xs:=[IntKind.wrap .u8 (Xa (97+x40))]) rfl (by intro q hq;simp only[Ks,Q2,or_false]at hq;subst hq;exact trivial) rfl) ?_;rintro _ h42 ⟨b41,ZZ1,rfl,l⟩;refine r1 ?_;have⟨z43,ZNn,m⟩:=bS m;refine WO.hv gN rfl (Jd (e:=(QL .u8)) l k0 Zxh lk lk (l.QA k1) rfl ZNn) ?_;rintro _ h46 ⟨a44,c45,rfl,l⟩;refine r7 ?_;have⟨x47,ZYD,m⟩:=bS m;refine V8 (Xg (ZC fh rfl) (KP rfl) (ZpL ZYD))<|r2 ?_;exact ZR.Yx (ZH9 _ _ m ⟨_,_,a44,c45,z43.length,rfl,l.only (.a (.b (.b (.b (.b .n))))),YF⟩)
 intro t m;refine r9 ?_;have⟨z48,ZYh,m⟩:=bS m;refine V8 (ZpG Zk5 ZG3 ZgS lk rfl (l.QA k0) ZYh) ?_;have⟨ZY4,m⟩:=ZJW m;rw[ZY4]at l;refine WO.ZXr gN rfl lk lks l k3 ZAw rfl rfl<|r3 ?_;refine AsS.sp ZAw l k3 ?_;rintro h50 l;refine r4 ?_;have⟨x51,ZNy,m⟩:=bS m;refine WO.cp gN rfl (Yc.f (Zb lk Zf)) (Zjn ZNy)<|r3 ?_;have⟨x52,ZDi,m⟩:=YS m;refine WO.gv (Zh.yes rfl rfl rfl (Yd rfl fh)) rfl (fun X=>(W l.fz (Xz (Zm rfl fh) rfl X) (Xz fh rfl X) (ZDi X)))<|r4 ?_;refine cn m ?_ ?_
 .intro t m;refine r4 ?_;rintro h53 l;refine r4 ?_;refine BdS.stop .ret ZAw l k1 ?_;rintro h54 l;refine r3 ?_;refine cn m ?_ ?_;.intro t m;refine r5 ?_;exact YG.gen (vs:=[]) rfl Zp rfl ⟨_,m,⟨rfl,l.only (.e (.b (.a (.b .n))))⟩⟩
  intro t m;refine r8 ?_;exact ZR.Yx (Zyx _ _ m ⟨_,_,rfl,l.only (.e (.b (.a (.b .n)))),YF⟩)
 intro t m;refine r2 ?_;refine BdS.sp ZAw l k0 ?_;rintro h55 l;refine r3 ?_;refine cn m ?_ ?_;.intro t m;refine r5 ?_;exact YG.gen (vs:=[]) rfl Zp rfl ⟨_,m,⟨rfl,l.only (.d (.d (.a (.b .n))))⟩⟩
 intro t m;refine r8 ?_;exact ZR.Yx (Zyx _ _ m ⟨_,_,rfl,l.only (.d (.d (.a (.b .n)))),YF⟩)
def ZI9{F h i}{I:MB}{r}(s:h.at i=.ZdK (ZQ I))(l:ZEY F I=some r):Pure XX 54 #[.map (some i)] h (.string r):=
 WR.JE rfl (ZJa V7 (LkS.k (X4 s rfl) s) l)
end
section
open Go.Lf
def ZmS(F:Nat)(I:(U Y)):Lp (Int) Y:=fun m ZsL=>
 (ZEX F m).bind fun h=>(Zon F h).bind fun l=>(gd l (ZbM F I h) default).bind fun p=>(bif(l&&(!p)) then some h else ZsL (Xa (m+1)))
def ZAK(F:Nat)(I:(U Y)):O Y:=
 loop F (ZmS F I) 1
end
section
open Go.Z9 Go.Lf
def ZPU{F L h}{I:(U Y)}{Ze Zd}{r}(B:L<=h.size)(A:Sl Zq L h Ze Zd I)(l:ZAK F I=some r):
 WR XX 18 #[.slice Ze I.length Zd] L h (CP (fun v (Gb:U (Ast L))=>v=.string r/\Gb=[]) [] h):=by
 refine bg ntmps18 B Z0.nil ?_;intro T y m;unfold ZAK at l;refine UC ?_;refine WC.loop (WL.lift l (fun t s=>∃q h1,s=⟨q,[],h1,none⟩/\Sp L T h [] h1/\q.at 0=.slice Ze I.length Zd/\q.at 3= V4 t) ⟨_,_,rfl,m.only .n,YF⟩ ?_);rintro ZsL t s Zwd l ⟨q,h1,rfl,m,D,C⟩;refine r5 ?_;have⟨x7,hx7,l⟩:=bS l;refine WO.cp gN rfl (Yc.f (Zb lk Zf)) (ZPE hx7)<|r6 ?_;have⟨x8,hx8,l⟩:=bS l;refine WO.cp gN rfl (Yc.f (Zb lk Zf)) (Zrb hx8)<|r3 ?_;have⟨x9,hx9,l⟩:=YS l;refine WO.gcp (Zh.yes rfl rfl rfl (Yd rfl fh)) rfl (fun p=>(Yc.f (Zb (Xz (Zm rfl fh) rfl p) (Zb (Xz fh rfl p) Zf)))) (fun p=>Zal (m.WI A) (hx9 p))<|r4 ?_;refine cn l ?_ ?_;.intro x l;refine UC ?_;exact rt l y m
 intro x l;refine r8 ?_;exact ZR.Yx (Zwd _ _ l ⟨_,_,rfl,m.only .n,YF⟩)
def ZPV{F h}{I:(U Y)}{Ze Zd}{r}(m:Sl Zq h.size h Ze Zd I)(l:ZAK F I=some r):Pure XX 18 #[.slice Ze I.length Zd] h (.string r):=
 WR.JE rfl (ZPU V7 m l)
end
section
def ZbO(fn:Func):Code:=fn.body.getD .skip
def Kq:Nat->Code->Code
 | 0,c=>c
 | k+1,.seq _ b=>Kq k b
 | _+1,c=>c
def Zlh(ih:Jz->O Xr)(n:Nat):Nat->Code->Fs->O Fs
 | 0,_,s=>some s
 | k+1,.seq a b,s=>match ih (.code a n 0 none s) with|some (.code .normal s1)=>Zlh ih n k b s1|_=>none
 | _+1,_,_=>none
def Zkl:Nat->Fr
 | 0=>.nil
 | n+1=>Tr.set (Zkl n) n ZrR
def ZKc(n:Nat):Fs:= {fr:=Zkl n,ds:=[],h:=⟨.nil,0⟩}
def Zu3(n t:Nat):(Zkl n).at t=if t<n then ZrR else undef:=by
 induction n with|zero=>rfl|succ n ih=>
   unfold Fr.at at ih ⊢;rw[Zkl,Tr.Qt];by_cases h:t=n;.subst h;simp
   rw[if_neg h,ih];by_cases h2:t<n;.rw[if_pos h2,if_pos V6]
   rw[if_neg h2,if_neg V6]
def ZFY{n:Nat}{a:Act}{w:GY}(h1:a.tmps.size=n)(h2:a.defers=[]):Inv ZsI n (ZKc n) a w:=by
 refine⟨⟨fun _ _ _ e=>(by cases e),fun _ _ _ e=>(by cases e),fun _ _ _ _ _ e=>(by cases e)⟩,⟨h1,fun t l=>?_⟩,?_⟩
 .have e:(ZKc n).fr.at t=if t<n then ZrR else undef:=Zu3 n t;rw[e]at l ⊢;by_cases h:t<n;.rw[if_pos h]at l;cases l
  rw[if_neg h,Q3,GU V6];exact VR.undef _
 rw[h2];exact .nil
variable{X:Ctx}{k:Nat}
def Zqf{ih:Jz->O Xr}(G:∀j r,ih j=some r->YW X j r){n:Nat}{Q:Exit->Act->GY->Prop}:∀(m:Nat)(c:Code)(s s':Fs),Zlh ih n m c s=some s'->∀(ρ:Ren)(a:Act)(w:GY),Inv ρ n s a w ->
 (∀l q w',Inv l n s' q w'->Stp 0 ρ s.h w l s'.h w'->(Kq m c).wpIn base 0 X.P Q q w')->c.wpIn base 0 X.P Q a w:=by
 intro m
 induction m with|zero=>intro c s s' h ρ a w p C;cases h;exact C ρ a w p (Stp.refl _ _ _ _)|succ m A=>
   intro c s s' h ρ a w p C;cases c with
   | seq x y=>
     simp only[Zlh]at h;split at h;next s1 h1=>refine wpIn_seq (wpIn_mono (G _ _ h1 ρ a w base (Gq _) p rfl) ?_);rintro I q w' ⟨l,he,E,B⟩;cases he;exact A y s1 s' h l q w' E fun t F w2 D Zfg=>C t F w2 D (B.trans p.rel.lt Zfg)
     cases h
   | _=>cases h
def ZzZ{l:Ren}{q:H}{w w':GY}{h:H}(m:ρ=ZsI)(p:Stp 0 ρ h w l q w'):Below w.heap.size w w':=by subst m;exact p.below fun i b d _ e=>by cases e
end
def mkS(n:Nat)(fv:U (Nat×N))(m:U (Nat×YN))(l:Nat):Fs:=
 {fr:=fv.foldr (fun p f=>Tr.set f p.1 p.2) (Zkl n),ds:=[],h:=⟨m.foldr (fun p t=>Tr.set t p.1 p.2) .nil,l⟩}
def ZsB(n:Nat)(K l:U Nat)(s:Fs):Fs:=mkS n (K.map fun t=>(t,s.fr.at t)) (l.map fun i=>(i,s.h.at i)) s.h.size
def J4(ih:Jz->O Xr)(n:Nat)(K h:U Nat)(m:Nat)(c:Code)(s:Fs):O Fs:=
 match Zlh ih n m c s with
 | some s1=>match s1.ds with|[]=>some (ZsB n K h s1)|_::_=>none
 | none=>none
def Zn9{ih:Jz->O Xr}{n m:Nat}{l:U Nat}{s':Fs}(h:J4 ih n K l m c s=some s'):∃s1,Zlh ih n m c s=some s1/\s1.ds=[]/\s'=ZsB n K l s1:=by
 unfold J4 at h;split at h
 .rename_i s1 h1;split at h;next h2=>cases h;exact⟨s1,h1,h2,rfl⟩
  cases h
 cases h
def ZtP{l:Type}(g:Nat->l)(m:Tr l):∀(K:U Nat)(t:Nat),((K.map fun t=>(t,g t)).foldr (fun p f=>Tr.set f p.1 p.2) m).get t=if t∈K then some (g t) else m.get t:=by
 intro K
 induction K with|nil=>intro t;simp|cons k K ih=>
   intro t;simp only[JT,List.foldr_cons,Tr.Qt,ih];by_cases h:t=k;.subst h;simp
   simp[h]
def ZCn{n:Nat}{p:U Nat}{a:Act}{w:GY}(m:Inv ρ n s a w)(C:s.ds=[]):Inv ρ n (ZsB n K p s) a w:=by
 have r:∀i,(ZsB n K p s).h.at i=if i∈p then s.h.at i else .dead:=by
  intro i;show H.at ⟨_,s.h.size⟩ i=_;by_cases y:i<s.h.size
  .have B:Nat.blt i s.h.size=true:=by rw[G5];exact y
   have A:=ZtP (fun i=>s.h.at i) Tr.nil p i;show(bif Nat.blt i s.h.size then(Tr.get (List.foldr _ Tr.nil (p.map fun i=>(i,s.h.at i))) i).getD YN.dead else YN.dead)=_;rw[B,Cq1,A];by_cases l:i∈p;.rw[if_pos l,if_pos l];rfl
   rw[if_neg l,if_neg l];rfl
  have B:Nat.blt i s.h.size=false:=by rw[Gm];intro z;rw[G5]at z;omega
  rw[H.Zeg (h:=s.h) V6];simp[H.at,B]
 refine⟨⟨m.rel.dom,fun i b d e=>?_,fun i j b d E e D l x=>?_⟩,⟨m.fr.size,fun t q=>?_⟩,?_⟩
 .rw[r];split;.exact m.rel.obj i b d e
  trivial
 .rw[r]at l x;split at l
  .split at x;.exact m.rel.inj i j b d E e D l x
   cases x
  cases l
 .have e:(ZsB n K p s).fr.at t=if t∈K then s.fr.at t else(Zkl n).at t:=by
   have A:=ZtP (fun t=>s.fr.at t) (Zkl n) K t;show(Tr.get (List.foldr _ (Zkl n) (K.map fun t=>(t,s.fr.at t))) t).getD undef=_;rw[A];split<;>rfl
  rw[e]at q ⊢;split at q;.rw[if_pos (by assumption)];exact m.fr.val t q
  rename_i hn;rw[if_neg hn];rw[Zu3]at q ⊢;by_cases h:t<n;.rw[if_pos h]at q;cases q
  have:=m.fr.size;rw[if_neg h,Q3,GU V6];exact VR.undef _
 have h:=m.ds;rw[C]at h;exact h
variable{X:Ctx}
inductive K9(X:Ctx)(fn:Func):Code->Fs->Prop
 | last {c:Code} {s:Fs} {k:Nat} (h:isTrue (Zie (fun e s=>match xPM e with
    | some pm=>ev (cfg X fun _=>false) k (.leave fn 0 pm s)
    | none=>none) (ev (cfg X fun _=>false) k (.code c fn.ntmps 0 none s)))=true):K9 X fn c s
 | seg {c:Code} {s s':Fs} {k:Nat} (m:Nat) (K O':List Nat) (h:J4 (ev (cfg X fun _=>false) k) fn.ntmps K O' m c s=some s') (t:K9 X fn (Kq m c) s'):K9 X fn c s
def ZzV(m:Nat):∀(k:Nat)(c:Code),Kq m (Kq k c)=Kq (k+m) c:=by
 intro k
 induction k with|zero=>intro c;rw[G6];rfl|succ k ih=>
   intro c;rw[Nat.add_right_comm];cases c with|seq a b=>exact ih b|_=>cases m<;>rfl
def K9.Zst{body:Code}{s':Fs}{k pos:Nat}(m:Nat){l:U Nat}(h:J4 (ev (cfg X fun _=>false) k) fn.ntmps K l m (Kq pos body) s=some s')(t:K9 X fn (Kq (pos+m) body) s'):K9 X fn (Kq pos body) s:=
 .seg m K l h (by rw[ZzV];exact t)
def ZB9{l:Ren}{w w':GY}{p h2:H}(h:Stp 0 ρ ⟨.nil,0⟩ w l p w')(q:h2.size=p.size):Stp 0 ρ ⟨.nil,0⟩ w l h2 w':=
 ⟨h.ext,by rw[q];exact h.size,fun i m=>absurd m (Nat.not_lt_zero _),fun i m=>absurd m (Nat.not_lt_zero _),fun i m=>absurd m (Nat.not_lt_zero _),h.os,h.tape,h.output,h.X0,h.frame,h.Uu⟩
def K9.sound(E:X.P.follows .mixedOrders=true)(h:K9 X fn c s):∀(ρ:Ren)(a:Act)(w w0:GY),Inv ρ fn.ntmps s a w->Stp 0 ZsI ⟨.nil,0⟩ w0 ρ s.h w ->
 c.wpIn base 0 X.P (bodyPostM base 0 X.P fn (fun e w'=>e=.returned (.bool true)/\Below w0.heap.size w0 w')) a w:=by
 have A:∀i p,ZsI i=some p->i<(⟨.nil,0⟩:H).size:=fun i p e=>by cases e
 induction h with
 | last h=>
   intro ρ a w w0 G Zv9;rename_i s k;have⟨h',hc⟩:=Zs1 h;have⟨e,s1,ha,hk⟩:=JX hc;have T:=ZeC (X:=X) (Qq:=fun _=>false) E k _ _ ha;split at hk
   .rename_i W r;have F:=ZeC (X:=X) (Qq:=fun _=>false) E k _ _ hk;refine wpIn_mono (T ρ a w base (Gq _) G rfl) ?_;rintro e' B w' ⟨q,he,x,y⟩
    have fin:∀L w2,Kk 0 q s1.h w' (.ret (.bool true)) h' L w2->L=.returned (.bool true)/\Below w0.heap.size w0 w2:=by
     rintro L w2 ⟨S,V,Q,Zfg⟩;have I:=ZzZ rfl ((Zv9.trans A y).trans A Zfg);refine⟨?_,I⟩;cases V with|ret hv=>cases hv;rfl
    cases he with|normal=>cases r;exact F q _ B .returning w' _ (Gq _) x .ret fin|ret=>cases r;exact F q _ B .returning w' _ (Gq _) x .ret fin|panic D=>cases r;exact F q _ B _ w' _ (Gq _) x (.Yq D) fin|exit id=>cases r|goto l=>cases r
   cases hk
 | seg m K O' h t C=>
   intro ρ a w w0 G Zv9;rename_i c s s' k;obtain⟨s1,h1,h2,rfl⟩:=Zn9 h;refine Zqf (ZeC (X:=X) (Qq:=fun _=>false) E k) m c s s1 h1 ρ a w G fun q B w' x y=>?_;exact C q B w' w0 (ZCn x h2) (ZB9 (Zv9.trans A y) rfl)
def ZwU(X:Ctx)(p:X.P=prog){f:GX}(l:f<nfs)(m:prog.funcs[f]? =some fn)(q:fn.body=some c)(h:K9 X fn c (ZKc fn.ntmps))(w:GY):
 CallsIn base 0 prog f #[] w fun e w'=>e=.returned (.bool true)/\Below w.heap.size w w':=by
 rw[<-p]at m ⊢;refine(callsIn_of_wp_marks m q l (h.sound (by rw[p];exact mixed) ZsI _ w w (ZFY ?_ rfl) (Stp.refl _ _ _ _)) ?_);.simp
 rfl
end Go.Proofs.YtbnepjakjmnadaaGreat
end
end
noncomputable section
namespace Go.Proofs.YtbnepjakjmnadaaGreat
open Go.Proofs.Tryz Go.Z9 Go.RowKit Go.Maps Go.Sort Go.Shelf
variable{k:U UInt8}
def ZNj:N->O (U UInt8)
 | .string s=>bif Nat.ble s.data.toList.length 1000000 then some s.data.toList else none
 | _=>none
def Zo7:U V0->O (U (U UInt8))
 | []=>some []
 | e::es=>match ZNj e.key,Zo7 es with|some k,some ks=>some (k::ks)|_,_=>none
def Zx3(k:U UInt8):U (U UInt8)->Z
 | []=>true
 | x::xs=>bif decide (k=x) then false else Zx3 k xs
def nodupB:U (U UInt8)->Z
 | []=>true
 | x::xs=>Zx3 x xs&&nodupB xs
def ZqQ(k:U UInt8):U (U UInt8)->Z
 | []=>true
 | x::xs=>decide (k<=x)&&ZqQ k xs
def Zey:U (U UInt8)->Z
 | []=>true
 | x::xs=>ZqQ x xs&&Zey xs
def Zj5(ks:U (U UInt8)):DataW Unit:=.map ((ks.map fun k=>(Lit.string k,DataW.nil)).foldr DataW.insert [])
def Zsm(h:H)(D:DataW Unit)(l:U (U UInt8)):O (N×YN):=
 match l with|[]=>none|_::_=>bif Zey l&&Nat.ble (Maps.size D) 1000000 then some (.slice (some ⟨h.size,0,none⟩) l.length 1,.row (l.map encStr) true 1) else none
def ZHp(m:Nat)(h:H):O (N×YN):=
 match h.at m with
 | .map es l=>bif JA l es&&Nat.ble es.length 1000000 then match Zo7 es with|some ks=>bif nodupB ks then Zsm h (Zj5 ks) (strKeys (Zj5 ks)) else none|none=>none
   else none
 | _=>none
def ZNa(f:FuncId)(args:Array Value)(h:H):Option (Value×YN):=
 bif Nat.beq f 67 then
  match args.toList with|[.map (some m)]=>some (.func (.func 111) #[] #[.pointer (some ⟨h.size,0,none⟩)],.box m)|_=>none
 else bif Nat.beq f 66 then
  match args.toList with
  | [.func (.func g) cap l]=>match cap.toList,l.toList with
    | [],[.pointer (some ⟨i,0,none⟩)]=>bif Nat.beq g 111 then(match h.at i with|.box m=>ZHp m h|_=>none) else none
    | _,_=>none
  | _=>none
 else none
variable{ρ:Z9.Ren}{es es':U V0}
def Zzw(e:EL ρ es es'):es'.map (·.key)=es.map (·.key):=by induction e with|nil=>rfl|cons h _ _ _ _ ih=>simp[h,ih]
def Zvi(e:EL ρ es es'):es'.map (·.born)=es.map (·.born):=by induction e with|nil=>rfl|cons _ _ h _ _ ih=>simp[h,ih]
def ZsF{b:Nat}:∀{es:U V0},Zcv b es=true->b∉es.map (·.born):=by
 intro es
 induction es with|nil=>intro _ h;cases h|cons e es ih=>
   intro h m;simp only[Zcv]at h;cases l:Nat.beq e.born b<;>rw[l]at h<;>simp only[Cq1,Cq0]at h
   .rcases Ks.1 m with h1|h1
    .rw[h1]at l;simp at l
    exact ih h h1
   cases h
def ZuQ{l:Nat}:∀{es:U V0},JA l es=true->(es.map (·.born)).Nodup:=by
 intro es
 induction es with|nil=>intro _;exact List.nodup_nil|cons e es ih=>
   intro h;simp only[JA,Ba0]at h;exact List.nodup_cons.2 ⟨ZsF h.1.2,ih h.2⟩
def ZvR:∀{xs},Zx3 k xs=true->k∉xs:=by
 intro xs
 induction xs with|nil=>intro _ h;cases h|cons x xs ih=>
   intro h m;simp only[Zx3]at h;by_cases l:k=x;.rw[decide_eq_true l]at h;cases h
   rw[decide_eq_false l]at h;rcases Ks.1 m with h1|h1
   .exact l h1
   exact ih h h1
def ZsG:∀{xs},nodupB xs=true->xs.Nodup:=by
 intro xs
 induction xs with|nil=>intro _;exact List.nodup_nil|cons x xs ih=>
   intro h;simp only[nodupB,Ba0]at h;exact List.nodup_cons.2 ⟨ZvR h.1,ih h.2⟩
def Zth:∀{xs},ZqQ k xs=true->∀x∈xs,k<=x:=by
 intro xs
 induction xs with|nil=>intro _ x h;cases h|cons x xs ih=>
   intro h y l;simp only[ZqQ,Ba0,decide_eq_true_eq]at h;rcases Ks.1 l with rfl|h1
   .exact h.1
   exact ih h.2 y h1
def Zqb:∀{xs},Zey xs=true->xs.Pairwise (fun x y=>leB x y=true):=by
 intro xs
 induction xs with|nil=>intro _;exact List.Pairwise.nil|cons x xs ih=>
   intro h;simp only[Zey,Ba0]at h;exact List.pairwise_cons.2 ⟨fun y l=>by simpa[leB]using Zth h.1 y l,ih h.2⟩
def ZAp{v:N}(h:ZNj v=some k):v=encStr k/\k.length<=1000000:=by
 unfold ZNj at h;split at h
 .rename_i s;cases l:Nat.ble s.data.toList.length 1000000<;>rw[l]at h<;>simp only[Cq1,Cq0]at h;.cases h
  cases h;exact⟨by simp[encStr],Nl0 l⟩
 cases h
def Zv2:∀{es:U V0}{ks},Zo7 es=some ks->es.map (·.key)=ks.map encStr/\∀k∈ks,k.length<=1000000:=by
 intro es;induction es with
 | nil=>intro ks h;cases h;exact⟨rfl,fun k h=>by cases h⟩
 | cons e es ih=>
   intro ks h;simp only[Zo7]at h;split at h;next k l h1 h2=>cases h;have⟨a,b⟩:=ZAp h1;have⟨c,d⟩:=ih h2;exact⟨by simp[a,c],fun x m=>by exact(Ks.1 m).elim (fun e=>e▸b) (d x)⟩
   cases h
def ZFZ:N->O (DataW Unit×U MemPlace):=fun _=>some (.nil,[])
def ZM9{w:GY}{es':GZ V0}{b p:Nat}{ks:U (U UInt8)}(hw:w.heap[b]? =some (.map es' p))(he:EL ρ es es'.toList)(E:JA p es=true)(F:es.length<=1000000)
 (B:Zo7 es=some ks) (hn:nodupB ks=true):w.ownsMap prog 9 ZFZ b es'.size (Zj5 ks):=by
 have⟨k1,k2⟩:=Zv2 B;have m:es'.toList.map (·.key)=ks.map encStr:=(Zzw he).trans k1
 have A:∀x∈es'.toList,∃k:U UInt8,x.key=encStr k/\k.length<=1000000:=by
  intro x q;have:x.key∈es'.toList.map (·.key):=Gi q;rw[m,Ge]at this;have⟨k,h1,h2⟩:=this;exact⟨k,h2.symm,k2 k h1⟩
 have r:∀{x:V0}{k:U UInt8},x.key=encStr k->k.length<=1000000->Go.WideElems.rd (H:=Unit) prog 9 ZFZ x=some (.string k,.nil):=by
  intro x k h1 h2
  have:keyOf prog 9 x.key=some (.string k):=by
   rw[h1];simp[keyOf,underlying9,mapKey,encStr];have G:(1000000:Nat)<=maxLen:=by decide
   show k.toArray.size<=maxLen;rw[List.size_toArray];omega
  simp[Go.WideElems.rd,this,ZFZ]
 have t:es'.size<=1000000:=by
  have h1:=congrArg List.length (Zzw he);simp at h1;omega
 refine⟨es',p,hw,⟨KK t (by decide),⟨fun x q=>?_,?_,?_⟩,fun x q=>?_⟩,K2 _,?_⟩;.have:x.born∈es'.toList.map (·.born):=Gi q;rw[Zvi he,Ge]at this;have⟨y,h1,h2⟩:=this;rw[<-h2];exact Zgy E y h1
 .rw[Zvi he];exact ZuQ E
 .rw[m];exact List.Pairwise.map encStr (fun a b C e=>C (encStr_inj e)) (ZsG hn)
 .have⟨k,h1,h2⟩:=A x q;exact⟨_,r h1 h2⟩
 have:es'.toList.map (Go.WideElems.rg (H:=Unit) prog 9 ZFZ)=ks.map fun k=>(Lit.string k,DataW.nil):=by
  have gen:∀(l:U V0)(ks:U (U UInt8)),l.map (·.key)=ks.map encStr->(∀k∈ks,k.length<=1000000)->l.map (Go.WideElems.rg (H:=Unit) prog 9 ZFZ)=ks.map fun k=>(Lit.string k,DataW.nil):=by
   intro l;induction l with
   | nil=>intro ks h _;cases ks with|nil=>rfl|cons _ _=>simp at h
   | cons x l ih=>
     intro ks h D;cases ks with|nil=>simp at h|cons k ks=>
       simp only[JT,List.cons.injEq]at h;simp only[JT];rw[Go.WideElems.rg_of (r h.1 (D k Vd)),ih ks h.2 fun k B=>D k (by simp[B])]
  exact gen _ _ m k2
 unfold Zj5;rw[this]
def Zlb{h:H}{D:DataW Unit}{m:U (U UInt8)}{r:N×YN}(l:Zsm h D m=some r):m≠[]/\Zey m=true/\Maps.size D<=1000000/\r=(.slice (some ⟨h.size,0,none⟩) m.length 1,.row (m.map encStr) true 1):=by
 unfold Zsm at l;split at l;.cases l
 rename_i a b;generalize p:(Zey (a::b)&&Nat.ble (Maps.size D) 1000000)=c at l;cases c with|false=>cases l|true=>
   cases l;rw[Ba0]at p;exact⟨by simp,p.1,Nl0 p.2,rfl⟩
def row_of{h:H}{w w':GY}{v:N}{q L':U (U UInt8)}{D:DataW Unit}{r:N×YN}(G:Zsm h D L'=some r)(B:q.Perm L')
 (C:w'.ownsRow w.heap.size 9 1 v q.length ((q.mergeSort fun x y=>decide (x<=y)).map encStr)):
 ∃p l,w.heap.size<=p/\p<w'.heap.size/\VR (ρ.add h.size (p,0) l) r.1 v/\Jr (ρ.add h.size (p,0) l) w' p 0 l r.2:=by
 obtain⟨h1,h2,T,rfl⟩:=Zlb G
 have I:(q.mergeSort fun x y=>decide (x<=y))=L':=by
  have Q:q.mergeSort leB=L'.mergeSort leB:=mergeSort_of_perm B;have P:L'.mergeSort leB=L':=List.mergeSort_of_pairwise (Zqb h2);exact Q.trans P
 rw[I,B.length_eq]at C;obtain⟨_,⟨_,L⟩|⟨g,cap,m,rfl,K,E,W,S,V,F⟩⟩:=C;.exact absurd (Gd L) h1
 have A:g<w'.heap.size:=(Jn.1 E).1;refine⟨g,(m.size,1),K,A,?_,?_⟩
 .have:=VR.slice (ρ:=ρ.add h.size (g,0) (m.size,1)) (i:=h.size) (b:=g) (d:=0) 0 L'.length 1 cap (Ren.add_same _ _ _ _) ?_;.exact this
  rw[Ren.Zc1];refine⟨KK S (by decide),?_⟩;simp;omega
 refine⟨m,9,(0,0),E,fun _=>⟨rfl,fun _=>rfl⟩,by simp;omega,fun k v v' a b=>?_⟩;rw[Nat.mul_one]at F
 have:m.toList[k]? =some v:=by
  have t:(L'.map encStr)[k]? =some v:=a;rw[<-F,List.getElem?_take]at t;split at t;.exact t
  cases t
 rw[G6]at b;rw[<-Gg,this]at b;cases b;rw[GD,Option.map_eq_some_iff]at a;obtain⟨x,_,rfl⟩:=a;exact VR.string _
end Go.Proofs.YtbnepjakjmnadaaGreat
end
