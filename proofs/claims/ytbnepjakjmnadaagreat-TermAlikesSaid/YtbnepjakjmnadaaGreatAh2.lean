/- Part 2. -/
import Derived.RangeFuncRecord
import Derived.Laws.IdiomRangeMap
import Derived.Test.YtbnepjakjmnadaaGreatRows
import Derived.ProofKit
import Derived.Test.YtbnepjakjmnadaaGreatAh1
set_option linter.all false
set_option maxHeartbeats 2000000
section
noncomputable section
namespace Go.Z9
variable{E:Eff}{F:Fence}{L i m x:Nat}{P:GW}{V:U Oper}{YK c:Code}{args:GZ N}{f:GX}{fr:Fr}{free:Z}{g:GV}{h h' h1 h2:H}{l:Ren}{p:PM}{r:Xr}{rd t wr:O Nat}{s s':Fs}{w':GY}
variable{ρ:Ren}{w:GY}{X:Ctx}{ih:Jz->O Xr}
def Qx.trans{n:Nat}{m:GY}(y:∀i p,ρ i=some p->i<h.size)(t:Stp L ρ h w l h1 m){e:XX}{q:Exit}{r:Act}
 (x:Qx L n l h1 m e s' q r w'):Qx L n ρ h w e s' q r w':=by
 have⟨ρ',h1,h2,h3⟩:=x;exact⟨ρ',h1,h2,t.trans y h3⟩
def Kk.trans{m:GY}(y:∀i p,ρ i=some p->i<h.size)(t:Stp L ρ h w l h1 m){e:Kn}{q:H}{r:Ending}
 (x:Kk L l h1 m e q r w'):Kk L ρ h w e q r w':=by
 have⟨ρ',h1,h2,h3⟩:=x;exact⟨ρ',h1,h2,t.trans y h3⟩
def JX{k:XX->Fs->O Xr}{r:O Xr}{x:Xr}(h:Zie k r=some x):∃e s,r=some (.code e s)/\k e s=some x:=by
 unfold Zie at h;split at h;.exact⟨_,_,rfl,h⟩
 cases h
def ZkP{k:XX->PM->Fs->O Xr}{r:O Xr}{x:Xr}(h:ZFw k r=some x):∃e l s,r=some (.Qn e l s)/\k e l s=some x:=by
 unfold ZFw at h;split at h;.exact⟨_,_,_,rfl,h⟩
 cases h
def Zeu(X:Ctx)(c:Code)(n L:Nat)(rd:O Nat)(s:Fs)(r:Xr):Prop:=
 ∃e s',r=.code e s'/\∀ρ a w F,L<=s.h.size->Inv ρ n s a w->FR' ρ rd F->c.wpIn F 0 X.P (Qx L n ρ s.h w e s') a w
def XB{n:Nat}:YW X (.code c n L rd s) r↔Zeu X c n L rd s r:=by
 cases r with
 | code e s'=>exact⟨fun h=>⟨e,s',rfl,h⟩,fun⟨_,_,l,h⟩=>by cases l;exact h⟩
 | fin e h=>exact⟨fun h=>h.elim,fun⟨_,_,l,_⟩=>by cases l⟩
 | Zfi e h=>exact⟨fun h=>h.elim,fun⟨_,_,l,_⟩=>by cases l⟩
 | Qn e h s=>exact⟨fun h=>h.elim,fun⟨_,_,l,_⟩=>by cases l⟩
def Zxz(X:Ctx)(c:Code)(n L:Nat)(rd:O Nat)(s:Fs)(r:Xr):Prop:=
 ∃e s',r=.code e s'/\∀ρ a w F,L<=s.h.size->Inv ρ n s a w->FR' ρ rd F->LoopIn F 0 X.P c (Qx L n ρ s.h w e s') a w
def Zb4{n:Nat}:YW X (.loop c n L rd s) r↔Zxz X c n L rd s r:=by
 cases r with
 | code e s'=>exact⟨fun h=>⟨e,s',rfl,h⟩,fun⟨_,_,l,h⟩=>by cases l;exact h⟩
 | fin e h=>exact⟨fun h=>h.elim,fun⟨_,_,l,_⟩=>by cases l⟩
 | Zfi e h=>exact⟨fun h=>h.elim,fun⟨_,_,l,_⟩=>by cases l⟩
 | Qn e h s=>exact⟨fun h=>h.elim,fun⟨_,_,l,_⟩=>by cases l⟩
def ZkX(X:Ctx)(c:Code)(n L:Nat)(q:PM)(s:Fs)(r:Xr):Prop:=
 ∃e m s',r=.Qn e m s'/\∀ρ a c0 cs w,L<=s.h.size->Inv ρ n s a w->PmR ρ q c0.mode ->
     c.wpSIn base 0 X.P (fun t x cs' w'=>∃l p,cs'= {c0 with mode:=p}::cs/\PmR l m p/\ExR l e t/\Inv l n s' x w'/\Stp L ρ s.h w l s'.h w') a (c0::cs) w
def QO{n:Nat}:YW X (.Qn c n L p s) r↔ZkX X c n L p s r:=by
 cases r with
 | Qn e m s'=>exact⟨fun h=>⟨e,m,s',rfl,h⟩,fun⟨_,_,_,l,h⟩=>by cases l;exact h⟩
 | fin e h=>exact⟨fun h=>h.elim,fun⟨_,_,_,l,_⟩=>by cases l⟩
 | Zfi e h=>exact⟨fun h=>h.elim,fun⟨_,_,_,l,_⟩=>by cases l⟩
 | code e s=>exact⟨fun h=>h.elim,fun⟨_,_,_,l,_⟩=>by cases l⟩
section
variable(HI:∀j r,ih j=some r->YW X j r)
include HI
theorem Zuo{a b:Code}{n:Nat}(h:ZL1 ih a b n L rd s=some r):Zeu X (.seq a b) n L rd s r:=by
 have⟨e,s1,ha,hk⟩:=JX h;have y:=XB.1 (HI _ _ ha);have⟨_,_,e0,y⟩:=y;cases e0;cases e with
 | normal=>
   obtain⟨E,s2,rfl,C⟩:=XB.1 (HI _ _ hk);refine⟨E,s2,rfl,fun ρ a w F x q t=>wpIn_seq (wpIn_mono (y ρ a w F x q t) ?_)⟩;rintro B A w' ⟨m,he,p,l⟩;cases he;exact wpIn_mono (C m A w' F (KK x l.size) p (t.mono l.ext)) fun _ _ _ D=>Qx.trans q.rel.lt l D
 | exit id=>
   cases hk;refine⟨_,_,rfl,fun ρ a w F x q t=>wpIn_seq (wpIn_mono (y ρ a w F x q t) ?_)⟩;rintro B A w' ⟨m,he,p,l⟩;cases he;exact⟨m,.exit id,p,l⟩
 | goto id=>
   cases hk;refine⟨_,_,rfl,fun ρ a w F x q t=>wpIn_seq (wpIn_mono (y ρ a w F x q t) ?_)⟩;rintro B A w' ⟨m,he,p,l⟩;cases he;exact⟨m,.goto id,p,l⟩
 | ret=>
   cases hk;refine⟨_,_,rfl,fun ρ a w F x q t=>wpIn_seq (wpIn_mono (y ρ a w F x q t) ?_)⟩;rintro B A w' ⟨m,he,p,l⟩;cases he;exact⟨m,.ret,p,l⟩
 | panic v=>
   cases hk;refine⟨_,_,rfl,fun ρ a w F x q t=>wpIn_seq (wpIn_mono (y ρ a w F x q t) ?_)⟩;rintro B A w' ⟨m,he,p,l⟩;cases he with|panic hv=>exact⟨m,.panic hv,p,l⟩
theorem Zrp{c:GV}{a b:Code}{n:Nat}(h:Zna ih c a b n L rd s=some r):Zeu X (.cond c a b) n L rd s r:=by
 unfold Zna at h;split at h
 .rename_i t q
  have:∃e s',r=.code e s'/\∀ρ l w F,L<=s.h.size->Inv ρ n s l w->FR' ρ rd F->(if t then a else b).wpIn F 0 X.P (Qx L n ρ s.h w e s') l w:=by
   cases t with|true=>exact XB.1 (HI _ _ h)|false=>exact XB.1 (HI _ _ h)
  obtain⟨e,s',rfl,k⟩:=this;refine⟨e,s',rfl,fun ρ l w F A m y=>?_⟩;have hv:=KJ m.fr _ _ q;generalize p:l.eval c=x at hv;cases hv;exact wpIn_cond p (k ρ l w F A m y)
 cases h
theorem Zos{id:Nat}{n:Nat}(h:Zzg ih id c n L rd s=some r):Zeu X (.block id c) n L rd s r:=by
 have⟨e,s1,ha,hk⟩:=JX h;have⟨_,_,e0,ka⟩:=XB.1 (HI _ _ ha);cases e0;cases e with
 | exit k=>
   by_cases y:k=id;.subst y;simp[show Nat.beq k k=true from Nat.beq_refl k,Cq1,G2]at hk;subst hk;refine⟨_,_,rfl,fun ρ a w F x q t=>wpIn_block (wpIn_mono (ka ρ a w F x q t) ?_)⟩;rintro A B w' ⟨l,he,p,m⟩;cases he;show if _ then _ else _;rw[if_pos rfl];exact⟨l,.normal,p,m⟩
   have C:Nat.beq k id=false:=by rw[Uz];simpa using y
   simp[C,Cq0,G2]at hk;subst hk;refine⟨_,_,rfl,fun ρ a w F x q t=>wpIn_block (wpIn_mono (ka ρ a w F x q t) ?_)⟩;rintro A B w' ⟨l,he,p,m⟩;cases he;show if _ then _ else _;rw[if_neg y];exact⟨l,.exit k,p,m⟩
 | normal=>
   cases hk;refine⟨_,_,rfl,fun ρ a w F x q t=>wpIn_block (wpIn_mono (ka ρ a w F x q t) ?_)⟩;rintro A B w' ⟨l,he,p,m⟩;cases he;exact⟨l,.normal,p,m⟩
 | goto k=>
   cases hk;refine⟨_,_,rfl,fun ρ a w F x q t=>wpIn_block (wpIn_mono (ka ρ a w F x q t) ?_)⟩;rintro A B w' ⟨l,he,p,m⟩;cases he;exact⟨l,.goto k,p,m⟩
 | ret=>
   cases hk;refine⟨_,_,rfl,fun ρ a w F x q t=>wpIn_block (wpIn_mono (ka ρ a w F x q t) ?_)⟩;rintro A B w' ⟨l,he,p,m⟩;cases he;exact⟨l,.ret,p,m⟩
 | panic v=>
   cases hk;refine⟨_,_,rfl,fun ρ a w F x q t=>wpIn_block (wpIn_mono (ka ρ a w F x q t) ?_)⟩;rintro A B w' ⟨l,he,p,m⟩;cases he with|panic hv=>exact⟨l,.panic hv,p,m⟩
theorem Zop{n:Nat}(h:Zzf ih c n L rd s=some r):Zeu X (.scope c) n L rd s r:=by
 have⟨e,s1,ha,hk⟩:=JX h;have⟨_,_,e0,ka⟩:=XB.1 (HI _ _ ha);cases e0;cases e with
 | goto l=>cases hk
 | exit k=>
   cases hk;refine⟨_,_,rfl,fun ρ a w F y t x=>Zcr (wpIn_mono (ka ρ a w F y t x) ?_)⟩;rintro A B w' ⟨m,he,q,p⟩;cases he;exact⟨m,.exit k,q,p⟩
 | normal=>
   cases hk;refine⟨_,_,rfl,fun ρ a w F y t x=>Zcr (wpIn_mono (ka ρ a w F y t x) ?_)⟩;rintro A B w' ⟨m,he,q,p⟩;cases he;exact⟨m,.normal,q,p⟩
 | ret=>
   cases hk;refine⟨_,_,rfl,fun ρ a w F y t x=>Zcr (wpIn_mono (ka ρ a w F y t x) ?_)⟩;rintro A B w' ⟨m,he,q,p⟩;cases he;exact⟨m,.ret,q,p⟩
 | panic v=>
   cases hk;refine⟨_,_,rfl,fun ρ a w F y t x=>Zcr (wpIn_mono (ka ρ a w F y t x) ?_)⟩;rintro A B w' ⟨m,he,q,p⟩;cases he with|panic hv=>exact⟨m,.panic hv,q,p⟩
theorem Zh3{n:Nat}(h:Zm9 ih c n L rd s=some r):Zxz X c n L rd s r:=by
 have⟨e,s1,ha,hk⟩:=JX h;have⟨_,_,e0,ka⟩:=XB.1 (HI _ _ ha);cases e0;cases e with
 | normal=>
   obtain⟨D,s2,rfl,B⟩:=Zb4.1 (HI _ _ hk);refine⟨D,s2,rfl,fun ρ a w F x q t=>QJ (wpIn_mono (ka ρ a w F x q t) ?_)⟩;rintro A y w' ⟨m,he,p,l⟩;cases he;have:=B m y w' F (KK x l.size) p (t.mono l.ext);intro b k cs h1 h2 C;have⟨e3,a3,w3,hp,harr⟩:=this b k cs h1 h2 C;exact⟨e3,a3,w3,Qx.trans q.rel.lt l hp,harr⟩
 | exit id=>
   cases hk;refine⟨_,_,rfl,fun ρ a w F x q t=>QJ (wpIn_mono (ka ρ a w F x q t) ?_)⟩;rintro A y w' ⟨m,he,p,l⟩;cases he;exact⟨m,.exit id,p,l⟩
 | goto id=>
   cases hk;refine⟨_,_,rfl,fun ρ a w F x q t=>QJ (wpIn_mono (ka ρ a w F x q t) ?_)⟩;rintro A y w' ⟨m,he,p,l⟩;cases he;exact⟨m,.goto id,p,l⟩
 | ret=>
   cases hk;refine⟨_,_,rfl,fun ρ a w F x q t=>QJ (wpIn_mono (ka ρ a w F x q t) ?_)⟩;rintro A y w' ⟨m,he,p,l⟩;cases he;exact⟨m,.ret,p,l⟩
 | panic v=>
   cases hk;refine⟨_,_,rfl,fun ρ a w F x q t=>QJ (wpIn_mono (ka ρ a w F x q t) ?_)⟩;rintro A y w' ⟨m,he,p,l⟩;cases he with|panic hv=>exact⟨m,.panic hv,p,l⟩
end
def Zwr:∀(vs:U N)(i:Nat)(fr:Fr)(t:Nat),(QN vs i fr).at t=if i<=t/\t<i+vs.length then vs.getD (t-i) undef else fr.at t:=by
 intro vs
 induction vs with|nil=>intro i fr t;rw[if_neg Vd];rfl|cons v vs ih=>
   intro i fr t;rw[QN,ih];by_cases h1:i+1<=t/\t<i+1+vs.length;.rw[if_pos h1,if_pos Vf];have:t-i=(t-(i+1))+1:=V6;rw[this];rfl
   rw[if_neg h1];by_cases h2:t=i;.subst h2;rw[if_pos Vd];simp[Fr.at,Tr.Qt]
   rw[if_neg Vf];simp[Fr.at,Tr.Qt,h2]
def Fr.at_nil(t:Nat):Fr.at .nil t=undef:=rfl
def KM{l:GZ N}{n:Nat}(hv:UE ρ args l)(hn:args.toList.length<=n):
 FrR ρ (QN args.toList 0 .nil) n (l++Array.replicate (n-l.size) undef):=by
 have r:l.size=args.size:=hv.1.symm;rw[Gc]at hn;refine⟨by simp;omega,fun t _=>?_⟩;rw[Zwr];by_cases h:0<=t/\t<0+args.toList.length
 .rw[if_pos h];have h2:=h.2;simp[Gc,G6]at h2;have q:args.toList.getD (t-0) undef=args[t]:=by simp[List.getD,h2]
  have p:(l++Array.replicate (n-l.size) undef).getD t undef=l[t]'V6:=by
   rw[Q3,Array.getElem?_append_left V6];simp[show t<l.size by omega]
  rw[q,p];exact hv.2 t _ _ (by simp[h2]) (by simp[show t<l.size by omega])
 rw[if_neg h];have h2:args.size<=t:=by simp at h;exact h
 have p:(l++Array.replicate (n-l.size) undef).getD t undef=undef:=by
  rw[Q3,Array.getElem?_append_right V6];rcases Gl (t-l.size) (n-l.size) with m|m
  .simp[m]
  rw[GU (by simpa using m)];rfl
 rw[p,Fr.at_nil];exact VR.undef ρ
def Zob(r:Rel ρ h w){t:J}{a p v:N}(m:VR ρ a p)(l:Zaz P h t a=some v):
 ∃v',VR ρ v v'/\(do loadVar t (<-asAddr p):Sem N).run P w=.ok v' w:=by
 have⟨v',q1,q2⟩:=ZlN r m l;refine⟨v',q1,?_⟩;unfold Zaz at l;split at l
 .cases m with|ptr o q=>
    rw[ZfO]at q2;simpa[Sem.run_bind,asAddr]using q2
 cases l
def ZCk(h:GZ N):ResultVar->Sem N
 | .tmp t=>pure (h.getD t undef)
 | .cell a t=>do loadVar t (<-asAddr (h.getD a undef))
def Zxe(r:Rel ρ h w){n:Nat}{p:GZ N}(B:FrR ρ fr n p):∀(y:U ResultVar)(vs:U N),Zeh P fr h y=some vs ->
 ∃vs',LR ρ vs vs'/\(y.mapM (m:=Sem) (ZCk p)).run P w=.ok vs' w:=by
 intro y;induction y with
 | nil=>
   intro vs h1;cases h1;exact⟨[],LR.nil,by simp⟩
 | cons x y A=>
   intro vs h1;simp only[Zeh]at h1;split at h1
   .rename_i v C q E;cases h1;have⟨vs',q1,q2⟩:=A _ E
    have:∃v',VR ρ v v'/\(ZCk p x).run P w=.ok v' w:=by
     cases x with
     | tmp t=>
       simp only[Zu0]at q;cases l:Qv (fr.at t)<;>rw[l]at q<;>simp only[Cq1,Cq0]at q;.cases q;exact⟨_,B.val t l,rfl⟩
       cases q
     | cell a t=>
       have l:Qv (fr.at a)=false:=by
        simp only[Zu0]at q;unfold Zaz at q;split at q;next D=>rw[D];rfl
        cases q
       exact Zob r (B.val a l) q
    have⟨v',p1,p2⟩:=this;refine⟨v'::vs',LR.cons p1 q1,?_⟩;rw[List.mapM_cons];simp only[Sem.run_bind,p2,Gs,q2,Sem.run_pure]
   cases h1
def ZfH{fn:Func}(r:Rel ρ h w){n:Nat}{l:GZ N}(E:FrR ρ fr n l){v:N}(p:JB P fn fr h=some v):
 ∃v',VR ρ v v'/\(results fn l).run P w=.ok v' w:=by
 unfold JB at p
 have m:∀vs,Zeh P fr h fn.results.toList=some vs->∃vs',LR ρ vs vs'/\(results fn l).run P w=.ok (if h:vs'.toArray.size=1 then vs'.toArray[0] else .tuple vs'.toArray) w:=by
  intro vs t;have⟨vs',q1,q2⟩:=Zxe (P:=P) r E _ _ t;refine⟨vs',q1,?_⟩;have e:results fn l=(do let vs <-fn.results.mapM (ZCk l);pure (if h:vs.size=1 then vs[0] else .tuple vs):Sem N):=rfl;rw[e,<-Array.toArray_toList (xs:=fn.results),List.mapM_toArray];simp[Sem.run_bind,Sem.run_map,q2,Gs,Sem.run_pure]
 split at p;next x q=>cases p;have⟨vs',q1,q2⟩:=m _ q;obtain⟨y,rfl,B⟩:=LR.one q1;exact⟨y,B,by rw[q2];simp⟩
 .rename_i vs A q;cases p;have⟨vs',q1,q2⟩:=m _ q
  have C:vs.length≠1:=by
   intro D;match vs,D with|[x],_=>exact A x rfl
  refine⟨.tuple vs'.toArray,.tuple _ _ q1.arr.1 q1.arr.2,?_⟩;rw[q2,dif_neg];simp[List.size_toArray];rw[<-q1.1];exact C
 cases p
def CallsDIn.mono'{n:Nat}{u:FrameMode}{R R':Ending->FrameMode->GY->Prop}(h:CallsDIn F n P f args u w R)
 (m:∀e u w,R e u w->R' e u w):CallsDIn F n P f args u w R':=
 ⟨h.1,fun c cs p l=>let⟨e,u',w',fr,q,r⟩:=h.2 c cs p l;⟨e,u',w',fr,m _ _ _ q,r⟩⟩
def PmR.settle{p:PM}{u:FrameMode}(h:PmR ρ p u):PmR ρ (Zkz p) (settle u):=by cases h with|ret=>exact .ret|Yq h=>exact .Yq h|rcv h=>exact .ret
def DsR.nil_eq{ds:U V2}(h:DsR ρ [] ds):ds=[]:=by cases h;rfl
def PmR.Zx2{u:FrameMode}(h:PmR ρ p u):u≠.run:=by cases h<;>simp
section
variable{C:Cfg}(HI:∀j r,ih j=some r->YW C.X j r)
include HI
theorem Ua{fn:Func}{pm:PM}(h:U4 C ih fn L pm s=some r):YW C.X (.leave fn L pm s) r:=by
 unfold U4 at h;split at h
 .rename_i y
  have hd:∀{ρ n a w},Inv ρ n s a w->a.defers=[]:=fun l=>by
   have:=l.ds;rw[y]at this;exact this.nil_eq
  split at h
  .split at h;next v hv=>cases h;intro ρ n a u w R K l p G;cases p;have⟨v',q1,q2⟩:=ZfH l.rel l.fr hv;rw[hd l];exact⟨v',q2,G _ _ ⟨ρ,.ret q1,l.rel,Stp.refl _ _ _ _⟩⟩
   cases h
  .rename_i v;cases h;intro ρ n a u w R K l p G;cases p with|Yq hv=>
     rw[hd l];exact G _ _ ⟨ρ,.Yq hv,l.rel,Stp.refl _ _ _ _⟩
  cases h
 rename_i d ds y;split at h
 .rename_i r0 m;split at h
  .rename_i S;cases hb:Nat.ble L r0<;>rw[hb]at h<;>simp only[Cq1,Cq0]at h;.cases h
   have hr0:=Nl0 hb;have t:=HI _ _ h;cases r with
   | fin e D=>
     intro ρ n a u w R K l p G;have q:=l.ds;rw[y]at q;generalize hx:a.defers=x at q;cases q with|cons F _=>have⟨⟨f,c,c',e1,_⟩,_⟩:=F;rw[m]at e1;cases e1|@mark rr r' _ I hm W=>
       simp only at m;cases m;have ho:=l.rel.obj _ _ _ hm;rw[S]at ho;have⟨_,ho⟩:=ho;have hlt:=(l.rel.dom _ _ _ hm).2;have⟨q1,q2⟩:=Zqg (L:=L) (A:=.dead) (w':=w.putObj r' (.deferred none)) l.rel hr0 (by rw[S];rfl) ⟨rfl,rfl,rfl⟩ hm World.putObj_size (fun k hk=>World.putObj_heap_other hk) trivial;refine⟨p.Zx2,.inl ⟨r',_,rfl,run_takeDeferred ho,?_⟩⟩;have E:Inv ρ n {s with ds:=ds,h:=s.h.put r0 .dead} {a with defers:=I} (w.putObj r' (.deferred none)):=⟨q1,l.fr,W⟩;exact t ρ n _ u _ R K E p (fun e' w' hp=>G _ _ (Kk.trans l.rel.lt q2 hp))
   | code e D=>exact t.elim
   | Zfi e D=>exact t.elim
   | Qn e D _=>exact t.elim
  cases h
 .rename_i f cap m;split at h
  .rename_i fnn Q;split at h
   .rename_i pm' D hc;have t:=HI _ _ h;have hcj:=HI _ _ hc;cases r with
    | fin e h2=>
      intro ρ n a u w R K l p G;have q:=l.ds;rw[y]at q;generalize hx:a.defers=x at q;cases q with
      | @cons _ T _ I F W=>
        have⟨⟨f1,c1,c1',e1,e2,hv⟩,hargs⟩:=F;rw[m]at e1;cases e1
        have B:UE ρ (d.args.toList++cap.toList).toArray (T.args++c1'):=by
         have:=((UE.list hargs).append (UE.list hv)).arr;have e:(T.args.toList++c1'.toList).toArray=T.args++c1':=by apply Array.toList_inj.1;simp
         rwa[e]at this
        refine⟨p.Zx2,.inr ⟨fun hh=>(by cases hh),.func f,c1',f,T.args++c1',e2,?_,fun g hg=>(by rw[e2]at hg;simp only[Target.leads]at hg;cases hg;exact Zi3 Q),?_⟩⟩;.rw[e2,<-ZaD (w:=w) (args:=T.args++c1') Q];simp[invoke]
        refine CallsDIn.mono' (hcj ρ _ u w K l.rel B p) ?_;rintro e3 u3 w3 ⟨v,rfl,P,p1,p2,V⟩;have E:Inv P n {s with ds:=ds,h:=D} {a with defers:=I} w3:=⟨p2,l.fr.mono V.ext,W.mono V.ext⟩;exact t P n _ _ _ R (KK K V.size) E p1.settle (fun e' w' hp=>G _ _ (Kk.trans l.rel.lt V hp))
      | mark hm W=>cases m
    | code e D=>exact t.elim
    | Zfi e D=>exact t.elim
    | Qn e D _=>exact t.elim
   cases h
  cases h
 cases h
theorem Zrr(q:Zrs C ih f args L h=some r):YW C.X (.call f args L h) r:=by
 unfold Zrs at q;split at q
 .rename_i fn B;split at q
  .rename_i c P;cases hn:Nat.ble args.toList.length fn.ntmps<;>rw[hn]at q<;>simp only[Cq1,Cq0]at q;.cases q
   have⟨e,s1,ha,hk⟩:=JX q;have⟨_,_,e0,ka⟩:=XB.1 (HI _ _ ha);cases e0;split at hk
   .rename_i Q m;have y:=HI _ _ hk;cases r with
    | fin S h2=>
      intro ρ p w E D hv
      have K:Inv ρ fn.ntmps {fr:=QN args.toList 0 .nil,ds:=[],h:=h} {tmps:=p++Array.replicate (fn.ntmps-p.size) undef,defers:=[]} w:=
       ⟨D,KM hv (Nl0 hn),.nil⟩
      refine callsIn_of_wp_marks (C.X.ok f fn B).1 P (Zi3 B) (wpIn_mono (ka ρ _ w base E K rfl) ?_);rintro T G w' ⟨t,he,x,l⟩;cases he with
      | normal=>cases m;exact y t _ G .returning w' _ (KK E l.size) x .ret (fun _ _ A=>Kk.trans D.lt l A)
      | ret=>cases m;exact y t _ G .returning w' _ (KK E l.size) x .ret (fun _ _ A=>Kk.trans D.lt l A)
      | panic F=>cases m;exact y t _ G _ w' _ (KK E l.size) x (.Yq F) (fun _ _ A=>Kk.trans D.lt l A)
      | exit id=>cases m
      | goto id=>cases m
    | code e I=>exact y.elim
    | Zfi e I=>exact y.elim
    | Qn e I _=>exact y.elim
   cases hk
  cases q
 cases q
omit HI in
theorem ZM1{L:Nat}{ρ:Ren}{h:H}{w w':GY}{A:YN}{l:Nat×Nat}{p:Nat}(r:Rel ρ h w)(ZA:L<=h.size)(hb:RowKit.Below w.heap.size w w')(hp:w.heap.size<=p)(hp2:p<w'.heap.size)
 (hA:Jr (ρ.add h.size (p,0) l) w' p 0 l A):
 Rel (ρ.add h.size (p,0) l) (h.push A) w'/\Stp L ρ h w (ρ.add h.size (p,0) l) (h.push A) w':=by
 have hle:=Ren.ZbK (p:=(p,0)) (l:=l) r.fresh
 have hold:∀i b d,i≠h.size->(ρ.add h.size (p,0) l) i=some (b,d)->ρ i=some (b,d):=fun i b d hi e=>by
  rwa[(Ren.U7 hi).1]at e
 have hnew:∀b d,(ρ.add h.size (p,0) l) h.size=some (b,d)->b=p/\d=0:=fun b d e=>by
  rw[Ren.add_same]at e;cases e;exact⟨rfl,rfl⟩
 have hat:∀i,i≠h.size->(h.push A).at i=h.at i:=fun i hi=>by rw[H.QZ,if_neg hi]
 have ZDU:(h.push A).at h.size=A:=by rw[H.QZ,if_pos rfl]
 have hsz:=hb.size;refine⟨⟨?_,?_,?_⟩,⟨hle,by simp,?_,?_,?_,hb.os,hb.tape,hb.output,hb.size,?_,?_⟩⟩
 ·intro i b d e;rw[H.size_push];by_cases hi:i=h.size
  ·subst hi;have:=hnew b d e;omega
  ·have:=r.dom i b d (hold i b d hi e);omega
 ·intro i b d e;by_cases hi:i=h.size
  ·subst hi;obtain⟨rfl,rfl⟩:=hnew b d e;rw[ZDU,Ren.Zc1];exact hA
  ·have e0:=hold i b d hi e;rw[hat i hi,(Ren.U7 hi).2];exact((r.obj i b d e0).mono hle).world (hb.block b (r.dom i b d e0).2)
 ·intro i j b d d' e e' ho hl;by_cases hi:i=h.size
  ·subst hi;obtain⟨rfl,rfl⟩:=hnew b d e;by_cases hj:j=h.size
   ·exact hj.symm
   ·have:=(r.dom _ _ _ (hold j _ _ hj e')).2;omega
  ·have e0:=hold i b d hi e;by_cases hj:j=h.size
   ·subst hj;obtain⟨rfl,rfl⟩:=hnew b d' e';have:=(r.dom _ _ _ e0).2;omega
   ·rw[hat i hi]at ho;rw[hat j hj]at hl;exact r.inj i j b d d' e0 (hold j _ _ hj e') ho hl
 ·intro i hi;exact hat i V6
 ·intro i hi x;rwa[hat i V6]at x
 ·intro i hi x;rwa[hat i V6]at x
 ·intro b hb' _;exact hb.block b hb'
 ·intro i b d e e';by_cases hi:i=h.size
  ·subst hi;obtain⟨rfl,rfl⟩:=hnew b d e';exact⟨K2 _,.inl hp⟩
  ·rw[hold i b d hi e']at e;cases e
theorem Zor(t:ZkO C ih f args L h=some r):YW C.X (.call f args L h) r:=by
 unfold ZkO at t;split at t
 .rename_i v hv;have⟨G,ZN2⟩:=C.X.ZCt f v hv;split at t
  .rename_i S;cases t;intro ρ m w P B y
   have D:m=#[]:=by
    have h1:args.size=0:=by rw[<-Gc,S];rfl
    have h2:=y.1;exact Array.eq_empty_of_size_eq_zero V6
   subst D;refine(ZN2 w).mono fun e w' ⟨he,q⟩=>?_;subst he;refine⟨ρ,.ret (VR.Yk G),⟨fun i b d e=>?_,fun i b d e=>?_,B.inj⟩,⟨Ren.le_refl ρ,K2 _,fun _ _=>rfl,fun _ _ x=>x,fun _ _ x=>x,q.os,q.tape,q.output,q.size,fun b I _=>q.block b I,fun i b d e K=>by rw[e]at K;cases K⟩⟩;.have⟨q1,q2⟩:=B.dom i b d e;exact⟨q1,J1 q2 q.size⟩
   exact(B.obj i b d e).world (q.block b (B.dom i b d e).2)
  cases t
 split at t;.rename_i v A hv;cases t;intro ρ m w P B y;refine(C.X.ZCu f args h v A hv ρ m w B y).mono fun e w' ⟨v',p,l,he,q,G,F,E,Q⟩=>?_;subst he;have⟨q1,q2⟩:=ZM1 B P q G F Q;exact⟨_,.ret E,q1,q2⟩
 exact Zrr HI t
end
def JU{n:Nat}{Q m:Exit->Act->U Frame->GY->Prop}{a:Act}{cs:U Frame}(h:c.wpSIn F n P Q a cs w)
 (p:∀e a cs w,Q e a cs w->m e a cs w):c.wpSIn F n P m a cs w:=
 fun b k h1 h2 x t=>let⟨e,a',cs',w',l,q,r⟩:=h b k h1 h2 x t;⟨e,a',cs',w',l,p _ _ _ _ q,r⟩
def ZwS{n:Nat}{V:GZ Oper}:∀(l:U Oper)(k:Nat),(∀j,l[j]? =V[k+j]?)->∀(pm G:PM)(s s':Fs),ZuA X n L V.toList l pm s=some (G,s') ->
 ∀{ρ:Ren}{c0:Frame}{cs:U Frame}{a:Act}{w:GY},Inv ρ n s a w->L<=s.h.size->PmR ρ pm c0.mode->∀(Q:Exit->Act->U Frame->GY->Prop),
   (∀F u' a' w',PmR F G u'->Inv F n s' a' w'->Stp L ρ s.h w F s'.h w'->Q .normal a' ({c0 with mode:=u'}::cs) w') ->
   wpOpsSIn base 0 X.P V Q (List.range' k l.length) a (c0::cs) w:=by
 intro l;induction l with
 | nil=>
   intro k hl pm G s s' hs ρ c0 cs a w D ZA C Q hQ;cases hs;exact hQ ρ c0.mode a w C D (Stp.refl _ _ _ _)
 | cons o l ihl=>
   intro k hl pm G s s' hs ρ c0 cs a w D ZA C Q hQ;have h0:V[k]? =some o:=by simpa using (hl 0).symm
   have hl':∀j,l[j]? =V[k+1+j]?:=fun j=>by have:=hl (j+1);simpa[GI,Nat.add_comm 1 j]using this
   simp only[Kd,List.range'_succ,wpOpsSIn,h0];simp only[ZuA]at hs;split at hs
   .rename_i pm1 s1 p
    have ZY8:∀f,o.about X.P w a.eval=some f->f<nfs:=by
     intro f T;unfold dop at p;dsimp only at p;cases I:okG V.toList o s.fr<;>rw[I]at p<;>simp only[G9,Q1,Cq1,Cq0]at p;.cases p
     cases S:XD V.toList o s.fr<;>rw[S]at p<;>simp only[Cq1,Cq0]at p;.exact ZgH (ρ:=ρ) (fun t _ hx=>D.fr.val t hx) I S T
     split at p;next nx E ha=>have⟨y,w1,p1,p2,p3⟩:=Zcj D.rel (KJ D.fr) ha;exact Zc2 ha p3 T
     cases p
    refine⟨fun f T=>ZY8 f T,?_⟩
    have go:∀{y:Ren}{u1:FrameMode}{a1:Act}{w1:GY},Inv y n s1 a1 w1->PmR y pm1 u1->Stp L ρ s.h w y s1.h w1 ->
     wpOpsSIn base 0 X.P V Q (List.range' (k+1) l.length) a1 ({c0 with mode:=u1}::cs) w1:=by
     intro y u1 a1 w1 h1 h2 h3;refine ihl (k+1) hl' pm1 G s1 s' hs (c0:= {c0 with mode:=u1}) h1 (KK ZA h3.size) h2 Q (fun F u' a' w' B A q3=>?_);exact hQ F u' a' w' B A (h3.trans D.rel.lt q3)
    unfold dop at p;dsimp only at p;cases I:okG V.toList o s.fr<;>rw[I]at p<;>simp only[G9,Q1,Cq1,Cq0]at p;.cases p
    rw[ZfG D.fr V o I];cases S:XD V.toList o s.fr<;>rw[S]at p<;>simp only[Cq1,Cq0]at p
    .rw[if_neg Vd];split at p;next s2 q=>cases p;have⟨B,A⟩:=JZ D (VR.undef ρ) q;have:=go (u1:=c0.mode) B C (by rw[A];exact Stp.refl _ _ _ _);exact this
     cases p
    rw[if_pos rfl];split at p
    .rename_i nx E ha;split at p
     .rename_i h1 hE;have⟨y,w1,p1,p2,p3⟩:=Zcj D.rel (KJ D.fr) ha;have⟨r1,st1⟩:=Eff.sound D.rel ZA p1 hE p2;have K:=D.step r1 st1;split at p
      .rename_i v;have⟨v',hv,r⟩:=p3;rw[r];split at p;next s2 q=>cases p;have⟨B,A⟩:=JZ K hv q;exact go (u1:=c0.mode) B (C.mono st1.ext) (by rw[A];exact st1)
       cases p
      .have r:(execOp a.eval o).run X.P w=.ok .skip w1:=p3;rw[r];split at p;next s2 q=>cases p;have⟨B,A⟩:=JZ K (VR.undef _) q;exact go (u1:=c0.mode) B (C.mono st1.ext) (by rw[A];exact st1)
       cases p
      .have r:(execOp a.eval o).run X.P w=.ok .recover w1:=p3;rw[r];have ZAv:=C.mono st1.ext;cases pm with
       | Yq v=>
         simp only at p;generalize W:c0.mode=m at ZAv;cases ZAv with|@Yq _ v' hv=>
           have x:recoverD (c0::cs)=some (v',{c0 with mode:=.panicking [{v:=v',recovered:=true}]}::cs):=by
            simp[recoverD,W,chainOf]
           simp only[x];split at p;next s2 q=>cases p;have⟨B,A⟩:=JZ K hv q;exact go B (.rcv hv) (by rw[A];exact st1)
           cases p
       | ret=>
         simp only at p;generalize W:c0.mode=m at ZAv;cases ZAv;have x:recoverD (c0::cs)=none:=by simp[recoverD,W]
         simp only[x];split at p;next s2 q=>cases p;have⟨B,A⟩:=JZ K (v:=.nilIface) (v':=.nilIface) (VR.Yk rfl) q;exact go (u1:=c0.mode) B (by rw[W];exact .ret) (by rw[A];exact st1)
         cases p
       | rcv v=>
         simp only at p;generalize W:c0.mode=m at ZAv;cases ZAv with|@rcv _ v' hv=>
           have x:recoverD (c0::cs)=none:=by simp[recoverD,W]
           simp only[x];split at p;next s2 q=>cases p;have⟨B,A⟩:=JZ K (v:=.nilIface) (v':=.nilIface) (VR.Yk rfl) q;exact go (u1:=c0.mode) B (by rw[W];exact .rcv hv) (by rw[A];exact st1)
           cases p
      cases p
     cases p
    cases p
   cases hs
section
variable{C:Cfg}(HI:∀j r,ih j=some r->YW C.X j r)
include HI
theorem Zd8{n:Nat}(h:Zcg ih c n L p s=some r):ZkX C.X c n L p s r:=by have⟨e,s1,ha,hk⟩:=JX h;have⟨_,_,e0,ka⟩:=XB.1 (HI _ _ ha);cases e0;cases hk;refine⟨e,p,s1,rfl,fun ρ a c0 cs w y x q=>wpSIn_of_wpIn rfl (wpIn_mono (ka ρ a w base y x rfl) ?_)⟩;rintro A B w' ⟨m,he,t,l⟩;exact⟨m,c0.mode,rfl,q.mono l.ext,he,t,l⟩
theorem Ub{n:Nat}{I:PM}(h:ZaH C ih c n L I s=some r):ZkX C.X c n L I s r:=by
 unfold ZaH at h;split at h
 .rename_i a b;have⟨e,pm1,s1,ha,hk⟩:=ZkP h;have⟨_,_,_,e0,ka⟩:=QO.1 (HI _ _ ha);cases e0;have G:∀{x:Exit},(∀ρ,ExR ρ e x->True)->True:=fun _=>trivial;cases e with
  | normal=>
    obtain⟨e2,W,s2,rfl,kb⟩:=QO.1 (HI _ _ hk);refine⟨e2,W,s2,rfl,fun ρ a c0 cs w B A l=>wpSIn_seq (JU (ka ρ a c0 cs w B A l) ?_)⟩;rintro K F cs' w' ⟨m,D,rfl,q,he,y,p⟩;cases he;refine JU (kb m F {c0 with mode:=D} cs w' (KK B p.size) y q) ?_;rintro e3 a3 cs3 w3 ⟨P,u3,rfl,T,S,Q,q4⟩;exact⟨P,u3,rfl,T,S,Q,p.trans A.rel.lt q4⟩
  | exit id=>
    cases hk;refine⟨_,_,_,rfl,fun ρ a c0 cs w B A l=>wpSIn_seq (JU (ka ρ a c0 cs w B A l) ?_)⟩;rintro K F cs' w' ⟨m,D,rfl,q,he,y,p⟩;cases he;exact⟨m,D,rfl,q,.exit id,y,p⟩
  | goto id=>
    cases hk;refine⟨_,_,_,rfl,fun ρ a c0 cs w B A l=>wpSIn_seq (JU (ka ρ a c0 cs w B A l) ?_)⟩;rintro K F cs' w' ⟨m,D,rfl,q,he,y,p⟩;cases he;exact⟨m,D,rfl,q,.goto id,y,p⟩
  | ret=>
    cases hk;refine⟨_,_,_,rfl,fun ρ a c0 cs w B A l=>wpSIn_seq (JU (ka ρ a c0 cs w B A l) ?_)⟩;rintro K F cs' w' ⟨m,D,rfl,q,he,y,p⟩;cases he;exact⟨m,D,rfl,q,.ret,y,p⟩
  | panic v=>
    cases hk;refine⟨_,_,_,rfl,fun ρ a c0 cs w B A l=>wpSIn_seq (JU (ka ρ a c0 cs w B A l) ?_)⟩;rintro K F cs' w' ⟨m,D,rfl,q,he,y,p⟩;cases he with|panic hv=>exact⟨m,D,rfl,q,.panic hv,y,p⟩
 .rename_i c a b;split at h
  .rename_i t hc
   have:ZkX C.X (if t then a else b) n L I s r:=by
    cases t with|true=>exact QO.1 (HI _ _ h)|false=>exact QO.1 (HI _ _ h)
   obtain⟨e,E,s',rfl,k⟩:=this;refine⟨e,E,s',rfl,fun ρ F c0 cs w B A l=>?_⟩;have hv:=KJ A.fr _ _ hc;generalize hx:F.eval c=x at hv;cases hv;exact wpSIn_cond hx (k ρ F c0 cs w B A l)
  cases h
 .rename_i id V d;cases hd:(!d&&V.toList.any isRecover)<;>rw[hd]at h<;>simp[Cq1,Cq0]at h;.exact Zd8 HI h
  split at h
  .rename_i E s' hs;cases h;have:d=false:=by simp at hd;exact hd.1
   subst this;refine⟨.normal,E,s',rfl,fun ρ a c0 cs w B A l=>wpSIn_region ?_⟩;rw[List.range_eq_range',<-Gc];exact ZwS V.toList 0 Vd I E s s' hs A B l _ (fun m D F w' T S Q=>⟨m,D,rfl,T,.normal,S,Q⟩)
  cases h
 exact Zd8 HI h
theorem ZfC{E:PM}(q:Zh6 C ih f args E L h=some r):YW C.X (.dcall f args E L h) r:=by
 unfold Zh6 at q;split at q
 .rename_i fn B;split at q
  .rename_i c V;cases hn:Nat.ble args.toList.length fn.ntmps<;>rw[hn]at q<;>simp only[Cq1,Cq0]at q;.cases q
   have⟨e,pm1,s1,ha,hk⟩:=ZkP q;have⟨_,_,_,e0,ka⟩:=QO.1 (HI _ _ ha);cases e0
   have x:∀v,s1.ds=[]->(e=.normal\/e=.ret)->JB C.X.P fn s1.fr s1.h=some v->YW C.X (.dcall f args E L h) (.Zfi pm1 s1.h):=by
    intro v m he hv ρ p u w ZA Q F G
    have T:Inv ρ fn.ntmps {fr:=QN args.toList 0 .nil,ds:=[],h:=h} {tmps:=p++Array.replicate (fn.ntmps-p.size) undef,defers:=[]} w:=
     ⟨Q,KM F (Nl0 hn),.nil⟩
    refine callsDIn_of_wpSIn (C.X.ok f fn B).1 V (Zi3 B) fun c0 cs S=>JU (ka ρ _ c0 cs w ZA T (by rw[S];exact G)) ?_;rintro e' W cs' w' ⟨t,I,rfl,A,D,l,y⟩
    have K:W.defers=[]:=by
     have:=l.ds;rw[m]at this;exact this.nil_eq
    have⟨v',q1,q2⟩:=ZfH l.rel l.fr hv;rcases he with rfl|rfl
    .cases D;exact⟨K,I,rfl,v',q2,v',rfl,t,A,l.rel,y⟩
    cases D;exact⟨K,I,rfl,v',q2,v',rfl,t,A,l.rel,y⟩
   split at hk;next m hv=>cases hk;exact x _ m (.inl rfl) hv
   next m hv=>cases hk;exact x _ m (.inr rfl) hv
   cases hk
  cases q
 cases q
end
def run_enterLoop_inner(fn:GX)(tmps:GZ N)(ps:GZ Tmp)(assign body:Code){l:Nat}{r:Loop}(h:w.heap[l]? =some (.loop r)):
 (Instr.enterLoop fn tmps ps assign body (some l)).run P w=
   .ok (w.heap.size,[]) (w.alloc (.loop {state:=.ready,pending:=none,fn,tmps,params:=ps,assign,body,defers:=r.defers})):=by
 unfold Instr.enterLoop;simp[Sem.run_bind,run_getLoop h,run_newObj_alloc,Result.andThen,Sem.run_pure]
def ZcY(w:GY)(o:Obj):(w.alloc o).heap=w.heap.push o:=rfl
def ZgE(w:GY)(o:Obj):Same w (w.alloc o):=⟨rfl,rfl,rfl⟩
def ZsA(w:GY)(r:Nat)(o:Obj):Same w (w.putObj r o):=⟨rfl,rfl,rfl⟩
def Zc3{n:Nat}:∀(q:U Tmp)(vs vs':U N)(fr m:Fr)(l:GZ N),LR ρ vs vs'->FrR ρ fr n l->Qz (q.zip vs) n fr=some m ->
 FrR ρ m n ((q.zip vs').foldl (fun l (t,a)=>l.setIfInBounds t a) l):=by
 intro q;induction q with
 | nil=>intro vs vs' fr m l hv r h;simp[Qz]at h;subst h;simpa using r
 | cons p q ih=>
   intro vs vs' fr m l hv r h;match vs,vs',hv with
   | [],[],_=>simp[Qz]at h;subst h;simpa using r
   | [],_::_,hv=>exact absurd hv.1 Vd
   | _::_,[],hv=>exact absurd hv.1 Vd
   | v::vs,v'::vs',hv=>
     simp only[List.zip_cons_cons,Qz]at h;cases y:Nat.blt p n<;>rw[y]at h<;>simp only[Cq1,Cq0]at h;·cases h
     ·rw[G5]at y;simp only[List.zip_cons_cons,Gh];have h1:VR ρ v v':=hv.2 0 v v' rfl rfl;have h2:LR ρ vs vs':=⟨by simpa using hv.1,fun i x A a b=>hv.2 (i+1) x A (by simpa using a) (by simpa using b)⟩;exact ih vs vs' _ m _ h2 (r.set y h1) h
def ZEO(h:FR' ρ rd F)(l:F.fn f):f<nfs:=(Zbb h f).1 l
def ZeG{l q:Nat}{B st2:LoopState}{C pd2:O Code}{n:Nat}{p:GZ Tmp}{t:Code}{A:Nat}(r:Rel ρ h w)(y:ρ l=some (q,0))(F:L<=l)
 (m:h.at l=.loop B C fr n p YK t A):∃k:Loop,w.heap[q]? =some (.loop k)/\k.state=B/\k.pending=C/\k.params=p/\k.assign=YK/\k.body=t/\FrR ρ fr n k.tmps/\
   Rel ρ (h.put l (.loop st2 pd2 fr n p YK t A)) (w.putObj q (.loop {k with state:=st2,pending:=pd2}))/\
   Stp L ρ h w ρ (h.put l (.loop st2 pd2 fr n p YK t A)) (w.putObj q (.loop {k with state:=st2,pending:=pd2})):=by
 have D:=r.obj _ _ _ y;rw[m]at D;have⟨_,fn,tmps,df',hw,hfr,hdf,hnf⟩:=D;have x:=(r.dom _ _ _ y).2;refine⟨_,hw,rfl,rfl,rfl,rfl,rfl,hfr,?_⟩;refine Zqg r F (by rw[m];rfl) (ZsA _ _ _) y World.putObj_size (fun k E=>World.putObj_heap_other E) ?_;exact⟨rfl,fn,tmps,df',World.putObj_heap_same x,hfr,hdf,hnf⟩
def Zlk{n:Nat}{l:Nat}{tmps:GZ N}{assign body:Code}{R:Ending->GY->Prop}(hF:F.fn f)(hfn:∃fn,P.funcs[f]? =some fn)
 (h:assign.wpIn (F.inRound l) n P (fun e a1 w1=>e=.normal/\∃w2,(Instr.beginRound l).run P w1=.ok () w2/\body.wpIn (F.inRound l) n P (fun e a w=>∃ch,e=.panic ch/\a.defers=[]/\R (.panicked ch) w) a1 w2) {tmps:=tmps,defers:=[]} w):
 RoundIn F n P l f tmps assign body w R:=by
 refine⟨hF,fun c cs hroom=>?_⟩
 have e0:Frame.round l f tmps assign body .normal=({(default:Frame) with fn:=f,kind:=.normal,roundOf:=some l}:Frame).atR {tmps:=tmps,defers:=[]} [.code assign,.beginRound,.code body]:=by
  simp[Frame.round,Frame.atR]
 generalize hb:({(default:Frame) with fn:=f,kind:=.normal,roundOf:=some l}:Frame)=b at e0;have hk:b.fn=f/\b.kind=.normal/\b.roundOf=some l:=by subst hb;exact⟨rfl,rfl,rfl⟩
 have g1:(F.inRound l).fn b.fn:=by rw[hk.1];exact hF
 have g2:(F.inRound l).room ((c::cs).length+1+n):=hroom;obtain⟨e1,a1,w1,⟨rfl,w2,r1,k2⟩,s1⟩:=h b [.beginRound,.code body] (c::cs) (by rw[hk.2.2];rfl) g1 g2;obtain⟨e2,a2,w3,⟨ch,rfl,hd,hR⟩,todo,s3⟩:=k2 b [] (c::cs) (by rw[hk.2.2];rfl) g1 g2;refine⟨.panicked ch,w3,hR,?_⟩;rw[e0];refine StepsIn.trans s1 (StepsIn.trans (.one (fenced_calm (fr:=b.atR a1 [.beginRound,.code body]) g1 g2 rfl) (stepR_beginRound hk.2.2 r1)) (StepsIn.trans s3 (.one ?_ (step_leave_panicked (fr:= {b.atR a2 todo with mode:=.panicking ch}) ⟨rfl,hd,?_⟩))));·refine fenced_lone (.inl g1) (fun f hf=>?_) (Fence.room_le g2 V6);exfalso;unfold Frame.about at hf;simp[Frame.atR,hd]at hf
 have:({b.atR a2 todo with mode:=.panicking ch}:Frame).fn=f:=hk.1;rw[this];exact hfn
section
variable{C:Cfg}(HI:∀j r,ih j=some r->YW C.X j r)
include HI
theorem Zd7{n:Nat}{l:Nat}{s0:Fs}{ps:GZ Tmp}{bd:Code}(ZY1:s.fr=s0.fr)(h:Qm C ih g n L rd l s=some r)(ZqF:∀ρ w,Rel ρ s0.h w->L<=s0.h.size->L<=l)
 (D:∀ρ a w F,Inv ρ n s0 a w->L<=s0.h.size->FR' ρ rd F->∀fn,fn<nfs->∃y x q t,(Instr.enterLoop fn a.tmps ps YK bd F.round).run C.X.P w=.ok (y,x) q/\t l=some (y,0)/\
   Inv t n s {a with defers:=x++a.defers} q/\Stp L ρ s0.h w t s.h q):
 Zeu C.X (.rangeFunc g ps YK bd) n L rd s0 r:=by
 unfold Qm at h;split at h
 .rename_i gv hg;split at h
  .rename_i f args m
   have hfn:∃g1 first cap fn,gv=.func (.func g1) first cap/\C.X.fns.get g1=some fn/\f=g1/\args=(first.toList++[Value.func (.yield l) #[] #[]]++cap.toList).toArray:=by
    unfold WB at m;split at m
    .split at m;next fnn ZIi=>cases m;exact⟨_,_,_,_,rfl,ZIi,rfl,rfl⟩
     cases m
    .split at m;.exfalso;revert m;generalize Nat.beq _ _=b;cases b<;>simp
     cases m
    cases m
   obtain⟨g1,first,cap,fnn,rfl,ZIi,rfl,rfl⟩:=hfn
   have W:∃e s',r=.code e s':=by
    unfold J8 at h;split at h
    .split at h
     .rename_i st E fr n' T as' bd' df hat;cases B:(st==.busy)<;>rw[B]at h<;>simp only[Cq1,Cq0]at h
      .split at h;.cases h;exact⟨_,_,rfl⟩
       have⟨e,s',e1,_⟩:=XB.1 (HI _ _ h);exact⟨e,s',e1⟩
      cases h
     cases h
    .cases h;exact⟨_,_,rfl⟩
    cases h
   obtain⟨e,s',rfl⟩:=W;refine⟨e,s',rfl,fun ρ a w F ZA I S=>wpIn_rangeFunc fun fn ZTO=>?_⟩;have⟨y,x,q,t,he,hl1,hi1,st1⟩:=D ρ a w F I ZA S fn (ZEO S ZTO)
   have hgv:VR t (.func (.func f) first cap) (a.eval g):=by
    have:=KJ I.fr _ _ (by rw[ZY1]at hg;exact hg);exact this.mono st1.ext
   generalize hgx:a.eval g=gx at hgv;cases hgv with|func _ _ _ p cap' hy hx1 hx2 h1 h2=>
     have hv:UE t (first.toList++[Value.func (.yield l) #[] #[]]++cap.toList).toArray (p++#[Value.func (.yield y) #[] #[]]++cap'):=by
      have e1:LR t first.toList p.toList:=UE.list ⟨hx1,h1⟩;have e2:LR t cap.toList cap'.toList:=UE.list ⟨hx2,h2⟩;have e3:LR t [.func (.yield l) #[] #[]] [.func (.yield y) #[] #[]]:=LR.cons (.yield hl1) LR.nil;have:=((e1.append e3).append e2).arr;have e:(p.toList++[Value.func (.yield y) #[] #[]]++cap'.toList).toArray=p++#[Value.func (.yield y) #[] #[]]++cap':=by apply Array.toList_inj.1;simp
      rwa[e]at this
     refine⟨y,x,q,{target:=.fn (.func f) cap',args:=p++#[Value.func (.yield y) #[] #[]]},q,f,p++#[Value.func (.yield y) #[] #[]]++cap',q,he,?_,fun f' hab=>(Zbb S f').2 (by simp only[Target.leads]at hab;cases hab;exact Zi3 ZIi),?_,fun hh=>?_,?_⟩;.have e:∀v,a.eval (.const v)=v:=fun _=>rfl;simp only[resolve,hgx,Deferred.ofValue];simp[e]
     .rw[<-ZaD (w:=q) (args:=p++#[Value.func (.yield y) #[] #[]]++cap') ZIi];simp[invoke]
     .rw[Zby S]at hh;cases hh
     unfold J8 at h;split at h
     .rename_i rv h2 hc;have Q:=HI _ _ hc;have Zof:=KK ZA st1.size;refine(JR S (Q t _ q Zof hi1.rel hv)).mono ?_;rintro e2 w2 ⟨A,K,G,Zfg⟩;cases K with|ret V=>
        split at h
        .rename_i st E fr n' T as' bd' df hat;cases B:(st==.busy)<;>rw[B]at h<;>simp only[Cq1,Cq0]at h
         .have hl2:=(Zfg.ext _ _ hl1).1;have⟨k,k1,k2,k3,k4,k5,k6,k7,k8,k9⟩:=ZeG (st2:=.exhausted) (pd2:=E) (L:=L) G hl2 (ZqF ρ w I.rel ZA) hat
          have hend:(Instr.endLoop y).run C.X.P w2=.ok E (w2.putObj y (.loop {k with state:=.exhausted,pending:=E})):=by
           rw[run_endLoop k1 (by rw[k2];intro hb;rw[hb]at B;cases B),<-k3]
          have hi2:Inv A n {s with h:=h2.put l (.loop .exhausted E fr n' T as' bd' df)} {a with defers:=x++a.defers} (w2.putObj y (.loop {k with state:=.exhausted,pending:=E})):=
           ⟨k8,hi1.fr.mono Zfg.ext,hi1.ds.mono Zfg.ext⟩
          have ZHR:=(st1.trans I.rel.lt Zfg).trans I.rel.lt k9;refine⟨E,_,hend,?_⟩;cases E with
          | none=>
            cases h;exact⟨A,.normal,hi2,ZHR⟩
          | some c=>
            have⟨_,_,e1,kc⟩:=XB.1 (HI _ _ h);cases e1;exact wpIn_mono (kc A _ _ F (KK ZA ZHR.size) hi2 (S.mono ZHR.ext)) fun _ _ _ hp=>Qx.trans I.rel.lt ZHR hp
         cases h
        cases h
     .rename_i v h2 hc;cases h;have Q:=HI _ _ hc;have Zof:=KK ZA st1.size;refine(JR S (Q t _ q Zof hi1.rel hv)).mono ?_;rintro e2 w2 ⟨A,K,G,Zfg⟩;cases K with|Yq V=>exact⟨A,.panic V,⟨G,hi1.fr.mono Zfg.ext,hi1.ds.mono Zfg.ext⟩,st1.trans I.rel.lt Zfg⟩
     cases h
  cases h
 cases h
theorem Ju{t:GZ Tmp}{x:Code}{n:Nat}(h:Zh2 C ih g t YK x n L rd s=some r):Zeu C.X (.rangeFunc g t YK x) n L rd s r:=by
 unfold Zh2 at h;split at h
 ·refine Zd7 HI (s0:=s) (by rfl) h (fun ρ w _ hw=>by omega) fun ρ a w F p G T fn y=>?_
  have S:F=base:=T;subst S;obtain⟨p1,B⟩:=Zdw (L:=L) (A:=.deferred) (o:=.deferred (some [])) (l:=(0,0)) p.rel G (ZgE w _) (ZcY w _) ⟨rfl,World.alloc_heap_new w _⟩;have q:=Ren.add_same ρ s.h.size (w.heap.size,0) (0,0);generalize Z4v:ρ.add s.h.size (w.heap.size,0) (0,0)=ρ1 at p1 B q;have D:(w.alloc (.deferred (some []))).heap.size=w.heap.size+1:=by rw[ZcY];simp
  have m:ρ1.le (ρ1.add (s.h.push .deferred).size ((w.alloc (.deferred (some []))).heap.size,0) (0,0)):=Ren.ZbK p1.fresh
  obtain⟨K,I⟩:=Zdw (L:=L) (A:=.loop .ready none s.fr n t YK x s.h.size) (l:=(0,0))
   (o:=.loop {state:=.ready,pending:=none,fn,tmps:=a.tmps,params:=t,assign:=YK,body:=x,defers:=w.heap.size}) p1 (KK G B.size) (ZgE _ _) (ZcY _ _)
   ⟨rfl,fn,a.tmps,w.heap.size,World.alloc_heap_new _ _,(p.fr.mono B.ext).mono m,(m _ _ q).1,y⟩
  refine⟨w.heap.size+1,_,_,_,run_enterLoop_outer fn a.tmps t YK x,?_,⟨K,(p.fr.mono B.ext).mono m,?_⟩,B.trans p.rel.lt I⟩
  ·have:=Ren.add_same ρ1 (s.h.push .deferred).size ((w.alloc (.deferred (some []))).heap.size,0) (0,0);rw[D]at this
   simpa[D]using this
  exact .mark (m _ _ q).1 ((p.ds.mono B.ext).mono m)
 rename_i l;split at h
 ·rename_i st pd fr n' W as' bd' df Q;refine Zd7 HI (s0:=s) (by rfl) h (fun ρ w _ hw=>hw) fun ρ a w F p G T fn y=>?_
  obtain⟨l',P,rfl⟩:=T;have V:=p.rel.obj _ _ _ P;rw[Q]at V;obtain⟨_,fn0,ZKU,E,hw,hfr,q,_⟩:=V;have m:ρ.le (ρ.add s.h.size (w.heap.size,0) (0,0)):=Ren.ZbK p.rel.fresh
  obtain⟨K,I⟩:=Zdw (L:=L) (A:=.loop .ready none s.fr n t YK x df) (l:=(0,0))
   (o:=.loop {state:=.ready,pending:=none,fn,tmps:=a.tmps,params:=t,assign:=YK,body:=x,defers:=E}) p.rel G (ZgE _ _) (ZcY _ _)
   ⟨rfl,fn,a.tmps,E,World.alloc_heap_new _ _,p.fr.mono m,(m _ _ q).1,y⟩
  refine⟨w.heap.size,[],_,_,run_enterLoop_inner fn a.tmps t YK x hw,?_,⟨K,p.fr.mono m,p.ds.mono m⟩,I⟩;exact Ren.add_same ρ s.h.size (w.heap.size,0) (0,0)
 cases h
theorem KO{l:Nat}(K:ZcO ih l args L h=some r):YW C.X (.round l args L h) r:=by
 unfold ZcO at K;split at K
 .rename_i st0 pd0 fr n ps YK bd df0 hat;cases hb:(Nat.ble L l&&Nat.beq args.toList.length ps.toList.length)<;>rw[hb]at K<;>simp only[Cq1,Cq0]at K;.cases K
  rw[Ba0]at hb;have ZqF:=Nl0 hb.1;split at K
  .rename_i Q T;have⟨e1,s1,ha,hk⟩:=JX K;have⟨_,_,e0,ka⟩:=XB.1 (HI _ _ ha);cases e0;unfold Ke at hk;split at hk
   .split at hk
    .rename_i S Xk n2 ps2 as2 bd2 df2 ZDV;have⟨e2,s2,hb2,hk2⟩:=JX hk;have⟨_,_,e0,kb⟩:=XB.1 (HI _ _ hb2);cases e0;unfold Jp at hk2;split at hk2
     .rename_i st3 pd3 fr3 n3 ps3 as3 bd3 df3 ZN4;by_cases hp:∃v0,e2=.panic v0
      .obtain⟨v0,rfl⟩:=hp;dsimp only at hk2;split at hk2
       .rename_i hds;cases hk2;intro ρ F k m w ZA G hv hl hw
        have hkk:k.params=ps/\k.assign=YK/\k.body=bd/\FrR ρ fr n k.tmps/\k.fn<nfs:=by
         have ho:=G.obj _ _ _ hl;rw[hat]at ho;have⟨_,fn0,ZKU,df',hw',A,hdf,x⟩:=ho;rw[hw]at hw';cases hw';exact⟨rfl,rfl,rfl,A,x⟩
        obtain⟨rfl,rfl,rfl,A,x⟩:=hkk;have hfn:∃fn,C.X.P.funcs[k.fn]? =some fn:=⟨_,Gn (by rw[C.X.sz];exact x)⟩;refine Zlk x hfn ?_
        have hi:Inv ρ n {fr:=Q,ds:=[],h:=h} {tmps:=(k.params.zip m).foldl (fun tmps (t,a)=>tmps.setIfInBounds t a) k.tmps,defers:=[]} w:=by
         refine⟨G,?_,.nil⟩;have:=Zc3 k.params.toList args.toList m.toList fr Q k.tmps (UE.list hv) A T;rw[<-Array.foldl_toList,Array.toList_zip];exact this
        have hF:FR' ρ (some l) (base.inRound F):=⟨F,hl,rfl⟩;refine wpIn_mono (ka ρ _ w _ ZA hi hF) ?_;rintro x1 a1 w1 ⟨D,he1,y,E⟩;cases he1;have B:=(E.ext _ _ hl).1;have⟨k1,q1,q2,q3,q4,q5,q6,q7,q8,q9⟩:=ZeG (st2:=.busy) (pd2:=S) (L:=L) y.rel B ZqF ZDV;refine⟨rfl,_,run_beginRound q1 q2,?_⟩;have ZDv:({k1 with state:=.busy}:Loop)= {k1 with state:=.busy,pending:=S}:=by rw[<-q3]
        rw[ZDv];have ZN0:Inv D n {s1 with h:=s1.h.put l (.loop .busy S Xk n2 ps2 as2 bd2 df2)} a1 (w1.putObj F (.loop {k1 with state:=.busy,pending:=S})):=⟨q8,y.fr,y.ds⟩
        have p:=E.trans G.lt q9;refine wpIn_mono (kb D _ _ _ (KK ZA p.size) ZN0 ⟨F,B,rfl⟩) ?_;rintro x2 a2 w2 ⟨V,he2,I,st2⟩;cases he2 with|panic hv2=>
          have hd:=I.ds;rw[hds]at hd;refine⟨_,rfl,(by generalize a2.defers=dd at hd;cases hd;rfl),V,.Yq hv2,I.rel,p.trans G.lt st2⟩
       cases hk2
      have hfin:∃v h',r=.fin (.ret v) h':=by
       split at hk2<;>first|exact(hp ⟨_,rfl⟩).elim | (cases hk2;exact⟨_,_,rfl⟩) | cases hk2
      obtain⟨v,h',rfl⟩:=hfin;intro ρ F k m w ZA G hv hl hw
      have hkk:k.params=ps/\k.assign=YK/\k.body=bd/\FrR ρ fr n k.tmps/\k.fn<nfs:=by
       have ho:=G.obj _ _ _ hl;rw[hat]at ho;have⟨_,fn0,ZKU,df',hw',A,hdf,x⟩:=ho;rw[hw]at hw';cases hw';exact⟨rfl,rfl,rfl,A,x⟩
      obtain⟨rfl,rfl,rfl,A,x⟩:=hkk;refine roundIn_of_wpIn x ?_
      have hi:Inv ρ n {fr:=Q,ds:=[],h:=h} {tmps:=(k.params.zip m).foldl (fun tmps (t,a)=>tmps.setIfInBounds t a) k.tmps,defers:=[]} w:=by
       refine⟨G,?_,.nil⟩;have:=Zc3 k.params.toList args.toList m.toList fr Q k.tmps (UE.list hv) A T;rw[<-Array.foldl_toList,Array.toList_zip];exact this
      have hF:FR' ρ (some l) (base.inRound F):=⟨F,hl,rfl⟩;refine wpIn_mono (ka ρ _ w _ ZA hi hF) ?_;rintro x1 a1 w1 ⟨D,he1,y,E⟩;cases he1;have B:=(E.ext _ _ hl).1;have⟨k1,q1,q2,q3,q4,q5,q6,q7,q8,q9⟩:=ZeG (st2:=.busy) (pd2:=S) (L:=L) y.rel B ZqF ZDV;refine⟨_,run_beginRound q1 q2,?_⟩;have ZDv:({k1 with state:=.busy}:Loop)= {k1 with state:=.busy,pending:=S}:=by rw[<-q3]
      rw[ZDv];have ZN0:Inv D n {s1 with h:=s1.h.put l (.loop .busy S Xk n2 ps2 as2 bd2 df2)} a1 (w1.putObj F (.loop {k1 with state:=.busy,pending:=S})):=⟨q8,y.fr,y.ds⟩;have p:=E.trans G.lt q9;refine wpIn_mono (kb D _ _ _ (KK ZA p.size) ZN0 ⟨F,B,rfl⟩) ?_;rintro x2 a2 w2 ⟨V,he2,I,st2⟩;have hl2:=(st2.ext _ _ B).1;have st2':=p.trans G.lt st2
      have fin:∀(W:LoopState)(q:O Code)(b:Z),v=.bool b->h'=s2.h.put l (.loop W q fr3 n3 ps3 as3 bd3 df3)->b=q.isNone->W=(if q.isNone then .ready else .done) ->
       ∃v' w',(Instr.endRound F q).run C.X.P w2=.ok v' w'/\Kk L ρ h w (.ret v) h' (.returned v') w':=by
       rintro W q b rfl rfl rfl rfl;have⟨k2,r1,r2,r3,r4,r5,r6,r7,r8,r9⟩:=ZeG (st2:=if q.isNone then .ready else .done) (pd2:=q) (L:=L) I.rel hl2 ZqF ZN4;exact⟨_,_,run_endRound q r1,V,.ret (.bool _),r8,st2'.trans G.lt r9⟩
      cases he2 with|normal=>cases hk2;exact fin .ready none true rfl rfl rfl rfl|ret=>cases hk2;exact fin .done (some .ret) false rfl rfl rfl rfl|exit id=>cases hk2;exact fin .done (some (.exit id)) false rfl rfl rfl rfl|goto id=>cases hk2;exact fin .done (some (.goto id)) false rfl rfl rfl rfl|panic hv=>exact(hp ⟨_,rfl⟩).elim
     cases hk2
    cases hk
   cases hk
  cases K
 cases K
end
def ZGs(C:Cfg)(ih:Jz->O Xr):Prop:=∀n L rd (V:GZ Oper) s s',C.draw ih n L rd V.toList s=some s' ->
 ∀id ρ a w F,L<=s.h.size->Inv ρ n s a w->FR' ρ rd F->(Code.region id V true).wpIn F 0 C.X.P (Qx L n ρ s.h w .normal s') a w
def Zrq{C:Cfg}(Zti:ZGs C ih)(t:∀j r,ih j=some r->YW C.X j r){n:Nat}(h:Zam C ih c n L rd s=some r):Zeu C.X c n L rd s r:=by
 cases c with
 | skip=>cases h;exact⟨_,_,rfl,fun ρ a w F q m p=>wpIn_skip ⟨ρ,.normal,m,Stp.refl _ _ _ _⟩⟩
 | label l=>cases h;exact⟨_,_,rfl,fun ρ a w F q m p=>wpIn_label ⟨ρ,.normal,m,Stp.refl _ _ _ _⟩⟩
 | ret=>cases h;exact⟨_,_,rfl,fun ρ a w F q m p=>wpIn_ret ⟨ρ,.ret,m,Stp.refl _ _ _ _⟩⟩
 | exit id=>cases h;exact⟨_,_,rfl,fun ρ a w F q m p=>wpIn_exit ⟨ρ,.exit id,m,Stp.refl _ _ _ _⟩⟩
 | goto l=>cases h;exact⟨_,_,rfl,fun ρ a w F q m p=>wpIn_goto ⟨ρ,.goto l,m,Stp.refl _ _ _ _⟩⟩
 | seq a b=>exact Zuo t h
 | cond c a b=>exact Zrp t h
 | block id c=>exact Zos t h
 | scope c=>exact Zop t h
 | rangeFunc g A YK B=>exact Ju t h
 | refuse _=>cases h
 | loop c=>
   obtain⟨e,s',rfl,k⟩:=Zb4.1 (t _ _ h);exact⟨e,s',rfl,fun ρ a w F q m p=>Zdm (k ρ a w F q m p)⟩
 | region id V d=>
   cases d with
   | true=>
     simp[Zam,Cq1,Zro]at h;split at h;next s' x=>cases h;exact⟨_,_,rfl,fun ρ a w F q m p=>Zti n L rd V s s' x id ρ a w F q m p⟩
     cases h
   | false=>
     simp[Zam,Cq0,Zh1]at h;split at h;next e s' x=>cases h;exact⟨_,_,rfl,fun ρ a w F q m p=>wpIn_region_list (Znu t _ V.toList s s' e x m q p (fun _ _ _ y=>y))⟩
     cases h
def ZMf(C:Cfg)(ih:Jz->O Xr):Prop:=∀c n L rd s r h,ZsS c s=some h->Zm8 C ih h c n L rd s=some r->Zxz C.X c n L rd s r
def ZAM{C:Cfg}(q:ZMf C ih)(Zti:ZGs C ih)(p:∀j r,ih j=some r->YW C.X j r){j:Jz}(m:Jy C ih j=some r):YW C.X j r:=by
 cases j with
 | code c n L rd s=>exact XB.2 (Zrq Zti p m)
 | loop c n L rd s=>
   have m:Zh4 C ih c n L rd s=some r:=m;unfold Zh4 at m;split at m
   .rename_i y t;split at m;next B A=>cases m;exact Zb4.2 (q c n L rd s r y t A)
    exact Zb4.2 (Zh3 p m)
   exact Zb4.2 (Zh3 p m)
 | call f args L h=>exact Zor p m
 | round l args L h=>exact KO p m
 | dcall f args x L h=>exact ZfC p m
 | Qn c n L x s=>exact QO.2 (Ub p m)
 | leave fn L x s=>exact Ua p m
structure Y2(L:Nat)(h h':H):Prop where
 size:h.size<=h'.size
 keep:∀i,i<L->h'.at i=h.at i
 own:∀i,i<h.size->(h'.at i).own=true->(h.at i).own=true
 live:∀i,i<h.size->(h'.at i).live=true->(h.at i).live=true
def Y2.refl(L:Nat)(h:H):Y2 L h h:=⟨K2 _,fun _ _=>rfl,fun _ _ x=>x,fun _ _ x=>x⟩
def Y2.trans(a:Y2 L h h1)(b:Y2 L h1 h2):Y2 L h h2:=
 ⟨KK a.size b.size,fun i l=>(b.keep i l).trans (a.keep i l),fun i l x=>a.own i l (b.own i (J1 l a.size) x),
  fun i l x=>a.live i l (b.live i (J1 l a.size) x)⟩
def ZaO(A:YN)(hw:L<=h.size):Y2 L h (h.push A):=by
 have e:∀i,i<h.size->(h.push A).at i=h.at i:=fun i l=>by rw[H.QZ,if_neg V6]
 exact⟨by simp,fun i l=>e i V6,fun i l x=>by rwa[e i l]at x,fun i l x=>by rwa[e i l]at x⟩
def Uw{l:Nat}{A:YN}(hw:L<=l)(q:(h.at l).own=true):Y2 L h (h.put l A):=by
 have e:∀i,i≠l->(h.put l A).at i=h.at i:=fun i p=>by rw[H.QC,if_neg (by simp[p])]
 refine⟨by simp,fun i p=>e i V6,fun i p x=>?_,fun i p x=>?_⟩
 .by_cases m:i=l;.subst m;exact q
  rwa[e i m]at x
 by_cases m:i=l;.subst m;exact WT q
 rwa[e i m]at x
def Zhd(hw:L<=h.size)(he:E.apply L h=some h'):Y2 L h h':=by
 cases E with
 | none=>cases he;exact Y2.refl _ _
 | new A=>
   simp only[Eff.apply]at he;cases l:A.own<;>rw[l]at he<;>simp only[Cq1,Cq0]at he;.cases he
   cases he;exact ZaO A hw
 | upd i A=>
   simp only[Eff.apply]at he;cases l:(Nat.ble L i&&(h.at i).own)<;>rw[l]at he<;>simp only[Cq1,Cq0]at he;.cases he
   cases he;rw[Ba0]at l;exact Uw (Nl0 l.1) l.2
 | grow i A=>
   simp only[Eff.apply]at he;cases l:(Nat.ble L i&&(h.at i).own&&A.own)<;>rw[l]at he<;>simp only[Cq1,Cq0]at he;.cases he
   cases he;rw[Ba0,Ba0]at l;exact(Uw (Nl0 l.1.1) l.1.2).trans (ZaO A hw)
def UI:Jz->Xr->Prop
 | .code _ _ L _ s,r=>∃e s',r=.code e s'/\(L<=s.h.size->Y2 L s.h s'.h)
 | .loop _ _ L _ s,r=>∃e s',r=.code e s'/\(L<=s.h.size->Y2 L s.h s'.h)
 | .call _ _ L h,r=>∃e l,r=.fin e l/\(L<=h.size->Y2 L h l)
 | .round _ _ L h,r=>∃e l,r=.fin e l/\(L<=h.size->Y2 L h l)
 | .leave _ L _ s,r=>∃e l,r=.fin e l/\(L<=s.h.size->Y2 L s.h l)
 | .dcall _ _ _ L h,r=>∃e l,r=.Zfi e l/\(L<=h.size->Y2 L h l)
 | .Qn _ _ L _ s,r=>∃e m s',r=.Qn e m s'/\(L<=s.h.size->Y2 L s.h s'.h)
def Y2.next(hw:L<=h.size)(a:Y2 L h h1)(b:L<=h1.size->Y2 L h1 h2):Y2 L h h2:=a.trans (b (KK hw a.size))
def ZjE{n:Nat}{l:O Tmp}{v:N}(h:ZjF n s l v=some s'):s'.h=s.h:=by
 rw[ZkS]at h;split at h;.cases h;rfl
 rename_i d;cases m:(Nat.blt d n&&allowed s.wr d)<;>rw[m]at h<;>simp only[Cq1,Cq0]at h;.cases h
 cases h;rfl
section
variable(HI:∀j r,ih j=some r->UI j r)
include HI
theorem UH{e:Kn}(l:ih (.call f args L h)=some (.fin e h'))(hw:L<=h.size):Y2 L h h':=by have⟨_,_,e1,k⟩:=HI _ _ l;cases e1;exact k hw
theorem Zf2{l:Nat}{e:Kn}(m:ih (.round l args L h)=some (.fin e h'))(hw:L<=h.size):Y2 L h h':=by have⟨_,_,e1,k⟩:=HI _ _ m;cases e1;exact k hw
theorem KH{n:Nat}{e:XX}(l:ih (.code c n L rd s)=some (.code e s'))(hw:L<=s.h.size):Y2 L s.h s'.h:=by have⟨_,_,e1,k⟩:=HI _ _ l;cases e1;exact k hw
theorem Wo{n:Nat}{m l:PM}{e:XX}(p:ih (.Qn c n L m s)=some (.Qn e l s'))(hw:L<=s.h.size):Y2 L s.h s'.h:=by have⟨_,_,_,e1,k⟩:=HI _ _ p;cases e1;exact k hw
theorem ZwT{m l:PM}(p:ih (.dcall f args m L h)=some (.Zfi l h'))(hw:L<=h.size):Y2 L h h':=by have⟨_,_,e1,k⟩:=HI _ _ p;cases e1;exact k hw
theorem Zxc{Qq:GX->Z}{n:Nat}{p:O Tmp}{y:AN}{x:H}{e:XX}(h:Zay Qq ih n L rd p s y x=some (e,s'))(hw:L<=x.size):Y2 L x s'.h:=by
 have m:∀{s1:Fs}{v:N},(match ZjF n s1 p v with|some s=>some (XX.normal,s) | none=>none)=some (e,s')->s'.h=s1.h:=by
  intro s1 v t;split at t;next s2 r=>cases t;exact ZjE r
  cases t
 unfold Zay at h;dsimp only[Uo]at h;split at h;.rw[m h];exact Y2.refl _ _
 .rw[m h];exact Y2.refl _ _
 .rename_i f args;cases r:Qq f<;>rw[r]at h<;>simp only[Cq1,Cq0]at h
  .split at h;next v h2 l=>rw[m h];exact UH HI l hw
   next v h2 l=>cases h;exact UH HI l hw
   cases h
  split at h
  .rename_i v h2 l;cases q:plain v<;>rw[q]at h<;>simp only[Cq1,Cq0]at h;.cases h
   rw[m h];exact Y2.refl _ _
  cases h
 .split at h;next v h2 l=>rw[m h];exact Zf2 HI l hw
  next v h2 l=>cases h;exact Zf2 HI l hw
  cases h
 .split at h;.rw[m h];exact Y2.refl _ _
  cases h
 .cases h
 cases h;exact Y2.refl _ _
theorem ZjG{Qq:GX->Z}{n:Nat}:∀(l:U Oper)(s s':Fs)(e:XX),ZoB X Qq ih n L rd V l s=some (e,s')->L<=s.h.size->Y2 L s.h s'.h:=by
 have step:∀(o:Oper)(s s':Fs)(e:XX),UN X Qq ih n L rd V o s=some (e,s')->L<=s.h.size->Y2 L s.h s'.h:=by
  intro o s s' e h hw;unfold UN at h;cases q:okG V o s.fr<;>rw[q]at h<;>simp only[G9,Q1,Cq1,Cq0]at h;.cases h
  cases p:XD V o s.fr<;>rw[p]at h<;>simp only[Cq1,Cq0]at h
  .split at h;next s2 r=>cases h;rw[ZjE r];exact Y2.refl _ _
   cases h
  split at h
  .split at h;next x E y h1 t=>exact(Zhd hw t).next hw (Zxc HI h)
   cases h
  cases h
 intro l
 induction l with|nil=>intro s s' e h hw;cases h;exact Y2.refl _ _|cons o l m=>
   intro s s' e h hw;simp only[ZoB]at h;split at h;next s1 h1=>exact(step o s s1 _ h1 hw).next hw (m s1 s' e h)
   next v s1 h1=>cases h;exact step o s s' _ h1 hw
   cases h
theorem Zur{C:Cfg}{l:MI}{n:Nat}(h:Zbg C ih l n L rd s=some r):∃e s',r=.code e s'/\(L<=s.h.size->Y2 L s.h s'.h):=by
 unfold Zbg at h;split at h;next s1 h1=>obtain⟨e,s2,rfl,k⟩:=HI _ _ h;exact⟨e,s2,rfl,fun hw=>(ZjG HI _ _ _ _ h1 hw).next hw k⟩
 next e s1 _ h1=>cases h;exact⟨_,_,rfl,fun hw=>ZjG HI _ _ _ _ h1 hw⟩
 cases h
omit HI in
theorem ZlJ{c:Code}{s:Fs}{mi:MI}(h:ZsS c s=some mi):c=.seq (.region mi.id mi.ops false) mi.rest/\mi.ops.toList=mi.o::mi.l/\mi.o.op=.next (.tmp mi.t) false/\mi.o.guard=none/\
 s.fr.at mi.t=(V5 mi.it)/\s.h.at mi.it=.iter mi.m mi.since mi.QW none/\s.h.at mi.m=.map mi.es mi.clock:=by
 unfold ZsS at h;split at h
 ·unfold ZC5 at h;split at h
  ·rename_i o l e1;split at h
   ·rename_i t e2 e3;unfold ZC4 at h;split at h
    ·rename_i it e4;split at h
     ·rename_i m since QW e5;split at h
      ·rename_i es clock e6;cases h;exact⟨rfl,e1,e2,e3,e4,e5,e6⟩
      ·cases h
     ·cases h
    ·cases h
   ·cases h
  ·cases h
 ·cases h
theorem ZwM{C:Cfg}{l:MI}{n:Nat}(p:ZsS c s=some l)(h:Zm8 C ih l c n L rd s=some r):∃e s',r=.code e s'/\(L<=s.h.size->Y2 L s.h s'.h):=by
 have⟨_,_,_,_,_,hit,_⟩:=ZlJ p;unfold Zm8 Zrl at h;generalize q:Zo3 l n L ((Zjt c).filter (allowed s.wr))=b at h;cases b with|false=>cases h|true=>
   have⟨_,_,_,Zv8,_,_⟩:=Zf7 q;simp[Cq1]at h;generalize ZcB C ih l n rd _ _ s l.es=b2 at h;cases b2 with|false=>cases h|true=>
     simp[Cq1]at h;split at h;.rename_i e s2 h2;have⟨_,_,e1,k⟩:=Zur HI h2;cases e1;have m:L<=s.h.size->Y2 L s.h s2.h:=fun hw=>(Uw Zv8 (by rw[hit];rfl)).next hw k;cases e with|normal=>cases h|exit _=>cases h;exact⟨_,_,rfl,m⟩|goto _=>cases h;exact⟨_,_,rfl,m⟩|ret=>cases h;exact⟨_,_,rfl,m⟩|panic _=>cases h;exact⟨_,_,rfl,m⟩
     cases h
theorem Ze7{n:Nat}{k:XX->Fs->O Xr}(h:Zie k (ih (.code c n L rd s))=some r)
 (m:∀e s1 r,k e s1=some r->∃l s',r=.code l s'/\(L<=s1.h.size->Y2 L s1.h s'.h)):∃e s',r=.code e s'/\(L<=s.h.size->Y2 L s.h s'.h):=by
 have⟨e,s1,h1,h2⟩:=JX h;obtain⟨l,s',rfl,k2⟩:=m e s1 r h2;exact⟨l,s',rfl,fun hw=>(KH HI h1 hw).next hw k2⟩
omit HI in
theorem here{L:Nat}{e:XX}{s:Fs}{r:Xr}(h:some (.code e s)=some r):∃e' s',r=.code e' s'/\(L<=s.h.size->Y2 L s.h s'.h):=by
 cases h;exact⟨_,_,rfl,fun _=>Y2.refl _ _⟩
theorem Zoq{n:Nat}{l:Nat}(h:J8 ih n L rd l s (ih (.call f args L s.h))=some r):
 ∃e s',r=.code e s'/\(L<=s.h.size->L<=l->Y2 L s.h s'.h):=by
 unfold J8 at h;split at h
 .rename_i v h2 p;split at h
  .rename_i x A fr B y YK D C m;cases q:(x==LoopState.busy)<;>rw[q]at h<;>simp only[Cq1,Cq0]at h
   .split at h;.cases h;exact⟨_,_,rfl,fun hw t=>(UH HI p hw).trans (Uw t (by rw[m];rfl))⟩
    obtain⟨e,s',rfl,k⟩:=HI _ _ h;exact⟨_,_,rfl,fun hw t=>((UH HI p hw).trans (Uw t (by rw[m];rfl))).next hw k⟩
   cases h
  cases h
 next v h2 p=>cases h;exact⟨_,_,rfl,fun hw _=>UH HI p hw⟩
 cases h
theorem ZfB{C:Cfg}{n:Nat}{l:Nat}(h:Qm C ih g n L rd l s=some r):
 ∃e s',r=.code e s'/\(L<=s.h.size->L<=l->Y2 L s.h s'.h):=by
 unfold Qm at h;split at h
 .split at h;.exact Zoq HI h
  cases h
 cases h
end
def ZnL(C:Cfg):Prop:=∀ih,(∀j r,ih j=some r->UI j r)->∀n L rd V s s',C.draw ih n L rd V s=some s'->L<=s.h.size->Y2 L s.h s'.h
def ZFp{C:Cfg}(hd:ZnL C)(m:∀j r,ih j=some r->UI j r)(j:Jz)(r:Xr)(h:Jy C ih j=some r):UI j r:=by
 cases j with
 | code c n L rd s=>
   simp only[Jy]at h;cases c with
   | skip=>exact here h
   | label l=>exact here h
   | ret=>exact here h
   | exit id=>exact here h
   | goto l=>exact here h
   | seq a b=>
     refine Ze7 m h fun e s1 r q=>?_;cases e with|normal=>exact m _ _ q|exit _=>exact here q|goto _=>exact here q|ret=>exact here q|panic _=>exact here q
   | cond c a b=>
     simp only[Zam,Zna]at h;split at h;.rename_i t _;cases t with|true=>exact m (.code a n L rd s) _ h|false=>exact m (.code b n L rd s) _ h
     cases h
   | block id c=>
     refine Ze7 m h fun e s1 r q=>?_;cases e with
     | exit k=>
       dsimp only at q;cases D:Nat.beq k id<;>rw[D]at q<;>exact here q
     | normal=>exact here q
     | goto _=>exact here q
     | ret=>exact here q
     | panic _=>exact here q
   | scope c=>
     refine Ze7 m h fun e s1 r q=>?_;cases e with|exit k=>exact here q|normal=>exact here q|goto _=>cases q|ret=>exact here q|panic _=>exact here q
   | loop c=>
     obtain⟨e,s',rfl,k⟩:=m _ _ h;exact⟨e,s',rfl,k⟩
   | refuse _=>cases h
   | rangeFunc g ps YK bd=>
     simp only[Zam,Zh2]at h;split at h;.obtain⟨e,s',rfl,k⟩:=ZfB m h;exact⟨e,s',rfl,fun hw=>((ZaO _ hw).trans (ZaO _ Vf)).next hw (fun x=>k x V6)⟩
     split at h;.obtain⟨e,s',rfl,k⟩:=ZfB m h;exact⟨e,s',rfl,fun hw=>(ZaO _ hw).next hw (fun x=>k x hw)⟩
     cases h
   | region id V d=>
     cases d with
     | true=>
       simp only[Zam,Cq1,Zro]at h;split at h;next s' I=>cases h;exact⟨_,_,rfl,fun hw=>hd ih m n L rd _ s s' I hw⟩
       cases h
     | false=>
       simp only[Zam,Cq0,Zh1]at h;split at h;next e s' I=>cases h;exact⟨_,_,rfl,fun hw=>ZjG m _ _ _ _ I hw⟩
       cases h
 | loop c n L rd s=>
   simp only[Jy,Zh4]at h
   have hL:Zm9 ih c n L rd s=some r->UI (.loop c n L rd s) r:=by
    intro h;refine Ze7 m h fun e s1 r q=>?_;cases e with|normal=>exact m _ _ q|exit _=>exact here q|goto _=>exact here q|ret=>exact here q|panic _=>exact here q
   split at h
   .rename_i mi hmi;split at h;next r' hr=>cases h;exact ZwM m hmi hr
    exact hL h
   exact hL h
 | call f args L G=>
   simp only[Jy,ZkO]at h;split at h
   .split at h;.cases h;exact⟨_,_,rfl,fun _=>Y2.refl _ _⟩
    cases h
   split at h;.cases h;exact⟨_,_,rfl,fun hw=>ZaO _ hw⟩
   unfold Zrs at h;split at h
   .rename_i fn hfn;split at h
    .rename_i c D;cases hn:Nat.ble args.toList.length fn.ntmps<;>rw[hn]at h<;>simp only[Cq1,Cq0]at h;.cases h
     have⟨e,s1,h1,h2⟩:=JX h;split at h2;next F hpm=>obtain⟨e,P,rfl,k⟩:=m _ _ h2;exact⟨e,P,rfl,fun hw=>(KH m h1 hw).next hw k⟩
     cases h2
    cases h
   cases h
 | leave fn L F s=>
   simp only[Jy,U4]at h;split at h
   .split at h
    .split at h;.cases h;exact⟨_,_,rfl,fun _=>Y2.refl _ _⟩
     cases h
    .cases h;exact⟨_,_,rfl,fun _=>Y2.refl _ _⟩
    cases h
   split at h
   .split at h
    .rename_i r0 _ _ K;cases D:Nat.ble L r0<;>rw[D]at h<;>simp only[Cq1,Cq0]at h;.cases h
     obtain⟨e,P,rfl,k⟩:=m _ _ h;exact⟨e,P,rfl,fun hw=>(Uw (Nl0 D) (by rw[K];rfl)).next hw k⟩
    cases h
   .split at h
    .split at h;next Q P hc=>obtain⟨e,h2,rfl,k⟩:=m _ _ h;exact⟨e,h2,rfl,fun hw=>(ZwT m hc hw).next hw k⟩
     cases h
    cases h
   cases h
 | dcall f args F L G=>
   simp only[Jy,Zh6]at h;split at h
   .rename_i fn hfn;split at h
    .rename_i c D;cases hn:Nat.ble args.toList.length fn.ntmps<;>rw[hn]at h<;>simp only[Cq1,Cq0]at h;.cases h
     have⟨e,pm1,s1,h1,h2⟩:=ZkP h;split at h2;.cases h2;exact⟨_,_,rfl,fun hw=>Wo m h1 hw⟩
     .cases h2;exact⟨_,_,rfl,fun hw=>Wo m h1 hw⟩
     cases h2
    cases h
   cases h
 | round l args L G=>
   simp only[Jy,ZcO]at h;split at h
   .rename_i st0 pd0 fr n ps YK bd df0 K;cases D:(Nat.ble L l&&Nat.beq args.toList.length ps.toList.length)<;>rw[D]at h<;>simp only[Cq1,Cq0]at h;.cases h
    rw[Ba0]at D;have ZqF:=Nl0 D.1;split at h
    .have⟨e1,s1,h1,h2⟩:=JX h;unfold Ke at h2;split at h2
     .split at h2
      .rename_i pd Xk n2 ps2 as2 bd2 df2 ZDV;have⟨e2,s2,h3,h4⟩:=JX h2;unfold Jp at h4;split at h4
       .rename_i st3 pd3 fr3 n3 ps3 as3 bd3 df3 ZN4
        have S:∀A,L<=G.size->Y2 L G (s2.h.put l A):=fun A hw=>
         (((KH m h1 hw).trans (Uw ZqF (by rw[ZDV];rfl))).next hw (fun x=>KH m h3 x)).trans (Uw ZqF (by rw[ZN4];rfl))
        have ZYa:L<=G.size->Y2 L G s2.h:=fun hw=>
         ((KH m h1 hw).trans (Uw ZqF (by rw[ZDV];rfl))).next hw (fun x=>KH m h3 x)
        split at h4<;>first | (cases h4;exact⟨_,_,rfl,S _⟩) | cases h4 | (split at h4<;>first | (cases h4;exact⟨_,_,rfl,ZYa⟩) | cases h4)
       cases h4
      cases h2
     cases h2
    cases h
   cases h
 | Qn c n L F s=>
   have ZCq:∀(c:Code),Zcg ih c n L F s=some r->UI (.Qn c n L F s) r:=by
    intro c h;have⟨e1,s1,h1,h2⟩:=JX h;cases h2;exact⟨_,_,_,rfl,fun hw=>KH m h1 hw⟩
   simp only[Jy,ZaH]at h;split at h
   .have⟨e,pm1,s1,h1,h2⟩:=ZkP h;cases e with
    | normal=>
      obtain⟨e,pm2,s2,rfl,k⟩:=m _ _ h2;exact⟨_,_,_,rfl,fun hw=>(Wo m h1 hw).next hw k⟩
    | exit _=>cases h2;exact⟨_,_,_,rfl,fun hw=>Wo m h1 hw⟩
    | goto _=>cases h2;exact⟨_,_,_,rfl,fun hw=>Wo m h1 hw⟩
    | ret=>cases h2;exact⟨_,_,_,rfl,fun hw=>Wo m h1 hw⟩
    | panic _=>cases h2;exact⟨_,_,_,rfl,fun hw=>Wo m h1 hw⟩
   .rename_i c a b;split at h;.rename_i t hc;cases t with|true=>exact m (.Qn a n L F s) _ h|false=>exact m (.Qn b n L F s) _ h
    cases h
   .rename_i id V d;cases hd:(!d&&V.toList.any isRecover)<;>rw[hd]at h<;>simp only[Cq1,Cq0]at h;.exact ZCq _ h
    split at h
    .rename_i Q s' I;cases h;refine⟨_,_,_,rfl,fun hw=>?_⟩
     have fin:∀{o:Oper}{p B:PM}{t y:Fs}{v:N},(match ZjF n t o.dst v with|some s=>some (p,s) | none=>none)=some (B,y)->y.h=t.h:=by
      intro o p B t y v hh;split at hh;next hp=>cases hh;exact ZjE hp
      cases hh
     have one:∀(o:Oper)(p B:PM)(t y:Fs),dop C.X n L V.toList o p t=some (B,y)->L<=t.h.size->Y2 L t.h y.h:=by
      intro o p B t y h1 hw;unfold dop at h1;dsimp only at h1;cases hok:okG V.toList o t.fr<;>rw[hok]at h1<;>simp only[G9,Q1,Cq1,Cq0]at h1;.cases h1
      cases W:XD V.toList o t.fr<;>rw[W]at h1<;>simp only[Cq1,Cq0]at h1;.rw[fin h1];exact Y2.refl _ _
      split at h1
      .split at h1
       .rename_i nx E ha h2 hE;have k:=Zhd hw hE;split at h1;.rw[fin h1];exact k
        .rw[fin h1];exact k
        .split at h1;.rw[fin h1];exact k
         rw[fin h1];exact k
        cases h1
       cases h1
      cases h1
     have all:∀(l:U Oper)(p B:PM)(t y:Fs),ZuA C.X n L V.toList l p t=some (B,y)->L<=t.h.size->Y2 L t.h y.h:=by
      intro l
      induction l with|nil=>intro p B t y h1 hw;cases h1;exact Y2.refl _ _|cons o l T=>
        intro p B t y h1 hw;simp only[ZuA]at h1;split at h1;next p1 t1 h2=>exact(one o p p1 t t1 h2 hw).next hw (T p1 B t1 y h1)
        cases h1
     exact all _ _ _ _ _ I hw
    cases h
   exact ZCq _ h
def ZJK{C:Cfg}(m:ZnL C):∀(n:Nat)(j:Jz)(r:Xr),ev C n j=some r->UI j r:=by intro n;induction n with|zero=>intro j r h;cases h|succ n l=>intro j r h;exact ZFp m l j r h
section
variable{X:Ctx}{ih:Jz->O Xr}
structure ZaL(M:Nat->Prop)(ρ:Ren)(h:H)(w:World)(ρ':Ren)(w':World):Prop where
 ext:ρ.le ρ'
 os:w'.os=w.os
 tape:w'.tape=w.tape
 output:w'.output=w.output
 X0:w.heap.size<=w'.heap.size
 frame:∀b,b<w.heap.size->(∀i d,M i->ρ i=some (b,d)->(h.at i).own=true->False)->w'.heap[b]? =w.heap[b]?
 Uu:∀i b d,ρ i=none->ρ' i=some (b,d)->h.size<=i/\(w.heap.size<=b\/∃j d',M j/\ρ j=some (b,d')/\(h.at j).own=true)
structure WH(M:Nat->Prop)(h h':H):Prop where
 size:h.size<=h'.size
 keep:∀i,i<h.size->¬ M i->h'.at i=h.at i
 own:∀i,i<h.size->(h'.at i).own=true->(h.at i).own=true
 live:∀i,i<h.size->(h'.at i).live=true->(h.at i).live=true
def Stp.toM{m:H}(a:Stp L ρ h w l m w'):ZaL (fun i=>L<=i) ρ h w l w':=
 ⟨a.ext,a.os,a.tape,a.output,a.X0,a.frame,a.Uu⟩
def ZaL.weaken{M C:Nat->Prop}(B:∀i,i<h.size->M i->C i)(A:∀i p,ρ i=some p->i<h.size)(a:ZaL M ρ h w l w'):ZaL C ρ h w l w':=
 ⟨a.ext,a.os,a.tape,a.output,a.X0,fun b E m=>a.frame b E fun i d D t=>m i d (B i (A _ _ t) D) t,
  fun i b d e F=>let⟨x,y⟩:=a.Uu i b d e F;⟨x,y.imp id fun⟨j,G,p,q,r⟩=>⟨j,G,B j (A _ _ q) p,q,r⟩⟩⟩
def ZaL.trans{M:Nat->Prop}{ZBA:Ren}{A:H}{q:GY}(E:∀i p,ρ i=some p->i<h.size)(I:h.size<=A.size)(D:∀i,i<h.size->(A.at i).own=true->(h.at i).own=true)
 (a:ZaL M ρ h w l w') (b:ZaL M l A w' ZBA q):ZaL M ρ h w ZBA q where
 ext:=Ren.le_trans a.ext b.ext
 os:=b.os.trans a.os
 tape:=b.tape.trans a.tape
 output:=b.output.trans a.output
 X0:=KK a.X0 b.X0
 frame k hk hno:=by
  rw[b.frame k (J1 hk a.X0) ?_,a.frame k hk hno];intro i d K C r;cases e:ρ i with
  | some p=>
    have m:=(a.ext _ _ e).1;rw[C]at m;cases m;exact hno i d K e (D i (E _ _ e) r)
  | none=>
    rcases(a.Uu i k d e C).2 with h1|⟨j,y,h1,h2,L⟩
    .omega
    exact hno j y h1 h2 L
 Uu i k d e e'':=by
  cases m:l i with
  | some p=>
    have t:=(b.ext _ _ m).1;rw[e'']at t;cases t;exact a.Uu i k d e m
  | none=>
    have⟨h1,h2⟩:=b.Uu i k d m e'';refine⟨KK I h1,?_⟩;rcases h2 with h2|⟨j,y,G,B,F⟩
    .exact .inl (KK a.X0 h2)
    cases x:ρ j with
    | some p=>
      have t:=(a.ext _ _ x).1;rw[B]at t;cases t;exact .inr ⟨j,y,G,x,D j (E _ _ x) F⟩
    | none=>exact(a.Uu j k y x B).2
def WH.trans{M:Nat->Prop}(a:WH M h h1)(b:WH M h1 h2):WH M h h2:=
 ⟨KK a.size b.size,fun i l m=>(b.keep i (J1 l a.size) m).trans (a.keep i l m),
  fun i l x=>a.own i l (b.own i (J1 l a.size) x),fun i l x=>a.live i l (b.live i (J1 l a.size) x)⟩
def Y2.toM(a:Y2 L h h'):WH (fun i=>L<=i) h h':=⟨a.size,fun i _ l=>a.keep i V6,a.own,a.live⟩
def WH.weaken{M m:Nat->Prop}(q:∀i,i<h.size->M i->m i)(a:WH M h h'):WH m h h':=⟨a.size,fun i l p=>a.keep i l fun x=>p (q i l x),a.own,a.live⟩
def Eff.tgt:Eff->O Nat
 | .upd i _=>some i
 | .grow i _=>some i
 | _=>Option.none
def Eff.ZRX{F:Ren}{V:H}(r:Rel ρ h w)(ZA:L<=h.size)(s:Same w w')(m:E.apply L h=some V)(B:E.real ρ h w F w'):
 ZaL (fun x=>E.tgt=some x) ρ h w F w'/\WH (fun x=>E.tgt=some x) h V/\∀x,E.tgt=some x->L<=x:=by
 have⟨_,st⟩:=Eff.sound r ZA s m B;have Q:=Zhd ZA m;refine⟨⟨st.ext,s.os,s.tape,s.output,st.X0,fun b T I=>?_,fun i b d e q=>?_⟩,⟨Q.size,fun i D S=>?_,Q.own,Q.live⟩,fun x K=>?_⟩
 .cases E with
  | none=>obtain⟨rfl,hw⟩:=B;rw[hw]
  | new A=>obtain⟨l,rfl,⟨o,hw⟩,C⟩:=B;exact ZdC hw T
  | upd i A=>
    obtain⟨rfl,X,d,D,G,P,C⟩:=B;refine P b fun e=>?_;subst e;simp[Eff.apply]at m;cases p:(Nat.ble L i&&(h.at i).own)<;>rw[p]at m<;>simp at m;rw[Ba0]at p;exact I i d rfl D p.2
  | grow i A=>
    simp[Eff.apply]at m;cases p:(Nat.ble L i&&(h.at i).own&&A.own)<;>rw[p]at m<;>simp at m;rw[Ba0,Ba0]at p;obtain⟨X,d,D,⟨W,l,rfl,G,P,C⟩|⟨l,rfl,⟨o,hw⟩,C⟩⟩:=B;.refine P b fun e=>?_;subst e;exact I i d rfl D p.1.2
    exact ZdC hw T
 .refine⟨(st.Uu i b d e q).1,?_⟩;cases E with
  | none=>obtain⟨rfl,hw⟩:=B;rw[e]at q;cases q
  | new A=>
    obtain⟨l,rfl,_⟩:=B;by_cases t:i=h.size;.subst t;rw[Ren.add_same]at q;cases q;exact .inl V7
    rw[(Ren.U7 t).1]at q;rw[e]at q;cases q
  | upd i A=>obtain⟨rfl,_⟩:=B;rw[e]at q;cases q
  | grow y A=>
    simp[Eff.apply]at m;cases p:(Nat.ble L y&&(h.at y).own&&A.own)<;>rw[p]at m<;>simp at m;rw[Ba0,Ba0]at p;obtain⟨X,W,D,⟨d2,l,rfl,G,P,C⟩|⟨l,rfl,⟨o,hw⟩,C⟩⟩:=B
    .by_cases t:i=h.size;.subst t;rw[Ren.add_same]at q;cases q;exact .inr ⟨y,W,rfl,D,p.1.2⟩
     rw[(Ren.U7 t).1]at q;rw[e]at q;cases q
    by_cases t:i=h.size;.subst t;rw[Ren.add_same]at q;cases q;exact .inl V7
    rw[(Ren.U7 t).1]at q;rw[e]at q;cases q
 .cases E with
  | none=>cases m;rfl
  | new A=>
    simp[Eff.apply]at m;cases C:A.own<;>rw[C]at m<;>simp at m;subst m;rw[H.QZ,if_neg V6]
  | upd y A=>
    simp[Eff.apply]at m;cases p:(Nat.ble L y&&(h.at y).own)<;>rw[p]at m<;>simp at m;subst m;rw[H.QC,if_neg fun x=>S (by rw[x.1];rfl)]
  | grow y A=>
    simp[Eff.apply]at m;cases p:(Nat.ble L y&&(h.at y).own&&A.own)<;>rw[p]at m<;>simp at m;subst m;rw[H.QZ,H.size_put,if_neg V6,H.QC,if_neg fun x=>S (by rw[x.1];rfl)]
 cases E with
 | none=>cases K
 | new A=>cases K
 | upd y A=>
   cases K;simp[Eff.apply]at m;cases p:(Nat.ble L x&&(h.at x).own)<;>rw[p]at m<;>simp at m;rw[Ba0]at p;exact Nl0 p.1
 | grow y A=>
   cases K;simp[Eff.apply]at m;cases p:(Nat.ble L x&&(h.at x).own&&A.own)<;>rw[p]at m<;>simp at m;rw[Ba0,Ba0]at p;exact Nl0 p.1.1
def Znf(h:H):Nat->Nat->Z
 | 0,_=>true
 | k+1,y=>bif(h.at y).live then false else Znf h k (y+1)
def ZuE:∀{k y:Nat},Znf h k y=true->∀z,y<=z->z<y+k->(h.at z).live=false:=by
 intro k
 induction k with|zero=>intro y _ z h1 h2;omega|succ k ih=>
   intro y l z h1 h2;unfold Znf at l;cases e:(h.at y).live<;>rw[e]at l<;>simp only[Cq1,Cq0]at l
   .rcases Nat.eq_or_lt_of_le h1 with q|q
    .subst q;exact e
    exact ih l z q V6
   cases l
def ZoR(skip:Z)(L:Nat)(args:GZ N)(h:H):O Nat:=
 bif skip then none else match args.toList with|.slice (some a) _ _::_=>bif Nat.ble L a.block&&Nat.blt a.block h.size&&Znf h (h.size-(a.block+1)) (a.block+1) then some a.block else none|_=>none
def Zlu{skip:Z}(e:ZoR skip L args h=some x):skip=false/\L<=x/\x<h.size/\∀z,x<z->z<h.size->(h.at z).live=false:=by
 unfold ZoR at e;cases skip with|true=>cases e|false=>
   simp only[Cq0]at e;split at e
   .rename_i a _ _ _ _;cases l:(Nat.ble L a.block&&Nat.blt a.block h.size&&Znf h (h.size-(a.block+1)) (a.block+1))<;>rw[l]at e<;>simp only[Cq1,Cq0]at e;.cases e
    cases e;rw[Ba0,Ba0]at l;exact⟨rfl,Nl0 l.1.1,by have:=l.1.2;rwa[G5]at this,fun z h1 h2=>ZuE l.2 z h1 V6⟩
   cases e
def ZaL.ZoK{M D:Nat->Prop}(C:∀i,i<h.size->M i->(h.at i).own=true->D i)(B:∀i p,ρ i=some p->i<h.size)(a:ZaL M ρ h w l w'):ZaL D ρ h w l w':=
 ⟨a.ext,a.os,a.tape,a.output,a.X0,fun b F m=>a.frame b F fun i d E t A=>m i d (C i (B _ _ t) E A) t A,
  fun i b d e G=>let⟨x,y⟩:=a.Uu i b d e G;⟨x,y.imp id fun⟨j,I,p,q,r⟩=>⟨j,I,C j (B _ _ q) p r,q,r⟩⟩⟩
def Y2.ZRW(a:Y2 x h h')(p:∀z,x<z->z<h.size->(h.at z).live=false):WH (fun y=>x=y) h h':=by
 refine⟨a.size,fun i m r=>?_,a.own,a.live⟩;rcases Gl i x with q|q
 .exact a.keep i q
 have l:=p i V6 m;have h1:=Ws (A:=h.at i) (by rw[l];simp);rw[h1];exact Ws fun z=>by rw[a.live i m z]at l;cases l
def Kg(X:Ctx)(Qq:GX->Z)(ih:Jz->O Xr)(n L:Nat)(wr:O Nat)(free:Z)(V:U Oper)(o:Oper)(fr:Fr)(h:H):O (O Nat×N×H):=
 bif(match o.dst with|none=>true|some d=>Nat.blt d n&&allowed wr d) then
  bif !okG V o fr then none else bif XD V o fr then
   match Qd X h (YM fr) o with
   | some (nx,E)=>match E.apply L h with
     | some h1=>match nx with
       | .val v=>some (E.tgt,v,h1)
       | .skip=>some (E.tgt,undef,h1)
       | .enter f args=>match ZoR (free||Qq f||E.tgt.isSome) L args h1 with
         | some x=>match ih (.call f args x h1) with|some (.fin (.ret v) h2)=>some (some x,v,h2)|_=>none
         | none=>match ih (.call f args (bif free && !Qq f then L else h1.size) h1) with|some (.fin (.ret v) h2)=>bif Qq f&&plain v then some (E.tgt,v,h1) else some (E.tgt,v,h2)|_=>none
       | .round l args=>bif free then match ih (.round l args L h1) with|some (.fin (.ret v) h2)=>some (E.tgt,v,h2)|_=>none
         else none
       | _=>none
     | none=>none
   | none=>none
  else some (none,undef,h)
 else none
def MOf(free:Z)(L:Nat)(t:O Nat):Nat->Prop:=fun x=>if free then L<=x else t=some x
def looks(V:U Oper)(o:Oper):U Tmp:=
 (match o.guard with
  | some (j,_)=>match V[j]? with|some g=>g.dst.toList|none=>[]
  | none=>[])++o.op.operands.toList.filterMap fun | .tmp t=>some t|_=>none
def Zef{a:Act}(V:GZ Oper)(o:Oper)(C:∀t∈looks V.toList o,Qv (fr.at t)=false->VR ρ (fr.at t) (a.tmps.getD t undef))(h:okG V.toList o fr=true):
 Region.wanted o (yielded V a.tmps)=XD V.toList o fr:=by
 unfold Region.wanted XD;cases A:o.guard with|none=>rfl|some p=>
   have⟨j,want⟩:=p
   have m:yielded V a.tmps j=Zao V.toList fr j:=by
    unfold yielded Zao;rw[<-Gg];cases r:V.toList[j]? with|none=>rfl|some B=>
      cases l:B.dst with|none=>simp[l]|some d=>
        have:=C d (by unfold looks;rw[A];simp[r,l]) (by
         unfold okG at h;rw[A]at h;simp[r,l,Ba0]at h;simpa using h.1)
        simp[Bq0,l];cases q:a.tmps[d]? with
        | none=>
          rw[Q3,q]at this;simp[Option.getD_none]at this;generalize fr.at d=x at this;unfold undef at this;cases this;rfl
        | some y=>
          rw[Q3,q]at this;simp[Option.getD_some]at this;generalize fr.at d=x at this;cases this<;>rfl
   simp[m];cases Zao V.toList fr j with|none=>rfl|some b=>cases want<;>cases b<;>rfl
def Zkj{a:Act}(V:GZ Oper)(o:Oper)(B:∀t∈looks V.toList o,Qv (fr.at t)=false->VR ρ (fr.at t) (a.tmps.getD t undef)){r:AN}
 (C:Qd X h (YM fr) o=some (r,E)):∃q,EvR ρ q a.eval/\Qd X h q o=some (r,E):=by
 classical
 refine⟨fun x=>if x∈o.op.operands then YM fr x else none,fun x v m=>?_,?_⟩
 ·dsimp only at m;split at m
  ·rename_i A;cases x with
   | tmp t=>
     simp only[YM]at m;cases p:Qv (fr.at t)<;>rw[p]at m<;>simp only[Cq1,Cq0]at m
     ·cases m;exact B t (by unfold looks;simp only[J0,List.mem_filterMap];exact .inr ⟨.tmp t,by simpa using A,rfl⟩) p
     cases m
   | const u=>
     simp only[YM]at m;cases y:plain u<;>rw[y]at m<;>simp at m
     subst m;exact VR.Yk y
   | func f=>
     simp only[YM,G2]at m;subst m;exact .func (.func f) #[] #[] #[] #[] (fun l e=>by cases e) rfl rfl (fun i v v' e=>by simp at e) (fun i v v' e=>by simp at e)
   | global g=>cases m
  cases m
 rw[<-C];exact ZpH X h o fun x m=>by simp[m]
def JK(P:GW)(L:Nat)(rd:O Nat)(V:GZ Oper)(o:Oper)(M:Nat->Prop)(fr:Fr)(h:H)(v:N)(m:H):Prop:=
 ∀(ρ:Ren)(a:Act)(w:GY)(F:Fence)(K:Act->GY->Prop)(Q:Exit->Act->GY->Prop),Rel ρ h w->L<=h.size->(∀t∈looks V.toList o,Qv (fr.at t)=false->VR ρ (fr.at t) (a.tmps.getD t undef))->FR' ρ rd F ->
   (∀l v' w',VR l v v'->Rel l m w'->ZaL M ρ h w l w'->K (a.put o.dst v') w') ->
   if Region.wanted o (yielded V a.tmps) then o.wpIn F 0 P a w K Q else(∀f,o.about P w a.eval=some f->F.fn f)/\K (a.put o.dst undef) w
def ZaL.refl(M:Nat->Prop)(ρ:Ren)(h:H)(w:GY):ZaL M ρ h w ρ w:=
 ⟨Ren.le_refl ρ,rfl,rfl,rfl,K2 _,fun _ _ _=>rfl,fun i b d e l=>by rw[e]at l;cases l⟩
def ZcQ{Qq:GX->Z}(HI:∀j r,ih j=some r->YW X j r)(HK:∀j r,ih j=some r->UI j r){n:Nat}{V:GZ Oper}{o:Oper}{v:N}
 (m:Kg X Qq ih n L wr free V.toList o fr h=some (t,v,h')):JK X.P L rd V o (MOf free L t) fr h v h':=by
 intro ρ a w F K Q r ZA hf hF hK;unfold Kg at m;cases hd:(match o.dst with|none=>true|some d=>Nat.blt d n&&allowed wr d)<;>rw[hd]at m<;>simp only[Cq1,Cq0]at m;.cases m
 cases S:okG V.toList o fr<;>rw[S]at m<;>simp only[G9,Q1,Cq1,Cq0]at m;.cases m
 rw[Zef V o hf S];cases hwt:XD V.toList o fr<;>rw[hwt]at m<;>simp only[Cq1,Cq0]at m;.cases m;rw[if_neg Vd];exact⟨fun f W=>(Zbb hF f).2 (ZgH (ρ:=ρ) (fun t ho hx=>hf t (Gz _ (by rw[ho];exact List.mem_filterMap.2 ⟨.tmp t,by simp[Op.operands,Call.operands],rfl⟩)) hx) S hwt W),hK ρ _ w (VR.undef ρ) r (ZaL.refl _ _ _ _)⟩
 rw[if_pos rfl];split at m
 .rename_i nx E ha;split at m
  .rename_i h1 hE;have⟨ev2,e1,e2⟩:=Zkj V o hf ha;have⟨ρ1,w1,p1,p2,p3⟩:=Zcj r e1 e2;have⟨r1,st1⟩:=Eff.sound r ZA p1 hE p2;have⟨sm,km,ZDm⟩:=Eff.ZRX r ZA p1 hE p2;refine⟨fun f W=>(Zbb hF f).2 (Zc2 ha p3 W),?_⟩
   have ZqG:o.semAt F.round a.eval=execOp a.eval o:=by
    cases hrd:rd with|none=>rw[hrd]at hF;unfold FR' at hF;subst hF;rfl|some l=>
      refine Oper.semAt_eq _ _ _ fun c G=>?_;obtain⟨d,rfl⟩:=ZjI ha G;simp at m
   rw[ZqG];have ZIk:F.depth.isSome=true->1<=0:=fun hh=>by rw[Zby hF]at hh;cases hh
   have hF1:=hF.mono st1.ext
   have toM:ZaL (MOf free L E.tgt) ρ h w ρ1 w1:=by
    refine sm.weaken (fun i _ hi=>?_) r.lt;unfold MOf;split;.exact ZDm i hi
    exact hi
   generalize hrun:(execOp a.eval o).run X.P w=res at p3;split at m;next v1=>cases m;obtain⟨v',hv,rfl⟩:=p3;exact hK ρ1 v' w1 hv r1 toM
   .cases m;have:res=.ok .skip w1:=p3;subst this;exact hK ρ1 undef w1 (VR.undef ρ1) r1 toM
   .rename_i f args;obtain⟨p,hva,rfl⟩:=p3;refine⟨ZIk,?_⟩;cases I:ZoR (free||Qq f||E.tgt.isSome) L args h1 with
    | some x=>
      rw[I]at m;dsimp only at m;have⟨q1,q2,q3,q4⟩:=Zlu I;simp only[Gj]at q1;obtain⟨⟨rfl,-⟩,hT⟩:=q1;have hT:E.tgt=none:=by cases e:E.tgt<;>rw[e]at hT<;>simp at hT
      split at m
      .rename_i rv h2 G;cases m;have T:=UH HK G (Nat.le_of_lt q3);refine(JR hF1 (HI _ _ G ρ1 p w1 (Nat.le_of_lt q3) r1 hva)).mono ?_;rintro e' w' ⟨y,he,hr,A⟩;cases he with|@ret _ v' hv=>
         have st2:ZaL (MOf false L (some x)) ρ1 h1 w1 y w':=A.toM.ZoK (fun i D q hi3=>by
          unfold MOf;rw[if_neg Vd];rcases Nat.eq_or_lt_of_le q with z|z
          .rw[z]
          have:=q4 i z D;rw[WT hi3]at this;cases this) r1.lt
         have ZXN:ZaL (MOf false L (some x)) ρ h w ρ1 w1:=sm.weaken (fun i _ hi=>by rw[hT]at hi;cases hi) r.lt;exact hK y v' w' hv hr (ZXN.trans r.lt km.size km.own st2)
      cases m
    | none=>
    rw[I]at m;dsimp only at m;split at m
    .rename_i rv h2 G;have ZDP:=HI _ _ G
     have Zof:(bif free && !Qq f then L else h1.size)<=h1.size:=by
      cases free<;>cases Qq f<;>simp[cond,KK ZA st1.size]
     have T:=UH HK G Zof;refine(JR hF1 (ZDP ρ1 p w1 Zof r1 hva)).mono ?_;rintro e' w' ⟨y,he,hr,A⟩;cases he with|@ret _ v' hv=>
       have tail:v=rv->h'=h2->t=E.tgt->K (a.put o.dst v') w':=by
        rintro rfl rfl rfl
        have st2:ZaL (MOf free L E.tgt) ρ1 h1 w1 y w':=by
         refine A.toM.weaken (fun i D q=>?_) r1.lt;unfold MOf;cases free with
         | true=>
           cases C:Qq f with|true=>rw[C]at q;simp at q;omega|false=>rw[C]at q;simpa using q
         | false=>simp at q;omega
        exact hK y v' w' hv hr (toM.trans r.lt km.size km.own st2)
       cases B:(Qq f&&plain rv)<;>rw[B]at m<;>simp only[Cq1,Cq0]at m;.cases m;exact tail rfl rfl rfl
       rw[Ba0]at B;cases m;have C:=B.1;simp only[C,Q1,Bool.and_false,Cq0]at A;rw[VR.XA B.2 hv];have⟨q1,q2⟩:=Zch r1 A;have st2:ZaL (MOf free L E.tgt) ρ1 h' w1 ρ1 w':=(q2 h'.size).toM.weaken (fun i D q=>absurd D V6) r1.lt;exact hK ρ1 _ w' (VR.Yk B.2) q1 (toM.trans r.lt km.size km.own st2)
    cases m
   .rename_i l args;obtain⟨l',k,p,hl,hw,hv,rfl⟩:=p3;refine⟨ZIk,?_⟩;cases free with|false=>cases m|true=>
      simp only[Cq1]at m;split at m;.rename_i rv h2 G;cases m;have Zof:L<=h1.size:=KK ZA st1.size;refine(ZdV hF1 (HI _ _ G ρ1 l' k p w1 Zof r1 hv hl hw)).mono ?_;rintro e' w' ⟨y,he,hr,A⟩;cases he with|@ret _ v' hv'=>exact hK y v' w' hv' hr (toM.trans r.lt km.size km.own A.toM)
      cases m
   cases m
  cases m
 cases m
def Wm{Qq:GX->Z}(HK:∀j r,ih j=some r->UI j r){n:Nat}{o:Oper}{v:N}
 (l:Kg X Qq ih n L wr free V o fr h=some (t,v,h')) (ZA:L<=h.size):WH (MOf free L t) h h'/\(∀x,MOf free L t x->L<=x)/\(∀d,o.dst=some d->d<n/\allowed wr d=true):=by
 unfold Kg at l;cases hd:(match o.dst with|none=>true|some d=>Nat.blt d n&&allowed wr d)<;>rw[hd]at l<;>simp only[Cq1,Cq0]at l;.cases l
 have m:∀d,o.dst=some d->d<n/\allowed wr d=true:=fun d e=>by rw[e]at hd;simpa[G5]using hd
 cases hok:okG V o fr<;>rw[hok]at l<;>simp only[G9,Q1,Cq1,Cq0]at l;.cases l
 cases hwt:XD V o fr<;>rw[hwt]at l<;>simp only[Cq1,Cq0]at l
 .cases l;refine⟨⟨K2 _,fun _ _ _=>rfl,fun _ _ x=>x,fun _ _ x=>x⟩,fun x B=>?_,m⟩;unfold MOf at B;split at B;.exact B
  cases B
 split at l
 .rename_i nx E ha;split at l
  .rename_i h1 p;have K:=Zhd ZA p
   have ZDm:∀x,E.tgt=some x->L<=x:=by
    intro x B;cases E with
    | none=>cases B
    | new A=>cases B
    | upd F A=>
      cases B;simp only[Eff.apply]at p;cases q:(Nat.ble L x&&(h.at x).own)<;>rw[q]at p<;>simp at p;rw[Ba0]at q;exact Nl0 q.1
    | grow F A=>
      cases B;simp only[Eff.apply]at p;cases q:(Nat.ble L x&&(h.at x).own&&A.own)<;>rw[q]at p<;>simp at p;rw[Ba0,Ba0]at q;exact Nl0 q.1.1
   have km:WH (fun x=>E.tgt=some x) h h1:=by
    refine⟨K.size,fun i D hm=>?_,K.own,K.live⟩;cases E with
    | none=>cases p;rfl
    | new A=>
      simp only[Eff.apply]at p;cases hA:A.own<;>rw[hA]at p<;>simp at p;subst p;rw[H.QZ,if_neg V6]
    | upd F A=>
      simp only[Eff.apply]at p;cases q:(Nat.ble L F&&(h.at F).own)<;>rw[q]at p<;>simp at p;subst p;rw[H.QC,if_neg fun x=>hm (by rw[x.1];rfl)]
    | grow F A=>
      simp only[Eff.apply]at p;cases q:(Nat.ble L F&&(h.at F).own&&A.own)<;>rw[q]at p<;>simp at p;subst p;rw[H.QZ,H.size_put,if_neg V6,H.QC,if_neg fun x=>hm (by rw[x.1];rfl)]
   have S:∀x,MOf free L E.tgt x->L<=x:=fun x B=>by
    unfold MOf at B;split at B;.exact B
    exact ZDm x B
   have toM:WH (MOf free L E.tgt) h h1:=km.weaken fun i _ D=>by
    unfold MOf;split;.exact ZDm i D
    exact D
   split at l;.cases l;exact⟨toM,S,m⟩
   .cases l;exact⟨toM,S,m⟩
   .rename_i f args;cases G:ZoR (free||Qq f||E.tgt.isSome) L args h1 with
    | some x=>
      rw[G]at l;dsimp only at l;have⟨q1,q2,q3,q4⟩:=Zlu G;simp only[Gj]at q1;obtain⟨⟨rfl,-⟩,T⟩:=q1;have T:E.tgt=none:=by cases e:E.tgt<;>rw[e]at T<;>simp at T
      split at l
      .rename_i W h2 q;cases l;have hk2:=(UH HK q (Nat.le_of_lt q3)).ZRW q4
       have B:∀y,MOf false L (some x) y->y=x:=fun y P=>by
        unfold MOf at P;rw[if_neg Vd]at P;exact(Oi0 P).symm
       refine⟨(km.weaken fun i _ D=>by rw[T]at D;cases D).trans (hk2.weaken fun i _ D=>?_),fun y P=>by rw[B y P];exact q2,m⟩;subst D;unfold MOf;rw[if_neg Vd]
      cases l
    | none=>
    rw[G]at l;dsimp only at l;split at l
    .rename_i W h2 q
     have Zof:(bif free && !Qq f then L else h1.size)<=h1.size:=by
      cases free<;>cases Qq f<;>simp[cond,KK ZA K.size]
     have I:=UH HK q Zof;cases hpp:(Qq f&&plain W)<;>rw[hpp]at l<;>simp only[Cq1,Cq0]at l
     .cases l;refine⟨toM.trans (I.toM.weaken fun i hi1 C=>?_),S,m⟩;unfold MOf;cases free with
      | true=>
        cases Q:Qq f with|true=>rw[Q]at C;simp at C;omega|false=>rw[Q]at C;simpa using C
      | false=>simp at C;omega
     cases l;exact⟨toM,S,m⟩
    cases l
   .cases free with|false=>cases l|true=>
      simp only[Cq1]at l;split at l;next W h2 q=>cases l;exact⟨toM.trans (Zf2 HK q (KK ZA K.size)).toM,S,m⟩
      cases l
   cases l
  cases l
 cases l
def ZJR{Qq:GX->Z}{n:Nat}{o:Oper}{p:H}{v:N}
 (l:Kg X Qq ih n L wr free V o fr h=some (t,v,p)):∀d,o.dst=some d->allowed wr d=true:=by
 intro d e;unfold Kg at l;cases m:(match o.dst with|none=>true|some d=>Nat.blt d n&&allowed wr d)<;>rw[m]at l<;>simp only[Cq1,Cq0]at l;.cases l
 rw[e]at m;rw[Ba0]at m;exact m.2
end
section
variable{α:Type}(base:α)(val:Nat->α)(S:Nat->Prop)(tc:Nat->Prop)
open Classical in
def last:Nat ->α
 | 0=>base
 | k + 1=>if S k∧tc k then val k else last k
def ZeR(h:∀k,k<m->tc k->¬ S k):last base val S tc m=base:=by induction m with|zero=>rfl|succ m ih=>rw[last,if_neg (fun x=>h m V6 x.2 x.1)];exact ih fun k l=>h k V6
def Zb8(g:Nat->α)(t:g 0=base)(h1:∀k,k<m->tc k->g (k+1)=val k)(h2:∀k,k<m->¬ tc k->g (k+1)=g k)(y:i<=m)(h:∀k,k<m->tc k->(S k↔k<i)):
 last base val S tc m=g i:=by
 induction m generalizing i with
 | zero=>
   have:i=0:=V6;subst this;exact t.symm
 | succ m ih=>
   rw[last];by_cases l:S m/\tc m;.rw[if_pos l];have:=(h m V6 l.2).1 l.1;have e:i=m+1:=V6;rw[e,h1 m V6 l.2]
   rw[if_neg l];by_cases r:i=m+1;.subst r;have hn:¬ tc m:=fun x=>l ⟨(h m V6 x).2 V6,x⟩;rw[h2 m V6 hn];exact ih (fun k p=>h1 k V6) (fun k p=>h2 k V6) (K2 m) fun k p q=>⟨fun _=>p,fun _=>(h k V6 q).2 V6⟩
   exact ih (fun k p=>h1 k V6) (fun k p=>h2 k V6) V6 fun k p q=>h k V6 q
variable{base val S tc} in
theorem Jo {m i:Nat} {S':Nat->Prop} (hS:∀k,S' k↔S k\/k=i) (hi:¬ tc i):last base val S' tc m=last base val S tc m:=by
 induction m with
 | zero=>rfl
 | succ m ih=>
   rw[last,last,ih];by_cases hm:m=i
   ·subst hm;rw[if_neg (fun x=>hi x.2),if_neg (fun x=>hi x.2)]
   ·by_cases hx:S m/\tc m
    ·rw[if_pos hx,if_pos ⟨(hS m).2 (.inl hx.1),hx.2⟩]
    ·rw[if_neg hx,if_neg fun x=>hx ⟨((hS m).1 x.1).resolve_right hm,x.2⟩]
variable{base val S tc} in
theorem Zb7 {m i:Nat} {S':Nat->Prop} (hS:∀k,S' k↔S k\/k=i) (him:i<m) (hi:tc i) (hl:∀k,i<k->k<m->tc k->¬ S k):last base val S' tc m=val i:=by
 induction m with
 | zero=>omega
 | succ m ih=>
   rw[last];by_cases hm:m=i
   ·subst hm;rw[if_pos ⟨(hS m).2 (.inr rfl),hi⟩]
   ·rw[if_neg,ih V6 fun k h1 h2=>hl k h1 V6];rintro⟨h1,h2⟩;exact hl m V6 V6 h2 (((hS m).1 h1).resolve_right hm)
theorem Zyi(n:Nat->Nat)(hn:∀j k,j<=k->k<=m->n j<=n k)(p:i<=m)(h:∀k,k<m->S k->tc k->k<i):last (n 0) (fun k=>n (k+1)) S tc m<=n i:=by
 have:∀j,j<=m->last (n 0) (fun k=>n (k+1)) S tc j<=n i:=by
  intro j
  induction j with|zero=>intro _;exact hn 0 i V6 p|succ j ih=>
    intro q;rw[last];by_cases l:S j/\tc j;.rw[if_pos l];have:=h j V6 l.1 l.2;exact hn (j+1) i V6 p
    rw[if_neg l];exact ih V6
 exact this m (K2 m)
end
def Ren.cut(ρ:Ren)(c:Nat):Ren:=⟨fun x=>if x<c then ρ x else none,ρ.lim⟩
def Ren.Xm{c:Nat}{p:Nat×Nat}:(ρ.cut c) x=some p↔x<c/\ρ x=some p:=by
 unfold Ren.cut;by_cases h:x<c;.simp[h]
 simp[h]
def Ren.Zia{c c':Nat}(h:c<=c'):(ρ.cut c).le (ρ.cut c'):=fun x p e=>by
 rw[Ren.Xm]at e;exact⟨Ren.Xm.2 ⟨by omega,e.2⟩,rfl⟩
def Ren.ZwV(h:ρ.le l)(c:Nat):(ρ.cut c).le (l.cut c):=fun x p e=>by
 rw[Ren.Xm]at e;have⟨h1,h2⟩:=h _ _ e.2;exact⟨Ren.Xm.2 ⟨e.1,h1⟩,h2⟩
def Ren.ZNh{c:Nat}(h:∀x p,ρ x=some p->x<c):ρ.le (ρ.cut c):=fun _ _ e=>⟨Ren.Xm.2 ⟨h _ _ e,e⟩,rfl⟩
def Ren.Zng{c:Nat}:(ρ.cut c).le ρ:=fun _ _ e=>⟨(Ren.Xm.1 e).2,rfl⟩
def mask(X:U Nat)(h:H):H:=X.foldl (fun g x=>g.put x .dead) h
def Jf(X:U Nat)(h l:H):H:=X.foldl (fun g x=>bif Nat.blt x h.size then g.put x (h.at x) else g) l
def ZX(X:U Nat)(h:H):(mask X h).size=h.size:=by unfold mask;induction X generalizing h with|nil=>rfl|cons y X ih=>rw[Gh,ih,H.size_put]
def QF(X:U Nat)(h:H)(x:Nat):(mask X h).at x=if x∈X then .dead else h.at x:=by
 unfold mask
 induction X generalizing h with|nil=>simp|cons y X ih=>
   rw[Gh,ih];by_cases l:x∈X;.simp[l]
   rw[if_neg l,H.QC];by_cases p:x=y
   .subst p;by_cases m:x<h.size;.simp[m]
    simp[m,H.Zeg (Nat.le_of_not_lt m)]
   simp[l,p]
def Qb(X:U Nat)(h l:H):(Jf X h l).size=l.size:=by unfold Jf;induction X generalizing l with|nil=>rfl|cons y X ih=>rw[Gh,ih];cases Nat.blt y h.size<;>rfl
def JD(X:U Nat)(h r:H)(A:h.size<=r.size)(x:Nat):(Jf X h r).at x=if x∈X/\x<h.size then h.at x else r.at x:=by
 unfold Jf
 induction X generalizing r with|nil=>simp|cons y X ih=>
   rw[Gh];cases q:Nat.blt y h.size with
   | true=>
     rw[G5]at q;rw[Cq1,ih _ (by rw[H.size_put];exact A)];by_cases l:x∈X/\x<h.size;.rw[if_pos l,if_pos ⟨Kx _ l.1,l.2⟩]
     rw[if_neg l,H.QC];by_cases m:x=y;.subst m;rw[if_pos ⟨rfl,by omega⟩,if_pos ⟨by simp,q⟩]
     rw[if_neg fun z=>m z.1,if_neg];rintro⟨t,p⟩;rcases Ks.1 t with z|z
     .exact m z
     exact l ⟨z,p⟩
   | false=>
     rw[Cq0,ih _ A];have m:¬ y<h.size:=fun z=>by rw[<-G5]at z;rw[z]at q;cases q
     by_cases l:x∈X/\x<h.size;.rw[if_pos l,if_pos ⟨Kx _ l.1,l.2⟩]
     rw[if_neg l,if_neg];rintro⟨t,p⟩;rcases Ks.1 t with z|z
     .subst z;exact m p
     exact l ⟨z,p⟩
def ZeB(fr:Fr)(d:O Tmp)(v:N)(t:Nat):(UO fr d v).at t=if d=some t then v else fr.at t:=by
 cases d with|none=>simp[UO]|some d=>
   by_cases h:t=d;.subst h;simp[UO,Fr.at,Tr.Qt]
   have l:¬ d=t:=fun e=>h e.symm;simp[UO,Fr.at,Tr.Qt,h,l]
structure Data(P:Program)(nn L:Nat)(rd:Option Nat)(V:Array Oper) where
 hs:Nat->H
 fs:Nat->Fr
 vs:Nat->Value
 mo:Nat->Nat->Prop
 Xs:Nat->List Nat
 soft:Nat->Option (Nat×Nat)
 hl:Nat->Bool
 Pb:Nat->Nat->Prop
 Zsr:L<=(hs 0).size
 step:∀(k:Nat)(o:Oper),V[k]? =some o->∃h1,JK P L rd V o (mo k) (fs k) (mask (Xs k) (hs k)) (vs k) h1/\WH (mo k) (mask (Xs k) (hs k)) h1/\
  hs (k+1)=Jf (Xs k) (hs k) h1/\fs (k+1)=UO (fs k) o.dst (vs k)
 wmM:∀k x,k<V.size->mo k x->L<=x
 dst:∀(k:Nat)(o:Oper)(d:Tmp),V[k]? =some o->o.dst=some d->d<nn
 Zg3:∀(j k:Nat),Pb j k->∃(o:Oper) (e:Edge),V[j]? =some o/\e∈o.after/\Region.binds .any e=true/\(k=e.on\/Pb e.on k)
 Zuw:∀(j:Nat)(o:Oper)(e:Edge),V[j]? =some o->e∈o.after->Region.binds .any e=true->e.on<j
 inc:∀i j,i<V.size->j<V.size->i≠j->¬ Pb i j->¬ Pb j i->hl i=false->∀x,mo j x->x<(hs j).size->(x<(hs i).size/\(x∈Xs i\/soft i=some (x,j)))\/(hs (i+1)).size<=x
 ZNZ:∀(i:Nat)(o:Oper),V[i]? =some o->hl i=true->(∀y,¬ mo i y)/\(hs (i+1)).size=(hs i).size/\∀g:H,JK P L rd V o (fun _=>False) (fs i) g (vs i) g
 ZvF:∀(i:Nat)(o:Oper)(x j:Nat),V[i]? =some o->soft i=some (x,j)->i<j/\j<V.size/\x<(hs i).size/\(∀y,¬ mo i y)/\(hs (i+1)).size=(hs i).size/\
  (∀(ρ ρ':Ren)(w:World)(b d:Nat)(l:Nat×Nat),Jr ρ w b d l ((hs i).at x)->Jr ρ' w b d l ((hs i).at x))/\
  (∀(ρ ρ':Ren)(w:World)(b d:Nat)(l:Nat×Nat),Jr ρ w b d l ((hs (j+1)).at x)->Jr ρ' w b d l ((hs (j+1)).at x))/\
  JK P L rd V o (fun _=>False) (fs i) (mask (Xs i) (hs i)) (vs i) (mask (Xs i) (hs i))/\
  JK P L rd V o (fun _=>False) (fs i) ((mask (Xs i) (hs i)).put x ((hs (j+1)).at x)) (vs i) ((mask (Xs i) (hs i)).put x ((hs (j+1)).at x))
 MX:∀i x,i<V.size->mo i x->x<(hs i).size->x∉Xs i
 looks:∀(i:Nat)(o:Oper)(t:Tmp),V[i]? =some o->t∈Z9.looks V.toList o->∀(k:Nat)(o':Oper),V[k]? =some o'->o'.dst=some t->k=i\/Pb i k\/Pb k i
 ZJQ:∀(i j:Nat)(o o':Oper)(t:Tmp),V[i]? =some o->V[j]? =some o'->o.dst=some t->o'.dst=some t->i=j
namespace Data
variable{S:Nat->Prop}{i x:Nat}
variable{P:GW}{nn L:Nat}{rd:O Nat}{V:GZ Oper}(D:Data P nn L rd V)
def n(k:Nat):Nat:=(D.hs k).size
def M(k x:Nat):Prop:=D.mo k x/\x<D.n k
def tch(k x:Nat):Prop:=D.M k x\/(D.n k<=x/\x<D.n (k+1))
def Kw(k:Nat):O Tmp:=(V[k]?).bind (·.dst)
def hv(S:Nat->Prop)(x:Nat):YN:=last ((D.hs 0).at x) (fun k=>(D.hs (k+1)).at x) S (fun k=>D.tch k x) V.size
def cv(S:Nat->Prop)(x:Nat):Nat:=last (D.n 0) (fun k=>D.n (k+1)) S (fun k=>D.tch k x) V.size
def tv(S:Nat->Prop)(t:Nat):N:=last ((D.fs 0).at t) D.vs S (fun k=>Kw (V:=V) k=some t) V.size
def tt(S:Nat->Prop)(t:Nat):Nat:=last (D.n 0) (fun k=>D.n (k+1)) S (fun k=>Kw (V:=V) k=some t) V.size
def get{k:Nat}(h:k<V.size):∃o,V[k]? =some o:=⟨V[k],by simp[h]⟩
def Zqt{k:Nat}(h:k<V.size):D.n k<=D.n (k+1):=by have⟨o,ho⟩:=get h;have⟨h1,_,km,e,_⟩:=D.step k o ho;unfold n;rw[e,Qb];have:=km.size;rwa[ZX]at this
def Ji:∀j k,j<=k->k<=V.size->D.n j<=D.n k:=by intro j k l;induction l with|refl=>intro _;exact K2 _|step h ih=>intro m;exact KK (ih V6) (D.Zqt V6)
def keep{k:Nat}(q:k<V.size)(h:¬ D.tch k x):(D.hs (k+1)).at x=(D.hs k).at x:=by
 have⟨o,ho⟩:=get q;have⟨h1,_,km,e,_⟩:=D.step k o ho;have m:=km.size;rw[ZX]at m;have hn:D.n (k+1)=h1.size:=by unfold n;rw[e,Qb]
 by_cases l:x<(D.hs k).size
 .rw[e,JD _ _ _ m];by_cases p:x∈D.Xs k;.rw[if_pos ⟨p,l⟩]
  rw[if_neg fun z=>p z.1,km.keep x (by rw[ZX];exact l) (fun z=>h (.inl ⟨z,l⟩)),QF,if_neg p]
 have:¬ x<D.n (k+1):=fun z=>h (.inr ⟨Nat.le_of_not_lt l,z⟩);rw[H.Zeg (Nat.le_of_not_lt l),H.Zeg (Nat.le_of_not_lt this)]
def own{k:Nat}(q:k<V.size)(p:x<D.n k)(h:((D.hs (k+1)).at x).own=true):((D.hs k).at x).own=true:=by
 have⟨o,ho⟩:=get q;have⟨h1,_,km,e,_⟩:=D.step k o ho;have l:=km.size;rw[ZX]at l;rw[e,JD _ _ _ l]at h;by_cases m:x∈D.Xs k/\x<(D.hs k).size;.rwa[if_pos m]at h
 rw[if_neg m]at h;have:=km.own x (by rw[ZX];exact p) h;rw[QF]at this;split at this;.cases this
 exact this
def live{k:Nat}(q:k<V.size)(p:x<D.n k)(h:((D.hs (k+1)).at x).live=true):((D.hs k).at x).live=true:=by
 have⟨o,ho⟩:=get q;have⟨h1,_,km,e,_⟩:=D.step k o ho;have l:=km.size;rw[ZX]at l;rw[e,JD _ _ _ l]at h;by_cases m:x∈D.Xs k/\x<(D.hs k).size;.rwa[if_pos m]at h
 rw[if_neg m]at h;have:=km.live x (by rw[ZX];exact p) h;rw[QF]at this;split at this;.cases this
 exact this
def ZSe(l:x<D.n 0):∀k,k<=V.size->((D.hs k).at x).own=true->((D.hs 0).at x).own=true:=by intro k;induction k with|zero=>intro _ h;exact h|succ k ih=>intro m h;exact ih V6 (D.own V6 (J1 l (D.Ji 0 k V6 V6)) h)
def ZSm(l:x<D.n 0):∀k,k<=V.size->((D.hs k).at x).live=true->((D.hs 0).at x).live=true:=by intro k;induction k with|zero=>intro _ h;exact h|succ k ih=>intro m h;exact ih V6 (D.live V6 (J1 l (D.Ji 0 k V6 V6)) h)
def ZTb(S:Nat->Prop)(x:Nat):∃k,k<=V.size/\D.hv S x=(D.hs k).at x:=by
 unfold hv
 have:∀m,m<=V.size->∃k,k<=V.size/\last ((D.hs 0).at x) (fun k=>(D.hs (k+1)).at x) S (fun k=>D.tch k x) m=(D.hs k).at x:=by
  intro m
  induction m with|zero=>intro _;exact⟨0,by omega,rfl⟩|succ m ih=>
    intro l;rw[last];by_cases h:S m/\D.tch m x;.rw[if_pos h];exact⟨m+1,l,rfl⟩
    rw[if_neg h];exact ih V6
 exact this _ V7
def ZHP(l:x<D.n 0)(h:(D.hv S x).own=true):((D.hs 0).at x).own=true:=by have⟨k,hk,e⟩:=D.ZTb S x;rw[e]at h;exact D.ZSe l k hk h
def Closed(V:GZ Oper)(S:Nat->Prop):Prop:=∀j o e,S j->V[j]? =some o->e∈o.after->Region.binds .any e=true->S e.on
def ZLh:∀j k,D.Pb j k->k<j:=by
 intro j
 induction j using Nat.strongRecOn with|ind j ih=>
   intro k h;have⟨o,e,ho,he,hb,hk⟩:=D.Zg3 j k h;have:=D.Zuw j o e ho he hb;rcases hk with rfl|hk
   .exact this
   have:=ih e.on this k hk;omega
def ZpA(m:Closed V S):∀j k,S j->D.Pb j k->S k:=by
 intro j
 induction j using Nat.strongRecOn with|ind j ih=>
   intro k l h;have⟨o,e,ho,he,hb,hk⟩:=D.Zg3 j k h;have h1:=m j o e l ho he hb;rcases hk with rfl|hk
   .exact h1
   exact ih e.on (D.Zuw j o e ho he hb) k h1 hk
def Zic(m:Closed V S){o:Oper}(q:V[i]? =some o)(r:¬ S i)(l:∀e∈o.after,Region.binds .any e=true->S e.on){k:Nat}(h:D.Pb i k\/D.Pb k i):S k↔k<i:=by
 rcases h with h|h
 .refine⟨fun _=>D.ZLh _ _ h,fun _=>?_⟩;have⟨o',e,ho',he,hb,hk⟩:=D.Zg3 i k h;rw[q]at ho';cases ho';rcases hk with rfl|hk
  .exact l e he hb
  exact D.ZpA m e.on k (l e he hb) hk
 refine⟨fun p=>absurd (D.ZpA m k i p h) r,fun t=>?_⟩;have:=D.ZLh _ _ h;omega
structure J'(S:Nat->Prop)(ds:List Deferred)(ρ0:Ren)(w0:World)(ρ:Ren)(a:Act)(w:World):Prop where
 dom:∀x b d,ρ x=some (b,d)->b<w.heap.size/\(x<D.n 0\/∃k,k<V.size/\S k/\D.n k<=x/\x<D.n (k+1))
 obj:∀x b d,ρ x=some (b,d)->Jr (ρ.cut (D.cv S x)) w b d (ρ.lim x) (D.hv S x)
 tsz:a.tmps.size=nn
 tmp:∀t,Qv (D.tv S t)=false->VR (ρ.cut (D.tt S t)) (D.tv S t) (a.tmps.getD t undef)
 ds:DsR (ρ.cut (D.n 0)) ds a.defers
 inj:∀x y b d d',ρ x=some (b,d)->ρ y=some (b,d')->(D.hv S x).own=true->(D.hv S y).live=true->x=y
 ext:ρ0.le ρ
 ZuB:∀x p,ρ0 x=some p->x<D.n 0
 os:w.os=w0.os
 tape:w.tape=w0.tape
 output:w.output=w0.output
 X0:w0.heap.size<=w.heap.size
 frame:∀b,b<w0.heap.size->(∀i d,L<=i->ρ0 i=some (b,d)->((D.hs 0).at i).own=true->False)->w.heap[b]? =w0.heap[b]?
 Uu:∀i b d,ρ0 i=none->ρ i=some (b,d)->D.n 0<=i/\(w0.heap.size<=b\/∃j d',L<=j/\ρ0 j=some (b,d')/\((D.hs 0).at j).own=true)
variable{D}
def J'.ZcV{ds:List Deferred}{ρ0 ρ:Ren}{w0 w:World}{a:Act}(j:D.J' S ds ρ0 w0 ρ a w)(I:Closed V S){o:Oper}(B:V[i]? =some o)(C:¬ S i)
 (G:∀e∈o.after,Region.binds .any e=true->S e.on) {b d:Nat} (E:ρ x=some (b,d)) (t:x<D.n i) (K:x∉D.Xs i) (A:D.hl i=false) (y:∀j,D.soft i≠some (x,j)):D.hv S x=(D.hs i).at x/\D.cv S x<=D.n i:=by
 have m:i<V.size:=(Array.getElem?_eq_some_iff.1 B).1
 have q:∀k,k<V.size->D.tch k x->(S k↔k<i):=by
  intro k r p;rcases p with p|⟨h1,h2⟩
  .by_cases l:k=i;.subst l;exact⟨fun z=>absurd z C,fun z=>by omega⟩
   by_cases h:D.Pb i k\/D.Pb k i;.exact D.Zic I B C G h
   rcases D.inc i k m r (Ne.symm l) (fun z=>h (.inl z)) (fun z=>h (.inr z)) A x p.1 p.2 with z|z
   .rcases z.2 with z|z
    .exact absurd z K
    exact absurd z (y k)
   have:=D.Zqt m;unfold n at this t;omega
  have l:k<i:=by
   rcases Nat.lt_or_ge k i with z|z
   .exact z
   have:=D.Ji i k z (by omega);omega
  refine⟨fun _=>l,fun _=>?_⟩;rcases(j.dom x b d E).2 with z|⟨k',q1,q2,q3,q4⟩
  .have:=D.Ji 0 k (by omega) (by omega);omega
  have:k'=k:=by
   rcases Nat.lt_trichotomy k' k with z|z|z
   .have:=D.Ji (k'+1) k (by omega) (by omega);omega
   .exact z
   have:=D.Ji (k+1) k' (by omega) (by omega);omega
  subst this;exact q2
 refine⟨?_,?_⟩;.unfold hv;exact Zb8 _ _ _ _ (fun k=>(D.hs k).at x) rfl (fun k _ _=>rfl) (fun k r p=>D.keep r p) (Nat.le_of_lt m) q
 unfold cv;exact Zyi _ _ _ D.Ji (Nat.le_of_lt m) fun k r F p=>(q k r p).1 F
def J'.Zsf(F:Closed V S){o:Oper}(x:V[i]? =some o)(A:¬ S i)
 (E:∀e∈o.after,Region.binds .any e=true->S e.on) {t:Nat} (B:t∈Z9.looks V.toList o):D.tv S t=(D.fs i).at t/\D.tt S t<=D.n i:=by
 have q:i<V.size:=(Array.getElem?_eq_some_iff.1 x).1
 have p:∀k,k<V.size->Kw (V:=V) k=some t->(S k↔k<i):=by
  intro k l m;have⟨o',ho'⟩:=get l;have y:o'.dst=some t:=by unfold Kw at m;rw[ho']at m;exact m
  rcases D.looks i o t x B k o' ho' y with h|h
  .subst h;exact⟨fun z=>absurd z A,fun z=>by omega⟩
  exact D.Zic F x A E h
 have r:∀k,k<V.size->(D.fs (k+1)).at t=if Kw (V:=V) k=some t then D.vs k else(D.fs k).at t:=by
  intro k l;have⟨o',ho'⟩:=get l;have⟨h1,_,_,_,e⟩:=D.step k o' ho';rw[e,ZeB];unfold Kw;rw[ho'];rfl
 refine⟨?_,?_⟩;.unfold tv;exact Zb8 _ _ _ _ (fun k=>(D.fs k).at t) rfl (fun k l m=>by rw[r k l,if_pos m]) (fun k l m=>by rw[r k l,if_neg m]) (Nat.le_of_lt q) p
 unfold tt;exact Zyi _ _ _ D.Ji (Nat.le_of_lt q) fun k l C m=>(p k l m).1 C
end Data
namespace Data
variable{F:Fence}{K:Act->World->Prop}{Q:Exit->Act->World->Prop}{S:Nat->Prop}{ds:List Deferred}{i:Nat}{w w0:World}{ρ ρ0:Ren}
variable{P:GW}{nn L:Nat}{rd:O Nat}{V:GZ Oper}{D:Data P nn L rd V}
def J'.step{w:World}{a:Act}(j:D.J' S ds ρ0 w0 ρ a w)(hc:Closed V S){o:Oper}(W:V[i]? =some o)(hi:¬ S i)(hhl:D.hl i=false)(ZTc:D.soft i=none)
 (hr:∀e∈o.after,Region.binds .any e=true->S e.on) (hF:FR' ρ0 rd F) {S':Nat->Prop} (hS:∀k,S' k↔S k\/k=i)
 (hK:∀ρ' a' w',D.J' S' ds ρ0 w0 ρ' a' w'->K a' w'):
 if Region.wanted o (yielded V a.tmps) then o.wpIn F 0 P a w K Q else(∀f,o.about P w a.eval=some f->F.fn f)/\K (a.put o.dst undef) w:=by
 have C:i<V.size:=(Array.getElem?_eq_some_iff.1 W).1;have hsf:∀{x:Nat}(j:Nat),D.soft i≠some (x,j):=fun j z=>by rw[ZTc]at z;cases z
 have⟨h1,hstep,km,eh,ef⟩:=D.step i o W;have hsz:=km.size;rw[ZX]at hsz;have hn1:D.n (i+1)=h1.size:=by unfold n;rw[eh,Qb]
 have hni:D.n i=(D.hs i).size:=rfl;have h0i:=D.Ji 0 i (by omega) (by omega);have hii:=D.Zqt C
 have r1:Rel (ρ.cut (D.n i)) (mask (D.Xs i) (D.hs i)) w:=by
  refine⟨fun x b d e=>?_,fun x b d e=>?_,fun x y b d B e e' W hl=>?_⟩;.rw[Ren.Xm]at e;rw[ZX];exact⟨e.1,(j.dom x b d e.2).1⟩
  .rw[Ren.Xm]at e;rw[QF];by_cases I:x∈D.Xs i;.rw[if_pos I];trivial
   rw[if_neg I];have⟨q1,q2⟩:=j.ZcV hc W hi hr e.2 e.1 I hhl hsf;rw[<-q1];exact(j.obj x b d e.2).mono (Ren.Zia q2)
  rw[Ren.Xm]at e e';rw[QF]at W hl;by_cases I:x∈D.Xs i;.rw[if_pos I]at W;cases W
  by_cases hY:y∈D.Xs i;.rw[if_pos hY]at hl;cases hl
  rw[if_neg I]at W;rw[if_neg hY]at hl;rw[<-(j.ZcV hc ‹_› hi hr e.2 e.1 I hhl hsf).1]at W;rw[<-(j.ZcV hc ‹_› hi hr e'.2 e'.1 hY hhl hsf).1]at hl;exact j.inj x y b d B e.2 e'.2 W hl
 have hF1:FR' (ρ.cut (D.n i)) rd F:=by
  refine hF.mono fun x p e=>?_;have⟨e1,e2⟩:=j.ext x p e;exact⟨Ren.Xm.2 ⟨by have:=j.ZuB x p e;omega,e1⟩,e2⟩
 refine hstep (ρ.cut (D.n i)) a w F K Q r1 (by rw[ZX];have:=D.Zsr;have e:D.n 0=(D.hs 0).size:=rfl;omega) (fun t l hany=>?_) hF1 ?_;.have⟨q1,q2⟩:=J'.Zsf (D:=D) hc W hi hr l;rw[<-q1]at hany ⊢;exact(j.tmp t hany).mono (Ren.Zia q2)
 intro G v' w' hv r2 st0;have st:ZaL (D.M i) (ρ.cut (D.n i)) (mask (D.Xs i) (D.hs i)) w G w':=st0.weaken (fun x r hm=>⟨hm,by rw[ZX]at r;exact r⟩) r1.lt
 have hfree:∀x,D.n i<=x->x<D.n (i+1)->ρ x=none:=by
  intro x h1 h2;cases e:ρ x with|none=>rfl|some p=>
    rcases(j.dom x p.1 p.2 e).2 with z|⟨k,q1,q2,q3,q4⟩
    .omega
    exfalso;rcases Nat.lt_trichotomy k i with z|z|z
    .have:=D.Ji (k+1) i (by omega) (by omega);omega
    .subst z;exact hi q2
    have:=D.Ji (i+1) k (by omega) (by omega);omega
 have Ztf:(mask (D.Xs i) (D.hs i)).size=D.n i:=ZX _ _
 have ZSf:∀x b d,x<D.n i->G x=some (b,d)->ρ x=some (b,d):=by
  intro x b d r e;cases e1:(ρ.cut (D.n i)) x with|none=>have:=(st.Uu x b d e1 e).1;omega|some p=>
    have:=(st.ext x p e1).1;rw[e]at this;cases this;exact(Ren.Xm.1 e1).2
 let ρ':Ren:=⟨fun x=>if D.n i<=x/\x<D.n (i+1) then G x else ρ x,fun x=>if D.n i<=x/\x<D.n (i+1) then G.lim x else ρ.lim x⟩;have new':∀x,D.n i<=x->x<D.n (i+1)->ρ' x=G x/\ρ'.lim x=G.lim x:=fun x a b=>⟨if_pos ⟨a,b⟩,if_pos ⟨a,b⟩⟩;have m:∀x,¬ (D.n i<=x/\x<D.n (i+1))->ρ' x=ρ x/\ρ'.lim x=ρ.lim x:=fun x a=>⟨if_neg a,if_neg a⟩
 have hle:ρ.le ρ':=by
  intro x p e;have:¬ (D.n i<=x/\x<D.n (i+1)):=fun z=>by rw[hfree x z.1 z.2]at e;cases e
  have⟨q1,q2⟩:=m x this;exact⟨by rw[q1];exact e,q2⟩
 have hle2:G.le (ρ'.cut (D.n (i+1))):=by
  intro x p e;have r:x<D.n (i+1):=by have:=(r2.dom x p.1 p.2 e).1;omega
  by_cases hxn:D.n i<=x;.have⟨q1,q2⟩:=new' x hxn r;exact⟨Ren.Xm.2 ⟨r,by rw[q1];exact e⟩,q2⟩
  have e0:=ZSf x p.1 p.2 (by omega) e;have⟨q1,q2⟩:=m x (fun z=>hxn z.1);refine⟨Ren.Xm.2 ⟨r,by rw[q1];exact e0⟩,?_⟩;have:=(st.ext x p (Ren.Xm.2 ⟨by omega,e0⟩)).2;show ρ'.lim x=G.lim x;rw[q2,this];rfl
 have ZHQ:∀x,D.n i<=x->x<D.n (i+1)->D.tch i x:=fun x a b=>.inr ⟨a,b⟩
 have A:∀x b d,ρ' x=some (b,d)->D.tch i x->D.hv S' x=h1.at x/\D.cv S' x=D.n (i+1)/\G x=some (b,d)/\ρ'.lim x=G.lim x:=by
  intro x b d e l
  have hxX:x∈D.Xs i->¬ x<(D.hs i).size:=by
   intro I hlt;rcases l with l|l
   .exact D.MX i x C l.1 l.2 I
   have:=l.1;omega
  have ZdN:∀k,i<k->k<V.size->D.tch k x->¬ S k:=by
   intro k hik hk htk hsk;have hxk:x<D.n (i+1)\/D.n (i+1)<=x:=by omega
   rcases htk with htk|htk
   .by_cases hcmp:D.Pb i k\/D.Pb k i;.have:=(D.Zic hc W hi hr hcmp).1 hsk;omega
    rcases l with l|l
    .rcases D.inc i k C hk (by omega) (fun z=>hcmp (.inl z)) (fun z=>hcmp (.inr z)) hhl x htk.1 htk.2 with z|z
     .rcases z.2 with z|z
      .exact D.MX i x C l.1 l.2 z
      exact hsf _ z
     have z2:=l.2;have T:=hii;unfold n at z2 T;omega
    rcases D.inc i k C hk (by omega) (fun z=>hcmp (.inl z)) (fun z=>hcmp (.inr z)) hhl x htk.1 htk.2 with z|z
    .have T:=l.1;unfold n at T;omega
    have T:=l.2;unfold n at T;omega
   rcases l with l|l
   .have E:x<D.n i\/D.n i<=x:=by omega
    rcases E with E|E
    .have:=D.Ji i k (by omega) (by omega);omega
    have:=l.2;omega
   have:=D.Ji (i+1) k (by omega) (by omega);omega
  have e1:D.hv S' x=(D.hs (i+1)).at x:=Zb7 hS C l ZdN;have e2:D.cv S' x=D.n (i+1):=Zb7 hS C l ZdN
  have e3:(D.hs (i+1)).at x=h1.at x:=by
   rw[eh,JD _ _ _ hsz,if_neg fun z=>hxX z.1 z.2]
  refine⟨e1.trans e3,e2,?_⟩;by_cases r:D.n i<=x/\x<D.n (i+1);.have⟨q1,q2⟩:=new' x r.1 r.2;exact⟨by rw[<-q1];exact e,q2⟩
  have⟨q1,q2⟩:=m x r;rw[q1]at e
  have E:x<D.n i:=by
   rcases Nat.lt_or_ge x (D.n i) with z|z
   .exact z
   rcases l with l|l
   .have:=l.2;omega
   exact absurd l r
  have:=st.ext x (b,d) (Ren.Xm.2 ⟨E,e⟩);exact⟨this.1,by rw[q2,this.2];rfl⟩
 have hnot:∀x,¬ D.tch i x->D.hv S' x=D.hv S x/\D.cv S' x=D.cv S x:=fun x l=>⟨Jo hS l,Jo hS l⟩
 have ZSd:∀x b d,ρ x=some (b,d)->(D.hv S' x).own=true->(D.hv S x).own=true:=by
  intro x b d e h;by_cases l:D.tch i x
  .have⟨q1,_,q3,_⟩:=A x b d (hle x (b,d) e).1 l;rw[q1]at h
   have E:x<D.n i:=by
    rcases Nat.lt_or_ge x (D.n i) with z|z
    .exact z
    rcases l with l|l
    .have:=l.2;omega
    rw[hfree x l.1 l.2]at e;cases e
   have:=km.own x (by rw[ZX];exact E) h;rw[QF]at this;by_cases I:x∈D.Xs i;.rw[if_pos I]at this;cases this
   rw[if_neg I]at this;rwa[(j.ZcV hc W hi hr e E I hhl hsf).1]
  rwa[(hnot x l).1]at h
 have ZLm:∀x b d,ρ x=some (b,d)->(D.hv S' x).live=true->(D.hv S x).live=true:=by
  intro x b d e h;by_cases l:D.tch i x
  .have⟨q1,_,q3,_⟩:=A x b d (hle x (b,d) e).1 l;rw[q1]at h
   have E:x<D.n i:=by
    rcases Nat.lt_or_ge x (D.n i) with z|z
    .exact z
    rcases l with l|l
    .have:=l.2;omega
    rw[hfree x l.1 l.2]at e;cases e
   have:=km.live x (by rw[ZX];exact E) h;rw[QF]at this;by_cases I:x∈D.Xs i;.rw[if_pos I]at this;cases this
   rw[if_neg I]at this;rwa[(j.ZcV hc W hi hr e E I hhl hsf).1]
  rwa[(hnot x l).1]at h
 have ZCU:∀y b d,D.M i y->(ρ.cut (D.n i)) y=some (b,d)->((mask (D.Xs i) (D.hs i)).at y).own=true->ρ y=some (b,d)/\(D.hv S y).own=true:=by
  intro y b d hm e h;rw[Ren.Xm]at e;rw[QF]at h;by_cases I:y∈D.Xs i;.rw[if_pos I]at h;cases h
  rw[if_neg I]at h;exact⟨e.2,by rwa[(j.ZcV hc W hi hr e.2 e.1 I hhl hsf).1]⟩
 have ZSg:∀y b d,ρ y=some (b,d)->(D.hv S y).own=true->L<=y->(∃B,ρ0 y=some (b,B)/\((D.hs 0).at y).own=true)\/(w0.heap.size<=b\/∃j B,L<=j/\ρ0 j=some (b,B)/\((D.hs 0).at j).own=true):=by
  intro y b d e h hwy;cases e0:ρ0 y with
  | some p=>
    have:=(j.ext y p e0).1;rw[e]at this;cases this;exact .inl ⟨d,rfl,D.ZHP (j.ZuB y _ e0) h⟩
  | none=>exact .inr (j.Uu y b d e0 e).2
 refine hK ρ' (a.put o.dst v') w' ?_
 refine{dom:= ?_,obj:= ?_,tsz:= ?_,tmp:= ?_,ds:= ?_,inj:= ?_,ext:=Ren.le_trans j.ext hle,ZuB:=j.ZuB,os:=st.os.trans j.os,tape:=st.tape.trans j.tape,output:=st.output.trans j.output,
        X0:=Nat.le_trans j.X0 st.X0,frame:= ?_,Uu:= ?_}
 .intro x b d e;by_cases r:D.n i<=x/\x<D.n (i+1);.rw[(new' x r.1 r.2).1]at e;exact⟨(r2.dom x b d e).2,.inr ⟨i,C,(hS i).2 (.inr rfl),r.1,r.2⟩⟩
  rw[(m x r).1]at e;have⟨q1,q2⟩:=j.dom x b d e;exact⟨Nat.lt_of_lt_of_le q1 st.X0,q2.imp id fun⟨k,T,z2,z3⟩=>⟨k,T,(hS k).2 (.inl z2),z3⟩⟩
 .intro x b d e;by_cases l:D.tch i x;.have⟨q1,q2,q3,q4⟩:=A x b d e l;rw[q1,q2,q4];exact(r2.obj x b d q3).mono hle2
  have⟨q1,q2⟩:=hnot x l;have r:¬ (D.n i<=x/\x<D.n (i+1)):=fun z=>l (ZHQ x z.1 z.2);have⟨q3,q4⟩:=m x r;rw[q3]at e;rw[q1,q2,q4];by_cases hl:(D.hv S x).live=true;.refine((j.obj x b d e).mono (Ren.ZwV hle _)).world (st.frame b (j.dom x b d e).1 ?_);intro y B hm hy hown;have⟨T,z2⟩:=ZCU y b B hm hy hown;have:=j.inj y x b B d T e z2 hl;subst this;exact l (.inl hm)
  rw[Ws hl];trivial
 .have:(a.put o.dst v').tmps.size=a.tmps.size:=by cases o.dst<;>simp[Act.put]
  rw[this];exact j.tsz
 .intro t;by_cases hd:Kw (V:=V) i=some t
  .have hod:o.dst=some t:=by unfold Kw at hd;rw[W]at hd;exact hd
   have ZdN:∀k,i<k->k<V.size->Kw (V:=V) k=some t->¬ S k:=by
    intro k hik hk hdk _;have⟨o',ho'⟩:=get hk;have ZNU:o'.dst=some t:=by unfold Kw at hdk;rw[ho']at hdk;exact hdk
    have:=D.ZJQ i k o o' t W ho' hod ZNU;omega
   have e1:D.tv S' t=D.vs i:=Zb7 hS C hd ZdN;have e2:D.tt S' t=D.n (i+1):=Zb7 hS C hd ZdN;rw[e1,e2,hod];intro _;have htn:t<a.tmps.size:=by rw[j.tsz];exact D.dst i o t W hod
   have:(a.put (some t) v').tmps.getD t undef=v':=by
    simp[Act.put,Array.getD_eq_getD_getElem?,htn]
   rw[this];exact hv.mono hle2
  have e1:D.tv S' t=D.tv S t:=Jo hS hd;have e2:D.tt S' t=D.tt S t:=Jo hS hd;rw[e1,e2];intro hany
  have:(a.put o.dst v').tmps.getD t undef=a.tmps.getD t undef:=by
   cases hod:o.dst with|none=>rfl|some d=>
     have hne:d≠t:=fun z=>hd (by unfold Kw;rw[W,<-z];exact hod);simp[Act.put,Array.getD_eq_getD_getElem?,Array.getElem?_setIfInBounds_ne hne]
  rw[this];exact(j.tmp t hany).mono (Ren.ZwV hle _)
 .have:(a.put o.dst v').defers=a.defers:=by cases o.dst<;>rfl
  rw[this];exact j.ds.mono (Ren.ZwV hle _)
 .intro x y b d B ex ey X hly;by_cases r:D.n i<=x/\x<D.n (i+1)
  .have htx:=ZHQ x r.1 r.2;have⟨x1,_,x3,_⟩:=A x b d ex htx;by_cases hy:D.n i<=y/\y<D.n (i+1);.have⟨y1,_,y3,_⟩:=A y b B ey (ZHQ y hy.1 hy.2);rw[x1]at X;rw[y1]at hly;exact r2.inj x y b d B x3 y3 X hly
   rw[(m y hy).1]at ey
   have Zv5:(ρ.cut (D.n i)) x=none:=by
    cases e:(ρ.cut (D.n i)) x with|none=>rfl|some p=>have:=(Ren.Xm.1 e).1;omega
   rcases(st.Uu x b d Zv5 x3).2 with z|⟨q,dq,T,z2,z3⟩
   .have:=(j.dom y b B ey).1;omega
   have⟨u1,u2⟩:=ZCU q b dq T z2 z3;obtain rfl:=j.inj q y b dq B u1 ey u2 (ZLm y b B ey hly);have⟨y1,_,y3,_⟩:=A q b B (hle q (b,B) ey).1 (.inl T);rw[x1]at X;rw[y1]at hly;exact r2.inj x q b d B x3 y3 X hly
  rw[(m x r).1]at ex;by_cases hy:D.n i<=y/\y<D.n (i+1)
  .have⟨y1,_,y3,_⟩:=A y b B ey (ZHQ y hy.1 hy.2)
   have ZNu:(ρ.cut (D.n i)) y=none:=by
    cases e:(ρ.cut (D.n i)) y with|none=>rfl|some p=>have:=(Ren.Xm.1 e).1;omega
   rcases(st.Uu y b B ZNu y3).2 with z|⟨q,dq,T,z2,z3⟩
   .have:=(j.dom x b d ex).1;omega
   have⟨u1,u2⟩:=ZCU q b dq T z2 z3;obtain rfl:=j.inj x q b d dq ex u1 (ZSd x b d ex X) (WT u2);have⟨x1,_,x3,_⟩:=A x b d (hle x (b,d) ex).1 (.inl T);rw[x1]at X;rw[y1]at hly;exact r2.inj x y b d B x3 y3 X hly
  rw[(m y hy).1]at ey;exact j.inj x y b d B ex ey (ZSd x b d ex X) (ZLm y b B ey hly)
 .intro b hb hno;rw[<-j.frame b hb hno];refine st.frame b (Nat.lt_of_lt_of_le hb j.X0) ?_;intro y d hm hy hown;have⟨T,z2⟩:=ZCU y b d hm hy hown;have hwy:=D.wmM i y C hm.1;rcases ZSg y b d T z2 hwy with⟨B,u1,u2⟩|u|⟨q,dq,u1,u2,u3⟩
  .exact hno y B hwy u1 u2
  .omega
  exact hno q dq u1 u2 u3
 intro x b d e0 e;by_cases r:D.n i<=x/\x<D.n (i+1)
 .rw[(new' x r.1 r.2).1]at e
  have Zv5:(ρ.cut (D.n i)) x=none:=by
   cases e:(ρ.cut (D.n i)) x with|none=>rfl|some p=>have:=(Ren.Xm.1 e).1;omega
  refine⟨by omega,?_⟩;rcases(st.Uu x b d Zv5 e).2 with z|⟨q,dq,T,z2,z3⟩
  .exact .inl (Nat.le_trans j.X0 z)
  have⟨u1,u2⟩:=ZCU q b dq T z2 z3;have hwq:=D.wmM i q C T.1;rcases ZSg q b dq u1 u2 hwq with⟨B,v1,v2⟩|v
  .exact .inr ⟨q,B,hwq,v1,v2⟩
  exact v
 rw[(m x r).1]at e;exact j.Uu x b d e0 e
def J'.pure{w:World}{a:Act}(j:D.J' S ds ρ0 w0 ρ a w)(hc:Closed V S){o:Oper}(W:V[i]? =some o)(hi:¬ S i)
 (hr:∀e∈o.after,Region.binds .any e=true->S e.on) (hF:FR' ρ0 rd F) {E:Nat->Prop} (T:∀k,E k↔S k\/k=i) {hv:H} (hsz:hv.size=D.n i) (hn:D.n (i+1)=D.n i)
 (hM:∀y,¬ D.mo i y) (G:JK P L rd V o (fun _=>False) (D.fs i) hv (D.vs i) hv) (r1:Rel (ρ.cut (D.n i)) hv w)
 (hK:∀ρ' a' w',D.J' E ds ρ0 w0 ρ' a' w'->K a' w'):
 if Region.wanted o (yielded V a.tmps) then o.wpIn F 0 P a w K Q else(∀f,o.about P w a.eval=some f->F.fn f)/\K (a.put o.dst undef) w:=by
 have him:i<V.size:=(Array.getElem?_eq_some_iff.1 W).1;have h0i:=D.Ji 0 i (by omega) (by omega)
 have hF1:FR' (ρ.cut (D.n i)) rd F:=by
  refine hF.mono fun x p e=>?_;have⟨A,e2⟩:=j.ext x p e;exact⟨Ren.Xm.2 ⟨by have:=j.ZuB x p e;omega,A⟩,e2⟩
 refine G (ρ.cut (D.n i)) a w F K Q r1 (by have:=D.Zsr;have e:D.n 0=(D.hs 0).size:=rfl;omega) (fun t ht m=>?_) hF1 ?_;.have⟨q1,q2⟩:=J'.Zsf (D:=D) hc W hi hr ht;rw[<-q1]at m ⊢;exact(j.tmp t m).mono (Ren.Zia q2)
 intro ρ2 v' w' hvv r2 B
 have hle2:ρ2.le (ρ.cut (D.n (i+1))):=by
  intro x p e;have hx:x<D.n i:=by have:=(r2.dom x p.1 p.2 e).1;omega
  cases A:(ρ.cut (D.n i)) x with|none=>have:=(B.Uu x p.1 p.2 A e).1;omega|some q=>
    have⟨q1,q2⟩:=B.ext x q A;rw[e]at q1;cases q1;exact⟨Ren.Xm.2 ⟨by omega,(Ren.Xm.1 A).2⟩,q2.symm⟩
 have hbl:∀b,b<w.heap.size->w'.heap[b]? =w.heap[b]?:=fun b hb=>B.frame b hb fun _ _ h=>h.elim
 have X:∀x,¬ D.tch i x:=by
  rintro x (h|h);.exact hM x h.1
  omega
 have l:∀x,D.hv E x=D.hv S x/\D.cv E x=D.cv S x:=fun x=>⟨Jo T (X x),Jo T (X x)⟩;refine hK ρ (a.put o.dst v') w' ?_
 refine{dom:= ?_,obj:= ?_,tsz:= ?_,tmp:= ?_,ds:= ?_,inj:= ?_,ext:=j.ext,ZuB:=j.ZuB,os:=B.os.trans j.os,tape:=B.tape.trans j.tape,output:=B.output.trans j.output,
        X0:=Nat.le_trans j.X0 B.X0,frame:= ?_,Uu:=j.Uu}
 .intro x b d e;have⟨q1,q2⟩:=j.dom x b d e;exact⟨Nat.lt_of_lt_of_le q1 B.X0,q2.imp id fun⟨k,z1,z2,z3⟩=>⟨k,z1,(T k).2 (.inl z2),z3⟩⟩
 .intro x b d e;rw[(l x).1,(l x).2];exact(j.obj x b d e).world (hbl b (j.dom x b d e).1)
 .have:(a.put o.dst v').tmps.size=a.tmps.size:=by cases o.dst<;>simp[Act.put]
  rw[this];exact j.tsz
 .intro t;by_cases C:Kw (V:=V) i=some t
  .have r:o.dst=some t:=by unfold Kw at C;rw[W]at C;exact C
   have ZdN:∀k,i<k->k<V.size->Kw (V:=V) k=some t->¬ S k:=by
    intro k hik hk I _;have⟨o',ho'⟩:=get hk;have ZNU:o'.dst=some t:=by unfold Kw at I;rw[ho']at I;exact I
    have:=D.ZJQ i k o o' t W ho' r ZNU;omega
   have A:D.tv E t=D.vs i:=Zb7 T him C ZdN;have e2:D.tt E t=D.n (i+1):=Zb7 T him C ZdN;rw[A,e2,r];intro _;have htn:t<a.tmps.size:=by rw[j.tsz];exact D.dst i o t W r
   have:(a.put (some t) v').tmps.getD t undef=v':=by
    simp[Act.put,Array.getD_eq_getD_getElem?,htn]
   rw[this];exact hvv.mono hle2
  have A:D.tv E t=D.tv S t:=Jo T C;have e2:D.tt E t=D.tt S t:=Jo T C;rw[A,e2];intro m
  have:(a.put o.dst v').tmps.getD t undef=a.tmps.getD t undef:=by
   cases r:o.dst with|none=>rfl|some d=>
     have hne:d≠t:=fun z=>C (by unfold Kw;rw[W,<-z];exact r);simp[Act.put,Array.getD_eq_getD_getElem?,Array.getElem?_setIfInBounds_ne hne]
  rw[this];exact j.tmp t m
 .have:(a.put o.dst v').defers=a.defers:=by cases o.dst<;>rfl
  rw[this];exact j.ds
 .intro x y b d d' ex ey h1 h2;rw[(l x).1]at h1;rw[(l y).1]at h2;exact j.inj x y b d d' ex ey h1 h2
 intro b hb hno;rw[hbl b (Nat.lt_of_lt_of_le hb j.X0)];exact j.frame b hb hno
def J'.next{w:World}{a:Act}(j:D.J' S ds ρ0 w0 ρ a w)(hc:Closed V S){o:Oper}(L:V[i]? =some o)(hi:¬ S i)
 (hr:∀e∈o.after,Region.binds .any e=true->S e.on) (hF:FR' ρ0 rd F) {S':Nat->Prop} (hS:∀k,S' k↔S k\/k=i)
 (hK:∀ρ' a' w',D.J' S' ds ρ0 w0 ρ' a' w'->K a' w'):
 if Region.wanted o (yielded V a.tmps) then o.wpIn F 0 P a w K Q else(∀f,o.about P w a.eval=some f->F.fn f)/\K (a.put o.dst undef) w:=by
 cases hhl:D.hl i with
 | true=>
   have⟨hM,hn,hst⟩:=D.ZNZ i o L hhl;refine j.pure (hv:=⟨.nil,D.n i⟩) hc L hi hr hF hS rfl hn hM (hst _) ⟨fun y b d e=>?_,fun y b d e=>?_,fun y z b d d' e e' h1 h2=>?_⟩ hK;.rw[Ren.Xm]at e;exact⟨e.1,(j.dom y b d e.2).1⟩
   .have:(⟨.nil,D.n i⟩:H).at y=.dead:=by unfold H.at;cases Nat.blt y (D.n i)<;>rfl
    rw[this];trivial
   have:(⟨.nil,D.n i⟩:H).at y=.dead:=by unfold H.at;cases Nat.blt y (D.n i)<;>rfl
   rw[this]at h1;cases h1
 | false=>
 cases W:D.soft i with|none=>exact j.step hc L hi hhl W hr hF hS hK|some p=>
   have⟨x,jj⟩:=p;have⟨hij,hjm,T,hM,hn,hp1,hp2,hs1,hs2⟩:=D.ZvF i o x jj L W;have him:i<V.size:=(Array.getElem?_eq_some_iff.1 L).1;have T:x<D.n i:=T
   have X:∀y b d,ρ y=some (b,d)->y<D.n i->y∉D.Xs i->y≠x->D.hv S y=(D.hs i).at y/\D.cv S y<=D.n i:=fun y b d e1 e2 e3 e4=>
    j.ZcV hc L hi hr e1 e2 e3 hhl fun j' z=>by rw[W]at z;cases z;exact e4 rfl
   have B:∀(A:YN),(∀b d,ρ x=some (b,d)->x∉D.Xs i->D.hv S x=A)->(∀(ρ ρ':Ren)(w:World)(b d:Nat)(l:Nat×Nat),Jr ρ w b d l A->Jr ρ' w b d l A)->∀(hv:H),hv.size=D.n i ->
    (∀y,hv.at y=if y∈D.Xs i/\y≠x then .dead else if y=x then(if x∈D.Xs i then .dead else A) else(D.hs i).at y)->Rel (ρ.cut (D.n i)) hv w:=by
    intro A hA hpl hv hvs hva
    have C:∀y b d,ρ y=some (b,d)->y<D.n i->hv.at y=.dead\/(hv.at y=D.hv S y/\(y=x\/D.cv S y<=D.n i)/\(y=x->D.hv S y=A)):=by
     intro y b d e1 e2;rw[hva];by_cases r:y=x
     .subst r;rw[if_neg (fun z=>z.2 rfl),if_pos rfl];by_cases t:y∈D.Xs i;.rw[if_pos t];exact .inl rfl
      rw[if_neg t];right;have:=hA b d e1 t;exact⟨this.symm,.inl rfl,fun _=>this⟩
     by_cases t:y∈D.Xs i;.rw[if_pos ⟨t,r⟩];exact .inl rfl
     rw[if_neg fun z=>t z.1,if_neg r];have⟨q1,q2⟩:=X y b d e1 e2 t r;exact .inr ⟨q1.symm,.inr q2,fun z=>absurd z r⟩
    refine⟨fun y b d e=>?_,fun y b d e=>?_,fun y z b d d' e e' h1 h2=>?_⟩;.rw[Ren.Xm]at e;rw[hvs];exact⟨e.1,(j.dom y b d e.2).1⟩
    .rw[Ren.Xm]at e;rcases C y b d e.2 e.1 with q|⟨q1,q2,q3⟩
     .rw[q];trivial
     have:=j.obj y b d e.2;rw[q1];rcases q2 with q2|q2
     .rw[q3 q2]at this ⊢;exact hpl _ _ _ _ _ _ this
     exact this.mono (Ren.Zia q2)
    rw[Ren.Xm]at e e';rcases C y b d e.2 e.1 with q|⟨q1,_,_⟩
    .rw[q]at h1;cases h1
    rcases C z b d' e'.2 e'.1 with q|⟨p1,_,_⟩
    .rw[q]at h2;cases h2
    rw[q1]at h1;rw[p1]at h2;exact j.inj y z b d d' e.2 e'.2 h1 h2
   have hcases:(∀b d,ρ x=some (b,d)->x∉D.Xs i->D.hv S x=(D.hs i).at x)\/(∀b d,ρ x=some (b,d)->x∉D.Xs i->D.hv S x=(D.hs (jj+1)).at x):=by
    by_cases t:x∈D.Xs i;.exact .inl fun _ _ _ z=>absurd t z
    cases hρ:ρ x with
    | none=>exact .inl fun _ _ z=>by cases z
    | some p=>
      have hcr:∀k,k<V.size->D.n k<=x->x<D.n (k+1)->(S k↔k<i):=by
       intro k hk h1 h2
       have hki:k<i:=by
        rcases Nat.lt_or_ge k i with z|z
        .exact z
        have:=D.Ji i k z (by omega);omega
       refine⟨fun _=>hki,fun _=>?_⟩;rcases(j.dom x p.1 p.2 hρ).2 with z|⟨k',q1,q2,q3,q4⟩
       .have:=D.Ji 0 k (by omega) (by omega);omega
       have:k'=k:=by
        rcases Nat.lt_trichotomy k' k with z|z|z
        .have:=D.Ji (k'+1) k (by omega) (by omega);omega
        .exact z
        have:=D.Ji (k+1) k' (by omega) (by omega);omega
       subst this;exact q2
      have key:∀k,k<V.size->D.tch k x->k≠jj->(S k↔k<i):=by
       intro k hk I hkj;rcases I with I|⟨h1,h2⟩
       .by_cases hki:k=i;.subst hki;exact absurd I.1 (hM x)
        by_cases E:D.Pb i k\/D.Pb k i;.exact D.Zic hc L hi hr E
        rcases D.inc i k him hk (Ne.symm hki) (fun z=>E (.inl z)) (fun z=>E (.inr z)) hhl x I.1 I.2 with z|z
        .rcases z.2 with z|z
         .exact absurd z t
         rw[W]at z;cases z;exact absurd rfl hkj
        have:=D.Zqt him;unfold n at this T;omega
       exact hcr k hk h1 h2
      by_cases hj:S jj/\D.tch jj x
      .right;intro _ _ _ _
       have:∀m,jj<m->m<=V.size->last ((D.hs 0).at x) (fun k=>(D.hs (k+1)).at x) S (fun k=>D.tch k x) m=(D.hs (jj+1)).at x:=by
        intro m
        induction m with|zero=>intro h;omega|succ m ihm=>
          intro h1 h2;rw[last];by_cases hmj:m=jj;.subst hmj;rw[if_pos hj]
          rw[if_neg];.exact ihm (by omega) (by omega)
          rintro⟨z1,z2⟩;have:=(key m (by omega) z2 hmj).1 z1;omega
       exact this V.size hjm (Nat.le_refl _)
      left;intro _ _ _ _;unfold hv;refine Zb8 _ _ _ _ (fun k=>(D.hs k).at x) rfl (fun k _ _=>rfl) (fun k hk I=>D.keep hk I) (Nat.le_of_lt him) fun k hk I=>?_;by_cases hkj:k=jj;.subst hkj;exact⟨fun z=>absurd ⟨z,I⟩ hj,fun z=>by omega⟩
      exact key k hk I hkj
   have Ztf:(mask (D.Xs i) (D.hs i)).size=D.n i:=ZX _ _;rcases hcases with hA|hA
   .refine j.pure hc L hi hr hF hS Ztf hn hM hs1 (B _ hA hp1 _ Ztf fun y=>?_) hK;rw[QF];by_cases t:y∈D.Xs i
    .rw[if_pos t];by_cases r:y=x;.subst r;rw[if_neg fun z=>z.2 rfl,if_pos rfl,if_pos t]
     rw[if_pos ⟨t,r⟩]
    rw[if_neg t,if_neg fun z=>t z.1];by_cases r:y=x;.subst r;rw[if_pos rfl,if_neg t]
    rw[if_neg r]
   by_cases t:x∈D.Xs i
   .refine j.pure hc L hi hr hF hS Ztf hn hM hs1 (B ((D.hs i).at x) (fun _ _ _ z=>absurd t z) hp1 _ Ztf fun y=>?_) hK;rw[QF];by_cases G:y∈D.Xs i
    .rw[if_pos G];by_cases r:y=x;.subst r;rw[if_neg fun z=>z.2 rfl,if_pos rfl,if_pos G]
     rw[if_pos ⟨G,r⟩]
    rw[if_neg G,if_neg fun z=>G z.1];by_cases r:y=x;.subst r;exact absurd t G
    rw[if_neg r]
   refine j.pure (hv:=(mask (D.Xs i) (D.hs i)).put x ((D.hs (jj+1)).at x)) hc L hi hr hF hS (by rw[H.size_put];exact Ztf) hn hM hs2 (B _ hA hp2 _ (by rw[H.size_put];exact Ztf) fun y=>?_) hK;rw[H.QC,QF];by_cases r:y=x;.subst r;rw[if_pos ⟨rfl,by rw[Ztf];exact T⟩,if_neg fun z=>z.2 rfl,if_pos rfl,if_neg t]
   rw[if_neg fun z=>r z.1];by_cases G:y∈D.Xs i;.rw[if_pos G,if_pos ⟨G,r⟩]
   rw[if_neg G,if_neg fun z=>G z.1,if_neg r]
def SL(h:GZ Z)(k:Nat):Prop:=h.getD k false=true
def Zdo{h:GZ Z}(l:h.size=V.size){k:Nat}(m:k<V.size):h.getD k true=false↔¬ SL h k:=by unfold SL;simp[Q3,show k<h.size by omega]
def J'.any(hF:FR' ρ0 rd F)
 (hQ:∀(S:Nat->Prop) ρ a w,(∀k,k<V.size->S k)->D.J' S ds ρ0 w0 ρ a w->Q .normal a w):
 ∀(l:Nat)(listed:Array Bool),listed.size=V.size->((List.range V.size).filter (fun k=>!listed.getD k true)).length<=l->Closed V (SL listed) ->
   ∀ρ a w,D.J' (SL listed) ds ρ0 w0 ρ a w->wpAnyIn F 0 P .any V Q l listed a w:=by
 have x:∀(listed:Array Bool),listed.size=V.size->Region.ready .any V listed=[]->∀k,k<V.size->SL listed k:=by
  intro listed m G k
  induction k using Nat.strongRecOn with|ind k ih=>
    intro r;apply Classical.byContradiction;intro T;have⟨o,t⟩:=get r
    have:k∈Region.ready .any V listed:=mem_ready.2 ⟨(Zdo m r).2 T,o,t,fun e he I=>by
     have A:=D.Zuw k o e t he I;exact ih e.on A (by omega)⟩
    rw[G]at this;cases this
 intro l;induction l with
 | zero=>
   intro listed m hn hc ρ a w j
   have p:Region.ready .any V listed=[]:=by
    rw[List.eq_nil_iff_forall_not_mem];intro k r;have⟨h1,o,t,_⟩:=mem_ready.1 r;have A:k<V.size:=(Array.getElem?_eq_some_iff.1 t).1
    have q:k∈(List.range V.size).filter (fun k=>!listed.getD k true):=by
     rw[List.mem_filter];exact⟨List.mem_range.2 A,by rw[h1];rfl⟩
    have:=List.length_pos_of_mem q;omega
   exact⟨p,hQ _ ρ a w (x listed m p) j⟩
 | succ l ih=>
   intro listed m hn hc ρ a w j;refine⟨fun p=>hQ _ ρ a w (x listed m p) j,fun i hi=>?_⟩;have⟨h1,o,t,G⟩:=mem_ready.1 hi;have C:i<V.size:=(Array.getElem?_eq_some_iff.1 t).1;unfold wpOpIn;rw[t]
   have K:∀k,SL (listed.setIfInBounds i true) k↔SL listed k\/k=i:=by
    intro k;unfold SL;by_cases r:k=i;.subst r;simp[Array.getD_eq_getD_getElem?,show k<listed.size by omega]
    rw[getD_set_ne false (Ne.symm r)];simp[r]
   have X:Closed V (SL (listed.setIfInBounds i true)):=by
    intro E o' e hj y he I;rcases(K E).1 hj with h|h
    .exact(K _).2 (.inl (hc E o' e h y he I))
    subst h;rw[t]at y;cases y;exact(K _).2 (.inl (G e he I))
   refine j.next hc t ((Zdo m C).1 h1) G hF K fun L a' w' E=>ih _ (by simpa using m) ?_ X L a' w' E
   have W:(List.range V.size).filter (fun k=>!(listed.setIfInBounds i true).getD k true)=((List.range V.size).filter (fun k=>!listed.getD k true)).filter (fun k=>k≠i):=by
    rw[List.filter_filter];apply List.filter_congr;intro k r;rw[List.mem_range]at r;by_cases B:k=i;.subst B;simp[Array.getD_eq_getD_getElem?,show k<listed.size by omega]
    rw[getD_set_ne true (Ne.symm B)];simp[B]
   rw[W]
   have q:i∈(List.range V.size).filter (fun k=>!listed.getD k true):=by
    rw[List.mem_filter];exact⟨List.mem_range.2 C,by rw[h1];rfl⟩
   have:(((List.range V.size).filter (fun k=>!listed.getD k true)).filter (fun k=>k≠i)).length<((List.range V.size).filter (fun k=>!listed.getD k true)).length:=
    List.length_filter_lt_length_iff_exists.2 ⟨i,q,by simp⟩
   omega
def ZNk(D:Data P nn L rd V){x:Nat}(l:x<L):∀k,k<=V.size->(D.hs k).at x=(D.hs 0).at x:=by
 intro k
 induction k with|zero=>intro _;rfl|succ k ih=>
   intro m;rw[D.keep V6 ?_];.exact ih V6
   rintro(h|h);.have:=D.wmM k x V6 h.1;omega
   have h1:=D.Ji 0 k V6 V6;have h2:=D.Zsr;have p:D.n 0=(D.hs 0).size:=rfl;omega
def J'.start{a:Act}{w:World}(r:Inv ρ nn {fr:=D.fs 0,ds:=ds,h:=D.hs 0} a w):D.J' (SL (Array.replicate V.size false)) ds ρ w ρ a w:=by
 have l:∀k,¬ SL (Array.replicate V.size false) k:=by
  intro k;unfold SL;rw[Array.getD_eq_getD_getElem?,Array.getElem?_replicate];split<;>simp
 have C:∀x,D.hv (SL (Array.replicate V.size false)) x=(D.hs 0).at x:=fun x=>ZeR _ _ _ _ fun k _ _=>l k;have G:∀x,D.cv (SL (Array.replicate V.size false)) x=D.n 0:=fun x=>ZeR _ _ _ _ fun k _ _=>l k;have F:∀x,D.tv (SL (Array.replicate V.size false)) x=(D.fs 0).at x:=fun x=>ZeR _ _ _ _ fun k _ _=>l k;have E:∀x,D.tt (SL (Array.replicate V.size false)) x=D.n 0:=fun x=>ZeR _ _ _ _ fun k _ _=>l k;have m:∀x p,ρ x=some p->x<D.n 0:=r.rel.lt;have q:=Ren.ZNh m;refine{dom:= ?_,obj:= ?_,tsz:=r.fr.size,tmp:= ?_,ds:=r.ds.mono q,inj:= ?_,ext:=Ren.le_refl _,ZuB:=m,os:=rfl,tape:=rfl,output:=rfl,X0:=Nat.le_refl _,frame:=fun _ _ _=>rfl,Uu:= ?_};.intro x b d e;exact⟨(r.rel.dom x b d e).2,.inl (m _ _ e)⟩
 .intro x b d e;rw[C,G];exact(r.rel.obj x b d e).mono q
 .intro t;rw[F,E];intro A;exact(r.fr.val t A).mono q
 .intro x y b d I e B h1 h2;rw[C]at h1 h2;exact r.rel.inj x y b d I e B h1 h2
 intro i b d e B;rw[e]at B;cases B
def J'.finish(G:∀k,k<V.size->S k){w:World}{a:Act}(j:D.J' S ds ρ0 w0 ρ a w):
 Qx L nn ρ0 (D.hs 0) w0 .normal {fr:=D.fs V.size,ds:=ds,h:=D.hs V.size} .normal a w:=by
 have m:∀(C:Nat->Prop) k,k<V.size->C k->(S k↔k<V.size):=fun C k l _=>⟨fun _=>l,fun _=>G k l⟩
 have B:∀x,D.hv S x=(D.hs V.size).at x:=fun x=>by
  unfold hv;exact Zb8 _ _ _ _ (fun k=>(D.hs k).at x) rfl (fun k _ _=>rfl) (fun k l F=>D.keep l F) (Nat.le_refl _) (m _)
 have E:∀t,D.tv S t=(D.fs V.size).at t:=fun t=>by
  have q:∀k,k<V.size->(D.fs (k+1)).at t=if Kw (V:=V) k=some t then D.vs k else(D.fs k).at t:=by
   intro k l;have⟨o',ho'⟩:=get l;have⟨h1,_,_,_,e⟩:=D.step k o' ho';rw[e,ZeB];unfold Kw;rw[ho'];rfl
  unfold tv;exact Zb8 _ _ _ _ (fun k=>(D.fs k).at t) rfl (fun k l A=>by rw[q k l,if_pos A]) (fun k l A=>by rw[q k l,if_neg A]) (Nat.le_refl _) (m _)
 refine⟨ρ,.normal,⟨⟨?_,?_,?_⟩,⟨j.tsz,?_⟩,j.ds.mono Ren.Zng⟩,⟨j.ext,D.Ji 0 _ (by omega) (by omega),fun i p=>D.ZNk p _ (by omega),fun i p h=>D.ZSe p _ (by omega) h,fun i p h=>D.ZSm p _ (by omega) h,
  j.os,j.tape,j.output,j.X0,j.frame,j.Uu⟩⟩
 .intro x b d e;have⟨q1,q2⟩:=j.dom x b d e;refine⟨?_,q1⟩;rcases q2 with z|⟨k,z1,z2,z3,z4⟩
  .exact Nat.lt_of_lt_of_le z (D.Ji 0 _ (by omega) (by omega))
  exact Nat.lt_of_lt_of_le z4 (D.Ji (k+1) _ (by omega) (by omega))
 .intro x b d e;have:=(j.obj x b d e).mono Ren.Zng;rwa[B]at this
 .intro x y b d K e I h1 h2;exact j.inj x y b d K e I (by rw[B];exact h1) (by rw[B];exact h2)
 intro t;intro r;have:=(j.tmp t (by rw[E];exact r)).mono Ren.Zng;rwa[E]at this
def region(D:Data P nn L rd V)(r:P.follows .mixedOrders=true){ds:U V2}{a:Act}(l:Inv ρ nn {fr:=D.fs 0,ds:=ds,h:=D.hs 0} a w)(x:FR' ρ rd F)(id:Nat):
 (Code.region id V true).wpIn F 0 P (Qx L nn ρ (D.hs 0) w .normal {fr:=D.fs V.size,ds:=ds,h:=D.hs V.size}) a w:=by
 refine wpIn_region_any r ?_;have p:Inv ρ nn {fr:=D.fs 0,ds:=ds,h:=D.hs 0} a {w with drawn:=w.drawn+1}:=⟨⟨l.rel.dom,fun i b d e=>(l.rel.obj i b d e).world rfl,l.rel.inj⟩,l.fr,l.ds⟩;refine J'.any (D:=D) (ds:=ds) (ρ0:=ρ) (w0:= {w with drawn:=w.drawn+1}) x (fun S q y w' t j=>?_) V.size _ Vd (KK (List.length_filter_le _ _) Vd) ?_ ρ a _ (J'.start p);.have⟨ρ2,q1,q2,q3⟩:=j.finish t;exact⟨ρ2,q1,q2,⟨q3.ext,q3.size,q3.keep,q3.own,q3.live,q3.os,q3.tape,q3.output,q3.X0,q3.frame,q3.Uu⟩⟩
 intro k o e m;exfalso;unfold SL at m;rw[Q3,Array.getElem?_replicate]at m;split at m<;>simp at m
end Data
def ZrK(a b n:Nat):bit (Nat.lor a b) n=(bit a n||bit b n):=by rw[Zno,Zno,Zno];exact Nat.testBit_or a b n
def Zzl(a n:Nat):bit (Nat.pow 2 a) n=true↔a=n:=by rw[Zno];have:Nat.pow 2 a=2 ^ a:=rfl;rw[this,Nat.testBit_two_pow];simp
def Znn(n:Nat):bit 0 n=false:=by rw[Zno];simp
def ZdE(h:U Nat)(i:Nat):U Edge->Nat
 | []=>0
 | e::es=>bif Region.binds .any e&&Nat.blt e.on i then Nat.lor (Nat.lor (Nat.pow 2 e.on) (h.getD e.on 0)) (ZdE h i es) else ZdE h i es
def Jh:U Oper->Nat->U Nat->U Nat
 | [],_,ps=>ps
 | o::l,i,ps=>Jh l (i+1) (ps++[ZdE ps i o.after.toList])
def ZsC{m:U Nat}{k:Nat}:∀(es:U Edge),bit (ZdE m i es) k=true->∃e∈es,Region.binds .any e=true/\e.on<i/\(k=e.on\/bit (m.getD e.on 0) k=true):=by
 intro es
 induction es with|nil=>intro h;simp[ZdE,Znn]at h|cons e es ih=>
   intro h;simp only[ZdE]at h;cases l:(Region.binds .any e&&Nat.blt e.on i)<;>rw[l]at h<;>simp only[Cq1,Cq0]at h;.have⟨e',h1,h2⟩:=ih h;exact⟨e',Kx _ h1,h2⟩
   rw[Ba0,G5]at l;rw[ZrK,ZrK,GM,GM]at h;rcases h with(h|h) | h
   .exact⟨e,by simp,l.1,l.2,.inl ((Zzl _ _).1 h).symm⟩
   .exact⟨e,by simp,l.1,l.2,.inr h⟩
   have⟨e',h1,h2⟩:=ih h;exact⟨e',Kx _ h1,h2⟩
def Zj1:∀(l:U Oper)(i:Nat)(m:U Nat),m.length=i->(∀k,k<i->(Jh l i m).getD k 0=m.getD k 0)/\
 ∀(j:Nat)(k:Nat),i<=j->bit ((Jh l i m).getD j 0) k=true->∃o,l[j-i]? =some o/\∃e∈o.after.toList,Region.binds .any e=true/\(k=e.on\/bit ((Jh l i m).getD e.on 0) k=true):=by
 intro l;induction l with
 | nil=>
   intro i m r;refine⟨fun _ _=>rfl,fun j k x h=>?_⟩;simp only[Jh]at h;rw[Gv,G7 V6]at h;simp[Znn]at h
 | cons o l ih=>
   intro i m r;have⟨h1,h2⟩:=ih (i+1) (m++[ZdE m i o.after.toList]) (by simp[r])
   have p:∀k,k<i->(Jh (o::l) i m).getD k 0=m.getD k 0:=by
    intro k q;simp only[Jh];rw[h1 k V6,Gv,List.getElem?_append_left V6,<-Gv]
   refine⟨p,fun j k x h=>?_⟩;by_cases t:j=i
   .subst t;refine⟨o,by simp,?_⟩
    have e:(Jh (o::l) j m).getD j 0=ZdE m j o.after.toList:=by
     simp only[Jh];rw[h1 j V6,Gv,List.getElem?_append_right V6];simp[r]
    rw[e]at h;have⟨e,he,hb,hlt,q⟩:=ZsC _ h;refine⟨e,he,hb,q.imp id fun q=>?_⟩;rw[p e.on hlt];exact q
   simp only[Jh]at h ⊢;have⟨o',ho',e,he⟩:=h2 j k V6 h;exact⟨o',by rw[show j-i=(j-(i+1))+1 by omega];exact ho',e,he⟩
def Uh(p:Nat->Oper->Z):U Oper->Nat->Z
 | [],_=>true
 | o::l,i=>p i o&&Uh p l (i+1)
def XO{p:Nat->Oper->Z}:∀(l:U Oper)(i:Nat),Uh p l i=true->∀k o,l[k]? =some o->p (i+k) o=true:=by
 intro l
 induction l with|nil=>intro i _ k o h;simp at h|cons o l ih=>
   intro i h k q m;simp[Uh,Ba0]at h;cases k with|zero=>simp at m;subst m;exact h.1|succ k=>
     have:=ih (i+1) h.2 k q (by simpa using m);rwa[show i+1+k=i+(k+1) by omega]at this
def isT(d:O Tmp)(t:Tmp):Z:=
 match d with|some d=>Nat.beq d t|none=>false
def ZeS{d:O Tmp}{t:Tmp}:isT d t=true↔d=some t:=by cases d with|none=>simp[isT]|some d=>simp[isT,Nat.beq_eq]
def comp(h:U Nat)(i j:Nat):Z:=bif Nat.blt i j then bit (h.getD j 0) i else bit (h.getD i 0) j
def Zd9(i:Nat)(o:Oper):Z:=o.after.toList.all fun e=>bif Region.binds .any e then Nat.blt e.on i else true
def ZlM(V:U Oper)(h:U Nat)(i:Nat)(o:Oper):Z:=
 (looks V o).all fun t=>Uh (fun k l=>bif isT l.dst t then Nat.beq k i||comp h i k else true) V 0
def Zne(V:U Oper)(i:Nat)(o:Oper):Z:=
 match o.dst with|none=>true|some t=>Uh (fun k h=>bif isT h.dst t then Nat.beq k i else true) V 0
def Zyn(h:U Nat)(m i:Nat):U Nat:=(List.range m).filter fun j=>bif Nat.beq i j then false else !comp h i j
def ZCp(V:U Oper)(h:U Nat):O (U (U Nat)):=
 bif Uh Zd9 V 0&&Uh (ZlM V h) V 0&&Uh (Zne V) V 0 then some ((List.range V.length).map (Zyn h V.length)) else none
def plan(V:U Oper):O (U (U Nat)):=ZCp V (Jh V 0 [])
def Yu(o:Oper):Z:=
 match o.op with|.move _ | .assign _ | .pick .. | .build .. | .nilCheck _ | .binOp .. | .unOp .. | .makeInterface .. | .makeFunc .. | .fieldAddr .. | .field .. | .indexAddr .. | .typeAssert .. | .extract .. =>true|_=>false
def hlAt(V:U Oper)(j:Nat):Z:=
 match V[j]? with|some o=>Yu o|none=>false
def Zce(V:U Oper)(o:Oper)(h:U Nat):Z:= !Yu o&&h.all (hlAt V)
def ZHl:AN->Z
 | .val _ | .panic _=>true
 | _=>false
def Quiet(h:AN)(E:Eff):Prop:=E=.none/\ZHl h=true
def Zsb{v:O N}{l:AN}(h:vN v=some (l,E)):Quiet l E:=by
 unfold vN at h;split at h;.cases h;exact⟨rfl,rfl⟩
 cases h
def Zlm{s:Sem N}{m:AN}(h:pN (KC P s)=some (m,E)):Quiet m E:=by
 unfold pN at h;split at h
 .rename_i p e;cases h;unfold KC at e;split at e
  .rename_i v _;cases l:plain v<;>rw[l]at e<;>simp only[Cq1,Cq0]at e;.cases e
   cases e;exact⟨rfl,rfl⟩
  .rename_i v _;cases l:plain v<;>rw[l]at e<;>simp only[Cq1,Cq0]at e;.cases e
   cases e;exact⟨rfl,rfl⟩
  cases e
 cases h
def Zxo{m:BinOp}{t:J}{x y:GV}{a b:N}{l:AN}(h:Q0 P m t x y a b=some (l,E)):Quiet l E:=by
 unfold Q0 at h;cases p:(plain a&&plain b)<;>rw[p]at h<;>simp[Cq1,Cq0]at h
 .split at h
  .split at h;.cases h;exact⟨rfl,rfl⟩
   cases h
  .split at h;.cases h;exact⟨rfl,rfl⟩
   cases h
  cases h
 exact Zlm h
def Zim(h g:H){ev:GV->O N}{o:Oper}(l:Yu o=true):Qd X g ev o=Qd X h ev o:=by unfold Yu at l;unfold Qd;split at l<;>first | (cases l;done) | (rename_i e;rw[e])
set_option maxHeartbeats 1000000 in
theorem ZA8 {X:Ctx} {h:H} {ev:Operand ->Option Value} {o:Oper} {nx:AN} {E:Eff} (ho:Yu o=true) (ha:Qd X h ev o=some (nx,E)):Quiet nx E:=by
 unfold Yu at ho;unfold Qd at ha;split at ho
 case h_15=>cases ho
 all_goals
  rename_i e;rw [e] at ha;dsimp only at ha
  repeat' split at ha
  all_goals first
   | exact Zsb ha
   | exact Zxo ha
   | (cases ha;done)
   | (cases ha;exact⟨rfl,rfl⟩)
   | (rw [Bool.cond_eq_ite] at ha;split at ha <;> first | exact Zlm ha | exact Zsb ha | (cases ha;done) | (cases ha;exact⟨rfl,rfl⟩) | (split at ha <;> first | (cases ha;done) | (cases ha;exact⟨rfl,rfl⟩)))
def ZFr(X:Ctx)(Qq:GX->Z)(ih:Jz->O Xr)(L:Nat)(free:Z)(V:U Oper)(o:Oper)(fr:Fr)(h:H):O (O Nat×N×H):=
 bif !okG V o fr then none else bif XD V o fr then
  match Qd X h (YM fr) o with
  | some (nx,E)=>match E.apply L h with
    | some h1=>match nx with
      | .val v=>some (E.tgt,v,h1)
      | .skip=>some (E.tgt,undef,h1)
      | .enter f args=>match ZoR (free||Qq f||E.tgt.isSome) L args h1 with
        | some x=>match ih (.call f args x h1) with|some (.fin (.ret v) h2)=>some (some x,v,h2)|_=>none
        | none=>match ih (.call f args (bif free && !Qq f then L else h1.size) h1) with|some (.fin (.ret v) h2)=>bif Qq f&&plain v then some (E.tgt,v,h1) else some (E.tgt,v,h2)|_=>none
      | .round l args=>bif free then match ih (.round l args L h1) with|some (.fin (.ret v) h2)=>some (E.tgt,v,h2)|_=>none
        else none
      | _=>none
    | none=>none
  | none=>none
 else some (none,undef,h)
def Zuy{Qq:GX->Z}{n:Nat}{o:Oper}{r:O Nat×N×H}
 (l:Kg X Qq ih n L wr free V o fr h=some r) (g:H):Kg X Qq ih n L wr free V o fr g=ZFr X Qq ih L free V o fr g:=by
 unfold Kg at l ⊢;cases e:o.dst with|none=>rfl|some d=>
   rw[e]at l;dsimp only at l ⊢;cases m:(Nat.blt d n&&allowed wr d)<;>rw[m]at l;.cases l
   rfl
def Zea{Qq:GX->Z}{n:Nat}{o:Oper}{v:N}(A:Yu o=true)
 (m:Kg X Qq ih n L wr free V o fr h=some (t,v,h1)):t=none/\h1=h/\∀g,Kg X Qq ih n L wr free V o fr g=some (none,v,g):=by
 have q:=Zuy m;simp only[q]at m ⊢;clear q;unfold ZFr at m ⊢;cases y:okG V o fr<;>rw[y]at m<;>simp only[G9,Q1,Cq1,Cq0]at m ⊢;.cases m
 cases x:XD V o fr<;>rw[x]at m<;>simp only[Cq1,Cq0]at m ⊢;.cases m;exact⟨rfl,rfl,fun g=>rfl⟩
 have r:∀g,Eff.apply L g .none=some g:=fun _=>rfl;split at m
 .rename_i C E B;obtain⟨rfl,p⟩:=ZA8 A B;rw[r]at m;dsimp only at m;cases C with
  | val v'=>
    cases m;refine⟨rfl,rfl,fun g=>?_⟩;rw[Zim h g A,B];dsimp only;rw[r];rfl
  | panic v'=>cases m
  | skip=>cases p
  | enter f YK=>cases p
  | round l YK=>cases p
  | dfr d=>cases p
  | ZoP=>cases p
 cases m
def ZHC(l:U (O Nat×Nat))(h:U Nat):U Nat:=h.filterMap fun j=>(l.getD j (none,0)).1
def upTo:Nat->Nat->U Nat
 | 0,_=>[]
 | k+1,y=>y::upTo k (y+1)
variable{Qq:GX->Z}
def Zib{l:U Nat}{k:Nat}(h:comp l i k=true):bit (l.getD i 0) k=true\/bit (l.getD k 0) i=true:=by
 unfold comp at h;cases m:Nat.blt i k<;>rw[m]at h;.exact .inl h
 exact .inr h
inductive Kl where
 | lst (l:List Nat)
 | all (n:Nat) (R:List Nat)
def Kl.get(L:Nat):Kl->U Nat
 | .lst l=>l
 | .all n R=>(upTo (n-L) L).filter fun x=>!R.contains x
def ZCZ:∀(k y x:Nat),x∈upTo k y↔y<=x/\x<y+k:=by
 intro k;induction k with
 | zero=>
   intro y x;constructor;.intro h;cases h
   intro h;omega
 | succ k ih=>intro y x;rw[upTo,Ks,ih];omega
def Kl.ZHB{n:Nat}{R:U Nat}:x∈(Kl.all n R).get L↔(L<=x/\x<n)/\x∉R:=by
 show x∈(upTo (n-L) L).filter _↔_;rw[List.mem_filter,ZCZ];constructor;.rintro⟨h1,h2⟩;refine⟨by omega,fun z=>?_⟩;rw[GL.2 z]at h2;cases h2
 rintro⟨h1,h2⟩;refine⟨by omega,?_⟩;rw[Bool.not_eq_true',Gm];exact fun z=>h2 (GL.1 z)
def ZaS(w:Z)(o:Oper):Z:=w && !Yu o
def K3(X:Ctx)(Qq:GX->Z)(ih:Jz->O Xr)(n L:Nat)(wr:O Nat)(V:U Oper):U Oper->U (U Nat)->U (Kl×Z)->Fr->H->O (U (O Nat×Nat)×Fr×H)
 | [],_,_,fr,h=>some ([],fr,h)
 | o::l,inc::X3,sp::Jk,fr,h=>
   match Kg X Qq ih n L wr (Zce V o inc||ZaS sp.2 o) V o fr (mask (sp.1.get L) h) with
   | some (t,v,h1)=>match K3 X Qq ih n L wr V l X3 Jk (UO fr o.dst v) (Jf (sp.1.get L) h h1) with|some (tl,Xk,h2)=>some ((t,h.size)::tl,Xk,h2)|none=>none
   | none=>none
 | _::_,_,_,_,_=>none
def xAt(h:U (Kl×Z))(j:Nat):Kl:=(h.getD j (.lst [],false)).1
def wAt(V:U Oper)(h:U (Kl×Z))(j:Nat):Z:=
 match V[j]? with|some o=>ZaS (h.getD j (.lst [],false)).2 o|none=>false
def eqL:U Nat->U Nat->Z
 | [],[]=>true
 | a::l,b::m=>Nat.beq a b&&eqL l m
 | _,_=>false
def ZFq:∀{l m:U Nat},eqL l m=true->l=m
 | [],[],_=>rfl
 | a::l,b::m,h=>by
   unfold eqL at h;rw[Ba0]at h;rw[Nb0 h.1,ZFq h.2]
 | [],_::_,h=>by cases h
 | _::_,[],h=>by cases h
def nAt(h:U (O Nat×Nat))(l k:Nat):Nat:=
 match h[k]? with|some p=>p.2|none=>l
def ckJ(L:Nat)(V:U Oper)(m:U (Kl×Z))(h:U (O Nat×Nat))(l i j:Nat):Z:=
 bif wAt V m j then(match xAt m i,xAt m j with|.all n R,.lst R'=>Nat.beq n (nAt h l j)&&eqL R R'&&Nat.beq (nAt h l (i+1)) (nAt h l i)|_,_=>false)
 else match(h.getD j (none,0)).1 with|none=>true|some x=>(Nat.blt x (nAt h l i)&&((xAt m i).get L).contains x)||Nat.ble (nAt h l (i+1)) x
def ckI(L:Nat)(V:U Oper)(h:U (U Nat))(l:U (Kl×Z))(m:U (O Nat×Nat))(p i:Nat):Z:=
 match V[i]? with
 | some o=>Yu o||Zce V o (h.getD i [])||(bif wAt V l i then(h.getD i []).all (fun j=>hlAt V j||(!wAt V l j&&(m.getD j (none,0)).1.isNone)) else(h.getD i []).all (ckJ L V l m p i))
 | none=>false
def ZvK(X:Ctx)(Qq:GX->Z)(ih:Jz->O Xr)(n L:Nat)(wr:O Nat)(V:U Oper):U Oper->U (U Nat)->Fr->H->O (U (O Nat×Nat×Z)×Fr)
 | o::l,inc::X3,fr,h=>
   match Kg X Qq ih n L wr (Zce V o inc) V o fr h with
   | some (t,v,h1)=>match ZvK X Qq ih n L wr V l X3 (UO fr o.dst v) h1 with|some (tl,Xk)=>some ((t,h.size,false)::tl,Xk)|none=>none
   | none=>match Kg X Qq ih n L wr true V o fr h with
     | some (_,v,h1)=>match ZvK X Qq ih n L wr V l X3 (UO fr o.dst v) h1 with|some (tl,Xk)=>some ((none,h.size,true)::tl,Xk)|none=>none
     | none=>none
 | _,_,fr,_=>some ([],fr)
def ZJ5(fr:Fr)(x:GV):O Nat:=
 match YM fr x with|some (.pointer (some a))=>some a.block|some (.slice (some a) _ _)=>some a.block|some (.map (some b))=>some b|_=>none
def ZLl(V:U Oper)(fr:Fr)(h:U Nat):U Nat:=
 h.flatMap fun j=>match V[j]? with|some o=>bif Yu o then [] else o.op.operands.toList.filterMap (ZJ5 fr)|none=>[]
def specs(V:U Oper)(h:U (O Nat×Nat×Z))(fr:Fr)(m:U (U Nat)):U Oper->U (U Nat)->U (O Nat×Nat×Z)->U (Kl×Z)
 | o::l,inc::is,(_,_,w)::tr=>(bif w then(.lst (ZLl V fr inc),true) else match inc.find? fun j=>(h.getD j (none,0,false)).2.2 with|some j=>bif Yu o then(.lst [],false) else(.all (h.getD j (none,0,false)).2.1 (ZLl V fr (m.getD j [])),false)|none=>(.lst (ZHC (h.map fun p=>(p.1,p.2.1)) inc),false))::specs V h fr m l is tr
 | _,_,_=>[]
def Zh9(X:Ctx)(Qq:GX->Z)(ih:Jz->O Xr)(n L:Nat)(V:U Oper)(l:U (U Nat))(m:U (Kl×Z))(s:Fs):O Fs:=
 match K3 X Qq ih n L s.wr V V l m s.fr s.h with
 | some (tl,fr,h)=>bif(List.range V.length).all (ckI L V l m tl h.size) then some {s with fr:=fr,h:=h} else none
 | none=>none
def ZrW(X:Ctx)(Qq:GX->Z)(ih:Jz->O Xr)(n L:Nat)(V:U Oper)(s:Fs):O Fs:=
 match plan V with
 | some l=>match Zh9 X Qq ih n L V l (l.map fun _=>(.lst [],false)) s with
   | some s'=>some s'
   | none=>match ZvK X Qq ih n L s.wr V V l s.fr s.h with|some (tl,fr)=>Zh9 X Qq ih n L V l (specs V tl fr l V l tl) s|none=>none
 | none=>none
def ZnC(X:Ctx)(Qq:GX->Z)(ih:Jz->O Xr)(n L:Nat)(V:U Oper)(s:Fs):O Fs:=
 ZrW X Qq ih n L V s
def Zen{n:Nat}(h:ZrW X Qq ih n L V s=some s'):∃l p,plan V=some l/\Zh9 X Qq ih n L V l p s=some s':=by
 unfold ZrW at h;split at h
 .rename_i l m;split at h;next s1 e=>cases h;exact⟨l,_,m,e⟩
  split at h;.exact⟨l,_,m,h⟩
  cases h
 cases h
def ZwQ{n:Nat}:∀(l:U Oper)(A:U (U Nat))(q:U (Kl×Z))(fr p:Fr)(h C:H)(B:U (O Nat×Nat)),K3 X Qq ih n L wr V l A q fr h=some (B,p,C) ->
 ∃(r:Nat->H) (y:Nat->Fr) (vs:Nat->N),r 0=h/\y 0=fr/\r l.length=C/\y l.length=p/\B.length=l.length/\
   ∀k o,l[k]? =some o->∃t h1,B[k]? =some (t,(r k).size)/\Kg X Qq ih n L wr (Zce V o (A.getD k [])||ZaS (q.getD k (.lst [],false)).2 o) V o (y k) (mask ((xAt q k).get L) (r k))=some (t,vs k,h1)/\
     r (k+1)=Jf ((xAt q k).get L) (r k) h1/\y (k+1)=UO (y k) o.dst (vs k):=by
 intro l;induction l with
 | nil=>
   intro A q fr p h C B m;simp[K3,G2,Prod.mk.injEq]at m;obtain⟨rfl,rfl,rfl⟩:=m;exact⟨fun _=>h,fun _=>fr,fun _=>undef,rfl,rfl,rfl,rfl,rfl,fun k o e=>by simp at e⟩
 | cons o l D=>
   intro A q fr p h C B m;match A,q,m with
   | inc::A,sp::q,m=>
     simp[K3]at m;split at m
     .rename_i t v h1 I;split at m
      .rename_i F K h2 E;cases m;have⟨r,y,vs,e1,e2,e3,e4,e5,e6⟩:=D A q _ _ _ _ _ E;refine⟨fun k=>match k with|0=>h|k+1=>r k,fun k=>match k with|0=>fr|k+1=>y k,fun k=>match k with|0=>v|k+1=>vs k,rfl,rfl,e3,e4,by simp[e5],?_⟩;intro k G x;cases k with
       | zero=>
         simp at x;subst x;exact⟨t,h1,rfl,I,e1,e2⟩
       | succ k=>
         have⟨t',h1',q1,q2,q3,q4⟩:=e6 k G (by simpa using x);exact⟨t',h1',q1,q2,q3,q4⟩
      cases m
     cases m
   | [],_,m=>simp[K3]at m
   | _::_,[],m=>simp[K3]at m
def ZAk{a:YN}(h:¬ a.live=true):a=.dead:=by cases a<;>first|rfl|exact absurd rfl h
def JK.hide{V:GZ Oper}{o:Oper}{M:Nat->Prop}{X':U Nat}{v:N}(B:JK P L rd V o M fr (mask X' h) v h'):
 JK P L rd V o (fun x=>M x/\x∉X') fr (mask X' h) v h':=by
 intro ρ a w F K Q r ZA S hF X
 have l:∀i,((mask X' h).at i).own=true->i∉X':=fun i t W=>by
  rw[QF,if_pos W]at t;cases t
 exact B ρ a w F K Q r ZA S hF fun A v' w' hv G m=>X A v' w' hv G
  ⟨m.ext,m.os,m.tape,m.output,m.X0,fun b T D=>m.frame b T fun i d I C t=>D i d ⟨I,l i t⟩ C t,
   fun i b d e e'=>let⟨x,y⟩:=m.Uu i b d e e';⟨x,y.imp id fun⟨j,d',p,q,E⟩=>⟨j,d',⟨p,l j E⟩,q,E⟩⟩⟩
def WH.hide{M:Nat->Prop}{m:U Nat}(l:WH M (mask m h) h'):WH (fun x=>M x/\x∉m) (mask m h) h':=
 ⟨l.size,fun i p hn=>by
   by_cases r:i∈m
   .have q:(mask m h).at i=.dead:=by rw[QF,if_pos r]
    rw[q];refine ZAk fun y=>?_
    have:=l.live i p y;rw[q]at this;cases this
   exact l.keep i p fun t=>hn ⟨t,r⟩,l.own,l.live⟩
def Zu8(HI:∀j r,ih j=some r->YW X j r)(HK:∀j r,ih j=some r->UI j r){n:Nat}{V:GZ Oper}{X3:U (U Nat)}{Jk:U (Kl×Z)}
 (hp:plan V.toList=some X3) (hr:Zh9 X Qq ih n L V.toList X3 Jk s=some s') (ZA:L<=s.h.size):
 ∃D:Data X.P n L rd V,D.hs 0=s.h/\D.fs 0=s.fr/\D.hs V.size=s'.h/\D.fs V.size=s'.fr/\s'.ds=s.ds:=by
 unfold Zh9 at hr;split at hr
 ·rename_i tl' fr' h' hd;cases hck:(List.range V.toList.length).all (ckI L V.toList X3 Jk tl' h'.size)<;>rw[hck]at hr<;>simp only[Cq1,Cq0]at hr
  ·cases hr
  cases hr;rw[KB]at hck;obtain⟨hs,fs,vs,e1,e2,e3,e4,e5,e6⟩:=ZwQ _ _ _ _ _ _ _ _ hd;unfold plan ZCp at hp;cases hall:(Uh Zd9 V.toList 0&&Uh (ZlM V.toList (Jh V.toList 0 [])) V.toList 0&&Uh (Zne V.toList) V.toList 0)<;>rw[hall]at hp<;>simp only[Cq1,Cq0]at hp
  ·cases hp
  simp only[G2]at hp;rw[Ba0,Ba0]at hall;obtain⟨⟨Zhj,ZlU⟩,hdst⟩:=hall;have Zhj:=XO _ _ Zhj;have ZlU:=XO _ _ ZlU;have hdst:=XO _ _ hdst;have hget:∀{k:Nat}{o:Oper},V[k]? =some o->V.toList[k]? =some o:=fun h=>by rwa[Gg]
  have hlt:∀{k:Nat}{o:Oper},V[k]? =some o->k<V.size:=fun h=>(Jn.1 h).1
  have hpos:∀{k:Nat},k<V.size->∃o,V[k]? =some o:=fun{k} h=>⟨V[k],by simp[h]⟩
  have hinc:∀i,i<V.size->X3.getD i []=Zyn (Jh V.toList 0 []) V.toList.length i:=by
   intro i hi;rw[<-hp,Gv];simp[hi]
  have hspec:=(Zj1 V.toList 0 [] rfl).2
  have hsz:∀k,k<=V.size->L<=(hs k).size/\s.h.size<=(hs k).size:=by
   intro k
   induction k with|zero=>intro _;rw[e1];exact⟨ZA,K2 _⟩|succ k ihk=>
     intro hk;obtain⟨o,ho⟩:=hpos (show k<V.size by omega);obtain⟨t,h1,q1,q2,q3,q4⟩:=e6 k o (hget ho);obtain⟨km,_,_⟩:=Wm HK q2 (by rw[ZX];exact(ihk V6).1);have:=km.size;rw[ZX]at this;rw[q3,Qb];have:=ihk V6;omega
  have htl:∀{k:Nat}{t:O Nat}{m:Nat},tl'[k]? =some (t,m)->(tl'.getD k (none,0)).1=t:=by
   intro k t m h;rw[Gv,h];rfl
  have ZDN:∀k,k<=V.size->nAt tl' h'.size k=(hs k).size:=by
   intro k hk;unfold nAt;by_cases hk':k<V.size
   ·obtain⟨o,ho⟩:=hpos hk';obtain⟨t,_,q1,_⟩:=e6 k o (hget ho);rw[q1]
   have:k=V.toList.length:=by simp;omega
   rw[G7 (by rw[e5];omega),this,e3]
  have hwA:∀{k:Nat}{o:Oper},V[k]? =some o->wAt V.toList Jk k=ZaS (Jk.getD k (.lst [],false)).2 o:=fun{k o} ho=>by
   unfold wAt;rw[hget ho]
  have hless:∀{k:Nat}{o:Oper}{x:Nat},V[k]? =some o->Yu o=true->¬ MOf (Zce V.toList o (X3.getD k [])||ZaS (Jk.getD k (.lst [],false)).2 o) L (tl'.getD k (none,0)).1 x:=by
   intro k o x ho hh hx;obtain⟨t,h1,q1,q2,q3,q4⟩:=e6 k o (hget ho)
   have hf:(Zce V.toList o (X3.getD k [])||ZaS (Jk.getD k (.lst [],false)).2 o)=false:=by
    unfold Zce ZaS;rw[hh];simp
   rw[hf]at hx;unfold MOf at hx;rw[if_neg Vd,htl q1,(Zea hh q2).1]at hx;cases hx
  refine⟨{hs:=hs,fs:=fs,vs:=vs,mo:=fun k x=>MOf (match V[k]? with|some o=>(Zce V.toList o (X3.getD k [])||ZaS (Jk.getD k (.lst [],false)).2 o) | none=>true) L (tl'.getD k (none,0)).1 x/\x∉(xAt Jk k).get L,Xs:=fun k=>(xAt Jk k).get L,hl:=hlAt V.toList,soft:=fun k=>none,Pb:=fun j k=>bit ((Jh V.toList 0 []).getD j 0) k=true,
          Zsr:=by rw[e1];exact ZA,step:= ?_,wmM:= ?_,dst:= ?_,Zg3:= ?_,Zuw:= ?_,inc:= ?_,ZNZ:= ?_,ZvF:= ?_,MX:= ?_,looks:= ?_,ZJQ:= ?_},e1,e2,by rw[<-e3];simp,by rw[<-e4];simp,rfl⟩
  ·intro k o ho;obtain⟨t,h1,q1,q2,q3,q4⟩:=e6 k o (hget ho);have hw:=(hsz k (Nat.le_of_lt (hlt ho))).1;obtain⟨km,_,_⟩:=Wm HK q2 (by rw[ZX];exact hw);rw[htl q1,ho];exact⟨h1,(ZcQ HI HK q2).hide,km.hide,q3,q4⟩
  ·intro k x hk hx;obtain⟨o,ho⟩:=hpos hk;obtain⟨t,h1,q1,q2,q3,q4⟩:=e6 k o (hget ho);have hw:=(hsz k (Nat.le_of_lt hk)).1;obtain⟨_,hm,_⟩:=Wm HK q2 (by rw[ZX];exact hw);rw[htl q1,ho]at hx;exact hm x hx.1
  ·intro k o d ho hd;obtain⟨t,h1,q1,q2,q3,q4⟩:=e6 k o (hget ho);have hw:=(hsz k (Nat.le_of_lt (hlt ho))).1;obtain⟨_,_,h3⟩:=Wm HK q2 (by rw[ZX];exact hw);exact(h3 d hd).1
  ·intro j k h;obtain⟨o,ho,e,he,hb,hk⟩:=hspec j k (Gq _) h;exact⟨o,e,by rw[<-Gg];simpa using ho,by simpa using he,hb,hk⟩
  ·intro j o e ho he hb;have:=Zhj j o (hget ho);unfold Zd9 at this;rw[KB]at this;have:=this e (by simpa using he);rw[hb]at this
   simpa[G5]using this
  ·intro i j hi hj hne h1 h2 hhl x hx hxj;obtain⟨o,ho⟩:=hpos hi;obtain⟨t,h3,q1,q2,q3,q4⟩:=e6 i o (hget ho)
   have hnc:comp (Jh V.toList 0 []) i j=false:=by
    rw[Gm];intro hc;rcases Zib hc with z|z
    ·exact h1 z
    exact h2 z
   have hnc':comp (Jh V.toList 0 []) j i=false:=by
    rw[Gm];intro hc;rcases Zib hc with z|z
    ·exact h2 z
    exact h1 z
   have hmem:j∈X3.getD i []:=by
    rw[hinc i hi];unfold Zyn;rw[List.mem_filter];have hb:Nat.beq i j=false:=by rw[Uz];simpa using hne
    exact⟨by simpa using hj,by rw[hb,hnc];rfl⟩
   have hmem':i∈X3.getD j []:=by
    rw[hinc j hj];unfold Zyn;rw[List.mem_filter];have hb:Nat.beq j i=false:=by rw[Uz];simpa using Ne.symm hne
    exact⟨by simpa using hi,by rw[hb,hnc'];rfl⟩
   have hhi:Yu o=false:=by
    unfold hlAt at hhl
    rwa[hget ho]at hhl
   obtain⟨oj,hoj⟩:=hpos hj
   have hjf:Zce V.toList oj (X3.getD j [])=false:=by
    unfold Zce;rw[Bool.and_eq_false_iff];right;rw[Gm];intro hall;rw[KB]at hall;rw[hall i hmem']at hhl;cases hhl
   rw[hoj]at hx;dsimp only at hx;obtain⟨hx,hxX⟩:=hx;have hck:=hck i (by simpa using hi);unfold ckI at hck;rw[hget ho]at hck;simp only[hhi,Gk,GM]at hck;rcases hck with hck|hck
   ·-- nothing beside it looks at the heap
    unfold Zce at hck;rw[Ba0,KB]at hck;have zj:=hck.2 j hmem;unfold hlAt at zj;rw[hget hoj]at zj;exact absurd hx (hless hoj zj)
   cases hwi:wAt V.toList Jk i<;>rw[hwi]at hck<;>simp only[Cq1,Cq0,KB]at hck
   ·have zj:=hck j hmem;unfold ckJ at zj;rw[hwA hoj]at zj;cases hwj:ZaS (Jk.getD j (.lst [],false)).2 oj<;>rw[hwj]at zj hx<;>simp only[Cq1,Cq0]at zj
    ·rw[hjf]at hx;unfold MOf at hx;rw[if_neg Vd]at hx;rw[hx]at zj;simp only[GM,Ba0,G5,GL,ZDN i V6,ZDN (i+1) V6]at zj;exact zj.imp (fun z=>⟨z.1,.inl z.2⟩) Nl0
    split at zj
    ·rename_i m R R' hxi ZYw;rw[Ba0,Ba0]at zj;obtain⟨⟨z1,z2⟩,z3⟩:=zj;have z1:=Nb0 z1;have z2:=ZFq z2;have z3:=Nb0 z3;rw[ZDN j V6]at z1;rw[ZDN i V6,ZDN (i+1) V6]at z3
     have hwx:L<=x:=by
      rw[hjf]at hx;unfold MOf at hx
      rwa[if_pos Vd]at hx
     rw[ZYw]at hxX;have hxR:x∉R:=by rw[z2];exact hxX
     rcases Gl x (hs i).size with q|q
     ·left;refine⟨q,.inl ?_⟩;show x∈(xAt Jk i).get L;rw[hxi,Kl.ZHB];exact⟨⟨hwx,by rw[z1];exact hxj⟩,hxR⟩
     right;rw[z3];exact q
    cases zj
   have zj:=hck j hmem;rw[GM]at zj;rcases zj with zj|zj
   ·unfold hlAt at zj;rw[hget hoj]at zj;exact absurd hx (hless hoj zj)
   rw[Ba0,hwA hoj,Bool.not_eq_true']at zj;rw[hjf,zj.1]at hx;unfold MOf at hx;rw[if_neg Vd]at hx;rw[hx]at zj;cases zj.2
  ·intro i o ho hh;have hi:=hlt ho;obtain⟨t,h3,q1,q2,q3,q4⟩:=e6 i o (hget ho);have hho:Yu o=true:=by unfold hlAt at hh;rwa[hget ho]at hh
   obtain⟨rfl,rfl,hg⟩:=Zea hho q2;have hfr:(Zce V.toList o (X3.getD i [])||ZaS (Jk.getD i (.lst [],false)).2 o)=false:=by unfold Zce ZaS;rw[hho];simp
   have hM:MOf false L none=fun _=>False:=by
    funext x;unfold MOf;rw[if_neg Vd];simp
   refine⟨fun y hy=>?_,?_,fun g=>?_⟩
   ·rw[htl q1,ho]at hy;dsimp only at hy;rw[hfr,hM]at hy;exact hy.1
   ·rw[q3,Qb,ZX]
   have hst:=ZcQ (rd:=rd) HI HK (hg g);rw[hfr,hM]at hst;exact hst
  ·intro i o x j ho hso;cases hso
  ·intro i x hi hx hxi;exact hx.2
  ·intro i o t ho ht k o' ho' hd;have:=ZlU i o (hget ho);unfold ZlM at this;rw[KB]at this;have:=XO _ _ (this t ht) k o' (hget ho');rw[ZeS.2 hd]at this;simp only[Cq1,GM,G6]at this;rcases this with z|z
   ·exact .inl (Nb0 z)
   exact .inr (Zib z)
  intro i j o o' t ho ho' hd hd';have:=hdst i o (hget ho);unfold Zne at this;rw[hd]at this;have:=XO _ _ this j o' (hget ho');rw[ZeS.2 hd']at this;simp only[Cq1,G6]at this;exact(Nb0 this).symm
 cases hr
def ZwR(T:∀j r,ih j=some r->UI j r){n:Nat}{A:U (U Nat)}{B:U (Kl×Z)}
 (m:Zh9 X Qq ih n L V A B s=some s') (S:L<=s.h.size):Y2 L s.h s'.h:=by
 have D:∀(wr:O Nat)(l:U Oper)(A:U (U Nat))(B:U (Kl×Z))(fr y:Fr)(h h':H)(F:U (O Nat×Nat)),K3 X Qq ih n L wr V l A B fr h=some (F,y,h')->L<=h.size->Y2 L h h':=by
  intro wr l;induction l with
  | nil=>intro A B fr y h h' F m _;simp only[K3,G2,Prod.mk.injEq]at m;obtain⟨_,_,rfl⟩:=m;exact Y2.refl _ _
  | cons o l G=>
    intro A B fr y h h' F m hw;match A,B,m with
    | inc::A,sp::B,m=>
      simp only[K3]at m;split at m
      .rename_i t v h1 K;split at m
       .rename_i Q W h2 I;cases m;have⟨km,hm,_⟩:=Wm T K (by rw[ZX];exact hw);generalize sp.1.get L=X' at *;have p:=km.size;rw[ZX]at p
        have k1:Y2 L h (Jf X' h h1):=by
         refine⟨by rw[Qb];exact p,fun i C=>?_,fun i C x=>?_,fun i C x=>?_⟩
         .rw[JD _ _ _ p];by_cases q:i∈X'/\i<h.size;.rw[if_pos q]
          rw[if_neg q,km.keep i (by rw[ZX];omega) (fun z=>by have:=hm i z;omega),QF,if_neg fun z=>q ⟨z,by omega⟩]
         .rw[JD _ _ _ p]at x;by_cases q:i∈X'/\i<h.size;.rwa[if_pos q]at x
          rw[if_neg q]at x;have:=km.own i (by rw[ZX];exact C) x;rw[QF,if_neg fun z=>q ⟨z,C⟩]at this;exact this
         rw[JD _ _ _ p]at x;by_cases q:i∈X'/\i<h.size;.rwa[if_pos q]at x
         rw[if_neg q]at x;have:=km.live i (by rw[ZX];exact C) x;rw[QF,if_neg fun z=>q ⟨z,C⟩]at this;exact this
        exact k1.next hw (G _ _ _ _ _ _ _ I)
       cases m
      cases m
    | [],_,m=>simp[K3]at m
    | _::_,[],m=>simp[K3]at m
 unfold Zh9 at m;split at m
 .rename_i E y h' K;cases P:(List.range V.length).all (ckI L V A B E h'.size)<;>rw[P]at m<;>simp only[Cq1,Cq0]at m;.cases m
  cases m;exact D _ _ _ _ _ _ _ _ _ K S
 cases m
def Zeo{n:Nat}(h:ZnC X Qq ih n L V s=some s'):ZrW X Qq ih n L V s=some s':=h
def Zu9(q:∀j r,ih j=some r->YW X j r)(p:∀j r,ih j=some r->UI j r){n:Nat}{V:GZ Oper}
 (l:ZnC X Qq ih n L V.toList s=some s') (m:L<=s.h.size):
 ∃D:Data X.P n L rd V,D.hs 0=s.h/\D.fs 0=s.fr/\D.hs V.size=s'.h/\D.fs V.size=s'.fr/\s'.ds=s.ds:=by
 have⟨X3,Jk,hp,h1⟩:=Zen (Zeo l);exact Zu8 q p hp h1 m
def cfg(X:Ctx)(Qq:GX->Z):Cfg:=⟨X,Qq,fun ih n L _ V s=>ZnC X Qq ih n L V s⟩
def ZFB:ZnL (cfg X Qq):=by intro ih m n L rd V s s' h l;have⟨_,_,_,h1⟩:=Zen (X:=X) (Qq:=Qq) (Zeo (X:=X) (Qq:=Qq) h);exact ZwR m h1 l
structure FsW(s s':Fs):Prop where
 wr:s'.wr=s.wr
 fr:∀t,allowed s.wr t=false->s'.fr.at t=s.fr.at t
 ds:∃l,s'.ds=l++s.ds
def FsW.refl(s:Fs):FsW s s:=⟨rfl,fun _ _=>rfl,[],rfl⟩
def FsW.trans{a b c:Fs}(h:FsW a b)(k:FsW b c):FsW a c:=by refine⟨k.wr.trans h.wr,fun t m=>(k.fr t (by rw[h.wr];exact m)).trans (h.fr t m),?_⟩;have⟨l,e⟩:=h.ds;have⟨l',e'⟩:=k.ds;exact⟨l'++l,by rw[e',e,Q4]⟩
def FsW.heap(s:Fs)(h:H):FsW s {s with h:=h}:=⟨rfl,fun _ _=>rfl,[],rfl⟩
def ZFT{n:Nat}{m:O Tmp}{v:N}(h:ZjF n s m v=some s'):FsW s s':=by
 rw[ZkS]at h;split at h;.cases h;exact FsW.refl _
 rename_i d;cases l:(Nat.blt d n&&allowed s.wr d)<;>rw[l]at h<;>simp only[Cq1,Cq0]at h;.cases h
 cases h;rw[Ba0]at l;refine⟨rfl,fun t p=>?_,[],rfl⟩;have:t≠d:=fun e=>by rw[e,l.2]at p;cases p
 simp[Fr.at,Tr.Qt,this]
def ZGq:Jz->Xr->Prop
 | .code _ _ _ _ s,r=>∀e s',r=.code e s'->FsW s s'
 | .loop _ _ _ _ s,r=>∀e s',r=.code e s'->FsW s s'
 | _,_=>True
def ZKa{n:Nat}{m:O Tmp}{t:AN}{x:H}{e:XX}(h:Zay Qq ih n L rd m s t x=some (e,s')):FsW s s':=by
 have l:∀{s1:Fs}{v:N},FsW s s1->(match ZjF n s1 m v with|some s=>some (XX.normal,s) | none=>none)=some (e,s')->FsW s s':=by
  intro s1 v hw r;split at r;next s2 q=>cases r;exact hw.trans (ZFT q)
  cases r
 unfold Zay at h;dsimp only[Uo]at h;split at h;.exact l (FsW.heap _ _) h
 .exact l (FsW.heap _ _) h
 .rename_i f args;cases q:Qq f<;>rw[q]at h<;>simp only[Cq1,Cq0]at h
  .split at h;.exact l (FsW.heap _ _) h
   .cases h;exact FsW.heap _ _
   cases h
  split at h
  .rename_i v h2 y;cases p:plain v<;>rw[p]at h<;>simp only[Cq1,Cq0]at h;.cases h
   exact l (FsW.heap _ _) h
  cases h
 .split at h;.exact l (FsW.heap _ _) h
  .cases h;exact FsW.heap _ _
  cases h
 .split at h;.refine l ?_ h;exact⟨rfl,fun _ _=>rfl,[_],rfl⟩
  cases h
 .cases h
 cases h;exact FsW.heap _ _
def Zxi{n:Nat}:∀(l:U Oper)(s s':Fs)(e:XX),ZoB X Qq ih n L rd V l s=some (e,s')->FsW s s':=by
 have step:∀(o:Oper)(s s':Fs)(e:XX),UN X Qq ih n L rd V o s=some (e,s')->FsW s s':=by
  intro o s s' e h;unfold UN at h;cases q:okG V o s.fr<;>rw[q]at h<;>simp only[G9,Q1,Cq1,Cq0]at h;.cases h
  cases p:XD V o s.fr<;>rw[p]at h<;>simp only[Cq1,Cq0]at h
  .split at h;next s2 r=>cases h;exact ZFT r
   cases h
  split at h
  .split at h;.exact ZKa h
   cases h
  cases h
 intro l
 induction l with|nil=>intro s s' e h;cases h;exact FsW.refl _|cons o l m=>
   intro s s' e h;simp only[ZoB]at h;split at h;next s1 h1=>exact(step o s s1 _ h1).trans (m s1 s' e h)
   next v s1 h1=>cases h;exact step o s s' _ h1
   cases h
def ZJS{n:Nat}{q:U (U Nat)}{r:U (Kl×Z)}(m:Zh9 X Qq ih n L V q r s=some s'):FsW s s':=by
 have x:∀(wr:O Nat)(l:U Oper)(q:U (U Nat))(r:U (Kl×Z))(fr p:Fr)(h y:H)(B:U (O Nat×Nat)),K3 X Qq ih n L wr V l q r fr h=some (B,p,y)->∀t,allowed wr t=false->p.at t=fr.at t:=by
  intro wr l;induction l with
  | nil=>intro q r fr p h y B m t _;simp only[K3,G2,Prod.mk.injEq]at m;obtain⟨_,rfl,_⟩:=m;rfl
  | cons o l C=>
    intro q r fr p h y B m t D;match q,r,m with
    | inc::q,sp::r,m=>
      simp only[K3]at m;split at m
      .rename_i tt v h1 F;split at m;next I K h2 E=>cases m;rw[C _ _ _ _ _ _ _ E t D,ZeB,if_neg fun e=>by rw[ZJR F t e]at D;cases D]
       cases m
      cases m
    | [],_,m=>simp[K3]at m
    | _::_,[],m=>simp[K3]at m
 unfold Zh9 at m;split at m
 .rename_i A p y F;cases G:(List.range V.length).all (ckI L V q r A y.size)<;>rw[G]at m<;>simp only[Cq1,Cq0]at m;.cases m
  cases m;exact⟨rfl,x _ _ _ _ _ _ _ _ _ F,[],rfl⟩
 cases m
def ZKj{n:Nat}(h:ZnC X Qq ih n L V s=some s'):FsW s s':=by have⟨_,_,_,h1⟩:=Zen (Zeo h);exact ZJS h1
def ZA4{T:U Nat}{t:Nat}:bit (ZdJ T) t=true↔t∈T:=by induction T with|nil=>simp[ZdJ,Znn]|cons x T ih=>simp only[ZdJ,ZrK,GM,ih,Zzl,Ks];exact⟨fun h=>h.imp Eq.symm id,fun h=>h.imp Eq.symm id⟩
def Qr{T:U Nat}{t:Nat}:(Y1 T fr).at t=if t∈T then ZrR else fr.at t:=by
 induction T generalizing fr with|nil=>simp[Y1]|cons x T ih=>
   rw[Y1,ih];by_cases h:t∈T;.simp[h]
   by_cases l:t=x;.subst l;simp[h,Fr.at,Tr.Qt]
   simp[h,l,Fr.at,Tr.Qt]
section
variable(HI:∀j r,ih j=some r->ZGq j r)
include HI
theorem Zjy{n:Nat}{e:XX}(h:ih (.code c n L rd s)=some (.code e s')):FsW s s':=HI _ _ h e s' rfl
theorem Zuq{C:Cfg}{l:MI}{n:Nat}{e:XX}(h:Zbg C ih l n L rd s=some (.code e s')):FsW s s':=by
 unfold Zbg at h;split at h;next s1 h1=>exact(Zxi _ _ _ _ h1).trans (Zjy HI h)
 next m s1 _ h1=>cases h;exact Zxi _ _ _ _ h1
 cases h
theorem ZrG{n:Nat}{k:XX->Fs->O Xr}(h:Zie k (ih (.code c n L rd s))=some r)
 (p:∀e s1 r,k e s1=some r->∀l s',r=.code l s'->FsW s1 s'):∀l s',r=.code l s'->FsW s s':=by
 have⟨e,s1,h1,h2⟩:=JX h;intro l s' m;exact(Zjy HI h1).trans (p e s1 r h2 l s' m)
omit HI in
theorem UL{e:XX}{s:Fs}{r:Xr}(h:some (.code e s)=some r):∀e' s',r=.code e' s'->FsW s s':=by
 cases h;intro e' s' h;cases h;exact FsW.refl _
theorem ZJL{C:Cfg}{l:MI}{n:Nat}(h:Zm8 C ih l c n L rd s=some r):∀e s',r=.code e s'->FsW s s':=by
 unfold Zm8 Zrl at h;generalize y:Zo3 l n L ((Zjt c).filter (allowed s.wr))=b at h;cases b with|false=>cases h|true=>
   have⟨_,_,_,_,_,d,hd,_,hdT⟩:=Zf7 y;simp[Cq1]at h;generalize ZcB C ih l n rd _ _ s l.es=b2 at h;cases b2 with|false=>cases h|true=>
     simp[Cq1]at h;split at h
     .rename_i e s2 h2;have w2:=Zuq HI h2
      have x:FsW s {s with fr:=UO (Y1 ((Zjt c).filter (allowed s.wr)) s.fr) l.o.dst UK,h:=s.h.put l.it .dead}:=by
       refine⟨rfl,fun t q=>?_,[],rfl⟩;have m:t∉(Zjt c).filter (allowed s.wr):=fun z=>by rw[List.mem_filter]at z;rw[z.2]at q;cases q
       show(UO _ _ _).at t=_;rw[ZeB,if_neg,Qr,if_neg m];intro e;rw[e]at hd;cases hd;exact m hdT
      have w:=x.trans w2;cases e with|normal=>cases h|exit _=>cases h;intro p s' h;cases h;exact w|goto _=>cases h;intro p s' h;cases h;exact w|ret=>cases h;intro p s' h;cases h;exact w|panic _=>cases h;intro p s' h;cases h;exact w
     cases h
theorem Zm7{C:Cfg}{n:Nat}{l:Nat}(h:Qm C ih g n L rd l s=some r):∀e s',r=.code e s'->FsW s s':=by
 unfold Qm at h;split at h
 .split at h
  .unfold J8 at h;split at h
   .split at h
    .rename_i p y fr A x YK D B t;cases m:(p==LoopState.busy)<;>rw[m]at h<;>simp only[Cq1,Cq0]at h
     .split at h;.cases h;intro e s' h;cases h;exact FsW.heap _ _
      intro e s' q;subst q;exact(FsW.heap _ _).trans (Zjy HI h)
     cases h
    cases h
   .cases h;intro e s' h;cases h;exact FsW.heap _ _
   cases h
  cases h
 cases h
theorem ZVG(j:Jz)(r:Xr)(h:Jy (cfg X Qq) ih j=some r):ZGq j r:=by
 cases j with
 | code c n L rd s=>
   simp[Jy]at h;cases c with
   | skip=>exact UL h
   | label l=>exact UL h
   | ret=>exact UL h
   | exit id=>exact UL h
   | goto l=>exact UL h
   | seq a b=>
     refine ZrG HI h fun e s1 r m=>?_;cases e with|normal=>intro x s' p;subst p;exact Zjy HI m|exit _=>exact UL m|goto _=>exact UL m|ret=>exact UL m|panic _=>exact UL m
   | cond c a b=>
     simp[Zam,Zna]at h;split at h;.rename_i t _;intro x s' p;subst p;cases t with|true=>exact Zjy HI h|false=>exact Zjy HI h
     cases h
   | block id c=>
     refine ZrG HI h fun e s1 r m=>?_;cases e with
     | exit k=>
       dsimp only at m;cases A:Nat.beq k id<;>rw[A]at m<;>exact UL m
     | normal=>exact UL m
     | goto _=>exact UL m
     | ret=>exact UL m
     | panic _=>exact UL m
   | scope c=>
     refine ZrG HI h fun e s1 r m=>?_;cases e with|exit k=>exact UL m|normal=>exact UL m|goto _=>cases m|ret=>exact UL m|panic _=>exact UL m
   | loop c=>intro e s' p;subst p;exact HI _ _ h e s' rfl
   | refuse _=>cases h
   | rangeFunc g C YK D=>
     simp[Zam,Zh2]at h;intro e s' p;split at h;.have:=Zm7 HI h e s' p;refine FsW.trans ?_ this;exact⟨rfl,fun _ _=>rfl,[_],rfl⟩
     split at h;.exact(FsW.heap _ _).trans (Zm7 HI h e s' p)
     cases h
   | region id V d=>
     cases d with
     | true=>
       simp[Zam,Cq1,Zro]at h;split at h;next s1 q=>cases h;intro e s' p;cases p;exact ZKj (X:=X) (Qq:=Qq) q
       cases h
     | false=>
       simp[Zam,Cq0,Zh1]at h;split at h;next e s1 q=>cases h;intro e s' p;cases p;exact Zxi _ _ _ _ q
       cases h
 | loop c n L rd s=>
   simp[Jy,Zh4]at h
   have y:Zm9 ih c n L rd s=some r->ZGq (.loop c n L rd s) r:=by
    intro h;refine ZrG HI h fun e s1 r m=>?_;cases e with|normal=>intro x s' p;subst p;exact HI _ _ m x s' rfl|exit _=>exact UL m|goto _=>exact UL m|ret=>exact UL m|panic _=>exact UL m
   split at h
   .split at h;next B p=>cases h;exact ZJL HI p
    exact y h
   exact y h
 | _=>trivial
end
def ZZT:∀(n:Nat)(j:Jz)(r:Xr),ev (cfg X Qq) n j=some r->ZGq j r:=by intro n;induction n with|zero=>intro j r h;cases h|succ n l=>intro j r h;exact ZVG l j r h
def VR.back{A:Ren}(x:ρ.le A){v K:N}(h:VR ρ v K):∀{r1:N},VR A v r1->VR ρ v r1:=by
 induction h with
 | bool b=>intro r1 h;cases h;exact .bool b
 | int k n=>intro r1 h;cases h;exact .int k n
 | float k b=>intro r1 h;cases h;exact .float k b
 | complex k a b=>intro r1 h;cases h;exact .complex k a b
 | string s=>intro r1 h;cases h;exact .string s
 | Zz8=>intro r1 h;cases h;exact .Zz8
 | ptr o m=>
   intro r1 h;cases h with|ptr _ h1=>have:=(x _ _ m).1;rw[h1]at this;cases this;exact .ptr o m
 | Zad=>intro r1 h;cases h;exact .Zad
 | slice o n c c' m S=>
   intro r1 h;cases h with
   | slice _ _ _ F h1 l=>
     have⟨q1,q2⟩:=x _ _ m;rw[h1]at q1;cases q1;rw[q2]at l;exact .slice o n c F m l
   | QX _ G _ h1 l=>
     have⟨q1,q2⟩:=x _ _ m;rw[h1]at q1;cases q1;exact .QX o G c m l
 | QX o G c m S=>
   intro r1 h;cases h with
   | slice _ _ _ F h1 l=>
     have⟨q1,q2⟩:=x _ _ m;rw[h1]at q1;cases q1;rw[q2]at l;exact .slice o 0 c F m l
   | QX _ L _ h1 l=>
     have⟨q1,q2⟩:=x _ _ m;rw[h1]at q1;cases q1;exact .QX o L c m l
 | U8 a=>
   intro r1 h;cases h with|U8 T=>exact .U8 T
 | ZAj=>intro r1 h;cases h;exact .ZAj
 | map m=>
   intro r1 h;cases h with|map h1=>have:=(x _ _ m).1;rw[h1]at this;cases this;exact .map m
 | ZpB=>intro r1 h;cases h;exact .ZpB
 | nilFunc=>intro r1 h;cases h;exact .nilFunc
 | nilIface=>intro r1 h;cases h;exact .nilIface
 | func fn xs ys p B C I V h1 h2 Q P=>
   intro r1 h;cases h with
   | func _ _ _ q D _ r E k1 k2=>
     refine .func fn xs ys q D C r E (fun i v v' a b=>?_) (fun i v v' a b=>?_);.have y:i<xs.size:=(Jn.1 a).1;exact Q i v (p[i]'V6) a (by simp[show i<p.size by omega]) (k1 i v v' a b)
     have y:i<ys.size:=(Jn.1 a).1;exact P i v (B[i]'V6) a (by simp[show i<B.size by omega]) (k2 i v v' a b)
   | yield h1=>exact absurd rfl (C _)
 | yield m=>
   intro r1 h;cases h with|func _ _ _ _ _ C=>exact absurd rfl (C _)|yield h1=>have:=(x _ _ m).1;rw[h1]at this;cases this;exact .yield m
 | iface t v v' _ ih=>intro r1 h;cases h with|iface _ _ v2 h=>exact .iface t v v2 (ih h)
 | agg xs p I _ ih=>
   intro r1 h;cases h with|agg _ q r k=>
     refine .agg xs q r fun i v v' a b=>?_;have y:i<xs.size:=(Jn.1 a).1;exact ih i v (p[i]'V6) a (by simp[show i<p.size by omega]) (k i v v' a b)
 | tuple xs p I _ ih=>
   intro r1 h;cases h with|tuple _ q r k=>
     refine .tuple xs q r fun i v v' a b=>?_;have y:i<xs.size:=(Jn.1 a).1;exact ih i v (p[i]'V6) a (by simp[show i<p.size by omega]) (k i v v' a b)
def UE.back(m:ρ.le l){xs ys zs:GZ N}(h:UE ρ xs ys)(k:UE l xs zs):UE ρ xs zs:=
 ⟨k.1,fun i v v' a b=>by
   have p:i<xs.size:=(Jn.1 a).1;have:=h.1;exact VR.back m (h.2 i v (ys[i]'V6) a (by simp[show i<ys.size by omega])) (k.2 i v v' a b)⟩
def Zr4.back(m:ρ.le l){d p d2:V2}(h:Zr4 ρ d p)(k:Zr4 l d d2):Zr4 ρ d d2:=by have⟨⟨f,c,c1,e1,e2,e3⟩,e4⟩:=h;have⟨⟨f',c',c2,k1,k2,k3⟩,k4⟩:=k;rw[e1]at k1;cases k1;exact⟨⟨f,c,c2,e1,k2,UE.back m e3 k3⟩,UE.back m e4 k4⟩
def DsR.back(r:ρ.le l){ds y:U V2}(h:DsR ρ ds y):∀{d2:U V2},DsR l ds d2->DsR ρ ds d2:=by
 induction h with
 | nil=>intro d2 h;cases h;exact .nil
 | cons x _ ih=>
   intro d2 h;cases h with|cons p m=>exact .cons (x.back r p) (ih m)|mark q m=>have⟨⟨_,_,_,e1,_⟩,_⟩:=x;cases e1
 | mark t _ ih=>
   intro d2 h;cases h with|cons p m=>have⟨⟨_,_,_,e1,_⟩,_⟩:=p;cases e1|mark q m=>have:=(r _ _ t).1;rw[q]at this;cases this;exact .mark t (ih m)
def Rel.congr{l:H}(r:Rel ρ h w)(m:l.size=h.size)(he:∀i,l.at i=h.at i):Rel ρ l w:=
 ⟨fun i b d e=>by rw[m];exact r.dom i b d e,fun i b d e=>by rw[he];exact r.obj i b d e,fun i j b d q e p h1 h2=>by rw[he]at h1 h2;exact r.inj i j b d q e p h1 h2⟩
def Zll{b:Nat}{A:YN}(r:Rel ρ (h.put i .dead) w)(D:ρ i=some (b,0))(y:∀j q d,ρ j=some (q,d)->q=b->j≠i->(h.at j).live=true->False)
 (L:∀k,k≠b->w'.heap[k]? =w.heap[k]?) (K:w'.heap.size=w.heap.size) (P:Jr ρ w' b 0 (ρ.lim i) A):Rel ρ (h.put i A) w':=by
 have C:=(r.dom i b 0 D).1;rw[H.size_put]at C;have l:∀(B:YN) j,j≠i->(h.put i B).at j=h.at j:=fun B j p=>by rw[H.QC,if_neg (fun x=>p x.1)]
 have Zwg:(h.put i A).at i=A:=by rw[H.QC,if_pos ⟨rfl,C⟩]
 refine⟨fun j q d e=>by have:=r.dom j q d e;rw[H.size_put]at *;omega,fun j q d e=>?_,fun j k q d I e E F t=>?_⟩
 .by_cases p:j=i;.subst p;rw[D]at e;cases e;rw[Zwg];exact P
  rw[l A j p];by_cases G:q=b
  .by_cases t:(h.at j).live=true;.exact(y j q d e G p t).elim
   rw[Ws t];trivial
  have:=r.obj j q d e;rw[l _ j p]at this;exact this.world (L q G)
 by_cases p:j=i
 .by_cases m:k=i;.omega
  subst p;rw[D]at e;cases e;rw[l A k m]at t;exact(y k _ I E rfl m t).elim
 rw[l A j p]at F;by_cases m:k=i;.subst m;rw[D]at E;cases E;exact(y j _ d e rfl p (WT F)).elim
 rw[l A k m]at t;refine r.inj j k q d I e E ?_ ?_;.rw[l _ j p];exact F
 rw[l _ k m];exact t
def ZkB(ty:J){b t since c0:Nat}{h:GZ Nat}{es:GZ V0}(F:w.heap[b]? =some (.mapIter (some t) since h c0))(I:w.heap[t]? =some (.map es m))
 (p:∀x∈es.toList,x.born<since) (A:since<=c0):
 ((leftOf es h).size=0/\(Instr.next ((V5 b)) false ty).run P w=.ok UK w)\/
 ∃e∈(leftOf es h).toList,∃w1:GY,w1.heap=w.heap/\Same w w1/\(Instr.next ((V5 b)) false ty).run P w=.ok (.tuple #[.bool true,e.key,e.val]) (w1.putObj b (.mapIter (some t) since (h.push e.born) m)):=by
 simp only[Instr.next,getObj,Sem.run_bind,Sem.run,F,I,Result.andThen,next_test_false h es since c0 p A,Bool.false_eq_true,if_false];unfold leftOf;have l:∀x∈(Array.filter (fun e=>!h.contains e.born) es).toList,x.born<since:=fun x q=>p x (by simp at q ⊢;exact q.1);generalize Array.filter (fun e=>!h.contains e.born) es=L' at l ⊢;have L:L'.filter (fun x=>decide (x.born<since))=L':=Array.filter_eq_self.2 (fun x q=>by simpa using l x (by simpa using q))
 have K:L'.filter (fun x=>decide (x.born >=since))=#[]:=by
  rw[Array.filter_eq_empty_iff];intro x q;have:=l x (by simpa using q);simp;omega
 simp only[L,K,Array.append_empty];by_cases G:L'.size=0;.left;have:L'=#[]:=Array.eq_empty_of_size_eq_zero G;subst this;refine⟨rfl,?_⟩;simp[choose,Sem.run,Question.forced,UK]
 right;have B:L'.isEmpty=false:=by simp[Array.isEmpty,G]
 simp only[B,Bool.false_eq_true,if_false,Array.empty_append,Array.size_map]
 have D:∃(j:Nat) (w1:GY),j<L'.size/\w1.heap=w.heap/\Same w w1/\(choose (Question.mapNext L'.size)).run P w=.ok j w1:=by
  by_cases E:L'.size<=1;.exact⟨0,w,by omega,rfl,Same.refl w,by simp[choose,Sem.run,Question.forced,E]⟩
  exact⟨_,w.drew,Nat.mod_lt _ V6,rfl,⟨rfl,rfl,rfl⟩,by
   simp only[choose,Sem.run,Question.forced,decide_eq_true_eq,E,if_false,Question.cut];rfl⟩
 have⟨j,w1,hj,hh,hal,hrun⟩:=D;refine⟨L'[j],by simp,w1,hh,hal,?_⟩
 have r:∀(y:Obj),(setObj b y).run P w1=.ok () (w1.putObj b y):=fun y=>by
  have C:w1.heap[b]? =some (.mapIter (some t) since h c0):=by rw[hh];exact F
  simp[setObj,Sem.run,C,World.putObj]
 simp only[hrun,Array.getElem?_map,Gn hj,Option.map_some,Sem.run_bind,r,Result.andThen];rfl
def EL.mem{es es':U V0}(e:EL ρ es es'){l:V0}(m:l∈es'):∃x∈es,l.key=x.key/\plain x.key=true/\l.born=x.born/\VR ρ x.val l.val:=by
 induction e with|nil=>cases m|cons q p r hv _ ih=>
   rcases Ks.1 m with rfl|h
   .exact⟨_,by simp,q,p,r,hv⟩
   have⟨x,h1,h2⟩:=ih h;exact⟨x,Kx _ h1,h2⟩
def Zgy{clock:Nat}:∀{es:U V0},JA clock es=true->∀e∈es,e.born<clock:=by
 intro es
 induction es with|nil=>intro _ e h;cases h|cons x es ih=>
   intro h e he;simp[JA,Ba0,G5]at h;rcases Ks.1 he with rfl|he
   .exact h.1.1
   exact ih h.2 e he
section
variable{C:Cfg}(HI:∀j r,ih j=some r->YW C.X j r)(HW:∀j r,ih j=some r->ZGq j r)
def Zh7(G:∀j r,ih j=some r->YW C.X j r){m:MI}{n:Nat}{e:XX}(h:Zbg C ih m n L rd s=some (.code e s')){a:Act}(B:Inv ρ n s a w)(E:L<=s.h.size)(D:FR' ρ rd F)
 {Q:Exit->Act->GY->Prop} (p:∀t q w',Qx L n ρ s.h w e s' t q w'->Q t q w'):wpListIn F 0 C.X.P m.ops (Exit.then (m.rest.wpIn F 0 C.X.P Q) Q) m.l a w:=by
 unfold Zbg at h;split at h;.rename_i s1 h1;have⟨_,_,e0,k⟩:=XB.1 (G _ _ h);cases e0;refine Znu G _ m.l s s1 .normal h1 B E D fun t q w' y=>?_;have⟨ρ',he,hi',hst⟩:=y;cases he;exact wpIn_mono (k ρ' q w' F (KK E hst.size) hi' (D.mono hst.ext)) fun I S w2 x=>p _ _ _ (Qx.trans B.rel.lt hst x)
 .rename_i K s1 A h1;cases h;refine Znu G _ m.l s _ _ h1 B E D fun t q w' y=>?_;have⟨ρ',he,hi',hst⟩:=y;cases he with|normal=>exact(A rfl).elim|exit id=>exact p _ _ _ ⟨ρ',.exit id,hi',hst⟩|goto id=>exact p _ _ _ ⟨ρ',.goto id,hi',hst⟩|ret=>exact p _ _ _ ⟨ρ',.ret,hi',hst⟩|panic hv=>exact p _ _ _ ⟨ρ',.panic hv,hi',hst⟩
 cases h
include HI HW in
theorem Zup:ZMf C ih:=by
 intro c n L rd s r mi hmi h;obtain⟨rfl,hops,hop,hgu,hfr,hit,hm⟩:=ZlJ hmi;unfold Zm8 at h;generalize (Zjt (.seq (.region mi.id mi.ops false) mi.rest)).filter (allowed s.wr)=T at h;unfold Zrl at h;generalize hb:Zo3 mi n L T=b at h;cases b with
 | false=>cases h
 | true=>
 obtain⟨hs1,hs2,hborn,Zv8,htT,d,hd,hdn,hdT⟩:=Zf7 hb;simp only [Cq1] at h;generalize ZlV:ZcB C ih mi n rd (ZdJ T) (Y1 T s.fr) s mi.es=b2 at h;cases b2 with
 | false=>cases h
 | true=>
 simp only [Cq1] at h
 have ZlV:∀ e ∈ mi.es,∃ s2,Zbg C ih mi n s.h.size rd {fr:=UO (Y1 T s.fr) mi.o.dst (.tuple #[.bool true,e.key,e.val]),ds:=s.ds,h:=s.h.put mi.it (.iter mi.m mi.since mi.clock (some e.born)),wr:=some (ZdJ T)}=some (.code .normal s2)∧s2.ds.length=s.ds.length:=by
  have:∀ es,ZcB C ih mi n rd (ZdJ T) (Y1 T s.fr) s es=true ->∀ e ∈ es,∃ s2,Zbg C ih mi n s.h.size rd {fr:=UO (Y1 T s.fr) mi.o.dst (.tuple #[.bool true,e.key,e.val]),ds:=s.ds,h:=s.h.put mi.it (.iter mi.m mi.since mi.clock (some e.born)),wr:=some (ZdJ T)}=some (.code .normal s2)∧s2.ds.length=s.ds.length:=by
   intro es
   induction es with
   | nil=>intro _ e he;cases he
   | cons x es ihe=>
     intro hh e he;simp only [ZcB,Ba0] at hh;rcases List.mem_cons.1 he with rfl | he
     ·have h1:=hh.1;split at h1
      ·rename_i s2 h2;exact⟨s2,h2,Nb0 h1⟩
      ·cases h1
     ·exact ihe hh.2 e he
  exact this _ ZlV
 generalize hover:Zbg C ih mi n L rd {s with fr:=UO (Y1 T s.fr) mi.o.dst UK,h:=s.h.put mi.it .dead}=rr at h
 have hrr:∃ e s2,rr=some (.code e s2):=by
  split at h
  ·exact⟨_,_,rfl⟩
  ·cases h
 obtain⟨e,s2,rfl⟩:=hrr
 have hres:e ≠ .normal∧r= .code e s2:=by
  cases e with
  | normal=>cases h
  | exit _=>cases h;exact⟨fun z=>(by cases z),rfl⟩
  | goto _=>cases h;exact⟨fun z=>(by cases z),rfl⟩
  | ret=>cases h;exact⟨fun z=>(by cases z),rfl⟩
  | panic _=>cases h;exact⟨fun z=>(by cases z),rfl⟩
 obtain⟨hne,rfl⟩:=hres;refine⟨e,s2,rfl,fun ρ a0 w0 F ZA hi0 hF=>?_⟩;obtain⟨dd,hdr⟩:∃ d,d=mi.it:= ⟨_,rfl⟩
 have Zwb:=hi0.fr.val mi.t (by rw [hfr];rfl);rw [hfr] at Zwb;generalize hpx:a0.tmps.getD mi.t undef=px at Zwb;cases Zwb with
 | @ptr _ bi di _ Zf9=>
 have hoi:=hi0.rel.obj _ _ _ Zf9;rw [hit] at hoi;obtain⟨rfl,bm,ZR1,ZlQ,ZDS,_,Zgc⟩:=hoi;have Zgc:=Zgc rfl;subst Zgc;have hom:=hi0.rel.obj _ _ _ ZlQ;rw [hm] at hom;obtain⟨_,es',ZDO,hes⟩:=hom;have hilt:=hi0.rel.dom _ _ _ Zf9;have ZYS:=hi0.rel.dom _ _ _ ZlQ;have Zwe:mi.m ≠ mi.it:=fun z=>by rw [z,hit] at hm;cases hm
 have hold:∀ x ∈ es'.toList,x.born < mi.since:=by
  intro x hx;obtain⟨y,hy,_,_,hyb,_⟩:=hes.mem hx;rw [hyb,hs1];exact Zgy hborn y hy
 have Ztg:∀ j b d,ρ j=some (b,d) ->b=bi ->j ≠ mi.it ->((s.h.at j).live=true ->False):=by
  intro j b d hj hbb hne' hl;subst hbb;exact hne' (hi0.rel.inj mi.it j b 0 d Zf9 hj (by rw [hit];rfl) hl).symm
 have hbne:bm ≠ bi:=fun z=>Ztg mi.m bm 0 ZlQ z Zwe (by rw [hm];rfl)
 have ZTN:s.h.size= (s.h.put mi.it .dead).size:=rfl
 have ZlT:∀ {a:Act} {w:World} {K:Act ->World ->Prop} {Q:Exit ->Act ->World ->Prop} {v:Value} {w1:World},a.tmps.getD mi.t undef= .pointer (some ⟨bi,0,none⟩) ->(Instr.next (.pointer (some ⟨bi,0,none⟩)) false mi.o.type).run C.X.P w= .ok v w1 ->
  K (a.put mi.o.dst v) w1 ->(if Region.wanted mi.o (yielded mi.ops a.tmps) then mi.o.wpIn F 0 C.X.P a w K Q else(∀ f,mi.o.about C.X.P w a.eval=some f ->F.fn f)∧K (a.put mi.o.dst undef) w):=by
  intro a w K Q v w1 ht hrun hK;have hw:Region.wanted mi.o (yielded mi.ops a.tmps)=true:=by unfold Region.wanted;rw [hgu]
  rw [if_pos hw];refine⟨fun f hab=>(by unfold Oper.about at hab;rw [hop] at hab;cases hab),?_⟩;have ZqG:mi.o.semAt F.round a.eval=execOp a.eval mi.o:=Oper.semAt_eq _ _ _ fun c hc=>by rw [hop] at hc;cases hc
  have he:a.eval (.tmp mi.t)= .pointer (some ⟨bi,0,none⟩):=ht
  have hx:(execOp a.eval mi.o).run C.X.P w= .ok (.value v) w1:=by
   unfold execOp;rw [hop];simp [he,hrun]
  rw [ZqG,hx];exact hK
 have ZTJ:∀ t,t ∉ T ->t ≠ d:=fun t ht z=>by rw [z] at ht;exact ht hdT
 have Zs8:∀ (a:Act) (w:World),Inv ρ n {s with fr:=Y1 T s.fr,h:=s.h.put mi.it .dead} a w ->a.tmps.getD mi.t undef= .pointer (some ⟨bi,0,none⟩):=by
  intro a w hi;have h0:VR ρ ((Y1 T s.fr).at mi.t) (a.tmps.getD mi.t undef):=hi.fr.val mi.t (by show Qv ((Y1 T s.fr).at mi.t)=false;rw [Qr,if_neg htT,hfr];rfl);rw [Qr,if_neg htT,hfr] at h0;generalize a.tmps.getD mi.t undef=y at h0;cases h0 with
  | ptr _ h1=>rw [Zf9] at h1;cases h1;rfl
 have ZDw:∀ (a:Act) (w:World),Inv ρ n {s with fr:=Y1 T s.fr,h:=s.h.put mi.it .dead} a w ->Stp L ρ s.h w0 ρ (s.h.put mi.it .dead) w ->a.tmps.getD mi.t undef= .pointer (some ⟨bi,0,none⟩) ->
  (Instr.next (.pointer (some ⟨bi,0,none⟩)) false mi.o.type).run C.X.P w= .ok UK w ->∀ (_:Unit),LoopIn F 0 C.X.P (.seq (.region mi.id mi.ops false) mi.rest) (Qx L n ρ s.h w0 e s2) a w:=by
  intro a w hi hst ht hrun _;refine QJ (wpIn_seq (wpIn_region_list ?_));rw [hops];refine ZlT ht hrun ?_
  have hio:Inv ρ n {s with fr:=UO (Y1 T s.fr) mi.o.dst UK,h:=s.h.put mi.it .dead} (a.put mi.o.dst UK) w:=by
   refine⟨hi.rel,?_,?_⟩
   ·rw [hd];exact hi.fr.set hdn (VR.Yk rfl)
   ·rw [hd];exact hi.ds
  refine Zh7 HI hover hio ZA hF fun e3 a3 w3 hp=>?_
  have hp2:=Qx.trans hi0.rel.lt hst hp;obtain⟨ρ3,hx3,hi3,JV⟩:=hp2;cases hx3 with
  | normal=>exact(hne rfl).elim
  | exit id=>exact⟨ρ3,.exit id,hi3,JV⟩
  | goto id=>exact⟨ρ3,.goto id,hi3,JV⟩
  | ret=>exact⟨ρ3,.ret,hi3,JV⟩
  | panic hv=>exact⟨ρ3,.panic hv,hi3,JV⟩
 have head:∀ (k:Nat) (seen:Array Nat) (last:Nat) (a:Act) (w:World),(leftOf es' seen).size <=k ->mi.clock <=last ->w.heap[bi]? =some (.mapIter (some bm) mi.since seen last) ->w.heap[bm]? =some (.map es' mi.clock) ->
  Inv ρ n {s with fr:=Y1 T s.fr,h:=s.h.put mi.it .dead} a w ->
  Stp L ρ s.h w0 ρ (s.h.put mi.it .dead) w ->LoopIn F 0 C.X.P (.seq (.region mi.id mi.ops false) mi.rest) (Qx L n ρ s.h w0 e s2) a w:=by
  intro k
  induction k with
  | zero=>
    intro seen last a w hk hlast hblk Zhi hi hst;have ht:=Zs8 a w hi;rcases ZkB (P:=C.X.P) mi.o.type hblk Zhi hold (by rw [hs1];exact hlast) with⟨_,hrun⟩ | ⟨e',he',_⟩
    ·exact ZDw a w hi hst ht hrun ()
    ·have:=Array.length_toList ▸ List.length_pos_of_mem he';omega
  | succ k ihk=>
    intro seen last a w hk hlast hblk Zhi hi hst;have ht:=Zs8 a w hi;rcases ZkB (P:=C.X.P) mi.o.type hblk Zhi hold (by rw [hs1];exact hlast) with⟨_,hrun⟩ | ⟨e',he',w1,hw1,hsame,hrun⟩
    ·exact ZDw a w hi hst ht hrun ()
    ·have hmem:= (mem_left he').1;obtain⟨x,hx,hkey,hkp,hbn,hval⟩:=hes.mem hmem;obtain⟨s3,hbody,hlen⟩:=ZlV x hx;have hW:=Zuq HW hbody;have ZDQ:bi < w.heap.size:= (hi.rel.dom _ _ _ Zf9).2;have ZTM:bm < w.heap.size:= (hi.rel.dom _ _ _ ZlQ).2;obtain⟨w2,hw2⟩:∃ w2,w2=w1.putObj bi (.mapIter (some bm) mi.since (seen.push e'.born) mi.clock):= ⟨_,rfl⟩
     rw [← hw2] at hrun;have hsz2:w2.heap.size=w.heap.size:=by rw [hw2,World.putObj_size,hw1]
     have hother:∀ k,k ≠ bi ->w2.heap[k]? =w.heap[k]?:=fun k hk=>by rw [hw2,World.putObj_heap_other hk,hw1]
     have ZDT:w2.heap[bi]? =some (.mapIter (some bm) mi.since (seen.push e'.born) mi.clock):=by rw [hw2];exact World.putObj_heap_same (by rw [hw1];exact ZDQ)
     have Zgd:Same w w2:=by rw [hw2];exact⟨hsame.os,hsame.tape,hsame.output⟩
     have hrel:Rel ρ (s.h.put mi.it (.iter mi.m mi.since mi.clock (some x.born))) w2:=by
      refine Zll hi.rel Zf9 Ztg hother hsz2 ⟨rfl,bm,seen.push e'.born,ZlQ,ZDT,fun z hz=>?_,fun z=>by cases z⟩;cases hz;rw [← hbn];simp
     have hie:Inv ρ n {fr:=UO (Y1 T s.fr) mi.o.dst (.tuple #[.bool true,x.key,x.val]),ds:=s.ds,h:=s.h.put mi.it (.iter mi.m mi.since mi.clock (some x.born)),wr:=some (ZdJ T)} (a.put mi.o.dst (.tuple #[.bool true,e'.key,e'.val])) w2:=by
      refine⟨hrel,?_,?_⟩
      ·rw [hd];refine hi.fr.set hdn (.tuple _ _ rfl fun j y y' p q=>?_)
       match j,p,q with
       | 0,p,q=>simp at p q;subst p q;exact .bool true
       | 1,p,q=>simp at p q;subst p q;rw [hkey];exact VR.Yk hkp
       | 2,p,q=>simp at p q;subst p q;exact hval
       | j + 3,p,q=>simp at p
      ·rw [hd];exact hi.ds
     refine QJ (wpIn_seq (wpIn_region_list ?_));rw [hops];refine ZlT ht hrun ?_;refine Zh7 HI hbody hie (Nat.le_refl _) hF fun e3 a3 w3 hp=>?_
     obtain⟨ρ3,hx3,hi3,JV⟩:=hp;cases hx3;show LoopIn F 0 C.X.P _ _ a3 w3;obtain⟨q1,q2⟩:=Zch hrel JV;have Zwf:∀ b,b < w2.heap.size ->w3.heap[b]? =w2.heap[b]?:=fun b hb=>JV.frame b hb fun i d hi' e _=>by have:=hrel.lt i _ e;simp at this hi';omega
     have hwr:∀ t,t ∉ T ->s3.fr.at t=s.fr.at t:=by
      intro t ZdL;rw [hW.fr t (by show bit (ZdJ T) t=false;rw [Bool.eq_false_iff];intro z;exact ZdL (ZA4.1 z))];show(UO (Y1 T s.fr) mi.o.dst _).at t=_;rw [ZeB,if_neg (by rw [hd];intro z;cases z;exact ZdL hdT),Qr,if_neg ZdL]
     have ZN1:s3.ds=s.ds:=by
      obtain⟨l,hl⟩:=hW.ds;have hl:s3.ds=l ++ s.ds:=hl;rw [hl,List.length_append] at hlen;have:l= []:=List.eq_nil_of_length_eq_zero (by omega);rw [hl,this];rfl
     refine ihk (seen.push e'.born) mi.clock a3 w3 (by have:=left_shrinks es' seen e' he';omega) (Nat.le_refl _) (by rw [Zwf bi (by omega)];exact ZDT) (by rw [Zwf bm (by omega),hother bm hbne];exact Zhi) ⟨?_,⟨hi3.fr.size,fun t hany=>?_⟩,?_⟩ ?_
     ·refine(Zdx (i:=mi.it) q1).congr rfl fun i=>?_
      rw [H.QC,H.QC];by_cases hii:i=mi.it∧i < s.h.size
      ·rw [if_pos hii,if_pos (by simpa using hii)]
      ·rw [if_neg hii,if_neg (by simpa using hii),H.QC,if_neg hii]
     ·change Qv ((Y1 T s.fr).at t)=false at hany
      show VR ρ ((Y1 T s.fr).at t) _;rw [Qr] at hany ⊢;by_cases ZdL:t ∈ T
      ·rw [if_pos ZdL] at hany;cases hany
      ·rw [if_neg ZdL] at hany ⊢;have h0:=hi.fr.val t (by show Qv ((Y1 T s.fr).at t)=false;rw [Qr,if_neg ZdL];exact hany);have h0:VR ρ ((Y1 T s.fr).at t) _:=h0;rw [Qr,if_neg ZdL] at h0;have h1:=hi3.fr.val t (by rw [hwr t ZdL];exact hany);rw [hwr t ZdL] at h1;exact VR.back JV.ext h0 h1
     ·have h0:DsR ρ s.ds a.defers:=hi.ds;have h1:=hi3.ds;rw [ZN1] at h1;exact DsR.back JV.ext h0 h1
     ·refine⟨Ren.le_refl _,hst.size,hst.keep,hst.own,hst.live,JV.os.trans (Zgd.os.trans hst.os),JV.tape.trans (Zgd.tape.trans hst.tape),JV.output.trans (Zgd.output.trans hst.output),
       Nat.le_trans hst.X0 (by rw [← hsz2];exact JV.X0),fun b hb hno=>?_,fun i b d p q=>by rw [p] at q;cases q⟩
      have hbb:b ≠ bi:=fun z=>by subst z;exact hno mi.it 0 Zv8 Zf9 (by rw [hit];rfl)
      have:=hst.X0;rw [Zwf b (by omega),hother b hbb,hst.frame b hb hno]
 have Zv9:Stp L ρ s.h w0 ρ (s.h.put mi.it .dead) w0:=by
  have kk:=Uw (h:=s.h) (A:= .dead) Zv8 (by rw [hit];rfl);exact⟨Ren.le_refl _,Nat.le_refl _,kk.keep,kk.own,kk.live,rfl,rfl,rfl,Nat.le_refl _,fun _ _ _=>rfl,fun i b d e e'=>by rw [e] at e';cases e'⟩
 refine head _ #[] mi.QW a0 w0 (Nat.le_refl _) hs2 ZDS ZDO ⟨Zdx hi0.rel,⟨hi0.fr.size,fun t hany=>?_⟩,hi0.ds⟩ Zv9
 change Qv ((Y1 T s.fr).at t)=false at hany
 show VR ρ ((Y1 T s.fr).at t) _;rw [Qr] at hany ⊢;by_cases ht:t ∈ T
 ·rw [if_pos ht] at hany;cases hany
 ·rw [if_neg ht] at hany ⊢;exact hi0.fr.val t hany
end
def ZeC(B:X.P.follows .mixedOrders=true)(k:Nat):∀(j:Jz)(r:Xr),ev (cfg X Qq) k j=some r->YW X j r:=by
 induction k with|zero=>intro j r h;cases h|succ k l=>
   have K:=ZJK (C:=cfg X Qq) ZFB k
   have Zti:∀n L rd (V:GZ Oper) s s',(cfg X Qq).draw (ev (cfg X Qq) k) n L rd V.toList s=some s' ->
    ∀id ρ a w F,L<=s.h.size->Inv ρ n s a w->FR' ρ rd F->(Code.region id V true).wpIn F 0 X.P (Qx L n ρ s.h w .normal s') a w:=by
    intro n L rd V s s' q id ρ a w F I x E;have q:ZnC X Qq (ev (cfg X Qq) k) n L V.toList s=some s':=q;have⟨D,d1,d2,d3,d4,d5⟩:=Zu9 (rd:=rd) l K q I;have t:Inv ρ n {fr:=D.fs 0,ds:=s.ds,h:=D.hs 0} a w:=⟨by rw[d1];exact x.rel,by rw[d2];exact x.fr,x.ds⟩;have:=D.region B t E id;rw[d1,d3,d4]at this;exact wpIn_mono this fun Q S w' ⟨m,A,p,y⟩=>⟨m,A,⟨p.rel,p.fr,by rw[d5];exact p.ds⟩,y⟩
   intro j r h;have G:Jy (cfg X Qq) (ev (cfg X Qq) k) j=some r:=h;exact ZAM (C:=cfg X Qq) (Zup l (ZZT k)) Zti l G
end Go.Z9
end
end
noncomputable section
namespace Go.Proofs.YtbnepjakjmnadaaGreat
open Go.Proofs.Tryz Go.Z9
def ZxA (P:GW) (f:Nat) (fn:Func):Prop:=P.funcs[f]? =some fn∧fn.body.isSome=true∧(fn.name== "runtime.NumGoroutine")=false
def good {P:GW} {f:Nat} {fn:Func} (h:P.funcs[f]? =some fn) (h1:fn.body.isSome=true:=by kernel_rfl) (h2:(fn.name== "runtime.NumGoroutine")=false:=by kernel_rfl):ZxA P f fn:= ⟨h,h1,h2⟩
noncomputable def Zzz(P:GW)(t:Tr Func):Nat->Nat->Prop:=
 Tr.rec (motive:=fun _=>Nat->Nat->Prop) (fun _ _=>True) (fun v _ _ l r a s=>(match v with|none=>True|some fn=>ZxA P a fn)/\l (a+s) (2*s)/\r (a+2*s) (2*s)) t
def Zzz.get{P:GW}:∀(t:Tr Func)(a s:Nat),Zzz P t a s->∀(n:Nat)(fn:Func),t.get n=some fn->ZxA P (a+s*n) fn:=by
 intro t
 induction t with|nil=>intro a s _ n fn h;simp[Tr.get]at h|node v l r x q=>
   intro a s h n fn e;have⟨h0,h1,h2⟩:=h;rw[Tr.Zhn]at e;by_cases hn:n=0;.subst hn;rw[if_pos rfl]at e;subst e;exact h0
   rw[if_neg hn]at e;by_cases p:n % 2=1
   .rw[if_pos p]at e;have:=x _ _ h1 _ _ e
    have y:a+s+2*s*(n / 2)=a+s*n:=by
     have:n=2*(n / 2)+1:=V6;rw[this,Nat.mul_add,<-Nat.mul_assoc,Nat.mul_comm s 2,Nat.mul_add_div V6];simp;omega
    rwa[y]at this
   rw[if_neg p]at e;have:=q _ _ h2 _ _ e
   have y:a+2*s+2*s*(n / 2-1)=a+s*n:=by
    obtain⟨m,rfl⟩:∃m,n=2*m+2:=⟨n / 2-1,by omega⟩;have:(2*m+2) / 2-1=m:=V6;rw[this,Nat.mul_add,<-Nat.mul_assoc,Nat.mul_comm s 2];omega
   rwa[y]at this
abbrev Tw(x:Func)(l r:Tr Func):Tr Func:=.node (some x) l r
noncomputable def Tryz.fns:Tr Func:=(.node none (.node none (Tw f3 (Tw f7 (Tw f15 (Tw f31 (Tw f63 (Tw f127 .nil .nil) .nil) (Tw f95 (Tw f159 .nil .nil) .nil)) (Tw f47 (Tw f79 (Tw f143 .nil .nil) .nil) (Tw f111 (Tw f175 .nil .nil) .nil))) (Tw f23 (Tw f39 (Tw f71 (Tw f135 .nil .nil) (Tw f199 .nil .nil)) (Tw f103 (Tw f167 .nil .nil) .nil)) (Tw f55 (Tw f87 (Tw f151 .nil .nil) .nil) (Tw f119 .nil .nil)))) (Tw f11 (Tw f19 (Tw f35 (Tw f67 (Tw f131 .nil .nil) .nil) (Tw f99 (Tw f163 .nil .nil) .nil)) (Tw f51 (Tw f83 (Tw f147 .nil .nil) .nil) (Tw f115 (Tw f179 .nil .nil) .nil))) (Tw f27 (Tw f43 (Tw f75 (Tw f139 .nil .nil) .nil) (Tw f107 (Tw f171 .nil .nil) .nil)) (Tw f59 (Tw f91 (Tw f155 .nil .nil) .nil) (Tw f123 .nil .nil))))) (Tw f5 (Tw f9 (Tw f17 (Tw f33 (Tw f65 (Tw f129 .nil .nil) .nil) (Tw f97 (Tw f161 .nil .nil) .nil)) (Tw f49 (Tw f81 (Tw f145 .nil .nil) .nil) (Tw f113 (Tw f177 .nil .nil) .nil))) (Tw f25 (Tw f41 (Tw f73 (Tw f137 .nil .nil) (Tw f201 .nil .nil)) (Tw f105 (Tw f169 .nil .nil) .nil)) (Tw f57 (Tw f89 (Tw f153 .nil .nil) .nil) (Tw f121 .nil .nil)))) (Tw f13 (Tw f21 (Tw f37 (Tw f69 (Tw f133 .nil .nil) (Tw f197 .nil .nil)) (Tw f101 (Tw f165 .nil .nil) .nil)) (Tw f53 (Tw f85 (Tw f149 .nil .nil) .nil) (Tw f117 (Tw f181 .nil .nil) .nil))) (Tw f29 (Tw f45 (Tw f77 (Tw f141 .nil .nil) .nil) (Tw f109 (Tw f173 .nil .nil) .nil)) (Tw f61 (Tw f93 (Tw f157 .nil .nil) .nil) (Tw f125 .nil .nil)))))) (.node none (Tw f4 (Tw f8 (Tw f16 (Tw f32 (Tw f64 (Tw f128 .nil .nil) .nil) (Tw f96 (Tw f160 .nil .nil) .nil)) (Tw f48 (Tw f80 (Tw f144 .nil .nil) .nil) (Tw f112 (Tw f176 .nil .nil) .nil))) (Tw f24 (Tw f40 (Tw f72 (Tw f136 .nil .nil) (Tw f200 .nil .nil)) (Tw f104 (Tw f168 .nil .nil) .nil)) (Tw f56 (Tw f88 (Tw f152 .nil .nil) .nil) (Tw f120 .nil .nil)))) (Tw f12 (Tw f20 (Tw f36 (Tw f68 (Tw f132 .nil .nil) .nil) (Tw f100 (Tw f164 .nil .nil) .nil)) (Tw f52 (Tw f84 (Tw f148 .nil .nil) .nil) (Tw f116 (Tw f180 .nil .nil) .nil))) (Tw f28 (Tw f44 (Tw f76 (Tw f140 .nil .nil) .nil) (Tw f108 (Tw f172 .nil .nil) .nil)) (Tw f60 (Tw f92 (Tw f156 .nil .nil) .nil) (Tw f124 .nil .nil))))) (Tw f6 (Tw f10 (Tw f18 (Tw f34 (Tw f66 (Tw f130 .nil .nil) .nil) (Tw f98 (Tw f162 .nil .nil) .nil)) (Tw f50 (Tw f82 (Tw f146 .nil .nil) .nil) (Tw f114 (Tw f178 .nil .nil) .nil))) (Tw f26 (Tw f42 (Tw f74 (Tw f138 .nil .nil) .nil) (Tw f106 (Tw f170 .nil .nil) .nil)) (Tw f58 (Tw f90 (Tw f154 .nil .nil) .nil) (Tw f122 .nil .nil)))) (Tw f14 (Tw f22 (Tw f38 (Tw f70 (Tw f134 .nil .nil) (Tw f198 .nil .nil)) (Tw f102 (Tw f166 .nil .nil) .nil)) (Tw f54 (Tw f86 (Tw f150 .nil .nil) .nil) (Tw f118 .nil .nil))) (Tw f30 (Tw f46 (Tw f78 (Tw f142 .nil .nil) .nil) (Tw f110 (Tw f174 .nil .nil) .nil)) (Tw f62 (Tw f94 (Tw f158 .nil .nil) .nil) (Tw f126 .nil .nil)))))))
set_option maxRecDepth 100000 in
theorem Tryz.allFn:Zzz prog Tryz.fns 0 1:= ⟨.intro,⟨.intro,⟨good func3,⟨good func7,⟨good func15,⟨good func31,⟨good func63,⟨good func127,.intro,.intro⟩,.intro⟩,⟨good func95,⟨good func159,.intro,.intro⟩,.intro⟩⟩,⟨good func47,⟨good func79,⟨good func143,.intro,.intro⟩,.intro⟩,⟨good func111,⟨good func175,.intro,.intro⟩,.intro⟩⟩⟩,⟨good func23,⟨good func39,⟨good func71,⟨good func135,.intro,.intro⟩,⟨good func199,.intro,.intro⟩⟩,⟨good func103,⟨good func167,.intro,.intro⟩,.intro⟩⟩,⟨good func55,⟨good func87,⟨good func151,.intro,.intro⟩,.intro⟩,⟨good func119,.intro,.intro⟩⟩⟩⟩,⟨good func11,⟨good func19,⟨good func35,⟨good func67,⟨good func131,.intro,.intro⟩,.intro⟩,⟨good func99,⟨good func163,.intro,.intro⟩,.intro⟩⟩,⟨good func51,⟨good func83,⟨good func147,.intro,.intro⟩,.intro⟩,⟨good func115,⟨good func179,.intro,.intro⟩,.intro⟩⟩⟩,⟨good func27,⟨good func43,⟨good func75,⟨good func139,.intro,.intro⟩,.intro⟩,⟨good func107,⟨good func171,.intro,.intro⟩,.intro⟩⟩,⟨good func59,⟨good func91,⟨good func155,.intro,.intro⟩,.intro⟩,⟨good func123,.intro,.intro⟩⟩⟩⟩⟩,⟨good func5,⟨good func9,⟨good func17,⟨good func33,⟨good func65,⟨good func129,.intro,.intro⟩,.intro⟩,⟨good func97,⟨good func161,.intro,.intro⟩,.intro⟩⟩,⟨good func49,⟨good func81,⟨good func145,.intro,.intro⟩,.intro⟩,⟨good func113,⟨good func177,.intro,.intro⟩,.intro⟩⟩⟩,⟨good func25,⟨good func41,⟨good func73,⟨good func137,.intro,.intro⟩,⟨good func201,.intro,.intro⟩⟩,⟨good func105,⟨good func169,.intro,.intro⟩,.intro⟩⟩,⟨good func57,⟨good func89,⟨good func153,.intro,.intro⟩,.intro⟩,⟨good func121,.intro,.intro⟩⟩⟩⟩,⟨good func13,⟨good func21,⟨good func37,⟨good func69,⟨good func133,.intro,.intro⟩,⟨good func197,.intro,.intro⟩⟩,⟨good func101,⟨good func165,.intro,.intro⟩,.intro⟩⟩,⟨good func53,⟨good func85,⟨good func149,.intro,.intro⟩,.intro⟩,⟨good func117,⟨good func181,.intro,.intro⟩,.intro⟩⟩⟩,⟨good func29,⟨good func45,⟨good func77,⟨good func141,.intro,.intro⟩,.intro⟩,⟨good func109,⟨good func173,.intro,.intro⟩,.intro⟩⟩,⟨good func61,⟨good func93,⟨good func157,.intro,.intro⟩,.intro⟩,⟨good func125,.intro,.intro⟩⟩⟩⟩⟩⟩,⟨.intro,⟨good func4,⟨good func8,⟨good func16,⟨good func32,⟨good func64,⟨good func128,.intro,.intro⟩,.intro⟩,⟨good func96,⟨good func160,.intro,.intro⟩,.intro⟩⟩,⟨good func48,⟨good func80,⟨good func144,.intro,.intro⟩,.intro⟩,⟨good func112,⟨good func176,.intro,.intro⟩,.intro⟩⟩⟩,⟨good func24,⟨good func40,⟨good func72,⟨good func136,.intro,.intro⟩,⟨good func200,.intro,.intro⟩⟩,⟨good func104,⟨good func168,.intro,.intro⟩,.intro⟩⟩,⟨good func56,⟨good func88,⟨good func152,.intro,.intro⟩,.intro⟩,⟨good func120,.intro,.intro⟩⟩⟩⟩,⟨good func12,⟨good func20,⟨good func36,⟨good func68,⟨good func132,.intro,.intro⟩,.intro⟩,⟨good func100,⟨good func164,.intro,.intro⟩,.intro⟩⟩,⟨good func52,⟨good func84,⟨good func148,.intro,.intro⟩,.intro⟩,⟨good func116,⟨good func180,.intro,.intro⟩,.intro⟩⟩⟩,⟨good func28,⟨good func44,⟨good func76,⟨good func140,.intro,.intro⟩,.intro⟩,⟨good func108,⟨good func172,.intro,.intro⟩,.intro⟩⟩,⟨good func60,⟨good func92,⟨good func156,.intro,.intro⟩,.intro⟩,⟨good func124,.intro,.intro⟩⟩⟩⟩⟩,⟨good func6,⟨good func10,⟨good func18,⟨good func34,⟨good func66,⟨good func130,.intro,.intro⟩,.intro⟩,⟨good func98,⟨good func162,.intro,.intro⟩,.intro⟩⟩,⟨good func50,⟨good func82,⟨good func146,.intro,.intro⟩,.intro⟩,⟨good func114,⟨good func178,.intro,.intro⟩,.intro⟩⟩⟩,⟨good func26,⟨good func42,⟨good func74,⟨good func138,.intro,.intro⟩,.intro⟩,⟨good func106,⟨good func170,.intro,.intro⟩,.intro⟩⟩,⟨good func58,⟨good func90,⟨good func154,.intro,.intro⟩,.intro⟩,⟨good func122,.intro,.intro⟩⟩⟩⟩,⟨good func14,⟨good func22,⟨good func38,⟨good func70,⟨good func134,.intro,.intro⟩,⟨good func198,.intro,.intro⟩⟩,⟨good func102,⟨good func166,.intro,.intro⟩,.intro⟩⟩,⟨good func54,⟨good func86,⟨good func150,.intro,.intro⟩,.intro⟩,⟨good func118,.intro,.intro⟩⟩⟩,⟨good func30,⟨good func46,⟨good func78,⟨good func142,.intro,.intro⟩,.intro⟩,⟨good func110,⟨good func174,.intro,.intro⟩,.intro⟩⟩,⟨good func62,⟨good func94,⟨good func158,.intro,.intro⟩,.intro⟩,⟨good func126,.intro,.intro⟩⟩⟩⟩⟩⟩⟩
noncomputable def XX:Ctx:= {P:=prog,sz:=by kernel_rfl,fns:=Tryz.fns,ok:=fun f fn h=>by have:=Zzz.get Tryz.fns 0 1 Tryz.allFn f fn h;rwa[G6,Nat.one_mul]at this,orc:=fun _=>none,ZCt:=fun _ _ h=>by cases h}
end Go.Proofs.YtbnepjakjmnadaaGreat
end
def Go.Kq0{p:Prop}(h:p:=by kernel_rfl):p:=h
noncomputable section
namespace Go.Proofs.YtbnepjakjmnadaaGreat
open Go.Proofs.Tryz Go.Z9 Go.RowKit Go.WideShapes Go.ChangeShapes
def isTrue(r:O Xr):Z:=
 match r with|some (.fin (.ret (.bool true)) _)=>true|_=>false
def Zs1{r:O Xr}(h:isTrue r=true):∃l,r=some (.fin (.ret (.bool true)) l):=by
 unfold isTrue at h;split at h;.exact⟨_,rfl⟩
 cases h
def mixed:prog.follows .mixedOrders=true:=Kq0
def ZsI:Ren:=⟨fun _=>none,fun _=>(0,0)⟩
variable{H:Type}{enc:J×N->H}{P:GW}
def Zn8{f:Func}{s:ChangeSpec}{apart fresh q B:Z}{W W':GY}{args:GZ N}{v:N}{ds E:U (DataW H)}{before pa pv:U MemPlace}
 (G:DataW.Whole enc P f.params.toList s.vars apart W args.toList ds E before)
 (y:∀(b:Nat)(sp:Nat->Z)(K:Z),DataW.TrodAll enc P W' b sp K f.resultTypes.toList (v.resultList f.resultTypes.size) (s.fn H (ds++E)).results [])
 (m:∀sp:Nat->Z,(∀p∈before,sp p.block=true)->DataW.TrodAll enc P W' 0 sp true f.params.toList args.toList (s.fn H (ds++E)).args pa)
 (h:∀sp:Nat->Z,(∀p∈before,sp p.block=true)->DataW.TrodVars enc P W' sp s.vars (s.fn H (ds++E)).vars pv)
 (x:before=pa++pv) (I:Below W.heap.size W W')
 (F:∀(j:Nat)(t:J)(r:N),f.resultTypes[j]? =some t->(v.resultList f.resultTypes.size)[j]? =some r->Value.okWide P W' .any 0 t r):
 s.post enc P f apart fresh q B W args v W':=by
 have C:∀p∈before,p.block<W.heap.size:=fun p l=>G.lt p l;have A:∀p∈before,(fun b=>decide (b<W.heap.size)) p.block=true:=fun p l=>by simpa using C p l
 refine⟨ds,E,before,[],pa,pv,G,y _ _ _,m _ A,h _ A,World.keptBut_mono (fun p l=>⟨l,?_⟩) (I.frame (· ∈ before)),fun _=>?_⟩;.rw[x,J0]at l;exact Or.inr l
 have⟨_,_,_,_,_,hz,hn⟩:=G;refine⟨F,_,_,([]++pa)++pv,⟨[]++pa,pv,trodAll_append (m _ (fun _ _=>rfl)) (y _ _ _),h _ (fun _ _=>rfl),rfl,?_,?_⟩,?_⟩
 .intro b off l;have D:MemPlace.cell b off∈before:=by rw[x];simpa using l
  rw[I.frozen (C _ D)];exact hz b off D
 .intro L;have:=hn L;rw[x]at this;simpa using this
 intro p l _;rw[x];simpa using l
end Go.Proofs.YtbnepjakjmnadaaGreat
end
noncomputable section
namespace Go.Z9
variable{E:Eff}{a:Int}{args:GZ N}{b c:Code}{e t:J}{f:GX}{fn:Func}{i id j z:Nat}{k:IntKind}{m:Tmp}{own:Z}{vs:U N}{x y:GV}
section
variable{X:Ctx}
structure WC(X:Ctx)(n L:Nat)(rd:Option Nat)(c:Code)(s:Fs)(Q:XX->Fs->Prop):Prop where
 out:∃e s',Q e s'/\YW X (.code c n L rd s) (.code e s')
structure WL(X:Ctx)(n L:Nat)(rd:Option Nat)(c:Code)(s:Fs)(Q:XX->Fs->Prop):Prop where
 out:∃e s',Q e s'/\YW X (.loop c n L rd s) (.code e s')
structure WF(X:Ctx)(f:FuncId)(args:Array Value)(L:Nat)(h:H)(Q:Kn->H->Prop):Prop where
 out:∃e h',Q e h'/\YW X (.call f args L h) (.fin e h')
def ZWM(X:Ctx)(n L:Nat)(rd:O Nat)(V:GZ Oper)(l:U Oper)(s:Fs)(e:XX)(s':Fs):Prop:=
 ∀(Q:Exit->Act->GY->Prop){ρ:Ren}{F:Fence}{a:Act}{w:GY},Inv ρ n s a w->L<=s.h.size->FR' ρ rd F->(∀m p w',Qx L n ρ s.h w e s' m p w'->Q m p w')->wpListIn F 0 X.P V Q l a w
structure WO(X:Ctx)(n L:Nat)(rd:Option Nat)(V:Array Oper)(l:List Oper)(s:Fs)(Q:XX->Fs->Prop):Prop where
 out:∃e s',Q e s'/\ZWM X n L rd V l s e s'
variable{n L:Nat}{rd:O Nat}{s:Fs}{Q:XX->Fs->Prop}
def WC.mono{Q':XX->Fs->Prop}(h:WC X n L rd c s Q)(k:∀e s',Q e s'->Q' e s'):WC X n L rd c s Q':=let⟨e,s',h1,h2⟩:=h;⟨e,s',k e s' h1,h2⟩
def WF.mono{h:H}{Q Q':Kn->H->Prop}(h1:WF X f args L h Q)(k:∀e s',Q e s'->Q' e s'):WF X f args L h Q':=let⟨e,s',h1,h2⟩:=h1;⟨e,s',k e s' h1,h2⟩
def ZWH(X:Ctx)(n L:Nat)(rd:O Nat)(b:Code)(Q:XX->Fs->Prop):XX->Fs->Prop:=fun e s=>
 match e with|.normal=>WC X n L rd b s Q|e=>Q e s
def ZQ6(X:Ctx)(n L:Nat)(rd:O Nat)(c:Code)(Q:XX->Fs->Prop):XX->Fs->Prop:=fun e s=>
 match e with|.normal=>WL X n L rd c s Q|e=>Q e s
def ZGv(id:Nat)(Q:XX->Fs->Prop):XX->Fs->Prop:=fun e s=>
 match e with|.exit k=>if k=id then Q .normal s else Q (.exit k) s|e=>Q e s
structure YL(X:Ctx)(n L:Nat)(rd:Option Nat)(b:Code)(Q:XX->Fs->Prop)(e:XX)(s:Fs):Prop where
 out:ZWH X n L rd b Q e s
structure ZR(X:Ctx)(n L:Nat)(rd:Option Nat)(b:Code)(Q:XX->Fs->Prop)(e:XX)(s:Fs):Prop where
 out:ZQ6 X n L rd b Q e s
structure Xy(id:Nat)(Q:XX->Fs->Prop)(e:XX)(s:Fs):Prop where
 out:ZGv id Q e s
def ExR.Zlz{ρ:Ren}{e:XX}{l:Exit}(he:ExR ρ e l)(h:e≠.normal){p:Act->GY->Prop}{R:Exit->Act->GY->Prop}{a:Act}{w:GY}(m:R l a w):Exit.then p R l a w:=by cases he with|normal=>exact absurd rfl h|_=>exact m
def WC.seq{a:Code}(h:WC X n L rd a s (YL X n L rd b Q)):WC X n L rd (.seq a b) s Q:=by
 have⟨e,s1,hq,ka⟩:=h;by_cases hn:e=.normal;.subst hn;have⟨e2,s2,hq2,kb⟩:=hq.out;refine⟨e2,s2,hq2,fun ρ a w F t q r=>wpIn_seq (wpIn_mono (ka ρ a w F t q r) ?_)⟩;rintro A x w' ⟨m,he,p,l⟩;cases he;exact wpIn_mono (kb m x w' F (KK t l.size) p (r.mono l.ext)) fun _ _ _ y=>Qx.trans q.rel.lt l y
 refine⟨e,s1,?_,fun ρ a w F t q r=>wpIn_seq (wpIn_mono (ka ρ a w F t q r) ?_)⟩;.cases e with|normal=>exact absurd rfl hn|_=>exact hq.out
 rintro A x w' ⟨m,he,p,l⟩;exact he.Zlz hn ⟨m,he,p,l⟩
def WC.cond{c:GV}{a:Code}{t:Z}(r:YM s.fr c=some (.bool t))(h1:t=true->WC X n L rd a s Q)(h2:t=false->WC X n L rd b s Q):WC X n L rd (.cond c a b) s Q:=by
 have:∃e s',Q e s'/\∀ρ l w F,L<=s.h.size->Inv ρ n s l w->FR' ρ rd F->(if t then a else b).wpIn F 0 X.P (Qx L n ρ s.h w e s') l w:=by
  cases t with|true=>have⟨e,s',q,k⟩:=h1 rfl;exact⟨e,s',q,k⟩|false=>have⟨e,s',q,k⟩:=h2 rfl;exact⟨e,s',q,k⟩
 have⟨e,s',hq,k⟩:=this;refine⟨e,s',hq,fun ρ l w F A m y=>?_⟩;have hv:=KJ m.fr _ _ r;generalize p:l.eval c=x at hv;cases hv;exact wpIn_cond p (k ρ l w F A m y)
def WC.block(h:WC X n L rd c s (Xy id Q)):WC X n L rd (.block id c) s Q:=by
 have⟨e,s1,hq,ka⟩:=h
 have x:∃A,Q A s1/\∀(y C:Nat)(ρ0:Ren)(D:H)(w0:GY)(r:Exit)(t:Act)(w':GY),Qx y C ρ0 D w0 e s1 r t w'->Exit.inBlock id (Qx y C ρ0 D w0 A s1) r t w':=by
  cases e with
  | exit k=>
    by_cases B:k=id;.subst B;refine⟨.normal,by simpa[ZGv]using hq.out,?_⟩;rintro _ _ _ _ _ r t w' ⟨m,he,q,p⟩;cases he;show if _ then _ else _;rw[if_pos rfl];exact⟨m,.normal,q,p⟩
    refine⟨.exit k,by simpa[ZGv,B]using hq.out,?_⟩;rintro _ _ _ _ _ r t w' ⟨m,he,q,p⟩;cases he;show if _ then _ else _;rw[if_neg B];exact⟨m,.exit k,q,p⟩
  | normal=>exact⟨.normal,hq.out,by rintro _ _ _ _ _ r t w' ⟨m,he,q,p⟩;cases he;exact⟨m,.normal,q,p⟩⟩
  | goto l=>exact⟨.goto l,hq.out,by rintro _ _ _ _ _ r t w' ⟨m,he,q,p⟩;cases he;exact⟨m,.goto l,q,p⟩⟩
  | ret=>exact⟨.ret,hq.out,by rintro _ _ _ _ _ r t w' ⟨m,he,q,p⟩;cases he;exact⟨m,.ret,q,p⟩⟩
  | panic v=>exact⟨.panic v,hq.out,by rintro _ _ _ _ _ r t w' ⟨m,he,q,p⟩;cases he with|panic hv=>exact⟨m,.panic hv,q,p⟩⟩
 have⟨A,hq2,x⟩:=x;exact⟨A,s1,hq2,fun ρ a w F K G I=>wpIn_block (wpIn_mono (ka ρ a w F K G I) fun r t w' E=>x _ _ _ _ _ r t w' E)⟩
def WC.skip(h:Q .normal s):WC X n L rd .skip s Q:=⟨_,_,h,fun ρ _ _ _ _ l _=>wpIn_skip ⟨ρ,.normal,l,Stp.refl _ _ _ _⟩⟩
def WC.ret(h:Q .ret s):WC X n L rd .ret s Q:=⟨_,_,h,fun ρ _ _ _ _ l _=>wpIn_ret ⟨ρ,.ret,l,Stp.refl _ _ _ _⟩⟩
def WC.exit(h:Q (.exit id) s):WC X n L rd (.exit id) s Q:=⟨_,_,h,fun ρ _ _ _ _ l _=>wpIn_exit ⟨ρ,.exit id,l,Stp.refl _ _ _ _⟩⟩
def WC.loop(h:WL X n L rd c s Q):WC X n L rd (.loop c) s Q:=
 let⟨e,s',hq,k⟩:=h;⟨e,s',hq,fun ρ a w F p l m=>Zdm (k ρ a w F p l m)⟩
def WC.region{V:GZ Oper}(h:WO X n L rd V V.toList s Q):WC X n L rd (.region id V false) s Q:=by have⟨e,s',hq,k⟩:=h;exact⟨e,s',hq,fun ρ a w F q m p=>wpIn_region_list (k _ m q p fun _ _ _ l=>l)⟩
def WL.step(h:WC X n L rd c s (ZR X n L rd c Q)):WL X n L rd c s Q:=by
 have⟨e,s1,hq,ka⟩:=h;by_cases hn:e=.normal;.subst hn;have⟨e2,s2,hq2,kb⟩:=hq.out;refine⟨e2,s2,hq2,fun ρ a w F t q r=>QJ (wpIn_mono (ka ρ a w F t q r) ?_)⟩;rintro A x w' ⟨m,he,p,l⟩;cases he;have:=kb m x w' F (KK t l.size) p (r.mono l.ext);intro b k cs h1 h2 y;have⟨e3,a3,w3,hp,harr⟩:=this b k cs h1 h2 y;exact⟨e3,a3,w3,Qx.trans q.rel.lt l hp,harr⟩
 refine⟨e,s1,?_,fun ρ a w F t q r=>QJ (wpIn_mono (ka ρ a w F t q r) ?_)⟩;.cases e with|normal=>exact absurd rfl hn|_=>exact hq.out
 rintro A x w' ⟨m,he,p,l⟩;exact he.Zlz hn ⟨m,he,p,l⟩
def ZWJ(X:Ctx)(fn:Func)(Q:Kn->H->Prop):XX->Fs->Prop:=fun e s=>s.ds=[]/\
 match e with|.normal=>∃v,JB X.P fn s.fr s.h=some v/\Q (.ret v) s.h|.ret=>∃v,JB X.P fn s.fr s.h=some v/\Q (.ret v) s.h|.panic v=>Q (.Yq v) s.h|_=>False
structure YG(X:Ctx)(fn:Func)(Q:Kn->H->Prop)(e:XX)(s:Fs):Prop where
 out:ZWJ X fn Q e s
def WF.enter{h:H}{Q:Kn->H->Prop}(K:X.fns.get f=some fn)(V:fn.body=some c)(hn:args.toList.length<=fn.ntmps)
 (k:WC X fn.ntmps L none c {fr:=QN args.toList 0 .nil,ds:=[],h:=h} (YG X fn Q)):WF X f args L h Q:=by
 have⟨e,s',⟨hds,hq⟩,ka⟩:=k
 have p:∀(E:Kn)(F:PM),xPM e=some F->U4 (cfg X fun _=>false) (fun _=>none) fn L F s'=some (.fin E s'.h)->YW X (.call f args L h) (.fin E s'.h):=by
  intro E F r S;have G:=Ua (C:=cfg X fun _=>false) (ih:=fun _=>none) (fun _ _ h=>by cases h) S;intro ρ t w D B hv
  have T:Inv ρ fn.ntmps {fr:=QN args.toList 0 .nil,ds:=[],h:=h} {tmps:=t++Array.replicate (fn.ntmps-t.size) undef,defers:=[]} w:=
   ⟨B,KM hv hn,.nil⟩
  refine callsIn_of_wp_marks (X.ok f fn K).1 V (Zi3 K) (wpIn_mono (ka ρ _ w base D T rfl) ?_);rintro W I w' ⟨x,he,y,m⟩;cases he with
  | normal=>cases r;exact G x _ I .returning w' _ (KK D m.size) y .ret (fun _ _ A=>Kk.trans B.lt m A)
  | ret=>cases r;exact G x _ I .returning w' _ (KK D m.size) y .ret (fun _ _ A=>Kk.trans B.lt m A)
  | panic q=>cases r;exact G x _ I _ w' _ (KK D m.size) y (.Yq q) (fun _ _ A=>Kk.trans B.lt m A)
  | exit id=>cases r
  | goto l=>cases r
 cases e with
 | normal=>
   have⟨v,hv,hq⟩:=hq
   exact⟨_,_,hq,p _ .ret rfl (by
    have q:JB (cfg X fun _=>false).X.P fn s'.fr s'.h=some v:=hv;unfold U4;rw[hds];simp only[q])⟩
 | ret=>
   have⟨v,hv,hq⟩:=hq
   exact⟨_,_,hq,p _ .ret rfl (by
    have q:JB (cfg X fun _=>false).X.P fn s'.fr s'.h=some v:=hv;unfold U4;rw[hds];simp only[q])⟩
 | panic v=>exact⟨_,_,hq,p _ (.Yq v) rfl (by unfold U4;rw[hds])⟩
 | exit _=>exact hq.elim
 | goto _=>exact hq.elim
abbrev Pure(X:Ctx)(f:GX)(args:GZ N)(h:H)(v:N):Prop:=∀L,YW X (.call f args L h) (.fin (.ret v) h)
def WF.pure{h:H}{v:N}(r:plain v=true)(k:WF X f args h.size h (fun e _=>e=.ret v)):Pure X f args h v:=by
 obtain⟨e,A,rfl,y⟩:=k;intro L ρ l w C q hv;refine(y ρ l w V7 q hv).mono ?_;rintro B w' ⟨t,he,x,p⟩;cases he with|ret m=>
   rw[VR.XA r m];have⟨q1,q2⟩:=Zch q p;exact⟨ρ,.ret (VR.Yk r),q1,q2 L⟩
variable{V:GZ Oper}{l:U Oper}{o:Oper}
def WO.nil(h:Q .normal s):WO X n L rd V [] s Q:=⟨_,_,h,fun _ ρ _ a w m _ _ l=>l .normal a w ⟨ρ,.normal,m,Stp.refl _ _ _ _⟩⟩
def WO.cons{ih:Jz->O Xr}(G:∀j r,ih j=some r->YW X j r){s1:Fs}(h:UN X (fun _=>false) ih n L rd V.toList o s=some (.normal,s1))(k:WO X n L rd V l s1 Q):WO X n L rd V (o::l) s Q:=by have⟨e,s',hq,hk⟩:=k;refine⟨e,s',hq,fun E ρ F a w t y x p=>?_⟩;refine Wz G h t y x (fun _ A I w' q m=>?_) (fun v he=>by cases he);refine hk E q (KK y m.size) (x.mono m.ext) fun C D w2 B=>?_;have⟨ρ2,q1,q2,q3⟩:=B;exact p C D w2 ⟨ρ2,q1,q2,m.trans t.rel.lt q3⟩
def WO.panics{ih:Jz->O Xr}(C:∀j r,ih j=some r->YW X j r){s1:Fs}{v:N}(h:UN X (fun _=>false) ih n L rd V.toList o s=some (.panic v,s1))(k:Q (.panic v) s1):WO X n L rd V (o::l) s Q:=by refine⟨.panic v,s1,k,fun E ρ F a w x B y q=>?_⟩;refine Wz C h x B y (fun he=>by cases he) (fun v' he m D A w' hv t p=>?_);cases he;exact q _ A w' ⟨m,.panic hv,t,p⟩
def Zbt(X:Ctx):∀(j:Jz)(r:Xr),(fun _:Jz=>(none:O Xr)) j=some r->YW X j r:=fun _ _ h=>by cases h
def ZKZ(h:Op):Z:=match h with
 | .call c=>match c.callee with
   | .value x=>match x with|.func f=>Nat.blt f nfs|_=>false
   | .builtin _=>true
   | .invoke _ _=>false
 | _=>true
def gk(o:Oper):O (Nat×Z):=bif ZKZ o.op then o.guard else none
def ZkG{q:Nat×Z}(h:gk o=some q)(fr:Fr):o.guard=some q/\ZoN o.op fr=true:=by
 unfold gk at h;cases l:ZKZ o.op with|false=>rw[l]at h;cases h|true=>
   rw[l]at h;refine⟨h,?_⟩;revert l;generalize o.op=op;intro l;cases op with
   | call c=>
     have⟨callee,args,ats⟩:=c;cases callee with
     | value x=>
       cases x with|func f=>exact l|tmp t=>cases l|const v=>cases l|global g=>cases l
     | builtin b=>rfl
     | invoke r m=>cases l
   | _=>rfl
def Yh(V:GZ Oper)(o:Oper)(fr:Fr):Prop:=okG V.toList o fr=true/\XD V.toList o fr=true
def Zix(V:GZ Oper)(o:Oper)(fr:Fr):Prop:=okG V.toList o fr=true/\XD V.toList o fr=false
def Yh.none{fr:Fr}(h:o.guard=none):Yh V o fr:=by unfold Yh okG XD;rw[h];exact⟨rfl,rfl⟩
def gN{d:O Tmp}{h:Op}{ty:J}{p:String}{af:GZ Edge}{fr:Fr}:Yh V ⟨d,h,ty,p,af,Option.none⟩ fr:=Yh.none rfl
def Znd(n:Nat)(d:O Tmp):Z:=
 match d with|none=>true|some d=>Nat.blt d n
def Zik{fr:Fr}{ds:U V2}{h:H}{d:O Tmp}{v:N}(l:Znd n d=true):ZjF n ⟨fr,ds,h,none⟩ d v=some ⟨UO fr d v,ds,h,none⟩:=by
 rw[ZkS];cases d with|none=>rfl|some d=>
   unfold Znd at l;dsimp only at l ⊢;rw[l];rfl
variable{fr:Fr}{ds:U V2}{h h1:H}
def WO.val{v:N}(m:Yh V o fr)(p:Znd n o.dst=true)(q:Qd X h (YM fr) o=some (.val v,E))(r:E.apply L h=some h1)
 (k:WO X n L rd V l ⟨UO fr o.dst v,ds,h1,none⟩ Q):WO X n L rd V (o::l) ⟨fr,ds,h,none⟩ Q:=by
 refine WO.cons (Zbt X) ?_ k;unfold UN;rw[m.1,m.2];dsimp only[Q1,Cq0,Cq1];rw[q];dsimp only[Q1,Cq0,Cq1];rw[r];unfold Zay;dsimp only[Uo];rw[Zik p];rfl
def WO.unit(m:Yh V o fr)(p:Znd n o.dst=true)(q:Qd X h (YM fr) o=some (.skip,E))(r:E.apply L h=some h1)
 (k:WO X n L rd V l ⟨UO fr o.dst undef,ds,h1,none⟩ Q):WO X n L rd V (o::l) ⟨fr,ds,h,none⟩ Q:=by
 refine WO.cons (Zbt X) ?_ k;unfold UN;rw[m.1,m.2];dsimp only[Q1,Cq0,Cq1];rw[q];dsimp only[Q1,Cq0,Cq1];rw[r];unfold Zay;dsimp only[Uo];rw[Zik p];rfl
def WO.panic{v:N}(m:Yh V o fr)(p:Qd X h (YM fr) o=some (.panic v,E))(q:E.apply L h=some h1)
 (k:Q (.panic v) ⟨fr,ds,h1,none⟩):WO X n L rd V (o::l) ⟨fr,ds,h,none⟩ Q:=by
 refine WO.panics (Zbt X) ?_ k;unfold UN;rw[m.1,m.2];dsimp only[Q1,Cq0,Cq1];rw[p];dsimp only[Q1,Cq0,Cq1];rw[q];rfl
def WO.off(m:Zix V o fr)(p:Znd n o.dst=true)(k:WO X n L rd V l ⟨UO fr o.dst undef,ds,h,none⟩ Q):WO X n L rd V (o::l) ⟨fr,ds,h,none⟩ Q:=by refine WO.cons (Zbt X) ?_ k;unfold UN;rw[m.1,m.2];dsimp only[Q1,Cq0,Cq1];rw[Zik p];rfl
open Classical in
def JF (j:Jz) (r:Xr):Jz ->Option Xr:=fun j'=>if j'=j then some r else none
def XH{j:Jz}{r:Xr}(h:YW X j r):∀l r',JF j r l=some r'->YW X l r':=by
 intro l r' e;unfold JF at e;split at e;next m=>cases e;rw[m];exact h
 cases e
def XI(j:Jz)(r:Xr):JF j r j=some r:=by unfold JF;rw[if_pos rfl]
def WO.call{v:N}{h2:H}(m:Yh V o fr)(p:Znd n o.dst=true)(r:Qd X h (YM fr) o=some (.enter f args,E))(t:E.apply L h=some h1)
 (q:YW X (.call f args L h1) (.fin (.ret v) h2)) (k:WO X n L rd V l ⟨UO fr o.dst v,ds,h2,none⟩ Q):WO X n L rd V (o::l) ⟨fr,ds,h,none⟩ Q:=by
 refine WO.cons (XH q) ?_ k;unfold UN;rw[m.1,m.2];dsimp only[Q1,Cq0,Cq1];rw[r];dsimp only[Q1,Cq0,Cq1];rw[t];unfold Zay;dsimp only[Uo,Cq0];rw[XI];dsimp only;rw[Zik p];rfl
def WO.Znj{v:N}{h2:H}(m:Yh V o fr)(q:Qd X h (YM fr) o=some (.enter f args,E))(r:E.apply L h=some h1)
 (p:YW X (.call f args L h1) (.fin (.Yq v) h2)) (k:Q (.panic v) ⟨fr,ds,h2,none⟩):WO X n L rd V (o::l) ⟨fr,ds,h,none⟩ Q:=by
 refine WO.panics (XH p) ?_ k;unfold UN;rw[m.1,m.2];dsimp only[Q1,Cq0,Cq1];rw[q];dsimp only[Q1,Cq0,Cq1];rw[r];unfold Zay;dsimp only[Uo,Cq0];rw[XI];rfl
end
variable{X:Ctx}{P:GW}{h:H}{fr:Fr}{ev:GV->O N}{d:O Tmp}{ty:J}{p:String}{af:GZ Edge}{g:O (Nat×Z)}
def at_set(fr:Fr)(d t:Nat)(v:N):Fr.at (Tr.set fr d v) t=if t=d then v else Fr.at fr t:=by unfold Fr.at;rw[Tr.Qt];by_cases h:t=d<;>simp[h]
def ZT(i:Nat)(fr:Fr):QN [] i fr=fr:=rfl
def ZM(v:N)(vs:U N)(i:Nat)(fr:Fr):QN (v::vs) i fr=QN vs (i+1) (Tr.set fr i v):=rfl
def ZkV(fr:Fr)(t:Nat):YM fr (.tmp t)=bif Qv (fr.at t) then none else some (fr.at t):=rfl
def ZBd(fr:Fr)(v:N):YM fr (.const v)=bif plain v then some v else none:=rfl
def Zu7(fr:Fr)(f:GX):YM fr (.func f)=some (.func (.func f) #[] #[]):=rfl
def ZFW(x:GV):Qd X h ev ⟨d,.move x,ty,p,af,g⟩=vN (ev x):=rfl
def Zxj(x:GV):Qd X h ev ⟨d,.assign x,ty,p,af,g⟩=vN (ev x):=rfl
def ZA9(l:BinOp)(t:J)(x y:GV)(m:J):Qd X h ev ⟨d,.binOp l t x y m,ty,p,af,g⟩=match ev x,ev y with|some a,some b=>Q0 X.P l t x y a b|_,_=>none:=rfl
def Zil(c a b:GV):Qd X h ev ⟨d,.pick c a b,ty,p,af,g⟩=match ev c with|some (.bool true)=>vN (ev a)|some (.bool false)=>vN (ev b)|_=>none:=rfl
def ZFV(l:UnOp)(t:J)(x:GV):Qd X h ev ⟨d,.unOp l t x,ty,p,af,g⟩=match ev x with|some a=>bif plain a then pN (KC X.P (Op.unary l a)) else none|none=>none:=rfl
def Zu1(t:J)(x:GV):Qd X h ev ⟨d,.load t x,ty,p,af,g⟩=match ev x with|some v=>vN (Zaz X.P h t v)|none=>none:=rfl
def ZA7(t:J)(a x:GV):Qd X h ev ⟨d,.store t a x,ty,p,af,g⟩=match ev a,ev x with|some a,some x=>sE (ZjD X.P h t a x)|_,_=>none:=rfl
def ZKb(t:J)(x:GV):Qd X h ev ⟨d,.box t x,ty,p,af,g⟩=match ev x with|some v=>some (.val (J7 h),.new (.row v.cells.toList true 0))|none=>none:=rfl
def ZBa(t:J):Qd X h ev ⟨d,.alloc t,ty,p,af,g⟩=match Xl X.P t with|some z=>some (.val (J7 h),.new (.row z.cells.toList true 0))|none=>none:=rfl
def ZoD(t:J)(x:GV)(f:Nat):Qd X h ev ⟨d,.fieldAddr t x f,ty,p,af,g⟩=match ev x with|some v=>vN (Zel X.P t v f)|none=>none:=rfl
def ZoC(t:J)(x i:GV):Qd X h ev ⟨d,.indexAddr t x i,ty,p,af,g⟩=match ev x,ev i with|some x,some i=>vN (ZgF X.P t x i)|_,_=>none:=rfl
def Zu2(x:GV)(k:Nat):Qd X h ev ⟨d,.extract x k,ty,p,af,g⟩=match ev x with|some x=>vN (Zem x k)|none=>none:=rfl
def K4(b:Builtin)(xs:GZ GV)(ts:GZ J):Qd X h ev ⟨d,.call {callee:=.builtin b,args:=xs,argTypes:=ts},ty,p,af,g⟩=match evs ev xs.toList with|some args=>K6 X.P h b ts ty args|none=>none:=by
 show(match Callee.builtin b,evs ev xs.toList with
  | .builtin b,some args=>K6 X.P h b ts ty args
  | .value f,some args=>match ev f with|some f=>WB X h f args|none=>none
  | .invoke r name,some args=>match ev r with|some r=>ZcZ X r name args|none=>none
  | _,_=>none)=_
 cases evs ev xs.toList<;>rfl
def Zfa(f:GV)(xs:GZ GV)(ts:GZ J):Qd X h ev ⟨d,.call {callee:=.value f,args:=xs,argTypes:=ts},ty,p,af,g⟩=match evs ev xs.toList with
 | some args=>match ev f with|some f=>WB X h f args|none=>none
 | none=>none:=by
 show(match Callee.value f,evs ev xs.toList with
  | .builtin b,some args=>K6 X.P h b ts ty args
  | .value f,some args=>match ev f with|some f=>WB X h f args|none=>none
  | .invoke r name,some args=>match ev r with|some r=>ZcZ X r name args|none=>none
  | _,_=>none)=_
 cases evs ev xs.toList<;>rfl
def Zf:evs ev []=some []:=rfl
def Zb{xs:U GV}{v:N}(h1:ev x=some v)(h2:evs ev xs=some vs):evs ev (x::xs)=some (v::vs):=by show(match ev x,evs ev xs with|some v,some vs=>some (v::vs) | _,_=>none)=_;rw[h1,h2]
def Zck{h:BinOp}{b:Int}{c:Z}(m:Op.intCmp h a b=pure (.bool c))(h1:h=.eql\/h=.neq\/h=.lss\/h=.leq\/h=.gtr\/h=.geq):Q0 P h t x y (.int k a) (.int k b)=some (.val (.bool c),.none):=by
 have l:(plain (.int k a)&&plain (.int k b))=true:=rfl;unfold Q0;rw[l,Cq1]
 have q:binOp h t (.int k a) (.int k b)=pure (.bool c):=by
  rcases h1 with rfl|rfl|rfl|rfl|rfl|rfl<;>simp[binOp,m]
 have p:(do eqGuard h t x y (.int k a) (.int k b);binOp h t (.int k a) (.int k b):Sem N)=pure (.bool c):=by
  rw[q];rcases h1 with rfl|rfl|rfl|rfl|rfl|rfl<;>rfl
 rw[p];rfl
def Ziq{b:Int}:Q0 P .eql t x y (.int k a) (.int k b)=some (.val (.bool (a==b)),.none):=Zck rfl Vd
def ZGb{b:Int}:Q0 P .neq t x y (.int k a) (.int k b)=some (.val (.bool (a !=b)),.none):=Zck rfl Vd
def Zva{b:Int}:Q0 P .lss t x y (.int k a) (.int k b)=some (.val (.bool (decide (a<b))),.none):=Zck rfl Vd
def ZGd{b:Int}:Q0 P .leq t x y (.int k a) (.int k b)=some (.val (.bool (decide (a<=b))),.none):=Zck rfl Vd
def ZGe{b:Int}:Q0 P .gtr t x y (.int k a) (.int k b)=some (.val (.bool (decide (a>b))),.none):=Zck rfl Vd
def ZGf{b:Int}:Q0 P .geq t x y (.int k a) (.int k b)=some (.val (.bool (decide (a >=b))),.none):=Zck rfl Vd
def Zxr{h:BinOp}{b c:Int}(h1:h=.add/\c=a+b\/h=.sub/\c=a-b\/h=.mul/\c=a*b):Q0 P h t x y (.int k a) (.int k b)=some (.val (.int k (k.wrap c)),.none):=by
 have l:(plain (.int k a)&&plain (.int k b))=true:=rfl;unfold Q0;rw[l,Cq1]
 have p:binOp h t (.int k a) (.int k b)=pure (.int k (k.wrap c)):=by
  rcases h1 with⟨rfl,rfl⟩|⟨rfl,rfl⟩|⟨rfl,rfl⟩<;>simp[binOp,Op.intArith]
 have m:(do eqGuard h t x y (.int k a) (.int k b);binOp h t (.int k a) (.int k b):Sem N)=pure (.int k (k.wrap c)):=by
  rw[p];rcases h1 with⟨rfl,rfl⟩|⟨rfl,rfl⟩|⟨rfl,rfl⟩<;>rfl
 rw[m];rfl
section
variable{n L:Nat}{rd:O Nat}{s:Fs}{Q:XX->Fs->Prop}
def YL.Yx(h:WC X n L rd b s Q):YL X n L rd b Q .normal s:=⟨h⟩
def YL.ret{b:Code}(h:Q .ret s):YL X n L rd b Q .ret s:=⟨h⟩
def YL.exit(h:Q (.exit id) s):YL X n L rd b Q (.exit id) s:=⟨h⟩
def YL.panic{v:N}(h:Q (.panic v) s):YL X n L rd b Q (.panic v) s:=⟨h⟩
def ZR.Yx(h:WL X n L rd b s Q):ZR X n L rd b Q .normal s:=⟨h⟩
def ZR.ret{b:Code}(h:Q .ret s):ZR X n L rd b Q .ret s:=⟨h⟩
def ZR.exit(h:Q (.exit id) s):ZR X n L rd b Q (.exit id) s:=⟨h⟩
def ZR.panic{v:N}(h:Q (.panic v) s):ZR X n L rd b Q (.panic v) s:=⟨h⟩
def Xy.Yx(h:Q .normal s):Xy id Q .normal s:=⟨h⟩
def Xy.ret{id:Nat}(h:Q .ret s):Xy id Q .ret s:=⟨h⟩
def Xy.panic{v:N}(h:Q (.panic v) s):Xy id Q (.panic v) s:=⟨h⟩
def Xy.here(h:Q .normal s):Xy id Q (.exit id) s:=⟨by show if _ then _ else _;rw[if_pos rfl];exact h⟩
def WF.begin{args:U N}{R:Kn->H->Prop}(m:X.fns.get f=some fn)(p:fn.body=some c)(l:fn.ntmps=n)(hn:args.length<=n)
 (k:WC X n L none c ⟨QN args 0 .nil,[],h,none⟩ (YG X fn R)):WF X f args.toArray L h R:=by
 subst l;exact WF.enter m p hn k
variable{V:GZ Oper}{l:U Oper}{ds:U V2}{h1:H}{d:Nat}{op:Op}
def WO.v{v:N}(m:Yh V ⟨some d,op,ty,p,af,g⟩ fr)(q:Nat.blt d n=true)(r:Qd X h (YM fr) ⟨some d,op,ty,p,af,g⟩=some (.val v,E))(t:E.apply L h=some h1)
 (k:WO X n L rd V l ⟨Tr.set fr d v,ds,h1,none⟩ Q):WO X n L rd V (⟨some d,op,ty,p,af,g⟩::l) ⟨fr,ds,h,none⟩ Q:=WO.val m q r t k
def WO.u(m:Yh V ⟨none,op,ty,p,af,g⟩ fr)(q:Qd X h (YM fr) ⟨none,op,ty,p,af,g⟩=some (.skip,E))(r:E.apply L h=some h1)
 (k:WO X n L rd V l ⟨fr,ds,h1,none⟩ Q):WO X n L rd V (⟨none,op,ty,p,af,g⟩::l) ⟨fr,ds,h,none⟩ Q:=WO.unit m rfl q r k
def WO.o(m:Zix V ⟨some d,op,ty,p,af,g⟩ fr)(q:Nat.blt d n=true)(k:WO X n L rd V l ⟨Tr.set fr d undef,ds,h,none⟩ Q):WO X n L rd V (⟨some d,op,ty,p,af,g⟩::l) ⟨fr,ds,h,none⟩ Q:=WO.off m q k
def WC.ZFz{c:GV}{a:Code}{t:Z}(l:YM s.fr c=some (.bool t))(h:t=true)(k:WC X n L rd a s Q):WC X n L rd (.cond c a b) s Q:=WC.cond l (fun _=>k) fun e=>by rw[h]at e;cases e
def WC.Zzi{c:GV}{a:Code}{t:Z}(l:YM s.fr c=some (.bool t))(h:t=false)(k:WC X n L rd b s Q):WC X n L rd (.cond c a b) s Q:=WC.cond l (fun e=>by rw[h]at e;cases e) fun _=>k
def ZF9(l:X.fns.get f=some fn):WB X h (.func (.func f) #[] #[]) vs=some (.enter f vs.toArray,.none):=by unfold WB;simp[l]
structure Slc(h:H)(a:Option Addr)(len sz:Nat)(cells:List Value):Prop where
 Z7f:cells.length=len*sz
 mem:len=0\/∃i o cs own z,a=some ⟨i,o,none⟩/\h.at i=.row cs own z/\o+len*sz<=cs.length/\(cs.drop o).take (len*sz)=cells
structure Grow(h h':H):Prop where
 size:h.size<=h'.size
 keep:∀i,i<h.size->h'.at i=h.at i
def Grow.refl(h:H):Grow h h:=⟨K2 _,fun _ _=>rfl⟩
def Grow.trans{a b c:H}(x:Grow a b)(y:Grow b c):Grow a c:=⟨KK x.size y.size,fun i h=>(y.keep i (J1 h x.size)).trans (x.keep i h)⟩
def Grow.push{a b:H}(x:Grow a b)(A:YN):Grow a (b.push A):=⟨Nat.le_succ_of_le x.size,fun i h=>by rw[H.QZ,if_neg (by have:=x.size;omega)];exact x.keep i h⟩
def X4{A:YN}(e:h.at i=A)(l:A.live=true):i<h.size:=by
 rcases Gl i h.size with z|z
 .exact z
 rw[H.Zeg z]at e;subst e;cases l
def Slc.load{o:Nat}{cs:U N}{v:N}(m:h.at i=.row cs own z)(l:Y6 P t=some false)(p:cs[o]? =some v):Zaz P h t (.pointer (some ⟨i,o,none⟩))=some v:=by unfold Zaz;dsimp only;rw[m];dsimp only;rw[l];dsimp only;exact p
def Slc.addr{o len cap k h:Nat}(hu:P.underlying t=some (.slice e))(l:YX P e=some h)(m:k<len):ZgF P t (.slice (some ⟨i,o,none⟩) len cap) (V4 (k:Int))=some (.pointer (some ⟨i,o+k*h,none⟩)):=by
 have:ZgF P t (.slice (some ⟨i,o,none⟩) len cap) (V4 (Int.ofNat k))=some (.pointer (some ⟨i,o+k*h,none⟩)):=by
  unfold ZgF;rw[hu];dsimp only;rw[l];dsimp only;have:Nat.blt k len=true:=by rw[G5];exact m
  rw[this];rfl
 exact this
end
section
variable{n L:Nat}{rd:O Nat}{Q:XX->Fs->Prop}{V:GZ Oper}{l:U Oper}{ds:U V2}{d:Nat}
def Wy(h:H)(A:YN):(h.push A).at h.size=A:=by rw[H.QZ,if_pos rfl]
def ZbE(l:i<h.size)(A:YN):(h.push A).at i=h.at i:=by rw[H.QZ,if_neg V6]
def YD(l:i<h.size)(A:YN):(h.put i A).at i=A:=by rw[H.QC,if_pos ⟨rfl,l⟩]
def XE(l:j≠i)(A:YN):(h.put i A).at j=h.at j:=by rw[H.QC,if_neg fun z=>l z.1]
def ZJ(P:GW)(t:J)(f off:Nat):Prop:=∃h x m,P.underlying t=some (.struct h)/\h[f]? =some x/\YX P x.type=some (m+1)/\x.offset=off
def ZJ.of{f off:Nat}(h:Zel P t ((V5 0)) f=some (.pointer (some ⟨0,off,none⟩))):ZJ P t f off:=by
 unfold Zel at h;cases e:P.underlying t with|none=>rw[e]at h;cases h|some u=>
   rw[e]at h;cases u with
   | struct q=>
     dsimp only at h;cases l:q[f]? with|none=>rw[l]at h;cases h|some x=>
       rw[l]at h;dsimp only at h;cases p:YX P x.type with|none=>rw[p]at h;cases h|some m=>
         rw[p]at h;cases m with|zero=>cases h|succ m=>cases h;exact⟨q,x,m,e,l,p,(G6 _).symm⟩
   | _=>cases h
def ZJ.addr{f off:Nat}(h:ZJ P t f off)(i o:Nat):Zel P t (.pointer (some ⟨i,o,none⟩)) f=some (.pointer (some ⟨i,o+off,none⟩)):=by obtain⟨p,x,m,h1,h2,l,rfl⟩:=h;unfold Zel;rw[h1];dsimp only;rw[h2];dsimp only;rw[l]
def ZwY(b:Z):(Value.bool b).cells.toList=[.bool b]:=rfl
def ZAV(k:IntKind)(m:Int):(Value.int k m).cells.toList=[.int k m]:=rfl
def ZrE(s:Y):(Value.string s).cells.toList=[.string s]:=rfl
def ZAT(a:O Addr):(Value.pointer a).cells.toList=[.pointer a]:=rfl
def ZuF(a:O Addr)(m c:Nat):(Value.slice a m c).cells.toList=[.slice a m c]:=rfl
def ZAU(m:O Nat):(Value.map m).cells.toList=[.map m]:=rfl
def cells_func(f:Fn)(xs ys:GZ N):(Value.func f xs ys).cells.toList=[.func f xs ys]:=rfl
def Zou:(Value.nilFunc).cells.toList=[.nilFunc]:=rfl
def Znh:(Value.nilIface).cells.toList=[.nilIface]:=rfl
def ZuG(t:J)(v:N):(Value.iface t v).cells.toList=[.iface t v]:=rfl
def ZAW(vs:U N):(Value.agg vs.toArray).cells.toList=vs:=rfl
def JC(P:GW)(t:J)(l:U N)(m:U (Nat×Nat)):Prop:=∃z h,Xl P t=some z/\z.cells.toList=l/\P.underlying t=some (.struct h)/\ZeI P h.toList=some m
def Zmr(h:Nat->O (Nat×Nat))(len:Nat):U (Nat×N)->Z
 | []=>true
 | (i,v)::rest=>(match h i with|some (off,size)=>Nat.beq v.cells.toList.length size&&Nat.ble (off+v.cells.toList.length) len|none=>false)&&Zmr h len rest
def Zt1(off:Nat->Nat):U N->U (Nat×N)->U N
 | cs,[]=>cs
 | cs,(i,v)::rest=>Zt1 off (splice cs (off i) v.cells.toList) rest
def Zu6{l:Nat->O (Nat×Nat)}{off:Nat->Nat}(r:∀i p,l i=some p->off i=p.1):∀(m:U (Nat×N))(cs:U N),Zmr l cs.length m=true->Zek l cs m=some (Zt1 off cs m):=by
 intro m
 induction m with|nil=>intro cs _;rfl|cons q m ih=>
   have⟨i,v⟩:=q;intro cs h;simp only[Zmr,Ba0]at h;have⟨h1,h2⟩:=h;unfold Zek Zt1;cases e:l i with|none=>rw[e]at h1;cases h1|some q=>
     have⟨of,sz⟩:=q;rw[e]at h1;dsimp only at h1 ⊢;rw[h1,Cq1,r i _ e]
     have t:(splice cs of v.cells.toList).length=cs.length:=by
      rw[Ba0]at h1;have:=Nl0 h1.2;simp only[splice,K1,Gt,GC];omega
     exact ih _ (by rw[t];exact h2)
def ZN:evp ev []=some []:=rfl
def Zy{xs:U (Nat×GV)}{v:N}{vs:U (Nat×N)}(h1:ev x=some v)(h2:evp ev xs=some vs):evp ev ((i,x)::xs)=some ((i,v)::vs):=by show(match ev x,evp ev xs with|some v,some vs=>some ((i,v)::vs) | _,_=>none)=_;rw[h1,h2]
def ZpI{b o l:Nat}{cs:U N}(m:Y6 P t=some true)(p:YX P t=some l)(q:h.at b=.row cs own z)(r:o+l<=cs.length)(hv:(cs.drop o).take l=vs):
 Zaz P h t (.pointer (some ⟨b,o,none⟩))=some (.agg vs.toArray):=by
 unfold Zaz;dsimp only;rw[q];dsimp only;rw[m,p];dsimp only;have x:Nat.ble (o+l) cs.length=true:=Nm0 r;rw[x,hv];rfl
end
variable{n L:Nat}{rd:O Nat}{Q:XX->Fs->Prop}{V:GZ Oper}{l:U Oper}{ds:U V2}
def YA{v:N}(l:ev x=some v):Qd X h ev ⟨d,.move x,ty,p,af,g⟩=some (.val v,.none):=by rw[ZFW,l];rfl
def Xb{v:N}(l:ev x=some v):Qd X h ev ⟨d,.assign x,ty,p,af,g⟩=some (.val v,.none):=by rw[Zxj,l];rfl
def Y9{f off b o:Nat}(m:ZJ X.P t f off)(l:ev x=some (.pointer (some ⟨b,o,none⟩))):Qd X h ev ⟨d,.fieldAddr t x f,ty,p,af,g⟩=some (.val (.pointer (some ⟨b,o+off,none⟩)),.none):=by rw[ZoD,l];dsimp only;rw[m.addr];rfl
def Zap{a:Addr}(l:ev x=some (.pointer (some a))):Qd X h ev ⟨d,.nilCheck x,ty,p,af,g⟩=some (.val (.pointer (some a)),.none):=by show(match ev x with|some (.pointer (some a))=>some (AN.val (.pointer (some a)),Eff.none)|_=>none)=_;rw[l]
def ZFP{b o:Nat}{cs:U N}{v:N}(m:Y6 X.P t=some false)(l:ev x=some (.pointer (some ⟨b,o,none⟩)))(q:h.at b=.row cs own z)(r:cs[o]? =some v):
 Qd X h ev ⟨d,.load t x,ty,p,af,g⟩=some (.val v,.none):=by rw[Zu1,l];dsimp only;rw[Slc.load q m r];rfl
def ZFO{b o l:Nat}{cs:U N}(q:Y6 X.P t=some true)(r:YX X.P t=some l)(m:ev x=some (.pointer (some ⟨b,o,none⟩)))(y:h.at b=.row cs own z)(A:o+l<=cs.length)(hv:(cs.drop o).take l=vs):
 Qd X h ev ⟨d,.load t x,ty,p,af,g⟩=some (.val (.agg vs.toArray),.none):=by rw[Zu1,m];dsimp only;rw[ZpI q r y A hv];rfl
def ZQB{a:O Addr}{m c:Nat}(hu:X.P.underlying t=some (.slice e))(l:ev x=some (.slice a m c)):
 Qd X h ev ⟨d,.call {callee:=.builtin .len,args:=#[x],argTypes:=#[t]},ty,p,af,g⟩=some (.val (V4 m),.none):=by
 have he:evs ev [x]=some [.slice a m c]:=Zb l Zf;rw[K4];show(match evs ev [x] with|some args=>K6 X.P h .len #[t] ty args|none=>none)=_;rw[he];show vN (Zxk X.P h t (.slice a m c))=_;unfold Zxk;rw[hu];rfl
def ZQC{l b o m c k:Nat}{q:Int}(hu:X.P.underlying t=some (.slice e))(B:YX X.P e=some l)(A:ev x=some (.slice (some ⟨b,o,none⟩) m c))(r:ev y=some (V4 q))(D:q=(k:Int))(C:k<m):
 Qd X h ev ⟨d,.indexAddr t x y,ty,p,af,g⟩=some (.val (.pointer (some ⟨b,o+k*l,none⟩)),.none):=by
 subst D;rw[ZoC,A,r];dsimp only;rw[Slc.addr hu B C];rfl
def ZgC{b:Z}(l:ev x=some (.bool b)):Qd X h ev ⟨d,.unOp .not t x,ty,p,af,g⟩=some (.val (.bool (!b)),.none):=by rw[ZFV,l];rfl
def Xg{l:BinOp}{m:J}{a b v:N}(r:ev x=some a)(q:ev y=some b)(hv:Q0 X.P l t x y a b=some (.val v,.none)):Qd X h ev ⟨d,.binOp l t x y m,ty,p,af,g⟩=some (.val v,.none):=by rw[ZA9,r,q];exact hv
def Zbi{c:GV}{b z:Z}(q:ev c=some (.bool b))(m:ev x=some (cond b (.bool z) undef))(l:ev y=some (.bool false)):Qd X h ev ⟨d,.pick c x y,ty,p,af,g⟩=some (.val (.bool (b&&z)),.none):=by rw[Zil,q,m,l];cases b<;>rfl
def Zii{c:GV}{b z:Z}(q:ev c=some (.bool b))(m:ev x=some (.bool true))(l:ev y=some (cond (!b) (.bool z) undef)):Qd X h ev ⟨d,.pick c x y,ty,p,af,g⟩=some (.val (.bool (b||z)),.none):=by rw[Zil,q,m,l];cases b<;>rfl
def JY{k:Nat}{v:N}(l:ev x=some (.tuple vs.toArray))(hv:vs[k]? =some v):Qd X h ev ⟨d,.extract x k,ty,p,af,g⟩=some (.val v,.none):=by rw[Zu2,l];dsimp only;unfold Zem;dsimp only;rw[hv];rfl
def Zh(V:GZ Oper)(o:Oper)(fr:Fr)(c:Z):Prop:=okG V.toList o fr=true/\XD V.toList o fr=c
def Zh.yes{o:Oper}{b:Z}{l:Oper}(r:gk o=some (j,true))(p:V.toList[j]? =some l)(q:l.dst=some m)(hv:fr.at m=.bool b):Zh V o fr b:=by have⟨h,hsk⟩:=ZkG r fr;unfold Zh okG XD Zao;rw[h];dsimp only;rw[p];dsimp only;rw[q];dsimp only;rw[hv,hsk];cases b<;>exact⟨rfl,rfl⟩
def Zh.no{o:Oper}{b:Z}{l:Oper}(r:gk o=some (j,false))(p:V.toList[j]? =some l)(q:l.dst=some m)(hv:fr.at m=.bool b):Zh V o fr (!b):=by have⟨h,hsk⟩:=ZkG r fr;unfold Zh okG XD Zao;rw[h];dsimp only;rw[p];dsimp only;rw[q];dsimp only;rw[hv,hsk];cases b<;>exact⟨rfl,rfl⟩
def Zh.ZGT{o:Oper}{a b:Z}{l:Oper}(r:gk o=some (j,true))(p:V.toList[j]? =some l)(q:l.dst=some m)(hv:fr.at m=cond a (.bool b) undef):Zh V o fr (a&&b):=by have⟨h,hsk⟩:=ZkG r fr;unfold Zh okG XD Zao;rw[h];dsimp only;rw[p];dsimp only;rw[q];dsimp only;rw[hv,hsk];cases a<;>cases b<;>exact⟨rfl,rfl⟩
def Zh.no2{o:Oper}{a b:Z}{l:Oper}(r:gk o=some (j,false))(p:V.toList[j]? =some l)(q:l.dst=some m)(hv:fr.at m=cond a (.bool b) undef):Zh V o fr (a && !b):=by have⟨h,hsk⟩:=ZkG r fr;unfold Zh okG XD Zao;rw[h];dsimp only;rw[p];dsimp only;rw[q];dsimp only;rw[hv,hsk];cases a<;>cases b<;>exact⟨rfl,rfl⟩
def Zlc{l:Op}{t:Tmp}{xs:GZ GV}{ts:GZ J}(h:l=.call {callee:=.value (.tmp t),args:=xs,argTypes:=ts})(hv:ZjW (fr.at t)=true):ZoN l fr=true:=by subst h;exact hv
def Zld{t:Tmp}{v:N}(p:fr.at t=v)(h:ZjW v=true):ZjW (fr.at t)=true:=by rw[p];exact h
def Zle{c:Z}{v:N}(h:ZjW v=true):ZjW (cond c v undef)=true:=by cases c;rfl;exact h
def Zh.Zvw{o:Oper}{b:Z}{m:Oper}{p:Tmp}(h:o.guard=some (j,true))(q:V.toList[j]? =some m)(r:m.dst=some p)(hv:fr.at p=.bool b)(l:ZoN o.op fr=true):Zh V o fr b:=by unfold Zh okG XD Zao;rw[h];dsimp only;rw[q];dsimp only;rw[r];dsimp only;rw[hv,l];cases b<;>exact⟨rfl,rfl⟩
def WO.gv{d:Nat}{m:Op}{c:Z}{v:N}(q:Zh V ⟨some d,m,ty,p,af,g⟩ fr c)(r:Nat.blt d n=true)(t:c=true->Qd X h (YM fr) ⟨some d,m,ty,p,af,g⟩=some (.val v,.none))
 (k:WO X n L rd V l ⟨Tr.set fr d (cond c v undef),ds,h,none⟩ Q):WO X n L rd V (⟨some d,m,ty,p,af,g⟩::l) ⟨fr,ds,h,none⟩ Q:=by
 cases c;.exact WO.o q r k
 exact WO.v q r (t rfl) rfl k
section
variable{Q:Fr->Prop}
def ZGp(L:Nat):MOf false L none=fun _=>False:=by funext x;unfold MOf;simp
def ZeL:∀(j:Jz)(r:Xr),(fun _:Jz=>(none:O Xr)) j=some r->UI j r:=fun _ _ h=>by cases h
end
end Go.Z9
end
