/- Part 5. -/
import Derived.RangeFuncRecord
import Derived.Laws.IdiomRangeMap
import Derived.Test.YtbnepjakjmnadaaGreatSb4
set_option linter.all false
set_option maxHeartbeats 2000000
section
noncomputable section
namespace Go.ZU
section
variable{ρ:Ren}{w:V4}{X:Ctx}{ih:WI->O QJ}
def Qz.trans{V n:Nat}{ρ l:Ren}{h h1:H}{w q:V4}(B:∀i p,ρ i=some p->i<h.size)(y:Stp V ρ h w l h1 q){e:XX}{r:Fs}{t:Exit}{x:Act}{w':V4}
 (A:Qz V n l h1 q e r t x w'):Qz V n ρ h w e r t x w':=by
 have⟨ρ',h1,h2,h3⟩:=A;exact⟨ρ',h1,h2,y.trans B h3⟩
def ZaN.trans{V:Nat}{ρ l:Ren}{h h1:H}{w q:V4}(A:∀i p,ρ i=some p->i<h.size)(x:Stp V ρ h w l h1 q){e:WJ}{r:H}{t:Ending}{w':V4}
 (y:ZaN V l h1 q e r t w'):ZaN V ρ h w e r t w':=by
 have⟨ρ',h1,h2,h3⟩:=y;exact⟨ρ',h1,h2,x.trans A h3⟩
def ZpT{k:XX->Fs->O QJ}{r:O QJ}{x:QJ}(h:ZEi k r=some x):∃e s,r=some (.code e s)/\k e s=some x:=by
 unfold ZEi at h;split at h;.exact⟨_,_,rfl,h⟩
 cases h
def Zxq{k:XX->PM->Fs->O QJ}{r:O QJ}{x:QJ}(h:ZEa k r=some x):∃e l s,r=some (.QL e l s)/\k e l s=some x:=by
 unfold ZEa at h;split at h;.exact⟨_,_,_,rfl,h⟩
 cases h
def Zvw(X:Ctx)(c:Code)(n V:Nat)(rd:O Nat)(s:Fs)(r:QJ):Prop:=
 ∃e l,r=.code e l/\∀ρ a w F,V<=s.h.size->Inv ρ n s a w->FR' ρ rd F->c.wpIn F 0 X.P (Qz V n ρ s.h w e l) a w
def QU{c:Code}{n V:Nat}{rd:O Nat}{s:Fs}{r:QJ}:Y7 X (.code c n V rd s) r↔Zvw X c n V rd s r:=by
 cases r with
 | code e p=>exact⟨fun h=>⟨e,p,rfl,h⟩,fun⟨_,_,l,h⟩=>by cases l;exact h⟩
 | fin e h=>exact⟨fun h=>h.elim,fun⟨_,_,l,_⟩=>by cases l⟩
 | Zg9 e h=>exact⟨fun h=>h.elim,fun⟨_,_,l,_⟩=>by cases l⟩
 | QL e h s=>exact⟨fun h=>h.elim,fun⟨_,_,l,_⟩=>by cases l⟩
def ZPN(X:Ctx)(c:Code)(n V:Nat)(rd:O Nat)(s:Fs)(r:QJ):Prop:=
 ∃e l,r=.code e l/\∀ρ a w F,V<=s.h.size->Inv ρ n s a w->FR' ρ rd F->LoopIn F 0 X.P c (Qz V n ρ s.h w e l) a w
def Zrg{c:Code}{n V:Nat}{rd:O Nat}{s:Fs}{r:QJ}:Y7 X (.loop c n V rd s) r↔ZPN X c n V rd s r:=by
 cases r with
 | code e p=>exact⟨fun h=>⟨e,p,rfl,h⟩,fun⟨_,_,l,h⟩=>by cases l;exact h⟩
 | fin e h=>exact⟨fun h=>h.elim,fun⟨_,_,l,_⟩=>by cases l⟩
 | Zg9 e h=>exact⟨fun h=>h.elim,fun⟨_,_,l,_⟩=>by cases l⟩
 | QL e h s=>exact⟨fun h=>h.elim,fun⟨_,_,l,_⟩=>by cases l⟩
def Zj5(X:Ctx)(c:Code)(n V:Nat)(x:PM)(s:Fs)(r:QJ):Prop:=
 ∃e p q,r=.QL e p q/\∀ρ a c0 cs w,V<=s.h.size->Inv ρ n s a w->PmR ρ x c0.mode ->
     c.wpSIn base 0 X.P (fun y A cs' w'=>∃l t,cs'= {c0 with mode:=t}::cs/\PmR l p t/\ExR l e y/\Inv l n q A w'/\Stp V ρ s.h w l q.h w') a (c0::cs) w
def QB{c:Code}{n V:Nat}{q:PM}{s:Fs}{r:QJ}:Y7 X (.QL c n V q s) r↔Zj5 X c n V q s r:=by
 cases r with
 | QL e p t=>exact⟨fun h=>⟨e,p,t,rfl,h⟩,fun⟨_,_,_,l,h⟩=>by cases l;exact h⟩
 | fin e h=>exact⟨fun h=>h.elim,fun⟨_,_,_,l,_⟩=>by cases l⟩
 | Zg9 e h=>exact⟨fun h=>h.elim,fun⟨_,_,_,l,_⟩=>by cases l⟩
 | code e s=>exact⟨fun h=>h.elim,fun⟨_,_,_,l,_⟩=>by cases l⟩
section
variable(HI:∀j r,ih j=some r->Y7 X j r)
include HI
end
end
section
variable{ρ:Ren}{w:V4}{X:Ctx}{ih:WI->O QJ}
def Zux:∀(vs:U N)(i:Nat)(fr:Fr)(t:Nat),(QI vs i fr).at t=if i<=t/\t<i+vs.length then vs.getD (t-i) undef else fr.at t:=by
 intro vs
 induction vs with|nil=>intro i fr t;rw[if_neg (by simp)];rfl|cons v vs ih=>
   intro i fr t;rw[QI,ih];by_cases h1:i+1<=t/\t<i+1+vs.length;.rw[if_pos h1,if_pos (by simp;omega)];have:t-i=(t-(i+1))+1:=Vb;rw[this];rfl
   rw[if_neg h1];by_cases h2:t=i;.subst h2;rw[if_pos (by simp)];simp[Fr.at,Tr.Qp]
   rw[if_neg (by simp;omega)];simp[Fr.at,Tr.Qp,h2]
def Fr.at_nil(t:Nat):Fr.at .nil t=undef:=rfl
def Zba{args l:V5 N}{n:Nat}(hv:Ub ρ args l)(hn:args.toList.length<=n):
 FrR ρ (QI args.toList 0 .nil) n (l++Array.replicate (n-l.size) undef):=by
 have x:l.size=args.size:=hv.1.symm;rw[G6]at hn;refine⟨by simp;omega,fun t _=>?_⟩;rw[Zux];by_cases h:0<=t/\t<0+args.toList.length
 .rw[if_pos h];have h2:=h.2;simp only[G6,Gc]at h2;have r:args.toList.getD (t-0) undef=args[t]:=by simp[List.getD,h2]
  have q:(l++Array.replicate (n-l.size) undef).getD t undef=l[t]'Vb:=by
   rw[QP,Array.getElem?_append_left Vb];simp[show t<l.size by omega]
  rw[r,q];exact hv.2 t _ _ (by simp[h2]) (by simp[show t<l.size by omega])
 rw[if_neg h];have h2:args.size<=t:=by simp at h;exact h
 have q:(l++Array.replicate (n-l.size) undef).getD t undef=undef:=by
  rw[QP,Array.getElem?_append_right Vb];rcases Gq (t-l.size) (n-l.size) with p|p
  .simp[p]
  rw[Array.getElem?_eq_none (by simpa using p)];rfl
 rw[q,Fr.at_nil];exact VR.undef ρ
def ZmN{P:V2}{h:H}{w:V4}(r:Rel ρ h w){t:J}{a q v:N}(p:VR ρ a q)(l:K4 P h t a=some v):
 ∃v',VR ρ v v'/\(do loadVar t (<-asAddr q):Sem N).run P w=.ok v' w:=by
 have⟨v',q1,q2⟩:=ZkM r p l;refine⟨v',q1,?_⟩;unfold K4 at l;split at l
 .cases p with|ptr o x=>
    rw[Zfl]at q2;simpa[Sem.run_bind,asAddr]using q2
 cases l
def ZAs(h:V5 N):ResultVar->Sem N
 | .tmp t=>pure (h.getD t undef)
 | .cell a t=>do loadVar t (<-asAddr (h.getD a undef))
def Zu9{P:V2}{h:H}{w:V4}(r:Rel ρ h w){fr:Fr}{n:Nat}{p:V5 N}(B:FrR ρ fr n p):∀(y:U ResultVar)(vs:U N),ZdR P fr h y=some vs ->
 ∃vs',LR ρ vs vs'/\(y.mapM (m:=Sem) (ZAs p)).run P w=.ok vs' w:=by
 intro y;induction y with
 | nil=>
   intro vs h1;cases h1;exact⟨[],LR.nil,by simp⟩
 | cons x y A=>
   intro vs h1;simp only[ZdR]at h1;split at h1
   .rename_i v C q E;cases h1;have⟨vs',q1,q2⟩:=A _ E
    have:∃v',VR ρ v v'/\(ZAs p x).run P w=.ok v' w:=by
     cases x with
     | tmp t=>
       simp only[ZsW]at q;cases l:X4 (fr.at t)<;>rw[l]at q<;>simp only[Cq1,Cq0]at q;.cases q;exact⟨_,B.val t l,rfl⟩
       cases q
     | cell a t=>
       have l:X4 (fr.at a)=false:=by
        simp only[ZsW]at q;unfold K4 at q;split at q;next D=>rw[D];rfl
        cases q
       exact ZmN r (B.val a l) q
    have⟨v',p1,p2⟩:=this;refine⟨v'::vs',LR.cons p1 q1,?_⟩;rw[List.mapM_cons];simp only[Sem.run_bind,p2,Gx,q2,Sem.run_pure]
   cases h1
def Zfd{P:V2}{fn:Func}{h:H}{w:V4}(r:Rel ρ h w){fr:Fr}{n:Nat}{l:V5 N}(F:FrR ρ fr n l){v:N}(q:Q9 P fn fr h=some v):
 ∃v',VR ρ v v'/\(results fn l).run P w=.ok v' w:=by
 unfold Q9 at q
 have p:∀vs,ZdR P fr h fn.results.toList=some vs->∃vs',LR ρ vs vs'/\(results fn l).run P w=.ok (if h:vs'.toArray.size=1 then vs'.toArray[0] else .tuple vs'.toArray) w:=by
  intro vs A;have⟨vs',q1,q2⟩:=Zu9 (P:=P) r F _ _ A;refine⟨vs',q1,?_⟩;have e:results fn l=(do let vs <-fn.results.mapM (ZAs l);pure (if h:vs.size=1 then vs[0] else .tuple vs):Sem N):=rfl;rw[e,<-Array.toArray_toList (xs:=fn.results),List.mapM_toArray];simp only[Sem.run_bind,Sem.run_map,q2,Gx,Sem.run_pure]
 split at q;next x t=>cases q;have⟨vs',q1,q2⟩:=p _ t;obtain⟨y,rfl,C⟩:=LR.one q1;exact⟨y,C,by rw[q2];simp⟩
 .rename_i vs B t;cases q;have⟨vs',q1,q2⟩:=p _ t
  have D:vs.length≠1:=by
   intro E;match vs,E with|[x],_=>exact B x rfl
  refine⟨.tuple vs'.toArray,.tuple _ _ q1.arr.1 q1.arr.2,?_⟩;rw[q2,dif_neg];simp only[List.size_toArray];rw[<-q1.1];exact D
 cases q
def CallsDIn.mono'{F:Fence}{n:Nat}{P:V2}{f:V3}{args:V5 N}{u:FrameMode}{w:V4}{R R':Ending->FrameMode->V4->Prop}(h:CallsDIn F n P f args u w R)
 (p:∀e u w,R e u w->R' e u w):CallsDIn F n P f args u w R':=
 ⟨h.1,fun c cs t l=>let⟨e,u',w',fr,q,r⟩:=h.2 c cs t l;⟨e,u',w',fr,p _ _ _ q,r⟩⟩
def PmR.settle{p:PM}{u:FrameMode}(h:PmR ρ p u):PmR ρ (Zjw p) (settle u):=by cases h with|ret=>exact .ret|Ym h=>exact .Ym h|rcv h=>exact .ret
def DsR.nil_eq{ds:U V7}(h:DsR ρ [] ds):ds=[]:=by cases h;rfl
def PmR.Zv9{p:PM}{u:FrameMode}(h:PmR ρ p u):u≠.run:=by cases h<;>simp
section
variable{C:Cfg}(HI:∀j r,ih j=some r->Y7 C.X j r)
include HI
theorem Us{fn:Func}{V:Nat}{pm:PM}{s:Fs}{r:QJ}(h:Kk C ih fn V pm s=some r):Y7 C.X (.leave fn V pm s) r:=by
 unfold Kk at h;split at h
 .rename_i B
  have hd:∀{ρ n a w},Inv ρ n s a w->a.defers=[]:=fun l=>by
   have:=l.ds;rw[B]at this;exact this.nil_eq
  split at h
  .split at h;next v hv=>cases h;intro ρ n a u w R L l q I;cases q;have⟨v',q1,q2⟩:=Zfd l.rel l.fr hv;rw[hd l];exact⟨v',q2,I _ _ ⟨ρ,.ret q1,l.rel,Stp.refl _ _ _ _⟩⟩
   cases h
  .rename_i v;cases h;intro ρ n a u w R L l q I;cases q with|Ym hv=>
     rw[hd l];exact I _ _ ⟨ρ,.Ym hv,l.rel,Stp.refl _ _ _ _⟩
  cases h
 rename_i d ds B;split at h
 .rename_i r0 p;split at h
  .rename_i S;cases hb:Nat.ble V r0<;>rw[hb]at h<;>simp only[Cq1,Cq0]at h;.cases h
   have hr0:=Nl0 hb;have y:=HI _ _ h;cases r with
   | fin e E=>
     intro ρ n a u w R L l q I;have t:=l.ds;rw[B]at t;generalize hx:a.defers=x at t;cases t with|cons G _=>have⟨⟨f,c,c',e1,_⟩,_⟩:=G;rw[p]at e1;cases e1|@mark rr r' _ K hm ht=>
       simp only at p;cases p;have ho:=l.rel.obj _ _ _ hm;rw[S]at ho;have⟨_,ho⟩:=ho;have hlt:=(l.rel.dom _ _ _ hm).2;have⟨q1,q2⟩:=ZoF (V:=V) (A:=.dead) (w':=w.putObj r' (.deferred none)) l.rel hr0 (by rw[S];rfl) ⟨rfl,rfl,rfl⟩ hm World.putObj_size (fun k hk=>World.putObj_heap_other hk) trivial;refine⟨q.Zv9,.inl ⟨r',_,rfl,run_takeDeferred ho,?_⟩⟩;have F:Inv ρ n {s with ds:=ds,h:=s.h.put r0 .dead} {a with defers:=K} (w.putObj r' (.deferred none)):=⟨q1,l.fr,ht⟩;exact y ρ n _ u _ R L F q (fun e' w' hp=>I _ _ (ZaN.trans l.rel.lt q2 hp))
   | code e E=>exact y.elim
   | Zg9 e E=>exact y.elim
   | QL e E _=>exact y.elim
  cases h
 .rename_i f cap p;split at h
  .rename_i fnn Q;split at h
   .rename_i pm' E hc;have y:=HI _ _ h;have hcj:=HI _ _ hc;cases r with
    | fin e h2=>
      intro ρ n a u w R L l q I;have t:=l.ds;rw[B]at t;generalize hx:a.defers=x at t;cases t with
      | @cons _ T _ K G ht=>
        have⟨⟨f1,c1,c1',e1,e2,hv⟩,hargs⟩:=G;rw[p]at e1;cases e1
        have D:Ub ρ (d.args.toList++cap.toList).toArray (T.args++c1'):=by
         have:=((Ub.list hargs).append (Ub.list hv)).arr;have e:(T.args.toList++c1'.toList).toArray=T.args++c1':=by apply Array.toList_inj.1;simp
         rwa[e]at this
        refine⟨q.Zv9,.inr ⟨fun hh=>(by cases hh),.func f,c1',f,T.args++c1',e2,?_,fun g hg=>(by rw[e2]at hg;simp only[Target.leads]at hg;cases hg;exact Zlg Q),?_⟩⟩;.rw[e2,<-K8 (w:=w) (args:=T.args++c1') Q];simp[invoke]
        refine CallsDIn.mono' (hcj ρ _ u w L l.rel D q) ?_;rintro e3 u3 w3 ⟨v,rfl,P,p1,p2,W⟩;have F:Inv P n {s with ds:=ds,h:=E} {a with defers:=K} w3:=⟨p2,l.fr.mono W.ext,ht.mono W.ext⟩;exact y P n _ _ _ R (KK L W.size) F p1.settle (fun e' w' hp=>I _ _ (ZaN.trans l.rel.lt W hp))
      | mark hm ht=>cases p
    | code e E=>exact y.elim
    | Zg9 e E=>exact y.elim
    | QL e E _=>exact y.elim
   cases h
  cases h
 cases h
omit HI in
theorem ZAv{V:Nat}{ρ:Ren}{h:H}{w w':V4}{A:Xv}{l:Nat×Nat}{p:Nat}(r:Rel ρ h w)(ZG:V<=h.size)(hb:RowKit.Below w.heap.size w w')(hp:w.heap.size<=p)(hp2:p<w'.heap.size)
 (hA:Q0 (ρ.add h.size (p,0) l) w' p 0 l A):
 Rel (ρ.add h.size (p,0) l) (h.push A) w'/\Stp V ρ h w (ρ.add h.size (p,0) l) (h.push A) w':=by
 have hle:=Ren.Za8 (p:=(p,0)) (l:=l) r.fresh
 have hold:∀i b d,i≠h.size->(ρ.add h.size (p,0) l) i=some (b,d)->ρ i=some (b,d):=fun i b d hi e=>by
  rwa[(Ren.UB hi).1]at e
 have hnew:∀b d,(ρ.add h.size (p,0) l) h.size=some (b,d)->b=p/\d=0:=fun b d e=>by
  rw[Ren.add_same]at e;cases e;exact⟨rfl,rfl⟩
 have hat:∀i,i≠h.size->(h.push A).at i=h.at i:=fun i hi=>by rw[H.Qu,if_neg hi]
 have ZBW:(h.push A).at h.size=A:=by rw[H.Qu,if_pos rfl]
 have hsz:=hb.size;refine⟨⟨?_,?_,?_⟩,⟨hle,by simp,?_,?_,?_,hb.os,hb.tape,hb.output,hb.size,?_,?_⟩⟩
 ·intro i b d e;rw[H.size_push];by_cases hi:i=h.size
  ·subst hi;have:=hnew b d e;omega
  ·have:=r.dom i b d (hold i b d hi e);omega
 ·intro i b d e;by_cases hi:i=h.size
  ·subst hi;obtain⟨rfl,rfl⟩:=hnew b d e;rw[ZBW,Ren.Zb9];exact hA
  ·have e0:=hold i b d hi e;rw[hat i hi,(Ren.UB hi).2];exact((r.obj i b d e0).mono hle).world (hb.block b (r.dom i b d e0).2)
 ·intro i j b d d' e e' ho hl;by_cases hi:i=h.size
  ·subst hi;obtain⟨rfl,rfl⟩:=hnew b d e;by_cases hj:j=h.size
   ·exact hj.symm
   ·have:=(r.dom _ _ _ (hold j _ _ hj e')).2;omega
  ·have e0:=hold i b d hi e;by_cases hj:j=h.size
   ·subst hj;obtain⟨rfl,rfl⟩:=hnew b d' e';have:=(r.dom _ _ _ e0).2;omega
   ·rw[hat i hi]at ho;rw[hat j hj]at hl;exact r.inj i j b d d' e0 (hold j _ _ hj e') ho hl
 ·intro i hi;exact hat i Vb
 ·intro i hi x;rwa[hat i Vb]at x
 ·intro i hi x;rwa[hat i Vb]at x
 ·intro b hb' _;exact hb.block b hb'
 ·intro i b d e e';by_cases hi:i=h.size
  ·subst hi;obtain⟨rfl,rfl⟩:=hnew b d e';exact⟨K1 _,.inl hp⟩
  ·rw[hold i b d hi e']at e;cases e
end
def Jq{F:Fence}{n:Nat}{P:V2}{c:Code}{Q p:Exit->Act->U Frame->V4->Prop}{a:Act}{cs:U Frame}{w:V4}(h:c.wpSIn F n P Q a cs w)
 (t:∀e a cs w,Q e a cs w->p e a cs w):c.wpSIn F n P p a cs w:=
 fun b k h1 h2 y x=>let⟨e,a',cs',w',l,q,r⟩:=h b k h1 h2 y x;⟨e,a',cs',w',l,t _ _ _ _ q,r⟩
def ZuU{n V:Nat}{ops:V5 Oper}:∀(l:U Oper)(k:Nat),(∀j,l[j]? =ops[k+j]?)->∀(pm G:PM)(s W:Fs),Zy1 X n V ops.toList l pm s=some (G,W) ->
 ∀{ρ:Ren}{c0:Frame}{cs:U Frame}{a:Act}{w:V4},Inv ρ n s a w->V<=s.h.size->PmR ρ pm c0.mode->∀(Q:Exit->Act->U Frame->V4->Prop),
   (∀F u' a' w',PmR F G u'->Inv F n W a' w'->Stp V ρ s.h w F W.h w'->Q .normal a' ({c0 with mode:=u'}::cs) w') ->
   wpOpsSIn base 0 X.P ops Q (List.range' k l.length) a (c0::cs) w:=by
 intro l;induction l with
 | nil=>
   intro k hl pm G s W hs ρ c0 cs a w D ZG C Q hQ;cases hs;exact hQ ρ c0.mode a w C D (Stp.refl _ _ _ _)
 | cons o l ihl=>
   intro k hl pm G s W hs ρ c0 cs a w D ZG C Q hQ;have h0:ops[k]? =some o:=by simpa using (hl 0).symm
   have hl':∀j,l[j]? =ops[k+1+j]?:=fun j=>by have:=hl (j+1);simpa[GO,Nat.add_comm 1 j]using this
   simp only[Kx,List.range'_succ,wpOpsSIn,h0];simp only[Zy1]at hs;split at hs
   .rename_i pm1 s1 p
    have ZYs:∀f,o.about X.P w a.eval=some f->f<nfs:=by
     intro f S;unfold dop at p;dsimp only at p;cases I:okG ops.toList o s.fr<;>rw[I]at p<;>simp only[GM,J0,Cq1,Cq0]at p;.cases p
     cases L:XJ ops.toList o s.fr<;>rw[L]at p<;>simp only[Cq1,Cq0]at p;.exact ZfQ (ρ:=ρ) (fun t _ hx=>D.fr.val t hx) I L S
     split at p;next nx E ha=>have⟨y,w1,p1,p2,p3⟩:=ZbF D.rel (Zap D.fr) ha;exact Zca ha p3 S
     cases p
    refine⟨fun f S=>ZYs f S,?_⟩
    have go:∀{y:Ren}{u1:FrameMode}{a1:Act}{w1:V4},Inv y n s1 a1 w1->PmR y pm1 u1->Stp V ρ s.h w y s1.h w1 ->
     wpOpsSIn base 0 X.P ops Q (List.range' (k+1) l.length) a1 ({c0 with mode:=u1}::cs) w1:=by
     intro y u1 a1 w1 h1 h2 h3;refine ihl (k+1) hl' pm1 G s1 W hs (c0:= {c0 with mode:=u1}) h1 (KK ZG h3.size) h2 Q (fun F u' a' w' B A q3=>?_);exact hQ F u' a' w' B A (h3.trans D.rel.lt q3)
    unfold dop at p;dsimp only at p;cases I:okG ops.toList o s.fr<;>rw[I]at p<;>simp only[GM,J0,Cq1,Cq0]at p;.cases p
    rw[Zfb D.fr ops o I];cases L:XJ ops.toList o s.fr<;>rw[L]at p<;>simp only[Cq1,Cq0]at p
    .rw[if_neg (by simp)];split at p;next s2 q=>cases p;have⟨B,A⟩:=Jw D (VR.undef ρ) q;have:=go (u1:=c0.mode) B C (by rw[A];exact Stp.refl _ _ _ _);exact this
     cases p
    rw[if_pos rfl];split at p
    .rename_i nx E ha;split at p
     .rename_i h1 hE;have⟨y,w1,p1,p2,p3⟩:=ZbF D.rel (Zap D.fr) ha;have⟨r1,st1⟩:=Eff.sound D.rel ZG p1 hE p2;have K:=D.step r1 st1;split at p
      .rename_i v;have⟨v',hv,r⟩:=p3;rw[r];split at p;next s2 q=>cases p;have⟨B,A⟩:=Jw K hv q;exact go (u1:=c0.mode) B (C.mono st1.ext) (by rw[A];exact st1)
       cases p
      .have r:(execOp a.eval o).run X.P w=.ok .skip w1:=p3;rw[r];split at p;next s2 q=>cases p;have⟨B,A⟩:=Jw K (VR.undef _) q;exact go (u1:=c0.mode) B (C.mono st1.ext) (by rw[A];exact st1)
       cases p
      .have r:(execOp a.eval o).run X.P w=.ok .recover w1:=p3;rw[r];have Zyx:=C.mono st1.ext;cases pm with
       | Ym v=>
         simp only at p;generalize T:c0.mode=m at Zyx;cases Zyx with|@Ym _ v' hv=>
           have x:recoverD (c0::cs)=some (v',{c0 with mode:=.panicking [{v:=v',recovered:=true}]}::cs):=by
            simp[recoverD,T,chainOf]
           simp only[x];split at p;next s2 q=>cases p;have⟨B,A⟩:=Jw K hv q;exact go B (.rcv hv) (by rw[A];exact st1)
           cases p
       | ret=>
         simp only at p;generalize T:c0.mode=m at Zyx;cases Zyx;have x:recoverD (c0::cs)=none:=by simp[recoverD,T]
         simp only[x];split at p;next s2 q=>cases p;have⟨B,A⟩:=Jw K (v:=.nilIface) (v':=.nilIface) (VR.ZY rfl) q;exact go (u1:=c0.mode) B (by rw[T];exact .ret) (by rw[A];exact st1)
         cases p
       | rcv v=>
         simp only at p;generalize T:c0.mode=m at Zyx;cases Zyx with|@rcv _ v' hv=>
           have x:recoverD (c0::cs)=none:=by simp[recoverD,T]
           simp only[x];split at p;next s2 q=>cases p;have⟨B,A⟩:=Jw K (v:=.nilIface) (v':=.nilIface) (VR.ZY rfl) q;exact go (u1:=c0.mode) B (by rw[T];exact .rcv hv) (by rw[A];exact st1)
           cases p
      cases p
     cases p
    cases p
   cases hs
section
variable{C:Cfg}(HI:∀j r,ih j=some r->Y7 C.X j r)
include HI
theorem ZdJ{c:Code}{n V:Nat}{q:PM}{s:Fs}{r:QJ}(h:ZdK ih c n V q s=some r):Zj5 C.X c n V q s r:=by have⟨e,s1,ha,hk⟩:=ZpT h;have⟨_,_,e0,ka⟩:=QU.1 (HI _ _ ha);cases e0;cases hk;refine⟨e,q,s1,rfl,fun ρ a c0 cs w A y t=>wpSIn_of_wpIn rfl (wpIn_mono (ka ρ a w base A y rfl) ?_)⟩;rintro B D w' ⟨p,he,x,l⟩;exact⟨p,c0.mode,rfl,t.mono l.ext,he,x,l⟩
theorem Ut{c:Code}{n V:Nat}{L:PM}{s:Fs}{r:QJ}(h:Zb1 C ih c n V L s=some r):Zj5 C.X c n V L s r:=by
 unfold Zb1 at h;split at h
 .rename_i a b;have⟨e,pm1,s1,ha,hk⟩:=Zxq h;have⟨_,_,_,e0,ka⟩:=QB.1 (HI _ _ ha);cases e0;have I:∀{x:Exit},(∀ρ,ExR ρ e x->True)->True:=fun _=>trivial;cases e with
  | normal=>
    obtain⟨e2,pm2,s2,rfl,kb⟩:=QB.1 (HI _ _ hk);refine⟨e2,pm2,s2,rfl,fun ρ a c0 cs w D B l=>wpSIn_seq (Jq (ka ρ a c0 cs w D B l) ?_)⟩;rintro P G cs' w' ⟨p,E,rfl,y,he,A,q⟩;cases he;refine Jq (kb p G {c0 with mode:=E} cs w' (KK D q.size) A y) ?_;rintro e3 a3 cs3 w3 ⟨Q,u3,rfl,W,T,S,q4⟩;exact⟨Q,u3,rfl,W,T,S,q.trans B.rel.lt q4⟩
  | exit id=>
    cases hk;refine⟨_,_,_,rfl,fun ρ a c0 cs w D B l=>wpSIn_seq (Jq (ka ρ a c0 cs w D B l) ?_)⟩;rintro P G cs' w' ⟨p,E,rfl,y,he,A,q⟩;cases he;exact⟨p,E,rfl,y,.exit id,A,q⟩
  | goto id=>
    cases hk;refine⟨_,_,_,rfl,fun ρ a c0 cs w D B l=>wpSIn_seq (Jq (ka ρ a c0 cs w D B l) ?_)⟩;rintro P G cs' w' ⟨p,E,rfl,y,he,A,q⟩;cases he;exact⟨p,E,rfl,y,.goto id,A,q⟩
  | ret=>
    cases hk;refine⟨_,_,_,rfl,fun ρ a c0 cs w D B l=>wpSIn_seq (Jq (ka ρ a c0 cs w D B l) ?_)⟩;rintro P G cs' w' ⟨p,E,rfl,y,he,A,q⟩;cases he;exact⟨p,E,rfl,y,.ret,A,q⟩
  | panic v=>
    cases hk;refine⟨_,_,_,rfl,fun ρ a c0 cs w D B l=>wpSIn_seq (Jq (ka ρ a c0 cs w D B l) ?_)⟩;rintro P G cs' w' ⟨p,E,rfl,y,he,A,q⟩;cases he with|panic hv=>exact⟨p,E,rfl,y,.panic hv,A,q⟩
 .rename_i c a b;split at h
  .rename_i t hc
   have:Zj5 C.X (if t then a else b) n V L s r:=by
    cases t with|true=>exact QB.1 (HI _ _ h)|false=>exact QB.1 (HI _ _ h)
   obtain⟨e,F,K,rfl,k⟩:=this;refine⟨e,F,K,rfl,fun ρ G c0 cs w D B l=>?_⟩;have hv:=Zap B.fr _ _ hc;generalize hx:G.eval c=x at hv;cases hv;exact wpSIn_cond hx (k ρ G c0 cs w D B l)
  cases h
 .rename_i id ops d;cases hd:(!d&&ops.toList.any isRecover)<;>rw[hd]at h<;>simp only[Cq1,Cq0]at h;.exact ZdJ HI h
  split at h
  .rename_i F K hs;cases h;have:d=false:=by simp at hd;exact hd.1
   subst this;refine⟨.normal,F,K,rfl,fun ρ a c0 cs w D B l=>wpSIn_region ?_⟩;rw[List.range_eq_range',<-G6];exact ZuU ops.toList 0 (by simp) L F s K hs B D l _ (fun p E G w' W T S=>⟨p,E,rfl,W,.normal,T,S⟩)
  cases h
 exact ZdJ HI h
theorem Zm0{f:V3}{args:V5 N}{F:PM}{V:Nat}{h:H}{r:QJ}(t:ZpH C ih f args F V h=some r):Y7 C.X (.dcall f args F V h) r:=by
 unfold ZpH at t;split at t
 .rename_i fn D;split at t
  .rename_i c W;cases hn:Nat.ble args.toList.length fn.ntmps<;>rw[hn]at t<;>simp only[Cq1,Cq0]at t;.cases t
   have⟨e,pm1,s1,ha,hk⟩:=Zxq t;have⟨_,_,_,e0,ka⟩:=QB.1 (HI _ _ ha);cases e0
   have y:∀v,s1.ds=[]->(e=.normal\/e=.ret)->Q9 C.X.P fn s1.fr s1.h=some v->Y7 C.X (.dcall f args F V h) (.Zg9 pm1 s1.h):=by
    intro v p he hv ρ q u w ZG Q G I
    have T:Inv ρ fn.ntmps {fr:=QI args.toList 0 .nil,ds:=[],h:=h} {tmps:=q++Array.replicate (fn.ntmps-q.size) undef,defers:=[]} w:=
     ⟨Q,Zba G (Nl0 hn),.nil⟩
    refine callsDIn_of_wpSIn (C.X.ok f fn D).1 W (Zlg D) fun c0 cs S=>Jq (ka ρ _ c0 cs w ZG T (by rw[S];exact I)) ?_;rintro e' a' cs' w' ⟨x,K,rfl,B,E,l,A⟩
    have L:a'.defers=[]:=by
     have:=l.ds;rw[p]at this;exact this.nil_eq
    have⟨v',q1,q2⟩:=Zfd l.rel l.fr hv;rcases he with rfl|rfl
    .cases E;exact⟨L,K,rfl,v',q2,v',rfl,x,B,l.rel,A⟩
    cases E;exact⟨L,K,rfl,v',q2,v',rfl,x,B,l.rel,A⟩
   split at hk;next p hv=>cases hk;exact y _ p (.inl rfl) hv
   next p hv=>cases hk;exact y _ p (.inr rfl) hv
   cases hk
  cases t
 cases t
end
end
section
variable{ρ:Ren}{w:V4}{X:Ctx}{ih:WI->O QJ}
def run_enterLoop_inner{P:V2}(fn:V3)(tmps:V5 N)(ps:V5 Tmp)(assign body:Code){l:Nat}{r:Loop}(h:w.heap[l]? =some (.loop r)):
 (Instr.enterLoop fn tmps ps assign body (some l)).run P w=
   .ok (w.heap.size,[]) (w.alloc (.loop {state:=.ready,pending:=none,fn,tmps,params:=ps,assign,body,defers:=r.defers})):=by
 unfold Instr.enterLoop;simp only[Sem.run_bind,run_getLoop h,run_newObj_alloc,Result.andThen,Sem.run_pure]
def Zb7(w:V4)(o:Obj):(w.alloc o).heap=w.heap.push o:=rfl
def ZfO(w:V4)(o:Obj):Same w (w.alloc o):=⟨rfl,rfl,rfl⟩
def Zq1(w:V4)(r:Nat)(o:Obj):Same w (w.putObj r o):=⟨rfl,rfl,rfl⟩
def Zce{n:Nat}:∀(q:U Tmp)(vs vs':U N)(fr r:Fr)(l:V5 N),LR ρ vs vs'->FrR ρ fr n l->X7 (q.zip vs) n fr=some r ->
 FrR ρ r n ((q.zip vs').foldl (fun l (t,a)=>l.setIfInBounds t a) l):=by
 intro q;induction q with
 | nil=>intro vs vs' fr r l hv y h;simp[X7]at h;subst h;simpa using y
 | cons p q ih=>
   intro vs vs' fr r l hv y h;match vs,vs',hv with
   | [],[],_=>simp[X7]at h;subst h;simpa using y
   | [],_::_,hv=>exact absurd hv.1 (by simp)
   | _::_,[],hv=>exact absurd hv.1 (by simp)
   | v::vs,v'::vs',hv=>
     simp only[GU,X7]at h;cases A:Nat.blt p n<;>rw[A]at h<;>simp only[Cq1,Cq0]at h;·cases h
     ·rw[Gd]at A;simp only[GU,Gm];have h1:VR ρ v v':=hv.2 0 v v' rfl rfl;have h2:LR ρ vs vs':=⟨by simpa using hv.1,fun i x B a b=>hv.2 (i+1) x B (by simpa using a) (by simpa using b)⟩;exact ih vs vs' _ r _ h2 (y.set A h1) h
def ZC9{ρ:Ren}{rd:O Nat}{F:Fence}(h:FR' ρ rd F){f:V3}(l:F.fn f):f<nfs:=(ZaD h f).1 l
def Zeb{V:Nat}{h:H}{w:V4}{l t:Nat}{C st2:LoopState}{D pd2:O Code}{fr:Fr}{n:Nat}{q:V5 Tmp}{YF x:Code}{B:Nat}(r:Rel ρ h w)(A:ρ l=some (t,0))(G:V<=l)
 (p:h.at l=.loop C D fr n q YF x B):∃k:Loop,w.heap[t]? =some (.loop k)/\k.state=C/\k.pending=D/\k.params=q/\k.assign=YF/\k.body=x/\FrR ρ fr n k.tmps/\
   Rel ρ (h.put l (.loop st2 pd2 fr n q YF x B)) (w.putObj t (.loop {k with state:=st2,pending:=pd2}))/\
   Stp V ρ h w ρ (h.put l (.loop st2 pd2 fr n q YF x B)) (w.putObj t (.loop {k with state:=st2,pending:=pd2})):=by
 have E:=r.obj _ _ _ A;rw[p]at E;have⟨_,fn,tmps,df',hw,hfr,hdf,hnf⟩:=E;have y:=(r.dom _ _ _ A).2;refine⟨_,hw,rfl,rfl,rfl,rfl,rfl,hfr,?_⟩;refine ZoF r G (by rw[p];rfl) (Zq1 _ _ _) A World.putObj_size (fun k F=>World.putObj_heap_other F) ?_;exact⟨rfl,fn,tmps,df',World.putObj_heap_same y,hfr,hdf,hnf⟩
def Zkq{F:Fence}{n:Nat}{P:V2}{l:Nat}{f:V3}{tmps:V5 N}{assign body:Code}{w:V4}{R:Ending->V4->Prop}(hF:F.fn f)(hfn:∃fn,P.funcs[f]? =some fn)
 (h:assign.wpIn (F.inRound l) n P (fun e a1 w1=>e=.normal/\∃w2,(Instr.beginRound l).run P w1=.ok () w2/\body.wpIn (F.inRound l) n P (fun e a w=>∃ch,e=.panic ch/\a.defers=[]/\R (.panicked ch) w) a1 w2) {tmps:=tmps,defers:=[]} w):
 RoundIn F n P l f tmps assign body w R:=by
 refine⟨hF,fun c cs hroom=>?_⟩
 have e0:Frame.round l f tmps assign body .normal=({(default:Frame) with fn:=f,kind:=.normal,roundOf:=some l}:Frame).atR {tmps:=tmps,defers:=[]} [.code assign,.beginRound,.code body]:=by
  simp[Frame.round,Frame.atR]
 generalize hb:({(default:Frame) with fn:=f,kind:=.normal,roundOf:=some l}:Frame)=b at e0;have hk:b.fn=f/\b.kind=.normal/\b.roundOf=some l:=by subst hb;exact⟨rfl,rfl,rfl⟩
 have g1:(F.inRound l).fn b.fn:=by rw[hk.1];exact hF
 have g2:(F.inRound l).room ((c::cs).length+1+n):=hroom;obtain⟨e1,a1,w1,⟨rfl,w2,r1,k2⟩,s1⟩:=h b [.beginRound,.code body] (c::cs) (by rw[hk.2.2];rfl) g1 g2;obtain⟨e2,a2,w3,⟨ch,rfl,hd,hR⟩,todo,s3⟩:=k2 b [] (c::cs) (by rw[hk.2.2];rfl) g1 g2;refine⟨.panicked ch,w3,hR,?_⟩;rw[e0];refine StepsIn.trans s1 (StepsIn.trans (.one (fenced_calm (fr:=b.atR a1 [.beginRound,.code body]) g1 g2 rfl) (stepR_beginRound hk.2.2 r1)) (StepsIn.trans s3 (.one ?_ (step_leave_panicked (fr:= {b.atR a2 todo with mode:=.panicking ch}) ⟨rfl,hd,?_⟩))));·refine fenced_lone (.inl g1) (fun f hf=>?_) (Fence.room_le g2 Vb);exfalso;unfold Frame.about at hf;simp[Frame.atR,hd]at hf
 have:({b.atR a2 todo with mode:=.panicking ch}:Frame).fn=f:=hk.1;rw[this];exact hfn
section
variable{C:Cfg}(HI:∀j r,ih j=some r->Y7 C.X j r)
include HI
theorem ZdI{g:V0}{n V:Nat}{rd:O Nat}{l:Nat}{s0 s:Fs}{ps:V5 Tmp}{YF bd:Code}{r:QJ}(ZYh:s.fr=s0.fr)(h:QF C ih g n V rd l s=some r)(ZBr:∀ρ w,Rel ρ s0.h w->V<=s0.h.size->V<=l)
 (E:∀ρ a w F,Inv ρ n s0 a w->V<=s0.h.size->FR' ρ rd F->∀fn,fn<nfs->∃A y t x,(Instr.enterLoop fn a.tmps ps YF bd F.round).run C.X.P w=.ok (A,y) t/\x l=some (A,0)/\
   Inv x n s {a with defers:=y++a.defers} t/\Stp V ρ s0.h w x s.h t):
 Zvw C.X (.rangeFunc g ps YF bd) n V rd s0 r:=by
 unfold QF at h;split at h
 .rename_i gv hg;split at h
  .rename_i f args p
   have hfn:∃g1 first cap fn,gv=.func (.func g1) first cap/\C.X.fns.get g1=some fn/\f=g1/\args=(first.toList++[Value.func (.yield l) #[] #[]]++cap.toList).toArray:=by
    unfold U5 at p;split at p
    .split at p;next fnn ZG9=>cases p;exact⟨_,_,_,_,rfl,ZG9,rfl,rfl⟩
     cases p
    .split at p;.exfalso;revert p;generalize Nat.beq _ _=b;cases b<;>simp
     cases p
    cases p
   obtain⟨g1,first,cap,fnn,rfl,ZG9,rfl,rfl⟩:=hfn
   have hres:∃e s',r=.code e s':=by
    unfold Wx at h;split at h
    .split at h
     .rename_i st G fr n' T as' bd' df hat;cases D:(st==.busy)<;>rw[D]at h<;>simp only[Cq1,Cq0]at h
      .split at h;.cases h;exact⟨_,_,rfl⟩
       have⟨e,s',e1,_⟩:=QU.1 (HI _ _ h);exact⟨e,s',e1⟩
      cases h
     cases h
    .cases h;exact⟨_,_,rfl⟩
    cases h
   obtain⟨e,s',rfl⟩:=hres;refine⟨e,s',rfl,fun ρ a w F ZG K S=>wpIn_rangeFunc fun fn ZSX=>?_⟩;have⟨A,y,t,x,he,hl1,hi1,st1⟩:=E ρ a w F K ZG S fn (ZC9 S ZSX)
   have hgv:VR x (.func (.func f) first cap) (a.eval g):=by
    have:=Zap K.fr _ _ (by rw[ZYh]at hg;exact hg);exact this.mono st1.ext
   generalize hgx:a.eval g=gx at hgv;cases hgv with|func _ _ _ q cap' hy hx1 hx2 h1 h2=>
     have hv:Ub x (first.toList++[Value.func (.yield l) #[] #[]]++cap.toList).toArray (q++#[Value.func (.yield A) #[] #[]]++cap'):=by
      have e1:LR x first.toList q.toList:=Ub.list ⟨hx1,h1⟩;have e2:LR x cap.toList cap'.toList:=Ub.list ⟨hx2,h2⟩;have e3:LR x [.func (.yield l) #[] #[]] [.func (.yield A) #[] #[]]:=LR.cons (.yield hl1) LR.nil;have:=((e1.append e3).append e2).arr;have e:(q.toList++[Value.func (.yield A) #[] #[]]++cap'.toList).toArray=q++#[Value.func (.yield A) #[] #[]]++cap':=by apply Array.toList_inj.1;simp
      rwa[e]at this
     refine⟨A,y,t,{target:=.fn (.func f) cap',args:=q++#[Value.func (.yield A) #[] #[]]},t,f,q++#[Value.func (.yield A) #[] #[]]++cap',t,he,?_,fun f' hab=>(ZaD S f').2 (by simp only[Target.leads]at hab;cases hab;exact Zlg ZG9),?_,fun hh=>?_,?_⟩;.have e:∀v,a.eval (.const v)=v:=fun _=>rfl;simp only[resolve,hgx,Deferred.ofValue];simp[e]
     .rw[<-K8 (w:=t) (args:=q++#[Value.func (.yield A) #[] #[]]++cap') ZG9];simp[invoke]
     .rw[ZaZ S]at hh;cases hh
     unfold Wx at h;split at h
     .rename_i rv h2 hc;have Q:=HI _ _ hc;have ZmS:=KK ZG st1.size;refine(Jl S (Q x _ t ZmS hi1.rel hv)).mono ?_;rintro e2 w2 ⟨B,L,I,Zjg⟩;cases L with|ret W=>
        split at h
        .rename_i st G fr n' T as' bd' df hat;cases D:(st==.busy)<;>rw[D]at h<;>simp only[Cq1,Cq0]at h
         .have hl2:=(Zjg.ext _ _ hl1).1;have⟨k,k1,k2,k3,k4,k5,k6,k7,k8,k9⟩:=Zeb (st2:=.exhausted) (pd2:=G) (V:=V) I hl2 (ZBr ρ w K.rel ZG) hat
          have hend:(Instr.endLoop A).run C.X.P w2=.ok G (w2.putObj A (.loop {k with state:=.exhausted,pending:=G})):=by
           rw[run_endLoop k1 (by rw[k2];intro hb;rw[hb]at D;cases D),<-k3]
          have hi2:Inv B n {s with h:=h2.put l (.loop .exhausted G fr n' T as' bd' df)} {a with defers:=y++a.defers} (w2.putObj A (.loop {k with state:=.exhausted,pending:=G})):=
           ⟨k8,hi1.fr.mono Zjg.ext,hi1.ds.mono Zjg.ext⟩
          have ZGM:=(st1.trans K.rel.lt Zjg).trans K.rel.lt k9;refine⟨G,_,hend,?_⟩;cases G with
          | none=>
            cases h;exact⟨B,.normal,hi2,ZGM⟩
          | some c=>
            have⟨_,_,e1,kc⟩:=QU.1 (HI _ _ h);cases e1;exact wpIn_mono (kc B _ _ F (KK ZG ZGM.size) hi2 (S.mono ZGM.ext)) fun _ _ _ hp=>Qz.trans K.rel.lt ZGM hp
         cases h
        cases h
     .rename_i v h2 hc;cases h;have Q:=HI _ _ hc;have ZmS:=KK ZG st1.size;refine(Jl S (Q x _ t ZmS hi1.rel hv)).mono ?_;rintro e2 w2 ⟨B,L,I,Zjg⟩;cases L with|Ym W=>exact⟨B,.panic W,⟨I,hi1.fr.mono Zjg.ext,hi1.ds.mono Zjg.ext⟩,st1.trans K.rel.lt Zjg⟩
     cases h
  cases h
 cases h
theorem JK{g:V0}{x:V5 Tmp}{YF y:Code}{n V:Nat}{rd:O Nat}{s:Fs}{r:QJ}(h:Zxk C ih g x YF y n V rd s=some r):Zvw C.X (.rangeFunc g x YF y) n V rd s r:=by
 unfold Zxk at h;split at h
 ·refine ZdI HI (s0:=s) (by rfl) h (fun ρ w _ hw=>by omega) fun ρ a w F q G S fn B=>?_
  have Q:F=base:=S;subst Q;obtain⟨p1,p2⟩:=ZcY (V:=V) (A:=.deferred) (o:=.deferred (some [])) (l:=(0,0)) q.rel G (ZfO w _) (Zb7 w _) ⟨rfl,World.alloc_heap_new w _⟩;have t:=Ren.add_same ρ s.h.size (w.heap.size,0) (0,0);generalize Z3n:ρ.add s.h.size (w.heap.size,0) (0,0)=ρ1 at p1 p2 t;have D:(w.alloc (.deferred (some []))).heap.size=w.heap.size+1:=by rw[Zb7];simp
  have p:ρ1.le (ρ1.add (s.h.push .deferred).size ((w.alloc (.deferred (some []))).heap.size,0) (0,0)):=Ren.Za8 p1.fresh
  obtain⟨K,I⟩:=ZcY (V:=V) (A:=.loop .ready none s.fr n x YF y s.h.size) (l:=(0,0))
   (o:=.loop {state:=.ready,pending:=none,fn,tmps:=a.tmps,params:=x,assign:=YF,body:=y,defers:=w.heap.size}) p1 (KK G p2.size) (ZfO _ _) (Zb7 _ _)
   ⟨rfl,fn,a.tmps,w.heap.size,World.alloc_heap_new _ _,(q.fr.mono p2.ext).mono p,(p _ _ t).1,B⟩
  refine⟨w.heap.size+1,_,_,_,run_enterLoop_outer fn a.tmps x YF y,?_,⟨K,(q.fr.mono p2.ext).mono p,?_⟩,p2.trans q.rel.lt I⟩
  ·have:=Ren.add_same ρ1 (s.h.push .deferred).size ((w.alloc (.deferred (some []))).heap.size,0) (0,0);rw[D]at this
   simpa[D]using this
  exact .mark (p _ _ t).1 ((q.ds.mono p2.ext).mono p)
 rename_i l;split at h
 ·rename_i st pd fr n' W as' bd' df P;refine ZdI HI (s0:=s) (by rfl) h (fun ρ w _ hw=>hw) fun ρ a w F q G S fn B=>?_
  obtain⟨l',L,rfl⟩:=S;have T:=q.rel.obj _ _ _ L;rw[P]at T;obtain⟨_,fn0,ZJa,E,hw,hfr,t,_⟩:=T;have p:ρ.le (ρ.add s.h.size (w.heap.size,0) (0,0)):=Ren.Za8 q.rel.fresh
  obtain⟨K,I⟩:=ZcY (V:=V) (A:=.loop .ready none s.fr n x YF y df) (l:=(0,0))
   (o:=.loop {state:=.ready,pending:=none,fn,tmps:=a.tmps,params:=x,assign:=YF,body:=y,defers:=E}) q.rel G (ZfO _ _) (Zb7 _ _)
   ⟨rfl,fn,a.tmps,E,World.alloc_heap_new _ _,q.fr.mono p,(p _ _ t).1,B⟩
  refine⟨w.heap.size,[],_,_,run_enterLoop_inner fn a.tmps x YF y hw,?_,⟨K,q.fr.mono p,q.ds.mono p⟩,I⟩;exact Ren.add_same ρ s.h.size (w.heap.size,0) (0,0)
 cases h
theorem Zbe{l:Nat}{args:V5 N}{V:Nat}{h:H}{r:QJ}(L:Zg6 ih l args V h=some r):Y7 C.X (.round l args V h) r:=by
 unfold Zg6 at L;split at L
 .rename_i st0 pd0 fr n ps YF bd df0 hat;cases hb:(Nat.ble V l&&Nat.beq args.toList.length ps.toList.length)<;>rw[hb]at L<;>simp only[Cq1,Cq0]at L;.cases L
  rw[Ba0]at hb;have ZBr:=Nl0 hb.1;split at L
  .rename_i KJ S;have⟨e1,s1,ha,hk⟩:=ZpT L;have⟨_,_,e0,ka⟩:=QU.1 (HI _ _ ha);cases e0;unfold Kz at hk;split at hk
   .split at hk
    .rename_i Q XI n2 ps2 as2 bd2 df2 Zpd;have⟨e2,s2,hb2,hk2⟩:=ZpT hk;have⟨_,_,e0,kb⟩:=QU.1 (HI _ _ hb2);cases e0;unfold Je at hk2;split at hk2
     .rename_i st3 pd3 fr3 n3 ps3 as3 bd3 df3 ZMx;by_cases hp:∃v0,e2=.panic v0
      .obtain⟨v0,rfl⟩:=hp;dsimp only at hk2;split at hk2
       .rename_i hds;cases hk2;intro ρ G k p w ZG I hv hl hw
        have hkk:k.params=ps/\k.assign=YF/\k.body=bd/\FrR ρ fr n k.tmps/\k.fn<nfs:=by
         have ho:=I.obj _ _ _ hl;rw[hat]at ho;have⟨_,fn0,ZJa,df',hw',B,hdf,y⟩:=ho;rw[hw]at hw';cases hw';exact⟨rfl,rfl,rfl,B,y⟩
        obtain⟨rfl,rfl,rfl,B,y⟩:=hkk;have hfn:∃fn,C.X.P.funcs[k.fn]? =some fn:=⟨_,GG (by rw[C.X.sz];exact y)⟩;refine Zkq y hfn ?_
        have hi:Inv ρ n {fr:=KJ,ds:=[],h:=h} {tmps:=(k.params.zip p).foldl (fun tmps (t,a)=>tmps.setIfInBounds t a) k.tmps,defers:=[]} w:=by
         refine⟨I,?_,.nil⟩;have:=Zce k.params.toList args.toList p.toList fr KJ k.tmps (Ub.list hv) B S;rw[<-Array.foldl_toList,Array.toList_zip];exact this
        have hF:FR' ρ (some l) (base.inRound G):=⟨G,hl,rfl⟩;refine wpIn_mono (ka ρ _ w _ ZG hi hF) ?_;rintro x1 a1 w1 ⟨E,he1,A,F⟩;cases he1;have D:=(F.ext _ _ hl).1;have⟨k1,q1,q2,q3,q4,q5,q6,q7,q8,q9⟩:=Zeb (st2:=.busy) (pd2:=Q) (V:=V) A.rel D ZBr Zpd;refine⟨rfl,_,run_beginRound q1 q2,?_⟩;have ZBC:({k1 with state:=.busy}:Loop)= {k1 with state:=.busy,pending:=Q}:=by rw[<-q3]
        rw[ZBC];have ZMs:Inv E n {s1 with h:=s1.h.put l (.loop .busy Q XI n2 ps2 as2 bd2 df2)} a1 (w1.putObj G (.loop {k1 with state:=.busy,pending:=Q})):=⟨q8,A.fr,A.ds⟩
        have q:=F.trans I.lt q9;refine wpIn_mono (kb E _ _ _ (KK ZG q.size) ZMs ⟨G,D,rfl⟩) ?_;rintro x2 a2 w2 ⟨T,he2,K,st2⟩;cases he2 with|panic hv2=>
          have hd:=K.ds;rw[hds]at hd;refine⟨_,rfl,(by generalize a2.defers=dd at hd;cases hd;rfl),T,.Ym hv2,K.rel,q.trans I.lt st2⟩
       cases hk2
      have hfin:∃v h',r=.fin (.ret v) h':=by
       split at hk2<;>first|exact(hp ⟨_,rfl⟩).elim | (cases hk2;exact⟨_,_,rfl⟩) | cases hk2
      obtain⟨v,h',rfl⟩:=hfin;intro ρ G k p w ZG I hv hl hw
      have hkk:k.params=ps/\k.assign=YF/\k.body=bd/\FrR ρ fr n k.tmps/\k.fn<nfs:=by
       have ho:=I.obj _ _ _ hl;rw[hat]at ho;have⟨_,fn0,ZJa,df',hw',B,hdf,y⟩:=ho;rw[hw]at hw';cases hw';exact⟨rfl,rfl,rfl,B,y⟩
      obtain⟨rfl,rfl,rfl,B,y⟩:=hkk;refine roundIn_of_wpIn y ?_
      have hi:Inv ρ n {fr:=KJ,ds:=[],h:=h} {tmps:=(k.params.zip p).foldl (fun tmps (t,a)=>tmps.setIfInBounds t a) k.tmps,defers:=[]} w:=by
       refine⟨I,?_,.nil⟩;have:=Zce k.params.toList args.toList p.toList fr KJ k.tmps (Ub.list hv) B S;rw[<-Array.foldl_toList,Array.toList_zip];exact this
      have hF:FR' ρ (some l) (base.inRound G):=⟨G,hl,rfl⟩;refine wpIn_mono (ka ρ _ w _ ZG hi hF) ?_;rintro x1 a1 w1 ⟨E,he1,A,F⟩;cases he1;have D:=(F.ext _ _ hl).1;have⟨k1,q1,q2,q3,q4,q5,q6,q7,q8,q9⟩:=Zeb (st2:=.busy) (pd2:=Q) (V:=V) A.rel D ZBr Zpd;refine⟨_,run_beginRound q1 q2,?_⟩;have ZBC:({k1 with state:=.busy}:Loop)= {k1 with state:=.busy,pending:=Q}:=by rw[<-q3]
      rw[ZBC];have ZMs:Inv E n {s1 with h:=s1.h.put l (.loop .busy Q XI n2 ps2 as2 bd2 df2)} a1 (w1.putObj G (.loop {k1 with state:=.busy,pending:=Q})):=⟨q8,A.fr,A.ds⟩;have q:=F.trans I.lt q9;refine wpIn_mono (kb E _ _ _ (KK ZG q.size) ZMs ⟨G,D,rfl⟩) ?_;rintro x2 a2 w2 ⟨T,he2,K,st2⟩;have hl2:=(st2.ext _ _ D).1;have st2':=q.trans I.lt st2
      have fin:∀(W:LoopState)(x:O Code)(b:Z),v=.bool b->h'=s2.h.put l (.loop W x fr3 n3 ps3 as3 bd3 df3)->b=x.isNone->W=(if x.isNone then .ready else .done) ->
       ∃v' w',(Instr.endRound G x).run C.X.P w2=.ok v' w'/\ZaN V ρ h w (.ret v) h' (.returned v') w':=by
       rintro W x b rfl rfl rfl rfl;have⟨k2,r1,r2,r3,r4,r5,r6,r7,r8,r9⟩:=Zeb (st2:=if x.isNone then .ready else .done) (pd2:=x) (V:=V) K.rel hl2 ZBr ZMx;exact⟨_,_,run_endRound x r1,T,.ret (.bool _),r8,st2'.trans I.lt r9⟩
      cases he2 with|normal=>cases hk2;exact fin .ready none true rfl rfl rfl rfl|ret=>cases hk2;exact fin .done (some .ret) false rfl rfl rfl rfl|exit id=>cases hk2;exact fin .done (some (.exit id)) false rfl rfl rfl rfl|goto id=>cases hk2;exact fin .done (some (.goto id)) false rfl rfl rfl rfl|panic hv=>exact(hp ⟨_,rfl⟩).elim
     cases hk2
    cases hk
   cases hk
  cases L
 cases L
end
end
section
variable{X:Ctx}{ih:WI->O QJ}
structure JH(V:Nat)(h h':H):Prop where
 size:h.size<=h'.size
 keep:∀i,i<V->h'.at i=h.at i
 own:∀i,i<h.size->(h'.at i).own=true->(h.at i).own=true
 live:∀i,i<h.size->(h'.at i).live=true->(h.at i).live=true
def JH.refl(V:Nat)(h:H):JH V h h:=⟨K1 _,fun _ _=>rfl,fun _ _ x=>x,fun _ _ x=>x⟩
def JH.trans{V:Nat}{h h1 h2:H}(a:JH V h h1)(b:JH V h1 h2):JH V h h2:=
 ⟨KK a.size b.size,fun i l=>(b.keep i l).trans (a.keep i l),fun i l x=>a.own i l (b.own i (G3 l a.size) x),
  fun i l x=>a.live i l (b.live i (G3 l a.size) x)⟩
def Znz{V:Nat}{h:H}(A:Xv)(hw:V<=h.size):JH V h (h.push A):=by
 have e:∀i,i<h.size->(h.push A).at i=h.at i:=fun i l=>by rw[H.Qu,if_neg Vb]
 exact⟨by simp,fun i l=>e i Vb,fun i l x=>by rwa[e i l]at x,fun i l x=>by rwa[e i l]at x⟩
def ZkQ{V:Nat}{h:H}{l:Nat}{A:Xv}(hw:V<=l)(r:(h.at l).own=true):JH V h (h.put l A):=by
 have e:∀i,i≠l->(h.put l A).at i=h.at i:=fun i q=>by rw[H.Qt,if_neg (by simp[q])]
 refine⟨by simp,fun i q=>e i Vb,fun i q x=>?_,fun i q x=>?_⟩
 .by_cases p:i=l;.subst p;exact r
  rwa[e i p]at x
 by_cases p:i=l;.subst p;exact Un r
 rwa[e i p]at x
def Zrj{V:Nat}{h h':H}{E:Eff}(hw:V<=h.size)(he:E.apply V h=some h'):JH V h h':=by
 cases E with
 | none=>cases he;exact JH.refl _ _
 | new A=>
   simp only[Eff.apply]at he;cases l:A.own<;>rw[l]at he<;>simp only[Cq1,Cq0]at he;.cases he
   cases he;exact Znz A hw
 | upd i A=>
   simp only[Eff.apply]at he;cases l:(Nat.ble V i&&(h.at i).own)<;>rw[l]at he<;>simp only[Cq1,Cq0]at he;.cases he
   cases he;rw[Ba0]at l;exact ZkQ (Nl0 l.1) l.2
 | grow i A=>
   simp only[Eff.apply]at he;cases l:(Nat.ble V i&&(h.at i).own&&A.own)<;>rw[l]at he<;>simp only[Cq1,Cq0]at he;.cases he
   cases he;rw[Ba0,Ba0]at l;exact(ZkQ (Nl0 l.1.1) l.1.2).trans (Znz A hw)
def Zj3:WI->QJ->Prop
 | .code _ _ V _ s,r=>∃e p,r=.code e p/\(V<=s.h.size->JH V s.h p.h)
 | .loop _ _ V _ s,r=>∃e p,r=.code e p/\(V<=s.h.size->JH V s.h p.h)
 | .call _ _ V h,r=>∃e l,r=.fin e l/\(V<=h.size->JH V h l)
 | .round _ _ V h,r=>∃e l,r=.fin e l/\(V<=h.size->JH V h l)
 | .leave _ V _ s,r=>∃e l,r=.fin e l/\(V<=s.h.size->JH V s.h l)
 | .dcall _ _ _ V h,r=>∃e l,r=.Zg9 e l/\(V<=h.size->JH V h l)
 | .QL _ _ V _ s,r=>∃e q p,r=.QL e q p/\(V<=s.h.size->JH V s.h p.h)
section
variable(HI:∀j r,ih j=some r->Zj3 j r)
include HI
theorem Zey{f:V3}{args:V5 N}{V:Nat}{h h':H}{e:WJ}(l:ih (.call f args V h)=some (.fin e h'))(hw:V<=h.size):JH V h h':=by have⟨_,_,e1,k⟩:=HI _ _ l;cases e1;exact k hw
theorem ZtP{l:Nat}{args:V5 N}{V:Nat}{h h':H}{e:WJ}(p:ih (.round l args V h)=some (.fin e h'))(hw:V<=h.size):JH V h h':=by have⟨_,_,e1,k⟩:=HI _ _ p;cases e1;exact k hw
omit HI in
theorem here{V:Nat}{e:XX}{s:Fs}{r:QJ}(h:some (.code e s)=some r):∃e' s',r=.code e' s'/\(V<=s.h.size->JH V s.h s'.h):=by
 cases h;exact⟨_,_,rfl,fun _=>JH.refl _ _⟩
end
end
section
variable{X:Ctx}{ih:WI->O QJ}
structure Zai(M:Nat->Prop)(ρ:Ren)(h:H)(w:World)(ρ':Ren)(w':World):Prop where
 ext:ρ.le ρ'
 os:w'.os=w.os
 tape:w'.tape=w.tape
 output:w'.output=w.output
 XH:w.heap.size<=w'.heap.size
 frame:∀b,b<w.heap.size->(∀i d,M i->ρ i=some (b,d)->(h.at i).own=true->False)->w'.heap[b]? =w.heap[b]?
 Ud:∀i b d,ρ i=none->ρ' i=some (b,d)->h.size<=i/\(w.heap.size<=b\/∃j d',M j/\ρ j=some (b,d')/\(h.at j).own=true)
structure KI(M:Nat->Prop)(h h':H):Prop where
 size:h.size<=h'.size
 keep:∀i,i<h.size->¬ M i->h'.at i=h.at i
 own:∀i,i<h.size->(h'.at i).own=true->(h.at i).own=true
 live:∀i,i<h.size->(h'.at i).live=true->(h.at i).live=true
def Stp.toM{V:Nat}{ρ l:Ren}{h p:H}{w w':V4}(a:Stp V ρ h w l p w'):Zai (fun i=>V<=i) ρ h w l w':=
 ⟨a.ext,a.os,a.tape,a.output,a.XH,a.frame,a.Ud⟩
def Zai.weaken{M D:Nat->Prop}{ρ l:Ren}{h:H}{w w':V4}(C:∀i,i<h.size->M i->D i)(B:∀i p,ρ i=some p->i<h.size)(a:Zai M ρ h w l w'):Zai D ρ h w l w':=
 ⟨a.ext,a.os,a.tape,a.output,a.XH,fun b F t=>a.frame b F fun i d E A=>t i d (C i (B _ _ A) E) A,
  fun i b d e G=>let⟨x,y⟩:=a.Ud i b d e G;⟨x,y.imp id fun⟨j,I,p,q,r⟩=>⟨j,I,C j (B _ _ q) p,q,r⟩⟩⟩
def Zai.trans{M:Nat->Prop}{ρ l ZzN:Ren}{h B:H}{w w' r:V4}(F:∀i p,ρ i=some p->i<h.size)(K:h.size<=B.size)(E:∀i,i<h.size->(B.at i).own=true->(h.at i).own=true)
 (a:Zai M ρ h w l w') (b:Zai M l B w' ZzN r):Zai M ρ h w ZzN r where
 ext:=Ren.le_trans a.ext b.ext
 os:=b.os.trans a.os
 tape:=b.tape.trans a.tape
 output:=b.output.trans a.output
 XH:=KK a.XH b.XH
 frame k hk hno:=by
  rw[b.frame k (G3 hk a.XH) ?_,a.frame k hk hno];intro i d L D t;cases e:ρ i with
  | some p=>
    have q:=(a.ext _ _ e).1;rw[D]at q;cases q;exact hno i d L e (E i (F _ _ e) t)
  | none=>
    rcases(a.Ud i k d e D).2 with h1|⟨j,A,h1,h2,P⟩
    .omega
    exact hno j A h1 h2 P
 Ud i k d e e'':=by
  cases q:l i with
  | some p=>
    have x:=(b.ext _ _ q).1;rw[e'']at x;cases x;exact a.Ud i k d e q
  | none=>
    have⟨h1,h2⟩:=b.Ud i k d q e'';refine⟨KK K h1,?_⟩;rcases h2 with h2|⟨j,A,I,C,G⟩
    .exact .inl (KK a.XH h2)
    cases y:ρ j with
    | some p=>
      have x:=(a.ext _ _ y).1;rw[C]at x;cases x;exact .inr ⟨j,A,I,y,E j (F _ _ y) G⟩
    | none=>exact(a.Ud j k A y C).2
def KI.trans{M:Nat->Prop}{h h1 h2:H}(a:KI M h h1)(b:KI M h1 h2):KI M h h2:=
 ⟨KK a.size b.size,fun i l p=>(b.keep i (G3 l a.size) p).trans (a.keep i l p),
  fun i l x=>a.own i l (b.own i (G3 l a.size) x),fun i l x=>a.live i l (b.live i (G3 l a.size) x)⟩
def JH.toM{V:Nat}{h h':H}(a:JH V h h'):KI (fun i=>V<=i) h h':=⟨a.size,fun i _ l=>a.keep i Vb,a.own,a.live⟩
def KI.weaken{M p:Nat->Prop}{h h':H}(r:∀i,i<h.size->M i->p i)(a:KI M h h'):KI p h h':=⟨a.size,fun i l q=>a.keep i l fun x=>q (r i l x),a.own,a.live⟩
def Eff.tgt:Eff->O Nat
 | .upd i _=>some i
 | .grow i _=>some i
 | _=>Option.none
def Eff.ZQR{V:Nat}{ρ G:Ren}{h W:H}{w w':V4}{E:Eff}(r:Rel ρ h w)(ZG:V<=h.size)(s:Same w w')(p:E.apply V h=some W)(C:E.real ρ h w G w'):
 Zai (fun x=>E.tgt=some x) ρ h w G w'/\KI (fun x=>E.tgt=some x) h W/\∀x,E.tgt=some x->V<=x:=by
 have⟨_,st⟩:=Eff.sound r ZG s p C;have Q:=Zrj ZG p;refine⟨⟨st.ext,s.os,s.tape,s.output,st.XH,fun b T K=>?_,fun i b d e t=>?_⟩,⟨Q.size,fun i F S=>?_,Q.own,Q.live⟩,fun x L=>?_⟩
 .cases E with
  | none=>obtain⟨rfl,hw⟩:=C;rw[hw]
  | new A=>obtain⟨l,rfl,⟨o,hw⟩,D⟩:=C;exact Zda hw T
  | upd i A=>
    obtain⟨rfl,b',d,F,I,P,D⟩:=C;refine P b fun e=>?_;subst e;simp only[Eff.apply]at p;cases q:(Nat.ble V i&&(h.at i).own)<;>rw[q]at p<;>simp at p;rw[Ba0]at q;exact K i d rfl F q.2
  | grow i A=>
    simp only[Eff.apply]at p;cases q:(Nat.ble V i&&(h.at i).own&&A.own)<;>rw[q]at p<;>simp at p;rw[Ba0,Ba0]at q;obtain⟨b',d,F,⟨X,l,rfl,I,P,D⟩|⟨l,rfl,⟨o,hw⟩,D⟩⟩:=C;.refine P b fun e=>?_;subst e;exact K i d rfl F q.1.2
    exact Zda hw T
 .refine⟨(st.Ud i b d e t).1,?_⟩;cases E with
  | none=>obtain⟨rfl,hw⟩:=C;rw[e]at t;cases t
  | new A=>
    obtain⟨l,rfl,_⟩:=C;by_cases y:i=h.size;.subst y;rw[Ren.add_same]at t;cases t;exact .inl Vc
    rw[(Ren.UB y).1]at t;rw[e]at t;cases t
  | upd i A=>obtain⟨rfl,_⟩:=C;rw[e]at t;cases t
  | grow B A=>
    simp only[Eff.apply]at p;cases q:(Nat.ble V B&&(h.at B).own&&A.own)<;>rw[q]at p<;>simp at p;rw[Ba0,Ba0]at q;obtain⟨b',X,F,⟨d2,l,rfl,I,P,D⟩|⟨l,rfl,⟨o,hw⟩,D⟩⟩:=C
    .by_cases y:i=h.size;.subst y;rw[Ren.add_same]at t;cases t;exact .inr ⟨B,X,rfl,F,q.1.2⟩
     rw[(Ren.UB y).1]at t;rw[e]at t;cases t
    by_cases y:i=h.size;.subst y;rw[Ren.add_same]at t;cases t;exact .inl Vc
    rw[(Ren.UB y).1]at t;rw[e]at t;cases t
 .cases E with
  | none=>cases p;rfl
  | new A=>
    simp only[Eff.apply]at p;cases D:A.own<;>rw[D]at p<;>simp at p;subst p;rw[H.Qu,if_neg Vb]
  | upd B A=>
    simp only[Eff.apply]at p;cases q:(Nat.ble V B&&(h.at B).own)<;>rw[q]at p<;>simp at p;subst p;rw[H.Qt,if_neg fun x=>S (by rw[x.1];rfl)]
  | grow B A=>
    simp only[Eff.apply]at p;cases q:(Nat.ble V B&&(h.at B).own&&A.own)<;>rw[q]at p<;>simp at p;subst p;rw[H.Qu,H.size_put,if_neg Vb,H.Qt,if_neg fun x=>S (by rw[x.1];rfl)]
 cases E with
 | none=>cases L
 | new A=>cases L
 | upd B A=>
   cases L;simp only[Eff.apply]at p;cases q:(Nat.ble V x&&(h.at x).own)<;>rw[q]at p<;>simp at p;rw[Ba0]at q;exact Nl0 q.1
 | grow B A=>
   cases L;simp only[Eff.apply]at p;cases q:(Nat.ble V x&&(h.at x).own&&A.own)<;>rw[q]at p<;>simp at p;rw[Ba0,Ba0]at q;exact Nl0 q.1.1
def Zl3(h:H):Nat->Nat->Z
 | 0,_=>true
 | k+1,y=>bif(h.at y).live then false else Zl3 h k (y+1)
def ZsC{h:H}:∀{k y:Nat},Zl3 h k y=true->∀z,y<=z->z<y+k->(h.at z).live=false:=by
 intro k
 induction k with|zero=>intro y _ z h1 h2;omega|succ k ih=>
   intro y l z h1 h2;unfold Zl3 at l;cases e:(h.at y).live<;>rw[e]at l<;>simp only[Cq1,Cq0]at l
   .rcases Nat.eq_or_lt_of_le h1 with q|q
    .subst q;exact e
    exact ih l z q Vb
   cases l
def Zq5(skip:Z)(V:Nat)(args:V5 N)(h:H):O Nat:=
 bif skip then none else match args.toList with|.slice (some a) _ _::_=>bif Nat.ble V a.block&&Nat.blt a.block h.size&&Zl3 h (h.size-(a.block+1)) (a.block+1) then some a.block else none|_=>none
def Zky{skip:Z}{V:Nat}{args:V5 N}{h:H}{x:Nat}(e:Zq5 skip V args h=some x):skip=false/\V<=x/\x<h.size/\∀z,x<z->z<h.size->(h.at z).live=false:=by
 unfold Zq5 at e;cases skip with|true=>cases e|false=>
   simp only[Cq0]at e;split at e
   .rename_i a _ _ _ _;cases l:(Nat.ble V a.block&&Nat.blt a.block h.size&&Zl3 h (h.size-(a.block+1)) (a.block+1))<;>rw[l]at e<;>simp only[Cq1,Cq0]at e;.cases e
    cases e;rw[Ba0,Ba0]at l;exact⟨rfl,Nl0 l.1.1,by have:=l.1.2;rwa[Gd]at this,fun z h1 h2=>ZsC l.2 z h1 Vb⟩
   cases e
def Zai.Znc{M E:Nat->Prop}{ρ l:Ren}{h:H}{w w':V4}(D:∀i,i<h.size->M i->(h.at i).own=true->E i)(C:∀i p,ρ i=some p->i<h.size)(a:Zai M ρ h w l w'):Zai E ρ h w l w':=
 ⟨a.ext,a.os,a.tape,a.output,a.XH,fun b G t=>a.frame b G fun i d F A B=>t i d (D i (C _ _ A) F B) A B,
  fun i b d e I=>let⟨x,y⟩:=a.Ud i b d e I;⟨x,y.imp id fun⟨j,K,p,q,r⟩=>⟨j,K,D j (C _ _ q) p r,q,r⟩⟩⟩
def JH.ZQQ{x:Nat}{h h':H}(a:JH x h h')(r:∀z,x<z->z<h.size->(h.at z).live=false):KI (fun y=>x=y) h h':=by
 refine⟨a.size,fun i p t=>?_,a.own,a.live⟩;rcases Gq i x with q|q
 .exact a.keep i q
 have l:=r i Vb p;have h1:=UR (A:=h.at i) (by rw[l];simp);rw[h1];exact UR fun z=>by rw[a.live i p z]at l;cases l
def ZaH(X:Ctx)(q:V3->Z)(ih:WI->O QJ)(n V:Nat)(wr:O Nat)(p:Z)(ops:U Oper)(o:Oper)(fr:Fr)(h:H):O (O Nat×N×H):=
 bif(match o.dst with|none=>true|some d=>Nat.blt d n&&allowed wr d) then
  bif !okG ops o fr then none else bif XJ ops o fr then
   match XM X h (YI fr) o with
   | some (nx,E)=>match E.apply V h with
     | some h1=>match nx with
       | .val v=>some (E.tgt,v,h1)
       | .skip=>some (E.tgt,undef,h1)
       | .enter f args=>match Zq5 (p||q f||E.tgt.isSome) V args h1 with
         | some x=>match ih (.call f args x h1) with|some (.fin (.ret v) h2)=>some (some x,v,h2)|_=>none
         | none=>match ih (.call f args (bif p && !q f then V else h1.size) h1) with|some (.fin (.ret v) h2)=>bif q f&&plain v then some (E.tgt,v,h1) else some (E.tgt,v,h2)|_=>none
       | .round l args=>bif p then match ih (.round l args V h1) with|some (.fin (.ret v) h2)=>some (E.tgt,v,h2)|_=>none
         else none
       | _=>none
     | none=>none
   | none=>none
  else some (none,undef,h)
 else none
def MOf(h:Z)(V:Nat)(t:O Nat):Nat->Prop:=fun x=>if h then V<=x else t=some x
def looks(ops:U Oper)(o:Oper):U Tmp:=
 (match o.guard with
  | some (j,_)=>match ops[j]? with|some g=>g.dst.toList|none=>[]
  | none=>[])++o.op.operands.toList.filterMap fun | .tmp t=>some t|_=>none
def ZdP{ρ:Ren}{fr:Fr}{a:Act}(ops:V5 Oper)(o:Oper)(D:∀t∈looks ops.toList o,X4 (fr.at t)=false->VR ρ (fr.at t) (a.tmps.getD t undef))(h:okG ops.toList o fr=true):
 Region.wanted o (yielded ops a.tmps)=XJ ops.toList o fr:=by
 unfold Region.wanted XJ;cases B:o.guard with|none=>rfl|some p=>
   have⟨j,want⟩:=p
   have q:yielded ops a.tmps j=Kb ops.toList fr j:=by
    unfold yielded Kb;rw[<-Gi];cases A:ops.toList[j]? with|none=>rfl|some C=>
      cases l:C.dst with|none=>simp[l]|some d=>
        have:=D d (by unfold looks;rw[B];simp[A,l]) (by
         unfold okG at h;rw[B]at h;simp only[A,l,Ba0]at h;simpa using h.1)
        simp only[Bq0,l];cases r:a.tmps[d]? with
        | none=>
          rw[QP,r]at this;simp only[Option.getD_none]at this;generalize fr.at d=x at this;unfold undef at this;cases this;rfl
        | some y=>
          rw[QP,r]at this;simp only[Option.getD_some]at this;generalize fr.at d=x at this;cases this<;>rfl
   simp only[q];cases Kb ops.toList fr j with|none=>rfl|some b=>cases want<;>cases b<;>rfl
def Zi2{ρ:Ren}{fr:Fr}{a:Act}(ops:V5 Oper)(o:Oper)(C:∀t∈looks ops.toList o,X4 (fr.at t)=false->VR ρ (fr.at t) (a.tmps.getD t undef)){h:H}{y:AN}{E:Eff}
 (D:XM X h (YI fr) o=some (y,E)):∃r,EvR ρ r a.eval/\XM X h r o=some (y,E):=by
 classical
 refine⟨fun x=>if x∈o.op.operands then YI fr x else none,fun x v p=>?_,?_⟩
 ·dsimp only at p;split at p
  ·rename_i B;cases x with
   | tmp t=>
     simp only[YI]at p;cases q:X4 (fr.at t)<;>rw[q]at p<;>simp only[Cq1,Cq0]at p
     ·cases p;exact C t (by unfold looks;simp only[Q3,List.mem_filterMap];exact .inr ⟨.tmp t,by simpa using B,rfl⟩) q
     cases p
   | const u=>
     simp only[YI]at p;cases A:plain u<;>rw[A]at p<;>simp at p
     subst p;exact VR.ZY A
   | func f=>
     simp only[YI,Gj]at p;subst p;exact .func (.func f) #[] #[] #[] #[] (fun l e=>by cases e) rfl rfl (fun i v v' e=>by simp at e) (fun i v v' e=>by simp at e)
   | global g=>cases p
  cases p
 rw[<-D];exact Zob X h o fun x p=>by simp[p]
def Ua(P:V2)(V:Nat)(rd:O Nat)(ops:V5 Oper)(o:Oper)(M:Nat->Prop)(fr:Fr)(h:H)(v:N)(p:H):Prop:=
 ∀(ρ:Ren)(a:Act)(w:V4)(F:Fence)(K:Act->V4->Prop)(Q:Exit->Act->V4->Prop),Rel ρ h w->V<=h.size->(∀t∈looks ops.toList o,X4 (fr.at t)=false->VR ρ (fr.at t) (a.tmps.getD t undef))->FR' ρ rd F ->
   (∀l v' w',VR l v v'->Rel l p w'->Zai M ρ h w l w'->K (a.put o.dst v') w') ->
   if Region.wanted o (yielded ops a.tmps) then o.wpIn F 0 P a w K Q else(∀f,o.about P w a.eval=some f->F.fn f)/\K (a.put o.dst undef) w
def Zai.refl(M:Nat->Prop)(ρ:Ren)(h:H)(w:V4):Zai M ρ h w ρ w:=
 ⟨Ren.le_refl ρ,rfl,rfl,rfl,K1 _,fun _ _ _=>rfl,fun i b d e l=>by rw[e]at l;cases l⟩
def ZlZ{JZ:V3->Z}(HI:∀j r,ih j=some r->Y7 X j r)(HK:∀j r,ih j=some r->Zj3 j r){n V:Nat}{wr rd:O Nat}{q:Z}{ops:V5 Oper}{o:Oper}{fr:Fr}{h h':H}{t:O Nat}{v:N}
 (p:ZaH X JZ ih n V wr q ops.toList o fr h=some (t,v,h')):Ua X.P V rd ops o (MOf q V t) fr h v h':=by
 intro ρ a w F K Q r ZG hf hF hK;unfold ZaH at p;cases hd:(match o.dst with|none=>true|some d=>Nat.blt d n&&allowed wr d)<;>rw[hd]at p<;>simp only[Cq1,Cq0]at p;.cases p
 cases T:okG ops.toList o fr<;>rw[T]at p<;>simp only[GM,J0,Cq1,Cq0]at p;.cases p
 rw[ZdP ops o hf T];cases hwt:XJ ops.toList o fr<;>rw[hwt]at p<;>simp only[Cq1,Cq0]at p;.cases p;rw[if_neg (by simp)];exact⟨fun f hab=>(ZaD hF f).2 (ZfQ (ρ:=ρ) (fun t ho hx=>hf t (Gu _ (by rw[ho];exact List.mem_filterMap.2 ⟨.tmp t,by simp[Op.operands,Call.operands],rfl⟩)) hx) T hwt hab),hK ρ _ w (VR.undef ρ) r (Zai.refl _ _ _ _)⟩
 rw[if_pos rfl];split at p
 .rename_i nx E ha;split at p
  .rename_i h1 hE;have⟨ev2,e1,e2⟩:=Zi2 ops o hf ha;have⟨ρ1,w1,p1,p2,p3⟩:=ZbF r e1 e2;have⟨r1,st1⟩:=Eff.sound r ZG p1 hE p2;have⟨sm,km,ZBq⟩:=Eff.ZQR r ZG p1 hE p2;refine⟨fun f hab=>(ZaD hF f).2 (Zca ha p3 hab),?_⟩
   have Zo5:o.semAt F.round a.eval=execOp a.eval o:=by
    cases hrd:rd with|none=>rw[hrd]at hF;unfold FR' at hF;subst hF;rfl|some l=>
      refine Oper.semAt_eq _ _ _ fun c L=>?_;obtain⟨d,rfl⟩:=Ziv ha L;simp at p
   rw[Zo5];have ZHb:F.depth.isSome=true->1<=0:=fun hh=>by rw[ZaZ hF]at hh;cases hh
   have hF1:=hF.mono st1.ext
   have toM:Zai (MOf q V E.tgt) ρ h w ρ1 w1:=by
    refine sm.weaken (fun i _ hi=>?_) r.lt;unfold MOf;split;.exact ZBq i hi
    exact hi
   generalize hrun:(execOp a.eval o).run X.P w=res at p3;split at p;next v1=>cases p;obtain⟨v',hv,rfl⟩:=p3;exact hK ρ1 v' w1 hv r1 toM
   .cases p;have:res=.ok .skip w1:=p3;subst this;exact hK ρ1 undef w1 (VR.undef ρ1) r1 toM
   .rename_i f args;obtain⟨y,hva,rfl⟩:=p3;refine⟨ZHb,?_⟩;cases S:Zq5 (q||JZ f||E.tgt.isSome) V args h1 with
    | some x=>
      rw[S]at p;dsimp only at p;have⟨q1,q2,q3,q4⟩:=Zky S;simp only[Jx]at q1;obtain⟨⟨rfl,-⟩,hT⟩:=q1;have hT:E.tgt=none:=by cases e:E.tgt<;>rw[e]at hT<;>simp at hT
      split at p
      .rename_i rv h2 L;cases p;have W:=Zey HK L (Nat.le_of_lt q3);refine(Jl hF1 (HI _ _ L ρ1 y w1 (Nat.le_of_lt q3) r1 hva)).mono ?_;rintro e' w' ⟨B,he,hr,C⟩;cases he with|@ret _ v' hv=>
         have st2:Zai (MOf false V (some x)) ρ1 h1 w1 B w':=C.toM.Znc (fun i I A hi3=>by
          unfold MOf;rw[if_neg (by simp)];rcases Nat.eq_or_lt_of_le A with z|z
          .rw[z]
          have:=q4 i z I;rw[Un hi3]at this;cases this) r1.lt
         have ZWZ:Zai (MOf false V (some x)) ρ h w ρ1 w1:=sm.weaken (fun i _ hi=>by rw[hT]at hi;cases hi) r.lt;exact hK B v' w' hv hr (ZWZ.trans r.lt km.size km.own st2)
      cases p
    | none=>
    rw[S]at p;dsimp only at p;split at p
    .rename_i rv h2 L;have ZBR:=HI _ _ L
     have ZmS:(bif q && !JZ f then V else h1.size)<=h1.size:=by
      cases q<;>cases JZ f<;>simp[cond,KK ZG st1.size]
     have W:=Zey HK L ZmS;refine(Jl hF1 (ZBR ρ1 y w1 ZmS r1 hva)).mono ?_;rintro e' w' ⟨B,he,hr,C⟩;cases he with|@ret _ v' hv=>
       have tail:v=rv->h'=h2->t=E.tgt->K (a.put o.dst v') w':=by
        rintro rfl rfl rfl
        have st2:Zai (MOf q V E.tgt) ρ1 h1 w1 B w':=by
         refine C.toM.weaken (fun i I A=>?_) r1.lt;unfold MOf;cases q with
         | true=>
           cases G:JZ f with|true=>rw[G]at A;simp at A;omega|false=>rw[G]at A;simpa using A
         | false=>simp at A;omega
        exact hK B v' w' hv hr (toM.trans r.lt km.size km.own st2)
       cases D:(JZ f&&plain rv)<;>rw[D]at p<;>simp only[Cq1,Cq0]at p;.cases p;exact tail rfl rfl rfl
       rw[Ba0]at D;cases p;have G:=D.1;simp only[G,J0,Bool.and_false,Cq0]at C;rw[VR.Xr D.2 hv];have⟨q1,q2⟩:=Zew r1 C;have st2:Zai (MOf q V E.tgt) ρ1 h' w1 ρ1 w':=(q2 h'.size).toM.weaken (fun i I A=>absurd I Vb) r1.lt;exact hK ρ1 _ w' (VR.ZY D.2) q1 (toM.trans r.lt km.size km.own st2)
    cases p
   .rename_i l args;obtain⟨l',k,y,hl,hw,hv,rfl⟩:=p3;refine⟨ZHb,?_⟩;cases q with|false=>cases p|true=>
      simp only[Cq1]at p;split at p;.rename_i rv h2 L;cases p;have ZmS:V<=h1.size:=KK ZG st1.size;refine(Zdw hF1 (HI _ _ L ρ1 l' k y w1 ZmS r1 hv hl hw)).mono ?_;rintro e' w' ⟨B,he,hr,C⟩;cases he with|@ret _ v' hv'=>exact hK B v' w' hv' hr (toM.trans r.lt km.size km.own C.toM)
      cases p
   cases p
  cases p
 cases p
def Zl0{P:V3->Z}(HK:∀j r,ih j=some r->Zj3 j r){n V:Nat}{wr:O Nat}{p:Z}{ops:U Oper}{o:Oper}{fr:Fr}{h h':H}{t:O Nat}{v:N}
 (l:ZaH X P ih n V wr p ops o fr h=some (t,v,h')) (ZG:V<=h.size):KI (MOf p V t) h h'/\(∀x,MOf p V t x->V<=x)/\(∀d,o.dst=some d->d<n/\allowed wr d=true):=by
 unfold ZaH at l;cases hd:(match o.dst with|none=>true|some d=>Nat.blt d n&&allowed wr d)<;>rw[hd]at l<;>simp only[Cq1,Cq0]at l;.cases l
 have q:∀d,o.dst=some d->d<n/\allowed wr d=true:=fun d e=>by rw[e]at hd;simpa[Gd]using hd
 cases hok:okG ops o fr<;>rw[hok]at l<;>simp only[GM,J0,Cq1,Cq0]at l;.cases l
 cases hwt:XJ ops o fr<;>rw[hwt]at l<;>simp only[Cq1,Cq0]at l
 .cases l;refine⟨⟨K1 _,fun _ _ _=>rfl,fun _ _ x=>x,fun _ _ x=>x⟩,fun x D=>?_,q⟩;unfold MOf at D;split at D;.exact D
  cases D
 split at l
 .rename_i nx E ha;split at l
  .rename_i h1 B;have Q:=Zrj ZG B
   have ZBq:∀x,E.tgt=some x->V<=x:=by
    intro x D;cases E with
    | none=>cases D
    | new A=>cases D
    | upd I A=>
      cases D;simp only[Eff.apply]at B;cases C:(Nat.ble V x&&(h.at x).own)<;>rw[C]at B<;>simp at B;rw[Ba0]at C;exact Nl0 C.1
    | grow I A=>
      cases D;simp only[Eff.apply]at B;cases C:(Nat.ble V x&&(h.at x).own&&A.own)<;>rw[C]at B<;>simp at B;rw[Ba0,Ba0]at C;exact Nl0 C.1.1
   have km:KI (fun x=>E.tgt=some x) h h1:=by
    refine⟨Q.size,fun i G hm=>?_,Q.own,Q.live⟩;cases E with
    | none=>cases B;rfl
    | new A=>
      simp only[Eff.apply]at B;cases hA:A.own<;>rw[hA]at B<;>simp at B;subst B;rw[H.Qu,if_neg Vb]
    | upd I A=>
      simp only[Eff.apply]at B;cases C:(Nat.ble V I&&(h.at I).own)<;>rw[C]at B<;>simp at B;subst B;rw[H.Qt,if_neg fun x=>hm (by rw[x.1];rfl)]
    | grow I A=>
      simp only[Eff.apply]at B;cases C:(Nat.ble V I&&(h.at I).own&&A.own)<;>rw[C]at B<;>simp at B;subst B;rw[H.Qu,H.size_put,if_neg Vb,H.Qt,if_neg fun x=>hm (by rw[x.1];rfl)]
   have W:∀x,MOf p V E.tgt x->V<=x:=fun x D=>by
    unfold MOf at D;split at D;.exact D
    exact ZBq x D
   have toM:KI (MOf p V E.tgt) h h1:=km.weaken fun i _ G=>by
    unfold MOf;split;.exact ZBq i G
    exact G
   split at l;.cases l;exact⟨toM,W,q⟩
   .cases l;exact⟨toM,W,q⟩
   .rename_i f args;cases K:Zq5 (p||P f||E.tgt.isSome) V args h1 with
    | some x=>
      rw[K]at l;dsimp only at l;have⟨q1,q2,q3,q4⟩:=Zky K;simp only[Jx]at q1;obtain⟨⟨rfl,-⟩,hT⟩:=q1;have hT:E.tgt=none:=by cases e:E.tgt<;>rw[e]at hT<;>simp at hT
      split at l
      .rename_i rv h2 C;cases l;have hk2:=(Zey HK C (Nat.le_of_lt q3)).ZQQ q4
       have D:∀y,MOf false V (some x) y->y=x:=fun y S=>by
        unfold MOf at S;rw[if_neg (by simp)]at S;exact(Oi0 S).symm
       refine⟨(km.weaken fun i _ G=>by rw[hT]at G;cases G).trans (hk2.weaken fun i _ G=>?_),fun y S=>by rw[D y S];exact q2,q⟩;subst G;unfold MOf;rw[if_neg (by simp)]
      cases l
    | none=>
    rw[K]at l;dsimp only at l;split at l
    .rename_i rv h2 C
     have ZmS:(bif p && !P f then V else h1.size)<=h1.size:=by
      cases p<;>cases P f<;>simp[cond,KK ZG Q.size]
     have L:=Zey HK C ZmS;cases hpp:(P f&&plain rv)<;>rw[hpp]at l<;>simp only[Cq1,Cq0]at l
     .cases l;refine⟨toM.trans (L.toM.weaken fun i hi1 F=>?_),W,q⟩;unfold MOf;cases p with
      | true=>
        cases T:P f with|true=>rw[T]at F;simp at F;omega|false=>rw[T]at F;simpa using F
      | false=>simp at F;omega
     cases l;exact⟨toM,W,q⟩
    cases l
   .cases p with|false=>cases l|true=>
      simp only[Cq1]at l;split at l;next rv h2 C=>cases l;exact⟨toM.trans (ZtP HK C (KK ZG Q.size)).toM,W,q⟩
      cases l
   cases l
  cases l
 cases l
end
section
section
variable{α:Type}(base:α)(val:Nat->α)(S:Nat->Prop)(tc:Nat->Prop)
open Classical in
def last:Nat ->α
 | 0=>base
 | k + 1=>if S k∧tc k then val k else last k
def Zem{m:Nat}(h:∀k,k<m->tc k->¬ S k):last base val S tc m=base:=by induction m with|zero=>rfl|succ m ih=>rw[last,if_neg (fun x=>h m Vb x.2 x.1)];exact ih fun k l=>h k Vb
def Zbv{m:Nat}(g:Nat->α)(t:g 0=base)(h1:∀k,k<m->tc k->g (k+1)=val k)(h2:∀k,k<m->¬ tc k->g (k+1)=g k){i:Nat}(y:i<=m)(h:∀k,k<m->tc k->(S k↔k<i)):
 last base val S tc m=g i:=by
 induction m generalizing i with
 | zero=>
   have:i=0:=Vb;subst this;exact t.symm
 | succ m ih=>
   rw[last];by_cases l:S m/\tc m;.rw[if_pos l];have:=(h m Vb l.2).1 l.1;have e:i=m+1:=Vb;rw[e,h1 m Vb l.2]
   rw[if_neg l];by_cases r:i=m+1;.subst r;have hn:¬ tc m:=fun x=>l ⟨(h m Vb x).2 Vb,x⟩;rw[h2 m Vb hn];exact ih (fun k p=>h1 k Vb) (fun k p=>h2 k Vb) (K1 m) fun k p q=>⟨fun _=>p,fun _=>(h k Vb q).2 Vb⟩
   exact ih (fun k p=>h1 k Vb) (fun k p=>h2 k Vb) Vb fun k p q=>h k Vb q
variable{base val S tc} in
theorem QT {m i:Nat} {S':Nat->Prop} (hS:∀k,S' k↔S k\/k=i) (hi:¬ tc i):last base val S' tc m=last base val S tc m:=by
 induction m with
 | zero=>rfl
 | succ m ih=>
   rw[last,last,ih];by_cases hm:m=i
   ·subst hm;rw[if_neg (fun x=>hi x.2),if_neg (fun x=>hi x.2)]
   ·by_cases hx:S m/\tc m
    ·rw[if_pos hx,if_pos ⟨(hS m).2 (.inl hx.1),hx.2⟩]
    ·rw[if_neg hx,if_neg fun x=>hx ⟨((hS m).1 x.1).resolve_right hm,x.2⟩]
variable{base val S tc} in
theorem Zbu {m i:Nat} {S':Nat->Prop} (hS:∀k,S' k↔S k\/k=i) (him:i<m) (hi:tc i) (hl:∀k,i<k->k<m->tc k->¬ S k):last base val S' tc m=val i:=by
 induction m with
 | zero=>omega
 | succ m ih=>
   rw[last];by_cases hm:m=i
   ·subst hm;rw[if_pos ⟨(hS m).2 (.inr rfl),hi⟩]
   ·rw[if_neg,ih Vb fun k h1 h2=>hl k h1 Vb];rintro⟨h1,h2⟩;exact hl m Vb Vb h2 (((hS m).1 h1).resolve_right hm)
theorem Zws{m:Nat}(n:Nat->Nat)(hn:∀j k,j<=k->k<=m->n j<=n k){i:Nat}(p:i<=m)(h:∀k,k<m->S k->tc k->k<i):last (n 0) (fun k=>n (k+1)) S tc m<=n i:=by
 have:∀j,j<=m->last (n 0) (fun k=>n (k+1)) S tc j<=n i:=by
  intro j
  induction j with|zero=>intro _;exact hn 0 i Vb p|succ j ih=>
    intro q;rw[last];by_cases l:S j/\tc j;.rw[if_pos l];have:=h j Vb l.1 l.2;exact hn (j+1) i Vb p
    rw[if_neg l];exact ih Vb
 exact this m (K1 m)
end
def Ren.cut(ρ:Ren)(c:Nat):Ren:=⟨fun x=>if x<c then ρ x else none,ρ.lim⟩
def Ren.Xf{ρ:Ren}{c x:Nat}{p:Nat×Nat}:(ρ.cut c) x=some p↔x<c/\ρ x=some p:=by
 unfold Ren.cut;by_cases h:x<c;.simp[h]
 simp[h]
def Ren.Zha{ρ:Ren}{c c':Nat}(h:c<=c'):(ρ.cut c).le (ρ.cut c'):=fun x p e=>by
 rw[Ren.Xf]at e;exact⟨Ren.Xf.2 ⟨by omega,e.2⟩,rfl⟩
def Ren.ZuY{ρ l:Ren}(h:ρ.le l)(c:Nat):(ρ.cut c).le (l.cut c):=fun x p e=>by
 rw[Ren.Xf]at e;have⟨h1,h2⟩:=h _ _ e.2;exact⟨Ren.Xf.2 ⟨e.1,h1⟩,h2⟩
def Ren.ZLP{ρ:Ren}{c:Nat}(h:∀x p,ρ x=some p->x<c):ρ.le (ρ.cut c):=fun _ _ e=>⟨Ren.Xf.2 ⟨h _ _ e,e⟩,rfl⟩
def Ren.Zl4{ρ:Ren}{c:Nat}:(ρ.cut c).le ρ:=fun _ _ e=>⟨(Ren.Xf.1 e).2,rfl⟩
def mask(X:U Nat)(h:H):H:=X.foldl (fun g x=>g.put x .dead) h
def QW(X:U Nat)(h l:H):H:=X.foldl (fun g x=>bif Nat.blt x h.size then g.put x (h.at x) else g) l
def Yf(X:U Nat)(h:H):(mask X h).size=h.size:=by unfold mask;induction X generalizing h with|nil=>rfl|cons y X ih=>rw[Gm,ih,H.size_put]
def Q8(X:U Nat)(h:H)(x:Nat):(mask X h).at x=if x∈X then .dead else h.at x:=by
 unfold mask
 induction X generalizing h with|nil=>simp|cons y X ih=>
   rw[Gm,ih];by_cases l:x∈X;.simp[l]
   rw[if_neg l,H.Qt];by_cases q:x=y
   .subst q;by_cases p:x<h.size;.simp[p]
    simp[p,H.Zfc (Nat.le_of_not_lt p)]
   simp[l,q]
def Qv(X:U Nat)(h l:H):(QW X h l).size=l.size:=by unfold QW;induction X generalizing l with|nil=>rfl|cons y X ih=>rw[Gm,ih];cases Nat.blt y h.size<;>rfl
def UK(X:U Nat)(h t:H)(B:h.size<=t.size)(x:Nat):(QW X h t).at x=if x∈X/\x<h.size then h.at x else t.at x:=by
 unfold QW
 induction X generalizing t with|nil=>simp|cons y X ih=>
   rw[Gm];cases r:Nat.blt y h.size with
   | true=>
     rw[Gd]at r;rw[Cq1,ih _ (by rw[H.size_put];exact B)];by_cases l:x∈X/\x<h.size;.rw[if_pos l,if_pos ⟨Kd _ l.1,l.2⟩]
     rw[if_neg l,H.Qt];by_cases p:x=y;.subst p;rw[if_pos ⟨rfl,by omega⟩,if_pos ⟨by simp,r⟩]
     rw[if_neg fun z=>p z.1,if_neg];rintro⟨A,q⟩;rcases K2.1 A with z|z
     .exact p z
     exact l ⟨z,q⟩
   | false=>
     rw[Cq0,ih _ B];have p:¬ y<h.size:=fun z=>by rw[<-Gd]at z;rw[z]at r;cases r
     by_cases l:x∈X/\x<h.size;.rw[if_pos l,if_pos ⟨Kd _ l.1,l.2⟩]
     rw[if_neg l,if_neg];rintro⟨A,q⟩;rcases K2.1 A with z|z
     .subst z;exact p q
     exact l ⟨z,q⟩
def ZoB(fr:Fr)(d:O Tmp)(v:N)(t:Nat):(U6 fr d v).at t=if d=some t then v else fr.at t:=by
 cases d with|none=>simp[U6]|some d=>
   by_cases h:t=d;.subst h;simp[U6,Fr.at,Tr.Qp]
   have l:¬ d=t:=fun e=>h e.symm;simp[U6,Fr.at,Tr.Qp,h,l]
structure Data(P:Program)(nn V:Nat)(rd:Option Nat)(ops:Array Oper) where
 hs:Nat->H
 fs:Nat->Fr
 vs:Nat->Value
 mo:Nat->Nat->Prop
 Xs:Nat->List Nat
 soft:Nat->Option (Nat×Nat)
 hl:Nat->Bool
 Pb:Nat->Nat->Prop
 ZvX:V<=(hs 0).size
 step:∀(k:Nat)(o:Oper),ops[k]? =some o->∃h1,Ua P V rd ops o (mo k) (fs k) (mask (Xs k) (hs k)) (vs k) h1/\KI (mo k) (mask (Xs k) (hs k)) h1/\
  hs (k+1)=QW (Xs k) (hs k) h1/\fs (k+1)=U6 (fs k) o.dst (vs k)
 wmM:∀k x,k<ops.size->mo k x->V<=x
 dst:∀(k:Nat)(o:Oper)(d:Tmp),ops[k]? =some o->o.dst=some d->d<nn
 Zjz:∀(j k:Nat),Pb j k->∃(o:Oper) (e:Edge),ops[j]? =some o/\e∈o.after/\Region.binds .any e=true/\(k=e.on\/Pb e.on k)
 Zxm:∀(j:Nat)(o:Oper)(e:Edge),ops[j]? =some o->e∈o.after->Region.binds .any e=true->e.on<j
 inc:∀i j,i<ops.size->j<ops.size->i≠j->¬ Pb i j->¬ Pb j i->hl i=false->∀x,mo j x->x<(hs j).size->(x<(hs i).size/\(x∈Xs i\/soft i=some (x,j)))\/(hs (i+1)).size<=x
 ZSV:∀(i:Nat)(o:Oper),ops[i]? =some o->hl i=true->(∀y,¬ mo i y)/\(hs (i+1)).size=(hs i).size/\∀g:H,Ua P V rd ops o (fun _=>False) (fs i) g (vs i) g
 ZAh:∀(i:Nat)(o:Oper)(x j:Nat),ops[i]? =some o->soft i=some (x,j)->i<j/\j<ops.size/\x<(hs i).size/\(∀y,¬ mo i y)/\(hs (i+1)).size=(hs i).size/\
  (∀(ρ ρ':Ren)(w:World)(b d:Nat)(l:Nat×Nat),Q0 ρ w b d l ((hs i).at x)->Q0 ρ' w b d l ((hs i).at x))/\
  (∀(ρ ρ':Ren)(w:World)(b d:Nat)(l:Nat×Nat),Q0 ρ w b d l ((hs (j+1)).at x)->Q0 ρ' w b d l ((hs (j+1)).at x))/\
  Ua P V rd ops o (fun _=>False) (fs i) (mask (Xs i) (hs i)) (vs i) (mask (Xs i) (hs i))/\
  Ua P V rd ops o (fun _=>False) (fs i) ((mask (Xs i) (hs i)).put x ((hs (j+1)).at x)) (vs i) ((mask (Xs i) (hs i)).put x ((hs (j+1)).at x))
 MX:∀i x,i<ops.size->mo i x->x<(hs i).size->x∉Xs i
 looks:∀(i:Nat)(o:Oper)(t:Tmp),ops[i]? =some o->t∈ZU.looks ops.toList o->∀(k:Nat)(o':Oper),ops[k]? =some o'->o'.dst=some t->k=i\/Pb i k\/Pb k i
 ZOW:∀(i j:Nat)(o o':Oper)(t:Tmp),ops[i]? =some o->ops[j]? =some o'->o.dst=some t->o'.dst=some t->i=j
namespace Data
variable{P:V2}{nn V:Nat}{rd:O Nat}{ops:V5 Oper}(D:Data P nn V rd ops)
def n(k:Nat):Nat:=(D.hs k).size
def M(k x:Nat):Prop:=D.mo k x/\x<D.n k
def tch(k x:Nat):Prop:=D.M k x\/(D.n k<=x/\x<D.n (k+1))
def WT(k:Nat):O Tmp:=(ops[k]?).bind (·.dst)
def hv(S:Nat->Prop)(x:Nat):Xv:=last ((D.hs 0).at x) (fun k=>(D.hs (k+1)).at x) S (fun k=>D.tch k x) ops.size
def cv(S:Nat->Prop)(x:Nat):Nat:=last (D.n 0) (fun k=>D.n (k+1)) S (fun k=>D.tch k x) ops.size
def tv(S:Nat->Prop)(t:Nat):N:=last ((D.fs 0).at t) D.vs S (fun k=>WT (ops:=ops) k=some t) ops.size
def tt(S:Nat->Prop)(t:Nat):Nat:=last (D.n 0) (fun k=>D.n (k+1)) S (fun k=>WT (ops:=ops) k=some t) ops.size
def get{k:Nat}(h:k<ops.size):∃o,ops[k]? =some o:=⟨ops[k],by simp[h]⟩
def ZoV{k:Nat}(h:k<ops.size):D.n k<=D.n (k+1):=by have⟨o,ho⟩:=get h;have⟨h1,_,km,e,_⟩:=D.step k o ho;unfold n;rw[e,Qv];have:=km.size;rwa[Yf]at this
def QM:∀j k,j<=k->k<=ops.size->D.n j<=D.n k:=by intro j k l;induction l with|refl=>intro _;exact K1 _|step h ih=>intro p;exact KK (ih Vb) (D.ZoV Vb)
def keep{k x:Nat}(r:k<ops.size)(h:¬ D.tch k x):(D.hs (k+1)).at x=(D.hs k).at x:=by
 have⟨o,ho⟩:=get r;have⟨h1,_,km,e,_⟩:=D.step k o ho;have p:=km.size;rw[Yf]at p;have hn:D.n (k+1)=h1.size:=by unfold n;rw[e,Qv]
 by_cases l:x<(D.hs k).size
 .rw[e,UK _ _ _ p];by_cases q:x∈D.Xs k;.rw[if_pos ⟨q,l⟩]
  rw[if_neg fun z=>q z.1,km.keep x (by rw[Yf];exact l) (fun z=>h (.inl ⟨z,l⟩)),Q8,if_neg q]
 have:¬ x<D.n (k+1):=fun z=>h (.inr ⟨Nat.le_of_not_lt l,z⟩);rw[H.Zfc (Nat.le_of_not_lt l),H.Zfc (Nat.le_of_not_lt this)]
def own{k x:Nat}(r:k<ops.size)(q:x<D.n k)(h:((D.hs (k+1)).at x).own=true):((D.hs k).at x).own=true:=by
 have⟨o,ho⟩:=get r;have⟨h1,_,km,e,_⟩:=D.step k o ho;have l:=km.size;rw[Yf]at l;rw[e,UK _ _ _ l]at h;by_cases p:x∈D.Xs k/\x<(D.hs k).size;.rwa[if_pos p]at h
 rw[if_neg p]at h;have:=km.own x (by rw[Yf];exact q) h;rw[Q8]at this;split at this;.cases this
 exact this
def live{k x:Nat}(r:k<ops.size)(q:x<D.n k)(h:((D.hs (k+1)).at x).live=true):((D.hs k).at x).live=true:=by
 have⟨o,ho⟩:=get r;have⟨h1,_,km,e,_⟩:=D.step k o ho;have l:=km.size;rw[Yf]at l;rw[e,UK _ _ _ l]at h;by_cases p:x∈D.Xs k/\x<(D.hs k).size;.rwa[if_pos p]at h
 rw[if_neg p]at h;have:=km.live x (by rw[Yf];exact q) h;rw[Q8]at this;split at this;.cases this
 exact this
def ZRe{x:Nat}(l:x<D.n 0):∀k,k<=ops.size->((D.hs k).at x).own=true->((D.hs 0).at x).own=true:=by intro k;induction k with|zero=>intro _ h;exact h|succ k ih=>intro p h;exact ih Vb (D.own Vb (G3 l (D.QM 0 k Vb Vb)) h)
def ZRr{x:Nat}(l:x<D.n 0):∀k,k<=ops.size->((D.hs k).at x).live=true->((D.hs 0).at x).live=true:=by intro k;induction k with|zero=>intro _ h;exact h|succ k ih=>intro p h;exact ih Vb (D.live Vb (G3 l (D.QM 0 k Vb Vb)) h)
def ZSa(S:Nat->Prop)(x:Nat):∃k,k<=ops.size/\D.hv S x=(D.hs k).at x:=by
 unfold hv
 have:∀m,m<=ops.size->∃k,k<=ops.size/\last ((D.hs 0).at x) (fun k=>(D.hs (k+1)).at x) S (fun k=>D.tch k x) m=(D.hs k).at x:=by
  intro m
  induction m with|zero=>intro _;exact⟨0,by omega,rfl⟩|succ m ih=>
    intro l;rw[last];by_cases h:S m/\D.tch m x;.rw[if_pos h];exact⟨m+1,l,rfl⟩
    rw[if_neg h];exact ih Vb
 exact this _ Vc
def ZGJ{S:Nat->Prop}{x:Nat}(l:x<D.n 0)(h:(D.hv S x).own=true):((D.hs 0).at x).own=true:=by have⟨k,hk,e⟩:=D.ZSa S x;rw[e]at h;exact D.ZRe l k hk h
def Closed(ops:V5 Oper)(S:Nat->Prop):Prop:=∀j o e,S j->ops[j]? =some o->e∈o.after->Region.binds .any e=true->S e.on
def ZJu:∀j k,D.Pb j k->k<j:=by
 intro j
 induction j using Nat.strongRecOn with|ind j ih=>
   intro k h;have⟨o,e,ho,he,hb,hk⟩:=D.Zjz j k h;have:=D.Zxm j o e ho he hb;rcases hk with rfl|hk
   .exact this
   have:=ih e.on this k hk;omega
def Zn6{S:Nat->Prop}(p:Closed ops S):∀j k,S j->D.Pb j k->S k:=by
 intro j
 induction j using Nat.strongRecOn with|ind j ih=>
   intro k l h;have⟨o,e,ho,he,hb,hk⟩:=D.Zjz j k h;have h1:=p j o e l ho he hb;rcases hk with rfl|hk
   .exact h1
   exact ih e.on (D.Zxm j o e ho he hb) k h1 hk
def Zhc{S:Nat->Prop}(p:Closed ops S){i:Nat}{o:Oper}(r:ops[i]? =some o)(t:¬ S i)(l:∀e∈o.after,Region.binds .any e=true->S e.on){k:Nat}(h:D.Pb i k\/D.Pb k i):S k↔k<i:=by
 rcases h with h|h
 .refine⟨fun _=>D.ZJu _ _ h,fun _=>?_⟩;have⟨o',e,ho',he,hb,hk⟩:=D.Zjz i k h;rw[r]at ho';cases ho';rcases hk with rfl|hk
  .exact l e he hb
  exact D.Zn6 p e.on k (l e he hb) hk
 refine⟨fun q=>absurd (D.Zn6 p k i q h) t,fun x=>?_⟩;have:=D.ZJu _ _ h;omega
structure J'(S:Nat->Prop)(ds:List Deferred)(ρ0:Ren)(w0:World)(ρ:Ren)(a:Act)(w:World):Prop where
 dom:∀x b d,ρ x=some (b,d)->b<w.heap.size/\(x<D.n 0\/∃k,k<ops.size/\S k/\D.n k<=x/\x<D.n (k+1))
 obj:∀x b d,ρ x=some (b,d)->Q0 (ρ.cut (D.cv S x)) w b d (ρ.lim x) (D.hv S x)
 tsz:a.tmps.size=nn
 tmp:∀t,X4 (D.tv S t)=false->VR (ρ.cut (D.tt S t)) (D.tv S t) (a.tmps.getD t undef)
 ds:DsR (ρ.cut (D.n 0)) ds a.defers
 inj:∀x y b d d',ρ x=some (b,d)->ρ y=some (b,d')->(D.hv S x).own=true->(D.hv S y).live=true->x=y
 ext:ρ0.le ρ
 Zsz:∀x p,ρ0 x=some p->x<D.n 0
 os:w.os=w0.os
 tape:w.tape=w0.tape
 output:w.output=w0.output
 XH:w0.heap.size<=w.heap.size
 frame:∀b,b<w0.heap.size->(∀i d,V<=i->ρ0 i=some (b,d)->((D.hs 0).at i).own=true->False)->w.heap[b]? =w0.heap[b]?
 Ud:∀i b d,ρ0 i=none->ρ i=some (b,d)->D.n 0<=i/\(w0.heap.size<=b\/∃j d',V<=j/\ρ0 j=some (b,d')/\((D.hs 0).at j).own=true)
variable{D}
def J'.Zb5{S:Nat->Prop}{ds:List Deferred}{ρ0 ρ:Ren}{w0 w:World}{a:Act}(j:D.J' S ds ρ0 w0 ρ a w)(K:Closed ops S){i:Nat}{o:Oper}(C:ops[i]? =some o)(E:¬ S i)
 (I:∀e∈o.after,Region.binds .any e=true->S e.on) {x b d:Nat} (F:ρ x=some (b,d)) (y:x<D.n i) (L:x∉D.Xs i) (B:D.hl i=false) (A:∀j,D.soft i≠some (x,j)):D.hv S x=(D.hs i).at x/\D.cv S x<=D.n i:=by
 have p:i<ops.size:=(Array.getElem?_eq_some_iff.1 C).1
 have r:∀k,k<ops.size->D.tch k x->(S k↔k<i):=by
  intro k t q;rcases q with q|⟨h1,h2⟩
  .by_cases l:k=i;.subst l;exact⟨fun z=>absurd z E,fun z=>by omega⟩
   by_cases h:D.Pb i k\/D.Pb k i;.exact D.Zhc K C E I h
   rcases D.inc i k p t (Ne.symm l) (fun z=>h (.inl z)) (fun z=>h (.inr z)) B x q.1 q.2 with z|z
   .rcases z.2 with z|z
    .exact absurd z L
    exact absurd z (A k)
   have:=D.ZoV p;unfold n at this y;omega
  have l:k<i:=by
   rcases Nat.lt_or_ge k i with z|z
   .exact z
   have:=D.QM i k z (by omega);omega
  refine⟨fun _=>l,fun _=>?_⟩;rcases(j.dom x b d F).2 with z|⟨k',q1,q2,q3,q4⟩
  .have:=D.QM 0 k (by omega) (by omega);omega
  have:k'=k:=by
   rcases Nat.lt_trichotomy k' k with z|z|z
   .have:=D.QM (k'+1) k (by omega) (by omega);omega
   .exact z
   have:=D.QM (k+1) k' (by omega) (by omega);omega
  subst this;exact q2
 refine⟨?_,?_⟩;.unfold hv;exact Zbv _ _ _ _ (fun k=>(D.hs k).at x) rfl (fun k _ _=>rfl) (fun k t q=>D.keep t q) (Nat.le_of_lt p) r
 unfold cv;exact Zws _ _ _ D.QM (Nat.le_of_lt p) fun k t G q=>(r k t q).1 G
def J'.ZqD{S:Nat->Prop}(G:Closed ops S){i:Nat}{o:Oper}(y:ops[i]? =some o)(B:¬ S i)
 (F:∀e∈o.after,Region.binds .any e=true->S e.on) {t:Nat} (C:t∈ZU.looks ops.toList o):D.tv S t=(D.fs i).at t/\D.tt S t<=D.n i:=by
 have r:i<ops.size:=(Array.getElem?_eq_some_iff.1 y).1
 have q:∀k,k<ops.size->WT (ops:=ops) k=some t->(S k↔k<i):=by
  intro k l p;have⟨o',ho'⟩:=get l;have A:o'.dst=some t:=by unfold WT at p;rw[ho']at p;exact p
  rcases D.looks i o t y C k o' ho' A with h|h
  .subst h;exact⟨fun z=>absurd z B,fun z=>by omega⟩
  exact D.Zhc G y B F h
 have x:∀k,k<ops.size->(D.fs (k+1)).at t=if WT (ops:=ops) k=some t then D.vs k else(D.fs k).at t:=by
  intro k l;have⟨o',ho'⟩:=get l;have⟨h1,_,_,_,e⟩:=D.step k o' ho';rw[e,ZoB];unfold WT;rw[ho'];rfl
 refine⟨?_,?_⟩;.unfold tv;exact Zbv _ _ _ _ (fun k=>(D.fs k).at t) rfl (fun k l p=>by rw[x k l,if_pos p]) (fun k l p=>by rw[x k l,if_neg p]) (Nat.le_of_lt r) q
 unfold tt;exact Zws _ _ _ D.QM (Nat.le_of_lt r) fun k l E p=>(q k l p).1 E
end Data
end
section
namespace Data
variable{P:V2}{nn V:Nat}{rd:O Nat}{ops:V5 Oper}{D:Data P nn V rd ops}
def J'.step{S:Nat->Prop}{ds:List Deferred}{ρ0 ρ:Ren}{w0 w:World}{a:Act}(j:D.J' S ds ρ0 w0 ρ a w)(hc:Closed ops S){i:Nat}{o:Oper}(W:ops[i]? =some o)(hi:¬ S i)(hhl:D.hl i=false)(ZSb:D.soft i=none)
 (hr:∀e∈o.after,Region.binds .any e=true->S e.on) {F:Fence} (hF:FR' ρ0 rd F) {S':Nat->Prop} (hS:∀k,S' k↔S k\/k=i) {K:Act->World->Prop} {Q:Exit->Act->World->Prop}
 (hK:∀ρ' a' w',D.J' S' ds ρ0 w0 ρ' a' w'->K a' w'):
 if Region.wanted o (yielded ops a.tmps) then o.wpIn F 0 P a w K Q else(∀f,o.about P w a.eval=some f->F.fn f)/\K (a.put o.dst undef) w:=by
 have E:i<ops.size:=(Array.getElem?_eq_some_iff.1 W).1;have hsf:∀{x:Nat}(j:Nat),D.soft i≠some (x,j):=fun j z=>by rw[ZSb]at z;cases z
 have⟨h1,hstep,km,eh,ef⟩:=D.step i o W;have hsz:=km.size;rw[Yf]at hsz;have hn1:D.n (i+1)=h1.size:=by unfold n;rw[eh,Qv]
 have hni:D.n i=(D.hs i).size:=rfl;have h0i:=D.QM 0 i (by omega) (by omega);have hii:=D.ZoV E
 have r1:Rel (ρ.cut (D.n i)) (mask (D.Xs i) (D.hs i)) w:=by
  refine⟨fun x b d e=>?_,fun x b d e=>?_,fun x y b d C e e' W hl=>?_⟩;.rw[Ren.Xf]at e;rw[Yf];exact⟨e.1,(j.dom x b d e.2).1⟩
  .rw[Ren.Xf]at e;rw[Q8];by_cases L:x∈D.Xs i;.rw[if_pos L];trivial
   rw[if_neg L];have⟨q1,q2⟩:=j.Zb5 hc W hi hr e.2 e.1 L hhl hsf;rw[<-q1];exact(j.obj x b d e.2).mono (Ren.Zha q2)
  rw[Ren.Xf]at e e';rw[Q8]at W hl;by_cases L:x∈D.Xs i;.rw[if_pos L]at W;cases W
  by_cases hY:y∈D.Xs i;.rw[if_pos hY]at hl;cases hl
  rw[if_neg L]at W;rw[if_neg hY]at hl;rw[<-(j.Zb5 hc ‹_› hi hr e.2 e.1 L hhl hsf).1]at W;rw[<-(j.Zb5 hc ‹_› hi hr e'.2 e'.1 hY hhl hsf).1]at hl;exact j.inj x y b d C e.2 e'.2 W hl
 have hF1:FR' (ρ.cut (D.n i)) rd F:=by
  refine hF.mono fun x p e=>?_;have⟨e1,e2⟩:=j.ext x p e;exact⟨Ren.Xf.2 ⟨by have:=j.Zsz x p e;omega,e1⟩,e2⟩
 refine hstep (ρ.cut (D.n i)) a w F K Q r1 (by rw[Yf];have:=D.ZvX;have e:D.n 0=(D.hs 0).size:=rfl;omega) (fun t l hany=>?_) hF1 ?_;.have⟨q1,q2⟩:=J'.ZqD (D:=D) hc W hi hr l;rw[<-q1]at hany ⊢;exact(j.tmp t hany).mono (Ren.Zha q2)
 intro I v' w' hv r2 st0;have st:Zai (D.M i) (ρ.cut (D.n i)) (mask (D.Xs i) (D.hs i)) w I w':=st0.weaken (fun x A hm=>⟨hm,by rw[Yf]at A;exact A⟩) r1.lt
 have hfree:∀x,D.n i<=x->x<D.n (i+1)->ρ x=none:=by
  intro x h1 h2;cases e:ρ x with|none=>rfl|some p=>
    rcases(j.dom x p.1 p.2 e).2 with z|⟨k,q1,q2,q3,q4⟩
    .omega
    exfalso;rcases Nat.lt_trichotomy k i with z|z|z
    .have:=D.QM (k+1) i (by omega) (by omega);omega
    .subst z;exact hi q2
    have:=D.QM (i+1) k (by omega) (by omega);omega
 have ZrB:(mask (D.Xs i) (D.hs i)).size=D.n i:=Yf _ _
 have ZRg:∀x b d,x<D.n i->I x=some (b,d)->ρ x=some (b,d):=by
  intro x b d A e;cases e1:(ρ.cut (D.n i)) x with|none=>have:=(st.Ud x b d e1 e).1;omega|some p=>
    have:=(st.ext x p e1).1;rw[e]at this;cases this;exact(Ren.Xf.1 e1).2
 let ρ':Ren:=⟨fun x=>if D.n i<=x/\x<D.n (i+1) then I x else ρ x,fun x=>if D.n i<=x/\x<D.n (i+1) then I.lim x else ρ.lim x⟩;have new':∀x,D.n i<=x->x<D.n (i+1)->ρ' x=I x/\ρ'.lim x=I.lim x:=fun x a b=>⟨if_pos ⟨a,b⟩,if_pos ⟨a,b⟩⟩;have r:∀x,¬ (D.n i<=x/\x<D.n (i+1))->ρ' x=ρ x/\ρ'.lim x=ρ.lim x:=fun x a=>⟨if_neg a,if_neg a⟩
 have hle:ρ.le ρ':=by
  intro x p e;have:¬ (D.n i<=x/\x<D.n (i+1)):=fun z=>by rw[hfree x z.1 z.2]at e;cases e
  have⟨q1,q2⟩:=r x this;exact⟨by rw[q1];exact e,q2⟩
 have hle2:I.le (ρ'.cut (D.n (i+1))):=by
  intro x p e;have A:x<D.n (i+1):=by have:=(r2.dom x p.1 p.2 e).1;omega
  by_cases hxn:D.n i<=x;.have⟨q1,q2⟩:=new' x hxn A;exact⟨Ren.Xf.2 ⟨A,by rw[q1];exact e⟩,q2⟩
  have e0:=ZRg x p.1 p.2 (by omega) e;have⟨q1,q2⟩:=r x (fun z=>hxn z.1);refine⟨Ren.Xf.2 ⟨A,by rw[q1];exact e0⟩,?_⟩;have:=(st.ext x p (Ren.Xf.2 ⟨by omega,e0⟩)).2;show ρ'.lim x=I.lim x;rw[q2,this];rfl
 have ZGK:∀x,D.n i<=x->x<D.n (i+1)->D.tch i x:=fun x a b=>.inr ⟨a,b⟩
 have B:∀x b d,ρ' x=some (b,d)->D.tch i x->D.hv S' x=h1.at x/\D.cv S' x=D.n (i+1)/\I x=some (b,d)/\ρ'.lim x=I.lim x:=by
  intro x b d e l
  have hxX:x∈D.Xs i->¬ x<(D.hs i).size:=by
   intro L hlt;rcases l with l|l
   .exact D.MX i x E l.1 l.2 L
   have:=l.1;omega
  have Zdj:∀k,i<k->k<ops.size->D.tch k x->¬ S k:=by
   intro k hik hk htk hsk;have hxk:x<D.n (i+1)\/D.n (i+1)<=x:=by omega
   rcases htk with htk|htk
   .by_cases hcmp:D.Pb i k\/D.Pb k i;.have:=(D.Zhc hc W hi hr hcmp).1 hsk;omega
    rcases l with l|l
    .rcases D.inc i k E hk (by omega) (fun z=>hcmp (.inl z)) (fun z=>hcmp (.inr z)) hhl x htk.1 htk.2 with z|z
     .rcases z.2 with z|z
      .exact D.MX i x E l.1 l.2 z
      exact hsf _ z
     have z2:=l.2;have T:=hii;unfold n at z2 T;omega
    rcases D.inc i k E hk (by omega) (fun z=>hcmp (.inl z)) (fun z=>hcmp (.inr z)) hhl x htk.1 htk.2 with z|z
    .have T:=l.1;unfold n at T;omega
    have T:=l.2;unfold n at T;omega
   rcases l with l|l
   .have G:x<D.n i\/D.n i<=x:=by omega
    rcases G with G|G
    .have:=D.QM i k (by omega) (by omega);omega
    have:=l.2;omega
   have:=D.QM (i+1) k (by omega) (by omega);omega
  have e1:D.hv S' x=(D.hs (i+1)).at x:=Zbu hS E l Zdj;have e2:D.cv S' x=D.n (i+1):=Zbu hS E l Zdj
  have e3:(D.hs (i+1)).at x=h1.at x:=by
   rw[eh,UK _ _ _ hsz,if_neg fun z=>hxX z.1 z.2]
  refine⟨e1.trans e3,e2,?_⟩;by_cases A:D.n i<=x/\x<D.n (i+1);.have⟨q1,q2⟩:=new' x A.1 A.2;exact⟨by rw[<-q1];exact e,q2⟩
  have⟨q1,q2⟩:=r x A;rw[q1]at e
  have G:x<D.n i:=by
   rcases Nat.lt_or_ge x (D.n i) with z|z
   .exact z
   rcases l with l|l
   .have:=l.2;omega
   exact absurd l A
  have:=st.ext x (b,d) (Ren.Xf.2 ⟨G,e⟩);exact⟨this.1,by rw[q2,this.2];rfl⟩
 have hnot:∀x,¬ D.tch i x->D.hv S' x=D.hv S x/\D.cv S' x=D.cv S x:=fun x l=>⟨QT hS l,QT hS l⟩
 have ZRd:∀x b d,ρ x=some (b,d)->(D.hv S' x).own=true->(D.hv S x).own=true:=by
  intro x b d e h;by_cases l:D.tch i x
  .have⟨q1,_,q3,_⟩:=B x b d (hle x (b,d) e).1 l;rw[q1]at h
   have G:x<D.n i:=by
    rcases Nat.lt_or_ge x (D.n i) with z|z
    .exact z
    rcases l with l|l
    .have:=l.2;omega
    rw[hfree x l.1 l.2]at e;cases e
   have:=km.own x (by rw[Yf];exact G) h;rw[Q8]at this;by_cases L:x∈D.Xs i;.rw[if_pos L]at this;cases this
   rw[if_neg L]at this;rwa[(j.Zb5 hc W hi hr e G L hhl hsf).1]
  rwa[(hnot x l).1]at h
 have ZJB:∀x b d,ρ x=some (b,d)->(D.hv S' x).live=true->(D.hv S x).live=true:=by
  intro x b d e h;by_cases l:D.tch i x
  .have⟨q1,_,q3,_⟩:=B x b d (hle x (b,d) e).1 l;rw[q1]at h
   have G:x<D.n i:=by
    rcases Nat.lt_or_ge x (D.n i) with z|z
    .exact z
    rcases l with l|l
    .have:=l.2;omega
    rw[hfree x l.1 l.2]at e;cases e
   have:=km.live x (by rw[Yf];exact G) h;rw[Q8]at this;by_cases L:x∈D.Xs i;.rw[if_pos L]at this;cases this
   rw[if_neg L]at this;rwa[(j.Zb5 hc W hi hr e G L hhl hsf).1]
  rwa[(hnot x l).1]at h
 have ZAZ:∀y b d,D.M i y->(ρ.cut (D.n i)) y=some (b,d)->((mask (D.Xs i) (D.hs i)).at y).own=true->ρ y=some (b,d)/\(D.hv S y).own=true:=by
  intro y b d hm e h;rw[Ren.Xf]at e;rw[Q8]at h;by_cases L:y∈D.Xs i;.rw[if_pos L]at h;cases h
  rw[if_neg L]at h;exact⟨e.2,by rwa[(j.Zb5 hc W hi hr e.2 e.1 L hhl hsf).1]⟩
 have ZRh:∀y b d,ρ y=some (b,d)->(D.hv S y).own=true->V<=y->(∃C,ρ0 y=some (b,C)/\((D.hs 0).at y).own=true)\/(w0.heap.size<=b\/∃j C,V<=j/\ρ0 j=some (b,C)/\((D.hs 0).at j).own=true):=by
  intro y b d e h hwy;cases e0:ρ0 y with
  | some p=>
    have:=(j.ext y p e0).1;rw[e]at this;cases this;exact .inl ⟨d,rfl,D.ZGJ (j.Zsz y _ e0) h⟩
  | none=>exact .inr (j.Ud y b d e0 e).2
 refine hK ρ' (a.put o.dst v') w' ?_
 refine{dom:= ?_,obj:= ?_,tsz:= ?_,tmp:= ?_,ds:= ?_,inj:= ?_,ext:=Ren.le_trans j.ext hle,Zsz:=j.Zsz,os:=st.os.trans j.os,tape:=st.tape.trans j.tape,output:=st.output.trans j.output,
        XH:=Nat.le_trans j.XH st.XH,frame:= ?_,Ud:= ?_}
 .intro x b d e;by_cases A:D.n i<=x/\x<D.n (i+1);.rw[(new' x A.1 A.2).1]at e;exact⟨(r2.dom x b d e).2,.inr ⟨i,E,(hS i).2 (.inr rfl),A.1,A.2⟩⟩
  rw[(r x A).1]at e;have⟨q1,q2⟩:=j.dom x b d e;exact⟨Nat.lt_of_lt_of_le q1 st.XH,q2.imp id fun⟨k,T,z2,z3⟩=>⟨k,T,(hS k).2 (.inl z2),z3⟩⟩
 .intro x b d e;by_cases l:D.tch i x;.have⟨q1,q2,q3,q4⟩:=B x b d e l;rw[q1,q2,q4];exact(r2.obj x b d q3).mono hle2
  have⟨q1,q2⟩:=hnot x l;have A:¬ (D.n i<=x/\x<D.n (i+1)):=fun z=>l (ZGK x z.1 z.2);have⟨q3,q4⟩:=r x A;rw[q3]at e;rw[q1,q2,q4];by_cases hl:(D.hv S x).live=true;.refine((j.obj x b d e).mono (Ren.ZuY hle _)).world (st.frame b (j.dom x b d e).1 ?_);intro y C hm hy hown;have⟨T,z2⟩:=ZAZ y b C hm hy hown;have:=j.inj y x b C d T e z2 hl;subst this;exact l (.inl hm)
  rw[UR hl];trivial
 .have:(a.put o.dst v').tmps.size=a.tmps.size:=by cases o.dst<;>simp[Act.put]
  rw[this];exact j.tsz
 .intro t;by_cases hd:WT (ops:=ops) i=some t
  .have hod:o.dst=some t:=by unfold WT at hd;rw[W]at hd;exact hd
   have Zdj:∀k,i<k->k<ops.size->WT (ops:=ops) k=some t->¬ S k:=by
    intro k hik hk hdk _;have⟨o',ho'⟩:=get hk;have ZMi:o'.dst=some t:=by unfold WT at hdk;rw[ho']at hdk;exact hdk
    have:=D.ZOW i k o o' t W ho' hod ZMi;omega
   have e1:D.tv S' t=D.vs i:=Zbu hS E hd Zdj;have e2:D.tt S' t=D.n (i+1):=Zbu hS E hd Zdj;rw[e1,e2,hod];intro _;have htn:t<a.tmps.size:=by rw[j.tsz];exact D.dst i o t W hod
   have:(a.put (some t) v').tmps.getD t undef=v':=by
    simp[Act.put,Array.getD_eq_getD_getElem?,htn]
   rw[this];exact hv.mono hle2
  have e1:D.tv S' t=D.tv S t:=QT hS hd;have e2:D.tt S' t=D.tt S t:=QT hS hd;rw[e1,e2];intro hany
  have:(a.put o.dst v').tmps.getD t undef=a.tmps.getD t undef:=by
   cases hod:o.dst with|none=>rfl|some d=>
     have hne:d≠t:=fun z=>hd (by unfold WT;rw[W,<-z];exact hod);simp[Act.put,Array.getD_eq_getD_getElem?,Array.getElem?_setIfInBounds_ne hne]
  rw[this];exact(j.tmp t hany).mono (Ren.ZuY hle _)
 .have:(a.put o.dst v').defers=a.defers:=by cases o.dst<;>rfl
  rw[this];exact j.ds.mono (Ren.ZuY hle _)
 .intro x y b d C ex ey X hly;by_cases A:D.n i<=x/\x<D.n (i+1)
  .have htx:=ZGK x A.1 A.2;have⟨x1,_,x3,_⟩:=B x b d ex htx;by_cases hy:D.n i<=y/\y<D.n (i+1);.have⟨y1,_,y3,_⟩:=B y b C ey (ZGK y hy.1 hy.2);rw[x1]at X;rw[y1]at hly;exact r2.inj x y b d C x3 y3 X hly
   rw[(r y hy).1]at ey
   have Zug:(ρ.cut (D.n i)) x=none:=by
    cases e:(ρ.cut (D.n i)) x with|none=>rfl|some p=>have:=(Ren.Xf.1 e).1;omega
   rcases(st.Ud x b d Zug x3).2 with z|⟨q,dq,T,z2,z3⟩
   .have:=(j.dom y b C ey).1;omega
   have⟨u1,u2⟩:=ZAZ q b dq T z2 z3;have hqy:=j.inj q y b dq C u1 ey u2 (ZJB y b C ey hly);subst hqy;have⟨y1,_,y3,_⟩:=B q b C (hle q (b,C) ey).1 (.inl T);rw[x1]at X;rw[y1]at hly;exact r2.inj x q b d C x3 y3 X hly
  rw[(r x A).1]at ex;by_cases hy:D.n i<=y/\y<D.n (i+1)
  .have⟨y1,_,y3,_⟩:=B y b C ey (ZGK y hy.1 hy.2)
   have ZL2:(ρ.cut (D.n i)) y=none:=by
    cases e:(ρ.cut (D.n i)) y with|none=>rfl|some p=>have:=(Ren.Xf.1 e).1;omega
   rcases(st.Ud y b C ZL2 y3).2 with z|⟨q,dq,T,z2,z3⟩
   .have:=(j.dom x b d ex).1;omega
   have⟨u1,u2⟩:=ZAZ q b dq T z2 z3;have hqx:=j.inj x q b d dq ex u1 (ZRd x b d ex X) (Un u2);subst hqx;have⟨x1,_,x3,_⟩:=B x b d (hle x (b,d) ex).1 (.inl T);rw[x1]at X;rw[y1]at hly;exact r2.inj x y b d C x3 y3 X hly
  rw[(r y hy).1]at ey;exact j.inj x y b d C ex ey (ZRd x b d ex X) (ZJB y b C ey hly)
 .intro b hb hno;rw[<-j.frame b hb hno];refine st.frame b (Nat.lt_of_lt_of_le hb j.XH) ?_;intro y d hm hy hown;have⟨T,z2⟩:=ZAZ y b d hm hy hown;have hwy:=D.wmM i y E hm.1;rcases ZRh y b d T z2 hwy with⟨C,u1,u2⟩|u|⟨q,dq,u1,u2,u3⟩
  .exact hno y C hwy u1 u2
  .omega
  exact hno q dq u1 u2 u3
 intro x b d e0 e;by_cases A:D.n i<=x/\x<D.n (i+1)
 .rw[(new' x A.1 A.2).1]at e
  have Zug:(ρ.cut (D.n i)) x=none:=by
   cases e:(ρ.cut (D.n i)) x with|none=>rfl|some p=>have:=(Ren.Xf.1 e).1;omega
  refine⟨by omega,?_⟩;rcases(st.Ud x b d Zug e).2 with z|⟨q,dq,T,z2,z3⟩
  .exact .inl (Nat.le_trans j.XH z)
  have⟨u1,u2⟩:=ZAZ q b dq T z2 z3;have hwq:=D.wmM i q E T.1;rcases ZRh q b dq u1 u2 hwq with⟨C,v1,v2⟩|v
  .exact .inr ⟨q,C,hwq,v1,v2⟩
  exact v
 rw[(r x A).1]at e;exact j.Ud x b d e0 e
def J'.pure{S:Nat->Prop}{ds:List Deferred}{ρ0 ρ:Ren}{w0 w:World}{a:Act}(j:D.J' S ds ρ0 w0 ρ a w)(hc:Closed ops S){i:Nat}{o:Oper}(W:ops[i]? =some o)(hi:¬ S i)
 (hr:∀e∈o.after,Region.binds .any e=true->S e.on) {F:Fence} (hF:FR' ρ0 rd F) {G:Nat->Prop} (T:∀k,G k↔S k\/k=i) {hv:H} (hsz:hv.size=D.n i) (hn:D.n (i+1)=D.n i)
 (hM:∀y,¬ D.mo i y) (I:Ua P V rd ops o (fun _=>False) (D.fs i) hv (D.vs i) hv) (r1:Rel (ρ.cut (D.n i)) hv w) {K:Act->World->Prop} {Q:Exit->Act->World->Prop}
 (hK:∀ρ' a' w',D.J' G ds ρ0 w0 ρ' a' w'->K a' w'):
 if Region.wanted o (yielded ops a.tmps) then o.wpIn F 0 P a w K Q else(∀f,o.about P w a.eval=some f->F.fn f)/\K (a.put o.dst undef) w:=by
 have him:i<ops.size:=(Array.getElem?_eq_some_iff.1 W).1;have h0i:=D.QM 0 i (by omega) (by omega)
 have hF1:FR' (ρ.cut (D.n i)) rd F:=by
  refine hF.mono fun x p e=>?_;have⟨B,e2⟩:=j.ext x p e;exact⟨Ren.Xf.2 ⟨by have:=j.Zsz x p e;omega,B⟩,e2⟩
 refine I (ρ.cut (D.n i)) a w F K Q r1 (by have:=D.ZvX;have e:D.n 0=(D.hs 0).size:=rfl;omega) (fun t ht r=>?_) hF1 ?_;.have⟨q1,q2⟩:=J'.ZqD (D:=D) hc W hi hr ht;rw[<-q1]at r ⊢;exact(j.tmp t r).mono (Ren.Zha q2)
 intro ρ2 v' w' hvv r2 C
 have hle2:ρ2.le (ρ.cut (D.n (i+1))):=by
  intro x p e;have hx:x<D.n i:=by have:=(r2.dom x p.1 p.2 e).1;omega
  cases B:(ρ.cut (D.n i)) x with|none=>have:=(C.Ud x p.1 p.2 B e).1;omega|some q=>
    have⟨q1,q2⟩:=C.ext x q B;rw[e]at q1;cases q1;exact⟨Ren.Xf.2 ⟨by omega,(Ren.Xf.1 B).2⟩,q2.symm⟩
 have hbl:∀b,b<w.heap.size->w'.heap[b]? =w.heap[b]?:=fun b hb=>C.frame b hb fun _ _ h=>h.elim
 have X:∀x,¬ D.tch i x:=by
  rintro x (h|h);.exact hM x h.1
  omega
 have l:∀x,D.hv G x=D.hv S x/\D.cv G x=D.cv S x:=fun x=>⟨QT T (X x),QT T (X x)⟩;refine hK ρ (a.put o.dst v') w' ?_
 refine{dom:= ?_,obj:= ?_,tsz:= ?_,tmp:= ?_,ds:= ?_,inj:= ?_,ext:=j.ext,Zsz:=j.Zsz,os:=C.os.trans j.os,tape:=C.tape.trans j.tape,output:=C.output.trans j.output,
        XH:=Nat.le_trans j.XH C.XH,frame:= ?_,Ud:=j.Ud}
 .intro x b d e;have⟨q1,q2⟩:=j.dom x b d e;exact⟨Nat.lt_of_lt_of_le q1 C.XH,q2.imp id fun⟨k,z1,z2,z3⟩=>⟨k,z1,(T k).2 (.inl z2),z3⟩⟩
 .intro x b d e;rw[(l x).1,(l x).2];exact(j.obj x b d e).world (hbl b (j.dom x b d e).1)
 .have:(a.put o.dst v').tmps.size=a.tmps.size:=by cases o.dst<;>simp[Act.put]
  rw[this];exact j.tsz
 .intro t;by_cases E:WT (ops:=ops) i=some t
  .have A:o.dst=some t:=by unfold WT at E;rw[W]at E;exact E
   have Zdj:∀k,i<k->k<ops.size->WT (ops:=ops) k=some t->¬ S k:=by
    intro k hik hk L _;have⟨o',ho'⟩:=get hk;have ZMi:o'.dst=some t:=by unfold WT at L;rw[ho']at L;exact L
    have:=D.ZOW i k o o' t W ho' A ZMi;omega
   have B:D.tv G t=D.vs i:=Zbu T him E Zdj;have e2:D.tt G t=D.n (i+1):=Zbu T him E Zdj;rw[B,e2,A];intro _;have htn:t<a.tmps.size:=by rw[j.tsz];exact D.dst i o t W A
   have:(a.put (some t) v').tmps.getD t undef=v':=by
    simp[Act.put,Array.getD_eq_getD_getElem?,htn]
   rw[this];exact hvv.mono hle2
  have B:D.tv G t=D.tv S t:=QT T E;have e2:D.tt G t=D.tt S t:=QT T E;rw[B,e2];intro r
  have:(a.put o.dst v').tmps.getD t undef=a.tmps.getD t undef:=by
   cases A:o.dst with|none=>rfl|some d=>
     have hne:d≠t:=fun z=>E (by unfold WT;rw[W,<-z];exact A);simp[Act.put,Array.getD_eq_getD_getElem?,Array.getElem?_setIfInBounds_ne hne]
  rw[this];exact j.tmp t r
 .have:(a.put o.dst v').defers=a.defers:=by cases o.dst<;>rfl
  rw[this];exact j.ds
 .intro x y b d d' ex ey h1 h2;rw[(l x).1]at h1;rw[(l y).1]at h2;exact j.inj x y b d d' ex ey h1 h2
 intro b hb hno;rw[hbl b (Nat.lt_of_lt_of_le hb j.XH)];exact j.frame b hb hno
def J'.next{S:Nat->Prop}{ds:List Deferred}{ρ0 ρ:Ren}{w0 w:World}{a:Act}(j:D.J' S ds ρ0 w0 ρ a w)(hc:Closed ops S){i:Nat}{o:Oper}(L:ops[i]? =some o)(hi:¬ S i)
 (hr:∀e∈o.after,Region.binds .any e=true->S e.on) {F:Fence} (hF:FR' ρ0 rd F) {S':Nat->Prop} (hS:∀k,S' k↔S k\/k=i) {K:Act->World->Prop} {Q:Exit->Act->World->Prop}
 (hK:∀ρ' a' w',D.J' S' ds ρ0 w0 ρ' a' w'->K a' w'):
 if Region.wanted o (yielded ops a.tmps) then o.wpIn F 0 P a w K Q else(∀f,o.about P w a.eval=some f->F.fn f)/\K (a.put o.dst undef) w:=by
 cases hhl:D.hl i with
 | true=>
   have⟨hM,hn,hst⟩:=D.ZSV i o L hhl;refine j.pure (hv:=⟨.nil,D.n i⟩) hc L hi hr hF hS rfl hn hM (hst _) ⟨fun y b d e=>?_,fun y b d e=>?_,fun y z b d d' e e' h1 h2=>?_⟩ hK;.rw[Ren.Xf]at e;exact⟨e.1,(j.dom y b d e.2).1⟩
   .have:(⟨.nil,D.n i⟩:H).at y=.dead:=by unfold H.at;cases Nat.blt y (D.n i)<;>rfl
    rw[this];trivial
   have:(⟨.nil,D.n i⟩:H).at y=.dead:=by unfold H.at;cases Nat.blt y (D.n i)<;>rfl
   rw[this]at h1;cases h1
 | false=>
 cases V:D.soft i with|none=>exact j.step hc L hi hhl V hr hF hS hK|some p=>
   have⟨x,jj⟩:=p;have⟨hij,hjm,T,hM,hn,hp1,hp2,hs1,hs2⟩:=D.ZAh i o x jj L V;have him:i<ops.size:=(Array.getElem?_eq_some_iff.1 L).1;have T:x<D.n i:=T
   have W:∀y b d,ρ y=some (b,d)->y<D.n i->y∉D.Xs i->y≠x->D.hv S y=(D.hs i).at y/\D.cv S y<=D.n i:=fun y b d e1 e2 e3 e4=>
    j.Zb5 hc L hi hr e1 e2 e3 hhl fun j' z=>by rw[V]at z;cases z;exact e4 rfl
   have B:∀(A:Xv),(∀b d,ρ x=some (b,d)->x∉D.Xs i->D.hv S x=A)->(∀(ρ ρ':Ren)(w:World)(b d:Nat)(l:Nat×Nat),Q0 ρ w b d l A->Q0 ρ' w b d l A)->∀(hv:H),hv.size=D.n i ->
    (∀y,hv.at y=if y∈D.Xs i/\y≠x then .dead else if y=x then(if x∈D.Xs i then .dead else A) else(D.hs i).at y)->Rel (ρ.cut (D.n i)) hv w:=by
    intro A hA hpl hv hvs hva
    have C:∀y b d,ρ y=some (b,d)->y<D.n i->hv.at y=.dead\/(hv.at y=D.hv S y/\(y=x\/D.cv S y<=D.n i)/\(y=x->D.hv S y=A)):=by
     intro y b d e1 e2;rw[hva];by_cases r:y=x
     .subst r;rw[if_neg (fun z=>z.2 rfl),if_pos rfl];by_cases t:y∈D.Xs i;.rw[if_pos t];exact .inl rfl
      rw[if_neg t];right;have:=hA b d e1 t;exact⟨this.symm,.inl rfl,fun _=>this⟩
     by_cases t:y∈D.Xs i;.rw[if_pos ⟨t,r⟩];exact .inl rfl
     rw[if_neg fun z=>t z.1,if_neg r];have⟨q1,q2⟩:=W y b d e1 e2 t r;exact .inr ⟨q1.symm,.inr q2,fun z=>absurd z r⟩
    refine⟨fun y b d e=>?_,fun y b d e=>?_,fun y z b d d' e e' h1 h2=>?_⟩;.rw[Ren.Xf]at e;rw[hvs];exact⟨e.1,(j.dom y b d e.2).1⟩
    .rw[Ren.Xf]at e;rcases C y b d e.2 e.1 with q|⟨q1,q2,q3⟩
     .rw[q];trivial
     have:=j.obj y b d e.2;rw[q1];rcases q2 with q2|q2
     .rw[q3 q2]at this ⊢;exact hpl _ _ _ _ _ _ this
     exact this.mono (Ren.Zha q2)
    rw[Ren.Xf]at e e';rcases C y b d e.2 e.1 with q|⟨q1,_,_⟩
    .rw[q]at h1;cases h1
    rcases C z b d' e'.2 e'.1 with q|⟨p1,_,_⟩
    .rw[q]at h2;cases h2
    rw[q1]at h1;rw[p1]at h2;exact j.inj y z b d d' e.2 e'.2 h1 h2
   have hcases:(∀b d,ρ x=some (b,d)->x∉D.Xs i->D.hv S x=(D.hs i).at x)\/(∀b d,ρ x=some (b,d)->x∉D.Xs i->D.hv S x=(D.hs (jj+1)).at x):=by
    by_cases t:x∈D.Xs i;.exact .inl fun _ _ _ z=>absurd t z
    cases hρ:ρ x with
    | none=>exact .inl fun _ _ z=>by cases z
    | some p=>
      have hcr:∀k,k<ops.size->D.n k<=x->x<D.n (k+1)->(S k↔k<i):=by
       intro k hk h1 h2
       have hki:k<i:=by
        rcases Nat.lt_or_ge k i with z|z
        .exact z
        have:=D.QM i k z (by omega);omega
       refine⟨fun _=>hki,fun _=>?_⟩;rcases(j.dom x p.1 p.2 hρ).2 with z|⟨k',q1,q2,q3,q4⟩
       .have:=D.QM 0 k (by omega) (by omega);omega
       have:k'=k:=by
        rcases Nat.lt_trichotomy k' k with z|z|z
        .have:=D.QM (k'+1) k (by omega) (by omega);omega
        .exact z
        have:=D.QM (k+1) k' (by omega) (by omega);omega
       subst this;exact q2
      have key:∀k,k<ops.size->D.tch k x->k≠jj->(S k↔k<i):=by
       intro k hk I X;rcases I with I|⟨h1,h2⟩
       .by_cases hki:k=i;.subst hki;exact absurd I.1 (hM x)
        by_cases E:D.Pb i k\/D.Pb k i;.exact D.Zhc hc L hi hr E
        rcases D.inc i k him hk (Ne.symm hki) (fun z=>E (.inl z)) (fun z=>E (.inr z)) hhl x I.1 I.2 with z|z
        .rcases z.2 with z|z
         .exact absurd z t
         rw[V]at z;cases z;exact absurd rfl X
        have:=D.ZoV him;unfold n at this T;omega
       exact hcr k hk h1 h2
      by_cases hj:S jj/\D.tch jj x
      .right;intro _ _ _ _
       have:∀m,jj<m->m<=ops.size->last ((D.hs 0).at x) (fun k=>(D.hs (k+1)).at x) S (fun k=>D.tch k x) m=(D.hs (jj+1)).at x:=by
        intro m
        induction m with|zero=>intro h;omega|succ m ihm=>
          intro h1 h2;rw[last];by_cases hmj:m=jj;.subst hmj;rw[if_pos hj]
          rw[if_neg];.exact ihm (by omega) (by omega)
          rintro⟨z1,z2⟩;have:=(key m (by omega) z2 hmj).1 z1;omega
       exact this ops.size hjm (Nat.le_refl _)
      left;intro _ _ _ _;unfold hv;refine Zbv _ _ _ _ (fun k=>(D.hs k).at x) rfl (fun k _ _=>rfl) (fun k hk I=>D.keep hk I) (Nat.le_of_lt him) fun k hk I=>?_;by_cases X:k=jj;.subst X;exact⟨fun z=>absurd ⟨z,I⟩ hj,fun z=>by omega⟩
      exact key k hk I X
   have ZrB:(mask (D.Xs i) (D.hs i)).size=D.n i:=Yf _ _;rcases hcases with hA|hA
   .refine j.pure hc L hi hr hF hS ZrB hn hM hs1 (B _ hA hp1 _ ZrB fun y=>?_) hK;rw[Q8];by_cases t:y∈D.Xs i
    .rw[if_pos t];by_cases r:y=x;.subst r;rw[if_neg fun z=>z.2 rfl,if_pos rfl,if_pos t]
     rw[if_pos ⟨t,r⟩]
    rw[if_neg t,if_neg fun z=>t z.1];by_cases r:y=x;.subst r;rw[if_pos rfl,if_neg t]
    rw[if_neg r]
   by_cases t:x∈D.Xs i
   .refine j.pure hc L hi hr hF hS ZrB hn hM hs1 (B ((D.hs i).at x) (fun _ _ _ z=>absurd t z) hp1 _ ZrB fun y=>?_) hK;rw[Q8];by_cases G:y∈D.Xs i
    .rw[if_pos G];by_cases r:y=x;.subst r;rw[if_neg fun z=>z.2 rfl,if_pos rfl,if_pos G]
     rw[if_pos ⟨G,r⟩]
    rw[if_neg G,if_neg fun z=>G z.1];by_cases r:y=x;.subst r;exact absurd t G
    rw[if_neg r]
   refine j.pure (hv:=(mask (D.Xs i) (D.hs i)).put x ((D.hs (jj+1)).at x)) hc L hi hr hF hS (by rw[H.size_put];exact ZrB) hn hM hs2 (B _ hA hp2 _ (by rw[H.size_put];exact ZrB) fun y=>?_) hK;rw[H.Qt,Q8];by_cases r:y=x;.subst r;rw[if_pos ⟨rfl,by rw[ZrB];exact T⟩,if_neg fun z=>z.2 rfl,if_pos rfl,if_neg t]
   rw[if_neg fun z=>r z.1];by_cases G:y∈D.Xs i;.rw[if_pos G,if_pos ⟨G,r⟩]
   rw[if_neg G,if_neg fun z=>G z.1,if_neg r]
def SL(h:V5 Z)(k:Nat):Prop:=h.getD k false=true
def ZcR{h:V5 Z}(l:h.size=ops.size){k:Nat}(p:k<ops.size):h.getD k true=false↔¬ SL h k:=by unfold SL;simp[QP,show k<h.size by omega]
def J'.any{ds:List Deferred}{ρ0:Ren}{w0:World}{F:Fence}(hF:FR' ρ0 rd F){Q:Exit->Act->World->Prop}
 (hQ:∀(S:Nat->Prop) ρ a w,(∀k,k<ops.size->S k)->D.J' S ds ρ0 w0 ρ a w->Q .normal a w):
 ∀(l:Nat)(listed:Array Bool),listed.size=ops.size->((List.range ops.size).filter (fun k=>!listed.getD k true)).length<=l->Closed ops (SL listed) ->
   ∀ρ a w,D.J' (SL listed) ds ρ0 w0 ρ a w->wpAnyIn F 0 P .any ops Q l listed a w:=by
 have y:∀(listed:Array Bool),listed.size=ops.size->Region.ready .any ops listed=[]->∀k,k<ops.size->SL listed k:=by
  intro listed p I k
  induction k using Nat.strongRecOn with|ind k ih=>
    intro t;apply Classical.byContradiction;intro V;have⟨o,x⟩:=get t
    have:k∈Region.ready .any ops listed:=mem_ready.2 ⟨(ZcR p t).2 V,o,x,fun e he K=>by
     have B:=D.Zxm k o e x he K;exact ih e.on B (by omega)⟩
    rw[I]at this;cases this
 intro l;induction l with
 | zero=>
   intro listed p hn hc ρ a w j
   have q:Region.ready .any ops listed=[]:=by
    rw[List.eq_nil_iff_forall_not_mem];intro k t;have⟨h1,o,x,_⟩:=mem_ready.1 t;have B:k<ops.size:=(Array.getElem?_eq_some_iff.1 x).1
    have r:k∈(List.range ops.size).filter (fun k=>!listed.getD k true):=by
     rw[List.mem_filter];exact⟨List.mem_range.2 B,by rw[h1];rfl⟩
    have:=List.length_pos_of_mem r;omega
   exact⟨q,hQ _ ρ a w (y listed p q) j⟩
 | succ l ih=>
   intro listed p hn hc ρ a w j;refine⟨fun q=>hQ _ ρ a w (y listed p q) j,fun i hi=>?_⟩;have⟨h1,o,x,I⟩:=mem_ready.1 hi;have E:i<ops.size:=(Array.getElem?_eq_some_iff.1 x).1;unfold wpOpIn;rw[x]
   have L:∀k,SL (listed.setIfInBounds i true) k↔SL listed k\/k=i:=by
    intro k;unfold SL;by_cases t:k=i;.subst t;simp[Array.getD_eq_getD_getElem?,show k<listed.size by omega]
    rw[getD_set_ne false (Ne.symm t)];simp[t]
   have X:Closed ops (SL (listed.setIfInBounds i true)):=by
    intro G o' e hj A he K;rcases(L G).1 hj with h|h
    .exact(L _).2 (.inl (hc G o' e h A he K))
    subst h;rw[x]at A;cases A;exact(L _).2 (.inl (I e he K))
   refine j.next hc x ((ZcR p E).1 h1) I hF L fun T a' w' G=>ih _ (by simpa using p) ?_ X T a' w' G
   have W:(List.range ops.size).filter (fun k=>!(listed.setIfInBounds i true).getD k true)=((List.range ops.size).filter (fun k=>!listed.getD k true)).filter (fun k=>k≠i):=by
    rw[List.filter_filter];apply List.filter_congr;intro k t;rw[List.mem_range]at t;by_cases C:k=i;.subst C;simp[Array.getD_eq_getD_getElem?,show k<listed.size by omega]
    rw[getD_set_ne true (Ne.symm C)];simp[C]
   rw[W]
   have r:i∈(List.range ops.size).filter (fun k=>!listed.getD k true):=by
    rw[List.mem_filter];exact⟨List.mem_range.2 E,by rw[h1];rfl⟩
   have:(((List.range ops.size).filter (fun k=>!listed.getD k true)).filter (fun k=>k≠i)).length<((List.range ops.size).filter (fun k=>!listed.getD k true)).length:=
    List.length_filter_lt_length_iff_exists.2 ⟨i,r,by simp⟩
   omega
def ZLR(D:Data P nn V rd ops){x:Nat}(l:x<V):∀k,k<=ops.size->(D.hs k).at x=(D.hs 0).at x:=by
 intro k
 induction k with|zero=>intro _;rfl|succ k ih=>
   intro p;rw[D.keep Vb ?_];.exact ih Vb
   rintro(h|h);.have:=D.wmM k x Vb h.1;omega
   have h1:=D.QM 0 k Vb Vb;have h2:=D.ZvX;have q:D.n 0=(D.hs 0).size:=rfl;omega
def J'.start{ds:List Deferred}{ρ:Ren}{a:Act}{w:World}(A:Inv ρ nn {fr:=D.fs 0,ds:=ds,h:=D.hs 0} a w):D.J' (SL (Array.replicate ops.size false)) ds ρ w ρ a w:=by
 have l:∀k,¬ SL (Array.replicate ops.size false) k:=by
  intro k;unfold SL;rw[Array.getD_eq_getD_getElem?,Array.getElem?_replicate];split<;>simp
 have E:∀x,D.hv (SL (Array.replicate ops.size false)) x=(D.hs 0).at x:=fun x=>Zem _ _ _ _ fun k _ _=>l k;have I:∀x,D.cv (SL (Array.replicate ops.size false)) x=D.n 0:=fun x=>Zem _ _ _ _ fun k _ _=>l k;have G:∀x,D.tv (SL (Array.replicate ops.size false)) x=(D.fs 0).at x:=fun x=>Zem _ _ _ _ fun k _ _=>l k;have F:∀x,D.tt (SL (Array.replicate ops.size false)) x=D.n 0:=fun x=>Zem _ _ _ _ fun k _ _=>l k;have q:∀x p,ρ x=some p->x<D.n 0:=A.rel.lt;have r:=Ren.ZLP q;refine{dom:= ?_,obj:= ?_,tsz:=A.fr.size,tmp:= ?_,ds:=A.ds.mono r,inj:= ?_,ext:=Ren.le_refl _,Zsz:=q,os:=rfl,tape:=rfl,output:=rfl,XH:=Nat.le_refl _,frame:=fun _ _ _=>rfl,Ud:= ?_};.intro x b d e;exact⟨(A.rel.dom x b d e).2,.inl (q _ _ e)⟩
 .intro x b d e;rw[E,I];exact(A.rel.obj x b d e).mono r
 .intro t;rw[G,F];intro B;exact(A.fr.val t B).mono r
 .intro x y b d K e C h1 h2;rw[E]at h1 h2;exact A.rel.inj x y b d K e C h1 h2
 intro i b d e C;rw[e]at C;cases C
def J'.finish{S:Nat->Prop}(I:∀k,k<ops.size->S k){ds:List Deferred}{ρ0 ρ:Ren}{w0 w:World}{a:Act}(j:D.J' S ds ρ0 w0 ρ a w):
 Qz V nn ρ0 (D.hs 0) w0 .normal {fr:=D.fs ops.size,ds:=ds,h:=D.hs ops.size} .normal a w:=by
 have p:∀(E:Nat->Prop) k,k<ops.size->E k->(S k↔k<ops.size):=fun E k l _=>⟨fun _=>l,fun _=>I k l⟩
 have C:∀x,D.hv S x=(D.hs ops.size).at x:=fun x=>by
  unfold hv;exact Zbv _ _ _ _ (fun k=>(D.hs k).at x) rfl (fun k _ _=>rfl) (fun k l G=>D.keep l G) (Nat.le_refl _) (p _)
 have F:∀t,D.tv S t=(D.fs ops.size).at t:=fun t=>by
  have r:∀k,k<ops.size->(D.fs (k+1)).at t=if WT (ops:=ops) k=some t then D.vs k else(D.fs k).at t:=by
   intro k l;have⟨o',ho'⟩:=get l;have⟨h1,_,_,_,e⟩:=D.step k o' ho';rw[e,ZoB];unfold WT;rw[ho'];rfl
  unfold tv;exact Zbv _ _ _ _ (fun k=>(D.fs k).at t) rfl (fun k l B=>by rw[r k l,if_pos B]) (fun k l B=>by rw[r k l,if_neg B]) (Nat.le_refl _) (p _)
 refine⟨ρ,.normal,⟨⟨?_,?_,?_⟩,⟨j.tsz,?_⟩,j.ds.mono Ren.Zl4⟩,⟨j.ext,D.QM 0 _ (by omega) (by omega),fun i q=>D.ZLR q _ (by omega),fun i q h=>D.ZRe q _ (by omega) h,fun i q h=>D.ZRr q _ (by omega) h,
  j.os,j.tape,j.output,j.XH,j.frame,j.Ud⟩⟩
 .intro x b d e;have⟨q1,q2⟩:=j.dom x b d e;refine⟨?_,q1⟩;rcases q2 with z|⟨k,z1,z2,z3,z4⟩
  .exact Nat.lt_of_lt_of_le z (D.QM 0 _ (by omega) (by omega))
  exact Nat.lt_of_lt_of_le z4 (D.QM (k+1) _ (by omega) (by omega))
 .intro x b d e;have:=(j.obj x b d e).mono Ren.Zl4;rwa[C]at this
 .intro x y b d L e K h1 h2;exact j.inj x y b d L e K (by rw[C];exact h1) (by rw[C];exact h2)
 intro t;intro A;have:=(j.tmp t (by rw[F];exact A)).mono Ren.Zl4;rwa[F]at this
def region(D:Data P nn V rd ops)(t:P.follows .mixedOrders=true){ds:U V7}{ρ:Ren}{a:Act}{w:V4}{F:Fence}(l:Inv ρ nn {fr:=D.fs 0,ds:=ds,h:=D.hs 0} a w)(y:FR' ρ rd F)(id:Nat):
 (Code.region id ops true).wpIn F 0 P (Qz V nn ρ (D.hs 0) w .normal {fr:=D.fs ops.size,ds:=ds,h:=D.hs ops.size}) a w:=by
 refine wpIn_region_any t ?_;have q:Inv ρ nn {fr:=D.fs 0,ds:=ds,h:=D.hs 0} a {w with drawn:=w.drawn+1}:=⟨⟨l.rel.dom,fun i b d e=>(l.rel.obj i b d e).world rfl,l.rel.inj⟩,l.fr,l.ds⟩;refine J'.any (D:=D) (ds:=ds) (ρ0:=ρ) (w0:= {w with drawn:=w.drawn+1}) y (fun S r A w' x j=>?_) ops.size _ (by simp) (KK (List.length_filter_le _ _) (by simp)) ?_ ρ a _ (J'.start q);.have⟨ρ2,q1,q2,q3⟩:=j.finish x;exact⟨ρ2,q1,q2,⟨q3.ext,q3.size,q3.keep,q3.own,q3.live,q3.os,q3.tape,q3.output,q3.XH,q3.frame,q3.Ud⟩⟩
 intro k o e p;exfalso;unfold SL at p;rw[QP,Array.getElem?_replicate]at p;split at p<;>simp at p
end Data
end
section
def Zxt(a b n:Nat):bit (Nat.lor a b) n=(bit a n||bit b n):=by rw[Zma,Zma,Zma];exact Nat.testBit_or a b n
def ZIN(a n:Nat):bit (Nat.pow 2 a) n=true↔a=n:=by rw[Zma];have:Nat.pow 2 a=2 ^ a:=rfl;rw[this,Nat.testBit_two_pow];simp
def ZsP(n:Nat):bit 0 n=false:=by rw[Zma];simp
def Zdb(h:U Nat)(i:Nat):U Edge->Nat
 | []=>0
 | e::es=>bif Region.binds .any e&&Nat.blt e.on i then Nat.lor (Nat.lor (Nat.pow 2 e.on) (h.getD e.on 0)) (Zdb h i es) else Zdb h i es
def J2:U Oper->Nat->U Nat->U Nat
 | [],_,ps=>ps
 | o::l,i,ps=>J2 l (i+1) (ps++[Zdb ps i o.after.toList])
def Zq3{p:U Nat}{i k:Nat}:∀(es:U Edge),bit (Zdb p i es) k=true->∃e∈es,Region.binds .any e=true/\e.on<i/\(k=e.on\/bit (p.getD e.on 0) k=true):=by
 intro es
 induction es with|nil=>intro h;simp[Zdb,ZsP]at h|cons e es ih=>
   intro h;simp only[Zdb]at h;cases l:(Region.binds .any e&&Nat.blt e.on i)<;>rw[l]at h<;>simp only[Cq1,Cq0]at h;.have⟨e',h1,h2⟩:=ih h;exact⟨e',Kd _ h1,h2⟩
   rw[Ba0,Gd]at l;rw[Zxt,Zxt,Bool.or_eq_true,Bool.or_eq_true]at h;rcases h with(h|h) | h
   .exact⟨e,by simp,l.1,l.2,.inl ((ZIN _ _).1 h).symm⟩
   .exact⟨e,by simp,l.1,l.2,.inr h⟩
   have⟨e',h1,h2⟩:=ih h;exact⟨e',Kd _ h1,h2⟩
def Zq2:∀(l:U Oper)(i:Nat)(p:U Nat),p.length=i->(∀k,k<i->(J2 l i p).getD k 0=p.getD k 0)/\
 ∀(j:Nat)(k:Nat),i<=j->bit ((J2 l i p).getD j 0) k=true->∃o,l[j-i]? =some o/\∃e∈o.after.toList,Region.binds .any e=true/\(k=e.on\/bit ((J2 l i p).getD e.on 0) k=true):=by
 intro l;induction l with
 | nil=>
   intro i p t;refine⟨fun _ _=>rfl,fun j k y h=>?_⟩;simp only[J2]at h;rw[GR,G0 Vb]at h;simp[ZsP]at h
 | cons o l ih=>
   intro i p t;have⟨h1,h2⟩:=ih (i+1) (p++[Zdb p i o.after.toList]) (by simp[t])
   have q:∀k,k<i->(J2 (o::l) i p).getD k 0=p.getD k 0:=by
    intro k r;simp only[J2];rw[h1 k Vb,GR,GT Vb,<-GR]
   refine⟨q,fun j k y h=>?_⟩;by_cases x:j=i
   .subst x;refine⟨o,by simp,?_⟩
    have e:(J2 (o::l) j p).getD j 0=Zdb p j o.after.toList:=by
     simp only[J2];rw[h1 j Vb,GR,GW Vb];simp[t]
    rw[e]at h;have⟨e,he,hb,hlt,r⟩:=Zq3 _ h;refine⟨e,he,hb,r.imp id fun r=>?_⟩;rw[q e.on hlt];exact r
   simp only[J2]at h ⊢;have⟨o',ho',e,he⟩:=h2 j k Vb h;exact⟨o',by rw[show j-i=(j-(i+1))+1 by omega];exact ho',e,he⟩
def UI(p:Nat->Oper->Z):U Oper->Nat->Z
 | [],_=>true
 | o::l,i=>p i o&&UI p l (i+1)
def Qx{p:Nat->Oper->Z}:∀(l:U Oper)(i:Nat),UI p l i=true->∀k o,l[k]? =some o->p (i+k) o=true:=by
 intro l
 induction l with|nil=>intro i _ k o h;simp at h|cons o l ih=>
   intro i h k r q;simp only[UI,Ba0]at h;cases k with|zero=>simp at q;subst q;exact h.1|succ k=>
     have:=ih (i+1) h.2 k r (by simpa using q);rwa[show i+1+k=i+(k+1) by omega]at this
def isT(d:O Tmp)(t:Tmp):Z:=
 match d with|some d=>Nat.beq d t|none=>false
def ZjM{d:O Tmp}{t:Tmp}:isT d t=true↔d=some t:=by cases d with|none=>simp[isT]|some d=>simp[isT,Nat.beq_eq]
def comp(h:U Nat)(i j:Nat):Z:=bif Nat.blt i j then bit (h.getD j 0) i else bit (h.getD i 0) j
def Zij(i:Nat)(o:Oper):Z:=o.after.toList.all fun e=>bif Region.binds .any e then Nat.blt e.on i else true
def Zt6(ops:U Oper)(h:U Nat)(i:Nat)(o:Oper):Z:=
 (looks ops o).all fun t=>UI (fun k l=>bif isT l.dst t then Nat.beq k i||comp h i k else true) ops 0
def Zsx(ops:U Oper)(i:Nat)(o:Oper):Z:=
 match o.dst with|none=>true|some t=>UI (fun k h=>bif isT h.dst t then Nat.beq k i else true) ops 0
def ZRw(h:U Nat)(m i:Nat):U Nat:=(List.range m).filter fun j=>bif Nat.beq i j then false else !comp h i j
def ZJr(ops:U Oper)(h:U Nat):O (U (U Nat)):=
 bif UI Zij ops 0&&UI (Zt6 ops h) ops 0&&UI (Zsx ops) ops 0 then some ((List.range ops.length).map (ZRw h ops.length)) else none
def plan(ops:U Oper):O (U (U Nat)):=ZJr ops (J2 ops 0 [])
def YD(o:Oper):Z:=
 match o.op with|.move _ | .assign _ | .pick .. | .build .. | .nilCheck _ | .binOp .. | .unOp .. | .makeInterface .. | .makeFunc .. | .fieldAddr .. | .field .. | .indexAddr .. | .typeAssert .. | .extract .. =>true|_=>false
def hlAt(ops:U Oper)(j:Nat):Z:=
 match ops[j]? with|some o=>YD o|none=>false
def ZrW(ops:U Oper)(o:Oper)(h:U Nat):Z:= !YD o&&h.all (hlAt ops)
def Zp9{X:Ctx}(h g:H){ev:V0->O N}{o:Oper}(l:YD o=true):XM X g ev o=XM X h ev o:=by unfold YD at l;unfold XM;split at l<;>first | (cases l;done) | (rename_i e;rw[e])
def ZUY(X:Ctx)(p:V3->Z)(ih:WI->O QJ)(n V:Nat)(wr:O Nat)(ops:U Oper):U Oper->U (U Nat)->U (U Nat)->Fr->H->O (U (O Nat×Nat)×U (Fr×H×N)×Fr×H)
 | [],_,_,fr,h=>some ([],[],fr,h)
 | o::l,inc::Qn,X'::Xs,fr,h=>
   match ZaH X p ih n V wr (ZrW ops o inc) ops o fr (mask X' h) with
   | some (t,v,h1)=>match ZUY X p ih n V wr ops l Qn Xs (U6 fr o.dst v) (QW X' h h1) with|some (tl,st,XI,h2)=>some ((t,h.size)::tl,(fr,h,v)::st,XI,h2)|none=>none
   | none=>none
 | _::_,_,_,_,_=>none
def ZW0(t:O Nat)(X:U Nat):Z:=
 match t with|none=>true|some x=>!X.contains x
def tIn(h:Z)(l:U (O Nat×Nat))(n p:Nat)(X:U Nat)(j:Nat):Z:=
 match(l.getD j (none,0)).1 with|none=>true|some x=>(Nat.blt x n&&(h||X.contains x))||Nat.ble p x
def ZRm(rest:U (O Nat×Nat))(h:Nat):Nat:=
 match rest with|(_,n)::_=>n|[]=>h
def ckF(h:Z)(ops:U Oper)(l:U (O Nat×Nat))(p:Nat):U Oper->U (O Nat×Nat)->U (U Nat)->U (U Nat)->Z
 | o::os,(t,n)::rest,inc::Qn,X::Xs=>(bif YD o then true else bif inc.all (hlAt ops) then X.isEmpty else ZW0 t X&&inc.all (tIn h l n (ZRm rest p) X))&&ckF h ops l p os rest Qn Xs
 | [],_,_,_=>true
 | _,_,_,_=>false
def ZJj(a b:Value):Bool:=
 match a,b with|.int k n,.int k' m=>decide (k=k')&&decide (n=m)|.bool x,.bool y=>x==y|.string s,.string s'=>decide (s.data.toList=s'.data.toList)|.pointer none,.pointer none=>true|.slice none 0 0,.slice none 0 0=>true|.map none,.map none=>true|.nilIface,.nilIface=>true|_,_=>false
def ZAq:U N->U N->Z
 | [],[]=>true
 | a::YF,b::bs=>ZJj a b&&ZAq YF bs
 | _,_=>false
def ZQY(a b:N):Z:=
 match a,b with|.agg xs,.agg ys=>ZAq xs.toList ys.toList|.tuple xs,.tuple ys=>ZAq xs.toList ys.toList|a,b=>ZJj a b
def Zq4:Xv->Z
 | .row cs _ _=>cs.all plain
 | .map es _=>es.all fun e=>plain e.val
 | _=>false
def ZLl(h:U (O Nat×Nat))(n:Nat)(X:U Nat)(j:Nat):O (Nat×Nat):=
 match(h.getD j (none,0)).1 with|some x=>bif Nat.blt x n && !X.contains x then some (x,j) else none|none=>none
def ZQT(l:U (O Nat×Nat))(n:Nat)(X h:U Nat):U (Nat×Nat):=h.filterMap (ZLl l n X)
def hAt(l:U (Fr×H×N))(p:H)(k:Nat):H:=
 match l[k]? with|some (_,h,_)=>h|none=>p
def ZQS(X:Ctx)(h:V3->Z)(ih:WI->O QJ)(n V:Nat)(wr:O Nat)(ops:U Oper)(o:Oper)(fr:Fr)(g:H)(v:N):Z:=
 match ZaH X h ih n V wr false ops o fr g with|some (none,v',h1)=>Nat.beq h1.size g.size&&ZQY v v'|_=>false
def ZFT(X:Ctx)(t:V3->Z)(ih:WI->O QJ)(n V:Nat)(wr:O Nat)(ops:U Oper)(r:U (U Nat))(q:U (O Nat×Nat))(l:U (Fr×H×N))(p:H)(i x j:Nat):Z:=
 match ops[i]?,l[i]? with
 | some o,some (fr,h,v)=>Nat.blt i j&&(q.getD i (none,0)).1.isNone&&Nat.beq (hAt l p (i+1)).size h.size&&Zq4 (h.at x)&&Zq4 ((hAt l p (j+1)).at x) &&
    ZQS X t ih n V wr ops o fr ((mask (r.getD i []) h).put x ((hAt l p (j+1)).at x)) v
 | _,_=>false
def ZLm(X:Ctx)(y:V3->Z)(ih:WI->O QJ)(n V:Nat)(wr:O Nat)(ops:U Oper)(r l:U (U Nat))(h:U (O Nat×Nat))(t:U (Fr×H×N))(x:H)(i:Nat):Z:=
 bif(r.getD i []).isEmpty then true else
 match ZQT h (h.getD i (none,0)).2 (l.getD i []) (r.getD i []) with|[]=>true|p::q=>bif q.isEmpty then ZFT X y ih n V wr ops l h t x i p.1 p.2 else false
def Zg7(X:Ctx)(r:V3->Z)(ih:WI->O QJ)(n V:Nat)(l:Z)(ops:U Oper)(q p:U (U Nat))(s:Fs):O (U (O Nat×Nat)×Z×Fs):=
 match ZUY X r ih n V s.wr ops ops q p s.fr s.h with
 | some (tl,st,fr,h)=>some (tl,ckF l ops tl h.size ops tl q p&&(bif l then(List.range ops.length).all (ZLm X r ih n V s.wr ops q p tl st h) else true),{s with fr:=fr,h:=h})
 | none=>none
def Zgo(l:U (O Nat×Nat))(h:U Nat):U Nat:=h.filterMap fun j=>(l.getD j (none,0)).1
def ZLS(o:Oper):Z:=
 match o.op with|.lookup .. =>true|_=>false
def ZAg(h:U (O Nat×Nat)):U Oper->U (U Nat)->U (U Nat)
 | o::ops,inc::Qn=>(bif ZLS o then [] else Zgo h inc)::ZAg h ops Qn
 | _,_=>[]
def ZLL(r:O (U (O Nat×Nat)×Z×Fs))(k:O Fs):O Fs:=
 match r with|some (_,true,s)=>some s|_=>k
def ZEh(fr:Fr)(o:Oper):O Nat:=
 o.op.operands.toList.findSome? fun x=>match YI fr x with|some (.slice (some a) _ _)=>some a.block|_=>none
def ZAp(X:Ctx)(p:V3->Z)(ih:WI->O QJ)(n V:Nat)(wr:O Nat)(ops:U Oper):U Oper->U (U Nat)->Fr->H->O (U (O Nat×Nat×Z))
 | o::l,inc::Qn,fr,h=>
   match ZaH X p ih n V wr (ZrW ops o inc) ops o fr h with
   | some (t,v,h1)=>match ZAp X p ih n V wr ops l Qn (U6 fr o.dst v) h1 with|some q=>some ((t,h.size,false)::q)|none=>none
   | none=>match ZaH X p ih n V wr true ops o fr h with
     | some (_,v,h1)=>match ZAp X p ih n V wr ops l Qn (U6 fr o.dst v) h1 with|some q=>some ((ZEh fr o,h.size,true)::q)|none=>none
     | none=>none
 | _,_,_,_=>some []
def upTo:Nat->Nat->U Nat
 | 0,_=>[]
 | k+1,y=>y::upTo k (y+1)
def ZoD(h:U (O Nat×Nat)):U (O Nat×Nat×Z)->U (U Nat)->U (U Nat)
 | (some x,n,true)::l,inc::Qn=>(Zgo h (inc.filter fun j=>match(h.getD j (none,0)).1 with|some y=>Nat.blt y x|none=>false)++upTo (n-(x+1)) (x+1))::ZoD h l Qn
 | _::l,inc::Qn=>Zgo h inc::ZoD h l Qn
 | _,_=>[]
def ZVv(X:Ctx)(r:V3->Z)(ih:WI->O QJ)(n V:Nat)(ops:U Oper)(s:Fs):O Fs:=
 match plan ops with
 | some l=>match Zg7 X r ih n V false ops l (l.map fun _=>[]) s with
   | some (q,ok,s')=>bif ok then some s' else ZLL (Zg7 X r ih n V false ops l (l.map (Zgo q)) s) (ZLL (Zg7 X r ih n V true ops l (ZAg q ops l) s) none)
   | none=>match ZAp X r ih n V s.wr ops ops l s.fr s.h with
     | some q=>ZLL (Zg7 X r ih n V false ops l (ZoD (q.map fun p=>(p.1,p.2.1)) q l) s) none
     | none=>none
 | none=>none
variable{X:Ctx}{JZ:V3->Z}{ih:WI->O QJ}
def Zxr{l:U Nat}{i k:Nat}(h:comp l i k=true):bit (l.getD i 0) k=true\/bit (l.getD k 0) i=true:=by
 unfold comp at h;cases p:Nat.blt i k<;>rw[p]at h;.exact .inl h
 exact .inr h
inductive Zfh where
 | lst (l:List Nat)
 | all (n:Nat) (R:List Nat)
def Zfh.get(V:Nat):Zfh->U Nat
 | .lst l=>l
 | .all n R=>(upTo (n-V) V).filter fun x=>!R.contains x
def ZzV(w:Z)(o:Oper):Z:=w && !YD o
def ZKA(X:Ctx)(p:V3->Z)(ih:WI->O QJ)(n V:Nat)(wr:O Nat)(ops:U Oper):U Oper->U (U Nat)->U (Zfh×Z)->Fr->H->O (U (O Nat×Nat)×Fr×H)
 | [],_,_,fr,h=>some ([],fr,h)
 | o::l,inc::Qn,sp::sps,fr,h=>
   match ZaH X p ih n V wr (ZrW ops o inc||ZzV sp.2 o) ops o fr (mask (sp.1.get V) h) with
   | some (t,v,h1)=>match ZKA X p ih n V wr ops l Qn sps (U6 fr o.dst v) (QW (sp.1.get V) h h1) with|some (tl,XI,h2)=>some ((t,h.size)::tl,XI,h2)|none=>none
   | none=>none
 | _::_,_,_,_,_=>none
def xAt(h:U (Zfh×Z))(j:Nat):Zfh:=(h.getD j (.lst [],false)).1
def wAt(ops:U Oper)(h:U (Zfh×Z))(j:Nat):Z:=
 match ops[j]? with|some o=>ZzV (h.getD j (.lst [],false)).2 o|none=>false
def eqL:U Nat->U Nat->Z
 | [],[]=>true
 | a::l,b::m=>Nat.beq a b&&eqL l m
 | _,_=>false
def nAt(h:U (O Nat×Nat))(l k:Nat):Nat:=
 match h[k]? with|some p=>p.2|none=>l
def ckJ(V:Nat)(ops:U Oper)(h:U (Zfh×Z))(l:U (O Nat×Nat))(p i j:Nat):Z:=
 bif wAt ops h j then(match xAt h i,xAt h j with|.all n R,.lst R'=>Nat.beq n (nAt l p j)&&eqL R R'&&Nat.beq (nAt l p (i+1)) (nAt l p i)|_,_=>false)
 else match(l.getD j (none,0)).1 with|none=>true|some x=>(Nat.blt x (nAt l p i)&&((xAt h i).get V).contains x)||Nat.ble (nAt l p (i+1)) x
def ckI(V:Nat)(ops:U Oper)(l:U (U Nat))(h:U (Zfh×Z))(p:U (O Nat×Nat))(q i:Nat):Z:=
 match ops[i]? with
 | some o=>YD o||ZrW ops o (l.getD i [])||(bif wAt ops h i then(l.getD i []).all (fun j=>hlAt ops j||(!wAt ops h j&&(p.getD j (none,0)).1.isNone)) else(l.getD i []).all (ckJ V ops h p q i))
 | none=>false
def ZtN(X:Ctx)(p:V3->Z)(ih:WI->O QJ)(n V:Nat)(wr:O Nat)(ops:U Oper):U Oper->U (U Nat)->Fr->H->O (U (O Nat×Nat×Z)×Fr)
 | o::l,inc::Qn,fr,h=>
   match ZaH X p ih n V wr (ZrW ops o inc) ops o fr h with
   | some (t,v,h1)=>match ZtN X p ih n V wr ops l Qn (U6 fr o.dst v) h1 with|some (tl,XI)=>some ((t,h.size,false)::tl,XI)|none=>none
   | none=>match ZaH X p ih n V wr true ops o fr h with
     | some (_,v,h1)=>match ZtN X p ih n V wr ops l Qn (U6 fr o.dst v) h1 with|some (tl,XI)=>some ((none,h.size,true)::tl,XI)|none=>none
     | none=>none
 | _,_,fr,_=>some ([],fr)
def ZIM(fr:Fr)(x:V0):O Nat:=
 match YI fr x with|some (.pointer (some a))=>some a.block|some (.slice (some a) _ _)=>some a.block|some (.map (some b))=>some b|_=>none
def ZJA(ops:U Oper)(fr:Fr)(h:U Nat):U Nat:=
 h.flatMap fun j=>match ops[j]? with|some o=>bif YD o then [] else o.op.operands.toList.filterMap (ZIM fr)|none=>[]
def specs(ops:U Oper)(h:U (O Nat×Nat×Z))(fr:Fr)(q:U (U Nat)):U Oper->U (U Nat)->U (O Nat×Nat×Z)->U (Zfh×Z)
 | o::l,inc::is,(_,_,w)::tr=>(bif w then(.lst (ZJA ops fr inc),true) else match inc.find? fun j=>(h.getD j (none,0,false)).2.2 with|some j=>bif YD o then(.lst [],false) else(.all (h.getD j (none,0,false)).2.1 (ZJA ops fr (q.getD j [])),false)|none=>(.lst (Zgo (h.map fun p=>(p.1,p.2.1)) inc),false))::specs ops h fr q l is tr
 | _,_,_=>[]
def ZUZ(X:Ctx)(q:V3->Z)(ih:WI->O QJ)(n V:Nat)(ops:U Oper)(p:U (U Nat))(l:U (Zfh×Z))(s:Fs):O Fs:=
 match ZKA X q ih n V s.wr ops ops p l s.fr s.h with
 | some (tl,fr,h)=>bif(List.range ops.length).all (ckI V ops p l tl h.size) then some {s with fr:=fr,h:=h} else none
 | none=>none
def ZPE(X:Ctx)(p:V3->Z)(ih:WI->O QJ)(n V:Nat)(ops:U Oper)(s:Fs):O Fs:=
 match plan ops with
 | some l=>match ZtN X p ih n V s.wr ops ops l s.fr s.h with|some (tl,fr)=>ZUZ X p ih n V ops l (specs ops tl fr l ops l tl) s|none=>none
 | none=>none
def ZPF(X:Ctx)(h:V3->Z)(ih:WI->O QJ)(n V:Nat)(ops:U Oper)(s:Fs):O Fs:=
 match ZVv X h ih n V ops s with|some l=>some l|none=>ZPE X h ih n V ops s
def cfg(X:Ctx)(h:V3->Z):Cfg:=⟨X,h,fun ih n V _ ops s=>ZPF X h ih n V ops s⟩
end
section
variable{X:Ctx}{ih:WI->O QJ}
structure FsW(s s':Fs):Prop where
 wr:s'.wr=s.wr
 fr:∀t,allowed s.wr t=false->s'.fr.at t=s.fr.at t
 ds:∃l,s'.ds=l++s.ds
def ZVX:WI->QJ->Prop
 | .code _ _ _ _ s,r=>∀e h,r=.code e h->FsW s h
 | .loop _ _ _ _ s,r=>∀e h,r=.code e h->FsW s h
 | _,_=>True
def Qd{T:U Nat}{fr:Fr}{t:Nat}:(Y4 T fr).at t=if t∈T then ZEB else fr.at t:=by
 induction T generalizing fr with|nil=>simp[Y4]|cons x T ih=>
   rw[Y4,ih];by_cases h:t∈T;.simp[h]
   by_cases l:t=x;.subst l;simp[h,Fr.at,Tr.Qp]
   simp[h,l,Fr.at,Tr.Qp]
section
variable(HI:∀j r,ih j=some r->ZVX j r)
include HI
end
end
section
variable{X:Ctx}{ih:WI->O QJ}{ρ:Ren}{w:V4}
def VR.back{ρ B:Ren}(y:ρ.le B){v L:N}(h:VR ρ v L):∀{r1:N},VR B v r1->VR ρ v r1:=by
 induction h with
 | bool b=>intro r1 h;cases h;exact .bool b
 | int k n=>intro r1 h;cases h;exact .int k n
 | float k b=>intro r1 h;cases h;exact .float k b
 | complex k a b=>intro r1 h;cases h;exact .complex k a b
 | string s=>intro r1 h;cases h;exact .string s
 | Zyc=>intro r1 h;cases h;exact .Zyc
 | ptr o p=>
   intro r1 h;cases h with|ptr _ h1=>have:=(y _ _ p).1;rw[h1]at this;cases this;exact .ptr o p
 | Zat=>intro r1 h;cases h;exact .Zat
 | slice o n c c' p T=>
   intro r1 h;cases h with
   | slice _ _ _ G h1 l=>
     have⟨q1,q2⟩:=y _ _ p;rw[h1]at q1;cases q1;rw[q2]at l;exact .slice o n c G p l
   | Qf _ I _ h1 l=>
     have⟨q1,q2⟩:=y _ _ p;rw[h1]at q1;cases q1;exact .Qf o I c p l
 | Qf o I c p T=>
   intro r1 h;cases h with
   | slice _ _ _ G h1 l=>
     have⟨q1,q2⟩:=y _ _ p;rw[h1]at q1;cases q1;rw[q2]at l;exact .slice o 0 c G p l
   | Qf _ P _ h1 l=>
     have⟨q1,q2⟩:=y _ _ p;rw[h1]at q1;cases q1;exact .Qf o P c p l
 | Wh a=>
   intro r1 h;cases h with|Wh V=>exact .Wh V
 | Zyk=>intro r1 h;cases h;exact .Zyk
 | map p=>
   intro r1 h;cases h with|map h1=>have:=(y _ _ p).1;rw[h1]at this;cases this;exact .map p
 | Zn7=>intro r1 h;cases h;exact .Zn7
 | nilFunc=>intro r1 h;cases h;exact .nilFunc
 | nilIface=>intro r1 h;cases h;exact .nilIface
 | func fn xs ys q C D K W h1 h2 S Q=>
   intro r1 h;cases h with
   | func _ _ _ r E _ x F k1 k2=>
     refine .func fn xs ys r E D x F (fun i v v' a b=>?_) (fun i v v' a b=>?_);.have A:i<xs.size:=(G4.1 a).1;exact S i v (q[i]'Vb) a (by simp[show i<q.size by omega]) (k1 i v v' a b)
     have A:i<ys.size:=(G4.1 a).1;exact Q i v (C[i]'Vb) a (by simp[show i<C.size by omega]) (k2 i v v' a b)
   | yield h1=>exact absurd rfl (D _)
 | yield p=>
   intro r1 h;cases h with|func _ _ _ _ _ D=>exact absurd rfl (D _)|yield h1=>have:=(y _ _ p).1;rw[h1]at this;cases this;exact .yield p
 | iface t v v' _ ih=>intro r1 h;cases h with|iface _ _ v2 h=>exact .iface t v v2 (ih h)
 | agg xs q K _ ih=>
   intro r1 h;cases h with|agg _ r x k=>
     refine .agg xs r x fun i v v' a b=>?_;have A:i<xs.size:=(G4.1 a).1;exact ih i v (q[i]'Vb) a (by simp[show i<q.size by omega]) (k i v v' a b)
 | tuple xs q K _ ih=>
   intro r1 h;cases h with|tuple _ r x k=>
     refine .tuple xs r x fun i v v' a b=>?_;have A:i<xs.size:=(G4.1 a).1;exact ih i v (q[i]'Vb) a (by simp[show i<q.size by omega]) (k i v v' a b)
def Ub.back{ρ l:Ren}(p:ρ.le l){xs ys zs:V5 N}(h:Ub ρ xs ys)(k:Ub l xs zs):Ub ρ xs zs:=
 ⟨k.1,fun i v v' a b=>by
   have q:i<xs.size:=(G4.1 a).1;have:=h.1;exact VR.back p (h.2 i v (ys[i]'Vb) a (by simp[show i<ys.size by omega])) (k.2 i v v' a b)⟩
def Zqi.back{ρ l:Ren}(p:ρ.le l){d q d2:V7}(h:Zqi ρ d q)(k:Zqi l d d2):Zqi ρ d d2:=by have⟨⟨f,c,c1,e1,e2,e3⟩,e4⟩:=h;have⟨⟨f',c',c2,k1,k2,k3⟩,k4⟩:=k;rw[e1]at k1;cases k1;exact⟨⟨f,c,c2,e1,k2,Ub.back p e3 k3⟩,Ub.back p e4 k4⟩
def DsR.back{ρ l:Ren}(t:ρ.le l){ds A:U V7}(h:DsR ρ ds A):∀{d2:U V7},DsR l ds d2->DsR ρ ds d2:=by
 induction h with
 | nil=>intro d2 h;cases h;exact .nil
 | cons y _ ih=>
   intro d2 h;cases h with|cons q p=>exact .cons (y.back t q) (ih p)|mark r p=>have⟨⟨_,_,_,e1,_⟩,_⟩:=y;cases e1
 | mark x _ ih=>
   intro d2 h;cases h with|cons q p=>have⟨⟨_,_,_,e1,_⟩,_⟩:=q;cases e1|mark r p=>have:=(t _ _ x).1;rw[r]at this;cases this;exact .mark x (ih p)
def Rel.congr{h l:H}(r:Rel ρ h w)(p:l.size=h.size)(he:∀i,l.at i=h.at i):Rel ρ l w:=
 ⟨fun i b d e=>by rw[p];exact r.dom i b d e,fun i b d e=>by rw[he];exact r.obj i b d e,fun i j b d t e q h1 h2=>by rw[he]at h1 h2;exact r.inj i j b d t e q h1 h2⟩
def Zkr{h:H}{w w':V4}{i b:Nat}{A:Xv}(r:Rel ρ (h.put i .dead) w)(E:ρ i=some (b,0))(C:∀j t d,ρ j=some (t,d)->t=b->j≠i->(h.at j).live=true->False)
 (P:∀k,k≠b->w'.heap[k]? =w.heap[k]?) (L:w'.heap.size=w.heap.size) (Q:Q0 ρ w' b 0 (ρ.lim i) A):Rel ρ (h.put i A) w':=by
 have D:=(r.dom i b 0 E).1;rw[H.size_put]at D;have l:∀(B:Xv) j,j≠i->(h.put i B).at j=h.at j:=fun B j q=>by rw[H.Qt,if_neg (fun x=>q x.1)]
 have Zuo:(h.put i A).at i=A:=by rw[H.Qt,if_pos ⟨rfl,D⟩]
 refine⟨fun j t d e=>by have:=r.dom j t d e;rw[H.size_put]at *;omega,fun j t d e=>?_,fun j k t d K e F G y=>?_⟩
 .by_cases q:j=i;.subst q;rw[E]at e;cases e;rw[Zuo];exact Q
  rw[l A j q];by_cases I:t=b
  .by_cases y:(h.at j).live=true;.exact(C j t d e I q y).elim
   rw[UR y];trivial
  have:=r.obj j t d e;rw[l _ j q]at this;exact this.world (P t I)
 by_cases q:j=i
 .by_cases p:k=i;.omega
  subst q;rw[E]at e;cases e;rw[l A k p]at y;exact(C k _ K F rfl p y).elim
 rw[l A j q]at G;by_cases p:k=i;.subst p;rw[E]at F;cases F;exact(C j _ d e rfl q (Un G)).elim
 rw[l A k p]at y;refine r.inj j k t d K e F ?_ ?_;.rw[l _ j q];exact G
 rw[l _ k p];exact y
def ZjD{P:V2}{w:V4}(ty:J){b t since c0:Nat}{h:V5 Nat}{es:V5 V6}{p:Nat}(F:w.heap[b]? =some (.mapIter (some t) since h c0))(I:w.heap[t]? =some (.map es p))
 (hold:∀x∈es.toList,x.born<since) (A:since<=c0):
 ((leftOf es h).size=0/\(Instr.next ((Va b)) false ty).run P w=.ok UQ w)\/
 ∃e∈(leftOf es h).toList,∃w1:V4,w1.heap=w.heap/\Same w w1/\(Instr.next ((Va b)) false ty).run P w=.ok (.tuple #[.bool true,e.key,e.val]) (w1.putObj b (.mapIter (some t) since (h.push e.born) p)):=by
 simp only[Instr.next,getObj,Sem.run_bind,Sem.run,F,I,Result.andThen,next_test_false h es since c0 hold A,Bool.false_eq_true,if_false];unfold leftOf;have l:∀x∈(Array.filter (fun e=>!h.contains e.born) es).toList,x.born<since:=fun x q=>hold x (by simp at q ⊢;exact q.1);generalize Array.filter (fun e=>!h.contains e.born) es=L at l ⊢;have Q:L.filter (fun x=>decide (x.born<since))=L:=Array.filter_eq_self.2 (fun x q=>by simpa using l x (by simpa using q))
 have K:L.filter (fun x=>decide (x.born >=since))=#[]:=by
  rw[Array.filter_eq_empty_iff];intro x q;have:=l x (by simpa using q);simp;omega
 simp only[Q,K,Array.append_empty];by_cases G:L.size=0;.left;have:L=#[]:=Array.eq_empty_of_size_eq_zero G;subst this;refine⟨rfl,?_⟩;simp[choose,Sem.run,Question.forced,UQ]
 right;have B:L.isEmpty=false:=by simp[Array.isEmpty,G]
 simp only[B,Bool.false_eq_true,if_false,Array.empty_append,Array.size_map]
 have D:∃(j:Nat) (w1:V4),j<L.size/\w1.heap=w.heap/\Same w w1/\(choose (Question.mapNext L.size)).run P w=.ok j w1:=by
  by_cases E:L.size<=1;.exact⟨0,w,by omega,rfl,Same.refl w,by simp[choose,Sem.run,Question.forced,E]⟩
  exact⟨_,w.drew,Nat.mod_lt _ Vb,rfl,⟨rfl,rfl,rfl⟩,by
   simp only[choose,Sem.run,Question.forced,decide_eq_true_eq,E,if_false,Question.cut];rfl⟩
 have⟨j,w1,hj,hh,hal,hrun⟩:=D;refine⟨L[j],by simp,w1,hh,hal,?_⟩
 have r:∀(y:Obj),(setObj b y).run P w1=.ok () (w1.putObj b y):=fun y=>by
  have C:w1.heap[b]? =some (.mapIter (some t) since h c0):=by rw[hh];exact F
  simp[setObj,Sem.run,C,World.putObj]
 simp only[hrun,Array.getElem?_map,GG hj,GY,Sem.run_bind,r,Result.andThen];rfl
def EL.mem{es es':U V6}(e:EL ρ es es'){l:V6}(p:l∈es'):∃x∈es,l.key=x.key/\plain x.key=true/\l.born=x.born/\VR ρ x.val l.val:=by
 induction e with|nil=>cases p|cons r q t hv _ ih=>
   rcases K2.1 p with rfl|h
   .exact⟨_,by simp,r,q,t,hv⟩
   have⟨x,h1,h2⟩:=ih h;exact⟨x,Kd _ h1,h2⟩
def Zb4{clock:Nat}:∀{es:U V6},Qr clock es=true->∀e∈es,e.born<clock:=by
 intro es
 induction es with|nil=>intro _ e h;cases h|cons x es ih=>
   intro h e he;simp only[Qr,Ba0,Gd]at h;rcases K2.1 he with rfl|he
   .exact h.1.1
   exact ih h.2 e he
end
end Go.ZU
end
end
