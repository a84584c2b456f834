/- Part 7. -/
import Derived.ProofKit
import Derived.Test.YtbnepjakjmnadaaGreatSb6
set_option linter.all false
set_option maxHeartbeats 2000000
def Go.Kq0{p:Prop}(h:p:=by kernel_rfl):p:=h
section
noncomputable section
namespace Go.Proofs.YtbnepjakjmnadaaGreat
open Go.ZU Go.RowKit Go.WideShapes Go.ChangeShapes
def mixed:Tryz.prog.follows .mixedOrders=true:=Kq0
section
variable{H:Type}{enc:J×N->H}{P:V2}
def ZmK{f:Func}{s:ChangeSpec}{apart fresh x B:Z}{W W':V4}{args:V5 N}{v:N}{ds E:U (DataW H)}{before pa pv:U MemPlace}
 (G:DataW.Whole enc P f.params.toList s.vars apart W args.toList ds E before)
 (A:∀(b:Nat)(sp:Nat->Z)(K:Z),DataW.TrodAll enc P W' b sp K f.resultTypes.toList (v.resultList f.resultTypes.size) (s.fn H (ds++E)).results [])
 (q:∀sp:Nat->Z,(∀p∈before,sp p.block=true)->DataW.TrodAll enc P W' 0 sp true f.params.toList args.toList (s.fn H (ds++E)).args pa)
 (h:∀sp:Nat->Z,(∀p∈before,sp p.block=true)->DataW.TrodVars enc P W' sp s.vars (s.fn H (ds++E)).vars pv)
 (y:before=pa++pv) (I:Below W.heap.size W W')
 (F:∀(j:Nat)(t:J)(r:N),f.resultTypes[j]? =some t->(v.resultList f.resultTypes.size)[j]? =some r->Value.okWide P W' .any 0 t r):
 s.post enc P f apart fresh x B W args v W':=by
 have C:∀p∈before,p.block<W.heap.size:=fun p l=>G.lt p l;have hold:∀p∈before,(fun b=>decide (b<W.heap.size)) p.block=true:=fun p l=>by simpa using C p l
 refine⟨ds,E,before,[],pa,pv,G,A _ _ _,q _ hold,h _ hold,World.keptBut_mono (fun p l=>⟨l,?_⟩) (I.frame (· ∈ before)),fun _=>?_⟩;.rw[y,Q3]at l;exact Or.inr l
 have⟨_,_,_,_,_,hz,hn⟩:=G;refine⟨F,_,_,([]++pa)++pv,⟨[]++pa,pv,trodAll_append (q _ (fun _ _=>rfl)) (A _ _ _),h _ (fun _ _=>rfl),rfl,?_,?_⟩,?_⟩
 .intro b off l;have D:MemPlace.cell b off∈before:=by rw[y];simpa using l
  rw[I.frozen (C _ D)];exact hz b off D
 .intro L;have:=hn L;rw[y]at this;simpa using this
 intro p l _;rw[y];simpa using l
end
end Go.Proofs.YtbnepjakjmnadaaGreat
end
end
section
noncomputable section
namespace Go.ZU
section
variable{X:Ctx}
structure WC(X:Ctx)(n V:Nat)(rd:Option Nat)(c:Code)(s:Fs)(Q:XX->Fs->Prop):Prop where
 out:∃e s',Q e s'/\Y7 X (.code c n V rd s) (.code e s')
structure WL(X:Ctx)(n V:Nat)(rd:Option Nat)(c:Code)(s:Fs)(Q:XX->Fs->Prop):Prop where
 out:∃e s',Q e s'/\Y7 X (.loop c n V rd s) (.code e s')
structure WF(X:Ctx)(f:FuncId)(args:Array Value)(V:Nat)(h:H)(Q:WJ->H->Prop):Prop where
 out:∃e h',Q e h'/\Y7 X (.call f args V h) (.fin e h')
def ZVT(X:Ctx)(n V:Nat)(rd:O Nat)(ops:V5 Oper)(l:U Oper)(s:Fs)(e:XX)(r:Fs):Prop:=
 ∀(Q:Exit->Act->V4->Prop){ρ:Ren}{F:Fence}{a:Act}{w:V4},Inv ρ n s a w->V<=s.h.size->FR' ρ rd F->(∀p q w',Qz V n ρ s.h w e r p q w'->Q p q w')->wpListIn F 0 X.P ops Q l a w
structure WO(X:Ctx)(n V:Nat)(rd:Option Nat)(ops:Array Oper)(l:List Oper)(s:Fs)(Q:XX->Fs->Prop):Prop where
 out:∃e s',Q e s'/\ZVT X n V rd ops l s e s'
variable{n V:Nat}{rd:O Nat}{s:Fs}{Q:XX->Fs->Prop}
def WC.mono{c:Code}{Q':XX->Fs->Prop}(h:WC X n V rd c s Q)(k:∀e l,Q e l->Q' e l):WC X n V rd c s Q':=let⟨e,l,h1,h2⟩:=h;⟨e,l,k e l h1,h2⟩
def WF.mono{f:V3}{args:V5 N}{h:H}{Q Q':WJ->H->Prop}(h1:WF X f args V h Q)(k:∀e l,Q e l->Q' e l):WF X f args V h Q':=let⟨e,l,h1,h2⟩:=h1;⟨e,l,k e l h1,h2⟩
def ZVN(X:Ctx)(n V:Nat)(rd:O Nat)(b:Code)(Q:XX->Fs->Prop):XX->Fs->Prop:=fun e s=>
 match e with|.normal=>WC X n V rd b s Q|e=>Q e s
def ZPO(X:Ctx)(n V:Nat)(rd:O Nat)(c:Code)(Q:XX->Fs->Prop):XX->Fs->Prop:=fun e s=>
 match e with|.normal=>WL X n V rd c s Q|e=>Q e s
def ZFb(id:Nat)(Q:XX->Fs->Prop):XX->Fs->Prop:=fun e s=>
 match e with|.exit k=>if k=id then Q .normal s else Q (.exit k) s|e=>Q e s
structure Yx(X:Ctx)(n V:Nat)(rd:Option Nat)(b:Code)(Q:XX->Fs->Prop)(e:XX)(s:Fs):Prop where
 out:ZVN X n V rd b Q e s
structure ZQ(X:Ctx)(n V:Nat)(rd:Option Nat)(b:Code)(Q:XX->Fs->Prop)(e:XX)(s:Fs):Prop where
 out:ZPO X n V rd b Q e s
structure Xh(id:Nat)(Q:XX->Fs->Prop)(e:XX)(s:Fs):Prop where
 out:ZFb id Q e s
def ExR.ZkA{ρ:Ren}{e:XX}{l:Exit}(he:ExR ρ e l)(h:e≠.normal){q:Act->V4->Prop}{R:Exit->Act->V4->Prop}{a:Act}{w:V4}(p:R l a w):Exit.then q R l a w:=by cases he with|normal=>exact absurd rfl h|_=>exact p
def WC.seq{a b:Code}(h:WC X n V rd a s (Yx X n V rd b Q)):WC X n V rd (.seq a b) s Q:=by
 have⟨e,s1,hq,ka⟩:=h;by_cases hn:e=.normal;.subst hn;have⟨e2,s2,hq2,kb⟩:=hq.out;refine⟨e2,s2,hq2,fun ρ a w F x r t=>wpIn_seq (wpIn_mono (ka ρ a w F x r t) ?_)⟩;rintro B y w' ⟨p,he,q,l⟩;cases he;exact wpIn_mono (kb p y w' F (KK x l.size) q (t.mono l.ext)) fun _ _ _ A=>Qz.trans r.rel.lt l A
 refine⟨e,s1,?_,fun ρ a w F x r t=>wpIn_seq (wpIn_mono (ka ρ a w F x r t) ?_)⟩;.cases e with|normal=>exact absurd rfl hn|_=>exact hq.out
 rintro B y w' ⟨p,he,q,l⟩;exact he.ZkA hn ⟨p,he,q,l⟩
def WC.cond{c:V0}{a b:Code}{t:Z}(A:YI s.fr c=some (.bool t))(h1:t=true->WC X n V rd a s Q)(h2:t=false->WC X n V rd b s Q):WC X n V rd (.cond c a b) s Q:=by
 have:∃e l,Q e l/\∀ρ p w F,V<=s.h.size->Inv ρ n s p w->FR' ρ rd F->(if t then a else b).wpIn F 0 X.P (Qz V n ρ s.h w e l) p w:=by
  cases t with|true=>have⟨e,l,q,k⟩:=h1 rfl;exact⟨e,l,q,k⟩|false=>have⟨e,l,q,k⟩:=h2 rfl;exact⟨e,l,q,k⟩
 have⟨e,l,hq,k⟩:=this;refine⟨e,l,hq,fun ρ p w F C r B=>?_⟩;have hv:=Zap r.fr _ _ A;generalize y:p.eval c=x at hv;cases hv;exact wpIn_cond y (k ρ p w F C r B)
def WC.block{id:Nat}{c:Code}(h:WC X n V rd c s (Xh id Q)):WC X n V rd (.block id c) s Q:=by
 have⟨e,s1,hq,ka⟩:=h
 have y:∃B,Q B s1/\∀(A D:Nat)(ρ0:Ren)(E:H)(w0:V4)(t:Exit)(x:Act)(w':V4),Qz A D ρ0 E w0 e s1 t x w'->Exit.inBlock id (Qz A D ρ0 E w0 B s1) t x w':=by
  cases e with
  | exit k=>
    by_cases C:k=id;.subst C;refine⟨.normal,by simpa[ZFb]using hq.out,?_⟩;rintro _ _ _ _ _ t x w' ⟨p,he,r,q⟩;cases he;show if _ then _ else _;rw[if_pos rfl];exact⟨p,.normal,r,q⟩
    refine⟨.exit k,by simpa[ZFb,C]using hq.out,?_⟩;rintro _ _ _ _ _ t x w' ⟨p,he,r,q⟩;cases he;show if _ then _ else _;rw[if_neg C];exact⟨p,.exit k,r,q⟩
  | normal=>exact⟨.normal,hq.out,by rintro _ _ _ _ _ t x w' ⟨p,he,r,q⟩;cases he;exact⟨p,.normal,r,q⟩⟩
  | goto l=>exact⟨.goto l,hq.out,by rintro _ _ _ _ _ t x w' ⟨p,he,r,q⟩;cases he;exact⟨p,.goto l,r,q⟩⟩
  | ret=>exact⟨.ret,hq.out,by rintro _ _ _ _ _ t x w' ⟨p,he,r,q⟩;cases he;exact⟨p,.ret,r,q⟩⟩
  | panic v=>exact⟨.panic v,hq.out,by rintro _ _ _ _ _ t x w' ⟨p,he,r,q⟩;cases he with|panic hv=>exact⟨p,.panic hv,r,q⟩⟩
 have⟨B,hq2,y⟩:=y;exact⟨B,s1,hq2,fun ρ a w F L I K=>wpIn_block (wpIn_mono (ka ρ a w F L I K) fun t x w' G=>y _ _ _ _ _ t x w' G)⟩
def WC.skip(h:Q .normal s):WC X n V rd .skip s Q:=⟨_,_,h,fun ρ _ _ _ _ l _=>wpIn_skip ⟨ρ,.normal,l,Stp.refl _ _ _ _⟩⟩
def WC.ret(h:Q .ret s):WC X n V rd .ret s Q:=⟨_,_,h,fun ρ _ _ _ _ l _=>wpIn_ret ⟨ρ,.ret,l,Stp.refl _ _ _ _⟩⟩
def WC.exit{id:Nat}(h:Q (.exit id) s):WC X n V rd (.exit id) s Q:=⟨_,_,h,fun ρ _ _ _ _ l _=>wpIn_exit ⟨ρ,.exit id,l,Stp.refl _ _ _ _⟩⟩
def WC.loop{c:Code}(h:WL X n V rd c s Q):WC X n V rd (.loop c) s Q:=
 let⟨e,s',hq,k⟩:=h;⟨e,s',hq,fun ρ a w F q l p=>Zj9 (k ρ a w F q l p)⟩
def WC.region{id:Nat}{ops:V5 Oper}(h:WO X n V rd ops ops.toList s Q):WC X n V rd (.region id ops false) s Q:=by have⟨e,s',hq,k⟩:=h;exact⟨e,s',hq,fun ρ a w F r p q=>wpIn_region_list (k _ p r q fun _ _ _ l=>l)⟩
def WL.step{c:Code}(h:WC X n V rd c s (ZQ X n V rd c Q)):WL X n V rd c s Q:=by
 have⟨e,s1,hq,ka⟩:=h;by_cases hn:e=.normal;.subst hn;have⟨e2,s2,hq2,kb⟩:=hq.out;refine⟨e2,s2,hq2,fun ρ a w F x r t=>UY (wpIn_mono (ka ρ a w F x r t) ?_)⟩;rintro B y w' ⟨p,he,q,l⟩;cases he;have:=kb p y w' F (KK x l.size) q (t.mono l.ext);intro b k cs h1 h2 A;have⟨e3,a3,w3,hp,harr⟩:=this b k cs h1 h2 A;exact⟨e3,a3,w3,Qz.trans r.rel.lt l hp,harr⟩
 refine⟨e,s1,?_,fun ρ a w F x r t=>UY (wpIn_mono (ka ρ a w F x r t) ?_)⟩;.cases e with|normal=>exact absurd rfl hn|_=>exact hq.out
 rintro B y w' ⟨p,he,q,l⟩;exact he.ZkA hn ⟨p,he,q,l⟩
def ZVP(X:Ctx)(fn:Func)(Q:WJ->H->Prop):XX->Fs->Prop:=fun e s=>s.ds=[]/\
 match e with|.normal=>∃v,Q9 X.P fn s.fr s.h=some v/\Q (.ret v) s.h|.ret=>∃v,Q9 X.P fn s.fr s.h=some v/\Q (.ret v) s.h|.panic v=>Q (.Ym v) s.h|_=>False
structure Yk(X:Ctx)(fn:Func)(Q:WJ->H->Prop)(e:XX)(s:Fs):Prop where
 out:ZVP X fn Q e s
def WF.enter{f:V3}{fn:Func}{c:Code}{args:V5 N}{h:H}{Q:WJ->H->Prop}(L:X.fns.get f=some fn)(W:fn.body=some c)(hn:args.toList.length<=fn.ntmps)
 (k:WC X fn.ntmps V none c {fr:=QI args.toList 0 .nil,ds:=[],h:=h} (Yk X fn Q)):WF X f args V h Q:=by
 have⟨e,s',⟨hds,hq⟩,ka⟩:=k
 have q:∀(E:WJ)(G:PM),xPM e=some G->Kk (cfg X fun _=>false) (fun _=>none) fn V G s'=some (.fin E s'.h)->Y7 X (.call f args V h) (.fin E s'.h):=by
  intro E G t S;have I:=Us (C:=cfg X fun _=>false) (ih:=fun _=>none) (fun _ _ h=>by cases h) S;intro ρ x w F D hv
  have T:Inv ρ fn.ntmps {fr:=QI args.toList 0 .nil,ds:=[],h:=h} {tmps:=x++Array.replicate (fn.ntmps-x.size) undef,defers:=[]} w:=
   ⟨D,Zba hv hn,.nil⟩
  refine callsIn_of_wp_marks (X.ok f fn L).1 W (Zlg L) (wpIn_mono (ka ρ _ w base F T rfl) ?_);rintro e' K w' ⟨y,he,A,p⟩;cases he with
  | normal=>cases t;exact I y _ K .returning w' _ (KK F p.size) A .ret (fun _ _ B=>ZaN.trans D.lt p B)
  | ret=>cases t;exact I y _ K .returning w' _ (KK F p.size) A .ret (fun _ _ B=>ZaN.trans D.lt p B)
  | panic r=>cases t;exact I y _ K _ w' _ (KK F p.size) A (.Ym r) (fun _ _ B=>ZaN.trans D.lt p B)
  | exit id=>cases t
  | goto l=>cases t
 cases e with
 | normal=>
   have⟨v,hv,hq⟩:=hq
   exact⟨_,_,hq,q _ .ret rfl (by
    have r:Q9 (cfg X fun _=>false).X.P fn s'.fr s'.h=some v:=hv;unfold Kk;rw[hds];simp only[r])⟩
 | ret=>
   have⟨v,hv,hq⟩:=hq
   exact⟨_,_,hq,q _ .ret rfl (by
    have r:Q9 (cfg X fun _=>false).X.P fn s'.fr s'.h=some v:=hv;unfold Kk;rw[hds];simp only[r])⟩
 | panic v=>exact⟨_,_,hq,q _ (.Ym v) rfl (by unfold Kk;rw[hds])⟩
 | exit _=>exact hq.elim
 | goto _=>exact hq.elim
abbrev Pure(X:Ctx)(f:V3)(args:V5 N)(h:H)(v:N):Prop:=∀V,Y7 X (.call f args V h) (.fin (.ret v) h)
def WF.pure{f:V3}{args:V5 N}{h:H}{v:N}(t:plain v=true)(k:WF X f args h.size h (fun e _=>e=.ret v)):Pure X f args h v:=by
 obtain⟨e,B,rfl,A⟩:=k;intro V ρ l w D r hv;refine(A ρ l w Vc r hv).mono ?_;rintro C w' ⟨x,he,y,q⟩;cases he with|ret p=>
   rw[VR.Xr t p];have⟨q1,q2⟩:=Zew r q;exact⟨ρ,.ret (VR.ZY t),q1,q2 V⟩
variable{ops:V5 Oper}{l:U Oper}{o:Oper}
def WO.nil(h:Q .normal s):WO X n V rd ops [] s Q:=⟨_,_,h,fun _ ρ _ a w p _ _ l=>l .normal a w ⟨ρ,.normal,p,Stp.refl _ _ _ _⟩⟩
def WO.cons{ih:WI->O QJ}(I:∀j r,ih j=some r->Y7 X j r){s1:Fs}(h:KE X (fun _=>false) ih n V rd ops.toList o s=some (.normal,s1))(k:WO X n V rd ops l s1 Q):WO X n V rd ops (o::l) s Q:=by have⟨e,s',hq,hk⟩:=k;refine⟨e,s',hq,fun G ρ F a w x A y q=>?_⟩;refine Za2 I h x A y (fun _ B K w' t p=>?_) (fun v he=>by cases he);refine hk G t (KK A p.size) (y.mono p.ext) fun D E w2 C=>?_;have⟨ρ2,q1,q2,q3⟩:=C;exact q D E w2 ⟨ρ2,q1,q2,p.trans x.rel.lt q3⟩
def WO.panics{ih:WI->O QJ}(D:∀j r,ih j=some r->Y7 X j r){s1:Fs}{v:N}(h:KE X (fun _=>false) ih n V rd ops.toList o s=some (.panic v,s1))(k:Q (.panic v) s1):WO X n V rd ops (o::l) s Q:=by refine⟨.panic v,s1,k,fun G ρ F a w y C A t=>?_⟩;refine Za2 D h y C A (fun he=>by cases he) (fun v' he p E B w' hv x q=>?_);cases he;exact t _ B w' ⟨p,.panic hv,x,q⟩
def ZaS(X:Ctx):∀(j:WI)(r:QJ),(fun _:WI=>(none:O QJ)) j=some r->Y7 X j r:=fun _ _ h=>by cases h
def ZJg(h:Op):Z:=match h with
 | .call c=>match c.callee with
   | .value x=>match x with|.func f=>Nat.blt f nfs|_=>false
   | .builtin _=>true
   | .invoke _ _=>false
 | _=>true
def gk(o:Oper):O (Nat×Z):=bif ZJg o.op then o.guard else none
def ZjO{o:Oper}{q:Nat×Z}(h:gk o=some q)(fr:Fr):o.guard=some q/\Zkk o.op fr=true:=by
 unfold gk at h;cases l:ZJg o.op with|false=>rw[l]at h;cases h|true=>
   rw[l]at h;refine⟨h,?_⟩;revert l;generalize o.op=op;intro l;cases op with
   | call c=>
     have⟨callee,args,ats⟩:=c;cases callee with
     | value x=>
       cases x with|func f=>exact l|tmp t=>cases l|const v=>cases l|global g=>cases l
     | builtin b=>rfl
     | invoke r p=>cases l
   | _=>rfl
def Yg(ops:V5 Oper)(o:Oper)(fr:Fr):Prop:=okG ops.toList o fr=true/\XJ ops.toList o fr=true
def Zhs(ops:V5 Oper)(o:Oper)(fr:Fr):Prop:=okG ops.toList o fr=true/\XJ ops.toList o fr=false
def Yg.none{ops:V5 Oper}{o:Oper}{fr:Fr}(h:o.guard=none):Yg ops o fr:=by unfold Yg okG XJ;rw[h];exact⟨rfl,rfl⟩
def gN{ops:V5 Oper}{d:O Tmp}{h:Op}{ty:J}{p:String}{af:V5 Edge}{fr:Fr}:Yg ops ⟨d,h,ty,p,af,Option.none⟩ fr:=Yg.none rfl
def Zl1(n:Nat)(d:O Tmp):Z:=
 match d with|none=>true|some d=>Nat.blt d n
def Zhh{fr:Fr}{ds:U V7}{h:H}{d:O Tmp}{v:N}(l:Zl1 n d=true):ZsX n ⟨fr,ds,h,none⟩ d v=some ⟨U6 fr d v,ds,h,none⟩:=by
 rw[ZxB];cases d with|none=>rfl|some d=>
   unfold Zl1 at l;dsimp only at l ⊢;rw[l];rfl
variable{fr:Fr}{ds:U V7}{h h1:H}
def WO.val{v:N}{E:Eff}(p:Yg ops o fr)(q:Zl1 n o.dst=true)(r:XM X h (YI fr) o=some (.val v,E))(t:E.apply V h=some h1)
 (k:WO X n V rd ops l ⟨U6 fr o.dst v,ds,h1,none⟩ Q):WO X n V rd ops (o::l) ⟨fr,ds,h,none⟩ Q:=by
 refine WO.cons (ZaS X) ?_ k;unfold KE;rw[p.1,p.2];dsimp only[J0,Cq0,Cq1];rw[r];dsimp only[J0,Cq0,Cq1];rw[t];unfold Zcs;dsimp only[Wd];rw[Zhh q];rfl
def WO.unit{E:Eff}(p:Yg ops o fr)(q:Zl1 n o.dst=true)(r:XM X h (YI fr) o=some (.skip,E))(t:E.apply V h=some h1)
 (k:WO X n V rd ops l ⟨U6 fr o.dst undef,ds,h1,none⟩ Q):WO X n V rd ops (o::l) ⟨fr,ds,h,none⟩ Q:=by
 refine WO.cons (ZaS X) ?_ k;unfold KE;rw[p.1,p.2];dsimp only[J0,Cq0,Cq1];rw[r];dsimp only[J0,Cq0,Cq1];rw[t];unfold Zcs;dsimp only[Wd];rw[Zhh q];rfl
def WO.panic{v:N}{E:Eff}(p:Yg ops o fr)(q:XM X h (YI fr) o=some (.panic v,E))(r:E.apply V h=some h1)
 (k:Q (.panic v) ⟨fr,ds,h1,none⟩):WO X n V rd ops (o::l) ⟨fr,ds,h,none⟩ Q:=by
 refine WO.panics (ZaS X) ?_ k;unfold KE;rw[p.1,p.2];dsimp only[J0,Cq0,Cq1];rw[q];dsimp only[J0,Cq0,Cq1];rw[r];rfl
def WO.off(p:Zhs ops o fr)(q:Zl1 n o.dst=true)(k:WO X n V rd ops l ⟨U6 fr o.dst undef,ds,h,none⟩ Q):WO X n V rd ops (o::l) ⟨fr,ds,h,none⟩ Q:=by refine WO.cons (ZaS X) ?_ k;unfold KE;rw[p.1,p.2];dsimp only[J0,Cq0,Cq1];rw[Zhh q];rfl
open Classical in
def Jb (j:WI) (r:QJ):WI ->Option QJ:=fun j'=>if j'=j then some r else none
def Xx{j:WI}{r:QJ}(h:Y7 X j r):∀l r',Jb j r l=some r'->Y7 X l r':=by
 intro l r' e;unfold Jb at e;split at e;next p=>cases e;rw[p];exact h
 cases e
def Xy(j:WI)(r:QJ):Jb j r j=some r:=by unfold Jb;rw[if_pos rfl]
def WO.call{f:V3}{args:V5 N}{E:Eff}{v:N}{h2:H}(p:Yg ops o fr)(q:Zl1 n o.dst=true)(t:XM X h (YI fr) o=some (.enter f args,E))(x:E.apply V h=some h1)
 (r:Y7 X (.call f args V h1) (.fin (.ret v) h2)) (k:WO X n V rd ops l ⟨U6 fr o.dst v,ds,h2,none⟩ Q):WO X n V rd ops (o::l) ⟨fr,ds,h,none⟩ Q:=by
 refine WO.cons (Xx r) ?_ k;unfold KE;rw[p.1,p.2];dsimp only[J0,Cq0,Cq1];rw[t];dsimp only[J0,Cq0,Cq1];rw[x];unfold Zcs;dsimp only[Wd,Cq0];rw[Xy];dsimp only;rw[Zhh q];rfl
def WO.Zl6{f:V3}{args:V5 N}{E:Eff}{v:N}{h2:H}(p:Yg ops o fr)(r:XM X h (YI fr) o=some (.enter f args,E))(t:E.apply V h=some h1)
 (q:Y7 X (.call f args V h1) (.fin (.Ym v) h2)) (k:Q (.panic v) ⟨fr,ds,h2,none⟩):WO X n V rd ops (o::l) ⟨fr,ds,h,none⟩ Q:=by
 refine WO.panics (Xx q) ?_ k;unfold KE;rw[p.1,p.2];dsimp only[J0,Cq0,Cq1];rw[r];dsimp only[J0,Cq0,Cq1];rw[t];unfold Zcs;dsimp only[Wd,Cq0];rw[Xy];rfl
end
section
variable{X:Ctx}{P:V2}{h:H}{fr:Fr}{ev:V0->O N}{d:O Tmp}{ty:J}{p:String}{af:V5 Edge}{g:O (Nat×Z)}
def at_set(fr:Fr)(d t:Nat)(v:N):Fr.at (Tr.set fr d v) t=if t=d then v else Fr.at fr t:=by unfold Fr.at;rw[Tr.Qp];by_cases h:t=d<;>simp[h]
def Zy(i:Nat)(fr:Fr):QI [] i fr=fr:=rfl
def Zv(v:N)(vs:U N)(i:Nat)(fr:Fr):QI (v::vs) i fr=QI vs (i+1) (Tr.set fr i v):=rfl
def Zj1(fr:Fr)(t:Nat):YI fr (.tmp t)=bif X4 (fr.at t) then none else some (fr.at t):=rfl
def Zzl(fr:Fr)(v:N):YI fr (.const v)=bif plain v then some v else none:=rfl
def Zs3(fr:Fr)(f:V3):YI fr (.func f)=some (.func (.func f) #[] #[]):=rfl
def ZEz(x:V0):XM X h ev ⟨d,.move x,ty,p,af,g⟩=vN (ev x):=rfl
def Zvd(x:V0):XM X h ev ⟨d,.assign x,ty,p,af,g⟩=vN (ev x):=rfl
def Zzi(l:BinOp)(t:J)(x y:V0)(q:J):XM X h ev ⟨d,.binOp l t x y q,ty,p,af,g⟩=match ev x,ev y with|some a,some b=>X9 X.P l t x y a b|_,_=>none:=rfl
def Zhj(c a b:V0):XM X h ev ⟨d,.pick c a b,ty,p,af,g⟩=match ev c with|some (.bool true)=>vN (ev a)|some (.bool false)=>vN (ev b)|_=>none:=rfl
def ZEy(l:UnOp)(t:J)(x:V0):XM X h ev ⟨d,.unOp l t x,ty,p,af,g⟩=match ev x with|some a=>bif plain a then pN (Kr X.P (Op.unary l a)) else none|none=>none:=rfl
def ZsZ(t:J)(x:V0):XM X h ev ⟨d,.load t x,ty,p,af,g⟩=match ev x with|some v=>vN (K4 X.P h t v)|none=>none:=rfl
def Zzg(t:J)(a x:V0):XM X h ev ⟨d,.store t a x,ty,p,af,g⟩=match ev a,ev x with|some a,some x=>sE (Ziu X.P h t a x)|_,_=>none:=rfl
def ZIP(t:J)(x:V0):XM X h ev ⟨d,.box t x,ty,p,af,g⟩=match ev x with|some v=>some (.val (JF h),.new (.row v.cells.toList true 0))|none=>none:=rfl
def Zzj(t:J):XM X h ev ⟨d,.alloc t,ty,p,af,g⟩=match Y5 X.P t with|some z=>some (.val (JF h),.new (.row z.cells.toList true 0))|none=>none:=rfl
def Zzh(t:J)(x:V0)(f:Nat):XM X h ev ⟨d,.field t x f,ty,p,af,g⟩=match ev x with|some v=>vN (Zhm X.P t v f)|none=>none:=rfl
def Zm7(t:J)(x:V0)(f:Nat):XM X h ev ⟨d,.fieldAddr t x f,ty,p,af,g⟩=match ev x with|some v=>vN (ZdX X.P t v f)|none=>none:=rfl
def Zm6(t:J)(x i:V0):XM X h ev ⟨d,.indexAddr t x i,ty,p,af,g⟩=match ev x,ev i with|some x,some i=>vN (ZfP X.P t x i)|_,_=>none:=rfl
def Zs0(x:V0)(k:Nat):XM X h ev ⟨d,.extract x k,ty,p,af,g⟩=match ev x with|some x=>vN (ZdY x k)|none=>none:=rfl
def U4(b:Builtin)(xs:V5 V0)(ts:V5 J):XM X h ev ⟨d,.call {callee:=.builtin b,args:=xs,argTypes:=ts},ty,p,af,g⟩=match evs ev xs.toList with|some args=>Uv X.P h b ts ty args|none=>none:=by
 show(match Callee.builtin b,evs ev xs.toList with
  | .builtin b,some args=>Uv X.P h b ts ty args
  | .value f,some args=>match ev f with|some f=>U5 X h f args|none=>none
  | .invoke r name,some args=>match ev r with|some r=>Zb8 X r name args|none=>none
  | _,_=>none)=_
 cases evs ev xs.toList<;>rfl
def ZeA(f:V0)(xs:V5 V0)(ts:V5 J):XM X h ev ⟨d,.call {callee:=.value f,args:=xs,argTypes:=ts},ty,p,af,g⟩=match evs ev xs.toList with
 | some args=>match ev f with|some f=>U5 X h f args|none=>none
 | none=>none:=by
 show(match Callee.value f,evs ev xs.toList with
  | .builtin b,some args=>Uv X.P h b ts ty args
  | .value f,some args=>match ev f with|some f=>U5 X h f args|none=>none
  | .invoke r name,some args=>match ev r with|some r=>Zb8 X r name args|none=>none
  | _,_=>none)=_
 cases evs ev xs.toList<;>rfl
def Zd:evs ev []=some []:=rfl
def Zb{x:V0}{xs:U V0}{v:N}{vs:U N}(h1:ev x=some v)(h2:evs ev xs=some vs):evs ev (x::xs)=some (v::vs):=by show(match ev x,evs ev xs with|some v,some vs=>some (v::vs) | _,_=>none)=_;rw[h1,h2]
def ZbH{h:BinOp}{t:J}{x y:V0}{k:IntKind}{a b:Int}{c:Z}(p:Op.intCmp h a b=pure (.bool c))(h1:h=.eql\/h=.neq\/h=.lss\/h=.leq\/h=.gtr\/h=.geq):X9 P h t x y (.int k a) (.int k b)=some (.val (.bool c),.none):=by
 have l:(plain (.int k a)&&plain (.int k b))=true:=rfl;unfold X9;rw[l,Cq1]
 have r:binOp h t (.int k a) (.int k b)=pure (.bool c):=by
  rcases h1 with rfl|rfl|rfl|rfl|rfl|rfl<;>simp[binOp,p]
 have q:(do eqGuard h t x y (.int k a) (.int k b);binOp h t (.int k a) (.int k b):Sem N)=pure (.bool c):=by
  rw[r];rcases h1 with rfl|rfl|rfl|rfl|rfl|rfl<;>rfl
 rw[q];rfl
def Zho{t:J}{x y:V0}{k:IntKind}{a b:Int}:X9 P .eql t x y (.int k a) (.int k b)=some (.val (.bool (a==b)),.none):=ZbH rfl (by simp)
def ZEM{t:J}{x y:V0}{k:IntKind}{a b:Int}:X9 P .neq t x y (.int k a) (.int k b)=some (.val (.bool (a !=b)),.none):=ZbH rfl (by simp)
def Zs5{t:J}{x y:V0}{k:IntKind}{a b:Int}:X9 P .lss t x y (.int k a) (.int k b)=some (.val (.bool (decide (a<b))),.none):=ZbH rfl (by simp)
def ZEN{t:J}{x y:V0}{k:IntKind}{a b:Int}:X9 P .leq t x y (.int k a) (.int k b)=some (.val (.bool (decide (a<=b))),.none):=ZbH rfl (by simp)
def ZEO{t:J}{x y:V0}{k:IntKind}{a b:Int}:X9 P .gtr t x y (.int k a) (.int k b)=some (.val (.bool (decide (a>b))),.none):=ZbH rfl (by simp)
def ZEP{t:J}{x y:V0}{k:IntKind}{a b:Int}:X9 P .geq t x y (.int k a) (.int k b)=some (.val (.bool (decide (a >=b))),.none):=ZbH rfl (by simp)
def Zvk{h:BinOp}{t:J}{x y:V0}{k:IntKind}{a b c:Int}(h1:h=.add/\c=a+b\/h=.sub/\c=a-b\/h=.mul/\c=a*b):X9 P h t x y (.int k a) (.int k b)=some (.val (.int k (k.wrap c)),.none):=by
 have l:(plain (.int k a)&&plain (.int k b))=true:=rfl;unfold X9;rw[l,Cq1]
 have q:binOp h t (.int k a) (.int k b)=pure (.int k (k.wrap c)):=by
  rcases h1 with⟨rfl,rfl⟩|⟨rfl,rfl⟩|⟨rfl,rfl⟩<;>simp[binOp,Op.intArith]
 have p:(do eqGuard h t x y (.int k a) (.int k b);binOp h t (.int k a) (.int k b):Sem N)=pure (.int k (k.wrap c)):=by
  rw[q];rcases h1 with⟨rfl,rfl⟩|⟨rfl,rfl⟩|⟨rfl,rfl⟩<;>rfl
 rw[p];rfl
end
section
variable{X:Ctx}{n V:Nat}{rd:O Nat}{s:Fs}{Q:XX->Fs->Prop}
def Yx.YC{b:Code}(h:WC X n V rd b s Q):Yx X n V rd b Q .normal s:=⟨h⟩
def Yx.ret{b:Code}(h:Q .ret s):Yx X n V rd b Q .ret s:=⟨h⟩
def Yx.exit{b:Code}{id:Nat}(h:Q (.exit id) s):Yx X n V rd b Q (.exit id) s:=⟨h⟩
def Yx.panic{b:Code}{v:N}(h:Q (.panic v) s):Yx X n V rd b Q (.panic v) s:=⟨h⟩
def ZQ.YC{b:Code}(h:WL X n V rd b s Q):ZQ X n V rd b Q .normal s:=⟨h⟩
def ZQ.ret{b:Code}(h:Q .ret s):ZQ X n V rd b Q .ret s:=⟨h⟩
def ZQ.exit{b:Code}{id:Nat}(h:Q (.exit id) s):ZQ X n V rd b Q (.exit id) s:=⟨h⟩
def ZQ.panic{b:Code}{v:N}(h:Q (.panic v) s):ZQ X n V rd b Q (.panic v) s:=⟨h⟩
def Xh.YC{id:Nat}(h:Q .normal s):Xh id Q .normal s:=⟨h⟩
def Xh.ret{id:Nat}(h:Q .ret s):Xh id Q .ret s:=⟨h⟩
def Xh.panic{id:Nat}{v:N}(h:Q (.panic v) s):Xh id Q (.panic v) s:=⟨h⟩
def Xh.here{id:Nat}(h:Q .normal s):Xh id Q (.exit id) s:=⟨by show if _ then _ else _;rw[if_pos rfl];exact h⟩
def WF.begin{f:V3}{fn:Func}{c:Code}{args:U N}{h:H}{n:Nat}{R:WJ->H->Prop}(p:X.fns.get f=some fn)(q:fn.body=some c)(l:fn.ntmps=n)(hn:args.length<=n)
 (k:WC X n V none c ⟨QI args 0 .nil,[],h,none⟩ (Yk X fn R)):WF X f args.toArray V h R:=by
 subst l;exact WF.enter p q hn k
variable{ops:V5 Oper}{l:U Oper}{fr:Fr}{ds:U V7}{h h1:H}{d:Nat}{op:Op}{ty:J}{p:String}{af:V5 Edge}{g:O (Nat×Z)}
def WO.v{v:N}{E:Eff}(q:Yg ops ⟨some d,op,ty,p,af,g⟩ fr)(r:Nat.blt d n=true)(t:XM X h (YI fr) ⟨some d,op,ty,p,af,g⟩=some (.val v,E))(x:E.apply V h=some h1)
 (k:WO X n V rd ops l ⟨Tr.set fr d v,ds,h1,none⟩ Q):WO X n V rd ops (⟨some d,op,ty,p,af,g⟩::l) ⟨fr,ds,h,none⟩ Q:=WO.val q r t x k
def WO.u{E:Eff}(q:Yg ops ⟨none,op,ty,p,af,g⟩ fr)(r:XM X h (YI fr) ⟨none,op,ty,p,af,g⟩=some (.skip,E))(t:E.apply V h=some h1)
 (k:WO X n V rd ops l ⟨fr,ds,h1,none⟩ Q):WO X n V rd ops (⟨none,op,ty,p,af,g⟩::l) ⟨fr,ds,h,none⟩ Q:=WO.unit q rfl r t k
def WO.o(q:Zhs ops ⟨some d,op,ty,p,af,g⟩ fr)(r:Nat.blt d n=true)(k:WO X n V rd ops l ⟨Tr.set fr d undef,ds,h,none⟩ Q):WO X n V rd ops (⟨some d,op,ty,p,af,g⟩::l) ⟨fr,ds,h,none⟩ Q:=WO.off q r k
def WC.Zn5{c:V0}{a b:Code}{t:Z}(l:YI s.fr c=some (.bool t))(h:t=true)(k:WC X n V rd a s Q):WC X n V rd (.cond c a b) s Q:=WC.cond l (fun _=>k) fun e=>by rw[h]at e;cases e
def WC.Zhb{c:V0}{a b:Code}{t:Z}(l:YI s.fr c=some (.bool t))(h:t=false)(k:WC X n V rd b s Q):WC X n V rd (.cond c a b) s Q:=WC.cond l (fun e=>by rw[h]at e;cases e) fun _=>k
def ZEK{f:V3}{fn:Func}{vs:U N}(l:X.fns.get f=some fn):U5 X h (.func (.func f) #[] #[]) vs=some (.enter f vs.toArray,.none):=by unfold U5;simp[l]
structure Slc(h:H)(a:Option Addr)(len sz:Nat)(cells:List Value):Prop where
 Z6i:cells.length=len*sz
 mem:len=0\/∃i o cs own z,a=some ⟨i,o,none⟩/\h.at i=.row cs own z/\o+len*sz<=cs.length/\(cs.drop o).take (len*sz)=cells
structure Grow(h h':H):Prop where
 size:h.size<=h'.size
 keep:∀i,i<h.size->h'.at i=h.at i
def Grow.refl(h:H):Grow h h:=⟨K1 _,fun _ _=>rfl⟩
def Grow.trans{a b c:H}(x:Grow a b)(y:Grow b c):Grow a c:=⟨KK x.size y.size,fun i h=>(y.keep i (G3 h x.size)).trans (x.keep i h)⟩
def Grow.push{a b:H}(x:Grow a b)(A:Xv):Grow a (b.push A):=⟨Nat.le_succ_of_le x.size,fun i h=>by rw[H.Qu,if_neg (by have:=x.size;omega)];exact x.keep i h⟩
def Y8{h:H}{i:Nat}{A:Xv}(e:h.at i=A)(l:A.live=true):i<h.size:=by
 rcases Gq i h.size with z|z
 .exact z
 rw[H.Zfc z]at e;subst e;cases l
def Slc.load{P:V2}{h:H}{i o:Nat}{cs:U N}{own:Z}{z:Nat}{t:J}{v:N}(p:h.at i=.row cs own z)(l:YV P t=some false)(q:cs[o]? =some v):K4 P h t (.pointer (some ⟨i,o,none⟩))=some v:=by unfold K4;dsimp only;rw[p];dsimp only;rw[l];dsimp only;exact q
def Slc.addr{P:V2}{i o len cap k sz:Nat}{t e:J}(hu:P.underlying t=some (.slice e))(h:YO P e=some sz)(l:k<len):ZfP P t (.slice (some ⟨i,o,none⟩) len cap) (V9 (k:Int))=some (.pointer (some ⟨i,o+k*sz,none⟩)):=by
 have:ZfP P t (.slice (some ⟨i,o,none⟩) len cap) (V9 (Int.ofNat k))=some (.pointer (some ⟨i,o+k*sz,none⟩)):=by
  unfold ZfP;rw[hu];dsimp only;rw[h];dsimp only;have:Nat.blt k len=true:=by rw[Gd];exact l
  rw[this];rfl
 exact this
end
section
variable{X:Ctx}{n V:Nat}{rd:O Nat}{Q:XX->Fs->Prop}{ops:V5 Oper}{l:U Oper}{fr:Fr}{ds:U V7}{h:H}{d:Nat}{ty:J}{p:String}{af:V5 Edge}{g:O (Nat×Z)}
def Jm(h:H)(A:Xv):(h.push A).at h.size=A:=by rw[H.Qu,if_pos rfl]
def KD{h:H}{i:Nat}(l:i<h.size)(A:Xv):(h.push A).at i=h.at i:=by rw[H.Qu,if_neg Vb]
def Yp{h:H}{i:Nat}(l:i<h.size)(A:Xv):(h.put i A).at i=A:=by rw[H.Qt,if_pos ⟨rfl,l⟩]
def XG{h:H}{i j:Nat}(l:j≠i)(A:Xv):(h.put i A).at j=h.at j:=by rw[H.Qt,if_neg fun z=>l z.1]
def ZB(P:V2)(t:J)(f off:Nat):Prop:=∃h x m,P.underlying t=some (.struct h)/\h[f]? =some x/\YO P x.type=some (m+1)/\x.offset=off
def ZB.of{P:V2}{t:J}{f off:Nat}(h:ZdX P t ((Va 0)) f=some (.pointer (some ⟨0,off,none⟩))):ZB P t f off:=by
 unfold ZdX at h;cases e:P.underlying t with|none=>rw[e]at h;cases h|some u=>
   rw[e]at h;cases u with
   | struct q=>
     dsimp only at h;cases l:q[f]? with|none=>rw[l]at h;cases h|some x=>
       rw[l]at h;dsimp only at h;cases p:YO P x.type with|none=>rw[p]at h;cases h|some m=>
         rw[p]at h;cases m with|zero=>cases h|succ m=>cases h;exact⟨q,x,m,e,l,p,(Gc _).symm⟩
   | _=>cases h
def ZB.addr{P:V2}{t:J}{f off:Nat}(h:ZB P t f off)(i o:Nat):ZdX P t (.pointer (some ⟨i,o,none⟩)) f=some (.pointer (some ⟨i,o+off,none⟩)):=by obtain⟨p,x,m,h1,h2,l,rfl⟩:=h;unfold ZdX;rw[h1];dsimp only;rw[h2];dsimp only;rw[l]
def Zu2(b:Z):(Value.bool b).cells.toList=[.bool b]:=rfl
def Zy6(k:IntKind)(m:Int):(Value.int k m).cells.toList=[.int k m]:=rfl
def ZpR(s:Y):(Value.string s).cells.toList=[.string s]:=rfl
def Zy4(a:O Addr):(Value.pointer a).cells.toList=[.pointer a]:=rfl
def ZsF(a:O Addr)(m c:Nat):(Value.slice a m c).cells.toList=[.slice a m c]:=rfl
def Zy5(m:O Nat):(Value.map m).cells.toList=[.map m]:=rfl
def cells_func(f:Fn)(xs ys:V5 N):(Value.func f xs ys).cells.toList=[.func f xs ys]:=rfl
def Zm2:(Value.nilFunc).cells.toList=[.nilFunc]:=rfl
def Zl5:(Value.nilIface).cells.toList=[.nilIface]:=rfl
def ZsG(t:J)(v:N):(Value.iface t v).cells.toList=[.iface t v]:=rfl
def Zy7(vs:U N):(Value.agg vs.toArray).cells.toList=vs:=rfl
def Jz(P:V2)(t:J)(l:U N)(p:U (Nat×Nat)):Prop:=∃z h,Y5 P t=some z/\z.cells.toList=l/\P.underlying t=some (.struct h)/\Zed P h.toList=some p
def Zlk(h:Nat->O (Nat×Nat))(len:Nat):U (Nat×N)->Z
 | []=>true
 | (i,v)::rest=>(match h i with|some (off,size)=>Nat.beq v.cells.toList.length size&&Nat.ble (off+v.cells.toList.length) len|none=>false)&&Zlk h len rest
def Zr6(off:Nat->Nat):U N->U (Nat×N)->U N
 | cs,[]=>cs
 | cs,(i,v)::rest=>Zr6 off (splice cs (off i) v.cells.toList) rest
def Zs2{l:Nat->O (Nat×Nat)}{off:Nat->Nat}(t:∀i p,l i=some p->off i=p.1):∀(r:U (Nat×N))(cs:U N),Zlk l cs.length r=true->ZdW l cs r=some (Zr6 off cs r):=by
 intro r
 induction r with|nil=>intro cs _;rfl|cons q r ih=>
   have⟨i,v⟩:=q;intro cs h;simp only[Zlk,Ba0]at h;have⟨h1,h2⟩:=h;unfold ZdW Zr6;cases e:l i with|none=>rw[e]at h1;cases h1|some q=>
     have⟨of,sz⟩:=q;rw[e]at h1;dsimp only at h1 ⊢;rw[h1,Cq1,t i _ e]
     have x:(splice cs of v.cells.toList).length=cs.length:=by
      rw[Ba0]at h1;have:=Nl0 h1.2;simp only[splice,Ks,Gl,GD];omega
     exact ih _ (by rw[x];exact h2)
def Zz{ev:V0->O N}:evp ev []=some []:=rfl
def Zk{ev:V0->O N}{i:Nat}{x:V0}{xs:U (Nat×V0)}{v:N}{vs:U (Nat×N)}(h1:ev x=some v)(h2:evp ev xs=some vs):evp ev ((i,x)::xs)=some ((i,v)::vs):=by show(match ev x,evp ev xs with|some v,some vs=>some ((i,v)::vs) | _,_=>none)=_;rw[h1,h2]
def Zoc{P:V2}{h:H}{t:J}{b o z sz:Nat}{cs vs:U N}{own:Z}(l:YV P t=some true)(p:YO P t=some sz)(q:h.at b=.row cs own z)(r:o+sz<=cs.length)(hv:(cs.drop o).take sz=vs):
 K4 P h t (.pointer (some ⟨b,o,none⟩))=some (.agg vs.toArray):=by
 unfold K4;dsimp only;rw[q];dsimp only;rw[l,p];dsimp only;have x:Nat.ble (o+sz) cs.length=true:=Nm0 r;rw[x,hv];rfl
end
section
variable{X:Ctx}{n V:Nat}{rd:O Nat}{Q:XX->Fs->Prop}{ops:V5 Oper}{l:U Oper}{fr:Fr}{ds:U V7}{h:H}{d:O Tmp}{ty:J}{p:String}{af:V5 Edge}{g:O (Nat×Z)}{ev:V0->O N}
def Ye{x:V0}{v:N}(l:ev x=some v):XM X h ev ⟨d,.move x,ty,p,af,g⟩=some (.val v,.none):=by rw[ZEz,l];rfl
def YE{x:V0}{v:N}(l:ev x=some v):XM X h ev ⟨d,.assign x,ty,p,af,g⟩=some (.val v,.none):=by rw[Zvd,l];rfl
def Y3{x:V0}{t:J}{f off b o:Nat}(q:ZB X.P t f off)(l:ev x=some (.pointer (some ⟨b,o,none⟩))):XM X h ev ⟨d,.fieldAddr t x f,ty,p,af,g⟩=some (.val (.pointer (some ⟨b,o+off,none⟩)),.none):=by rw[Zm7,l];dsimp only;rw[q.addr];rfl
def KU{x:V0}{a:Addr}(l:ev x=some (.pointer (some a))):XM X h ev ⟨d,.nilCheck x,ty,p,af,g⟩=some (.val (.pointer (some a)),.none):=by show(match ev x with|some (.pointer (some a))=>some (AN.val (.pointer (some a)),Eff.none)|_=>none)=_;rw[l]
def ZEv{x:V0}{t:J}{b o z:Nat}{cs:U N}{own:Z}{v:N}(q:YV X.P t=some false)(l:ev x=some (.pointer (some ⟨b,o,none⟩)))(r:h.at b=.row cs own z)(y:cs[o]? =some v):
 XM X h ev ⟨d,.load t x,ty,p,af,g⟩=some (.val v,.none):=by rw[ZsZ,l];dsimp only;rw[Slc.load r q y];rfl
def ZEu{x:V0}{t:J}{b o z sz:Nat}{cs vs:U N}{own:Z}(q:YV X.P t=some true)(r:YO X.P t=some sz)(l:ev x=some (.pointer (some ⟨b,o,none⟩)))(y:h.at b=.row cs own z)(A:o+sz<=cs.length)(hv:(cs.drop o).take sz=vs):
 XM X h ev ⟨d,.load t x,ty,p,af,g⟩=some (.val (.agg vs.toArray),.none):=by rw[ZsZ,l];dsimp only;rw[Zoc q r y A hv];rfl
def ZPp{x:V0}{t e:J}{a:O Addr}{m c:Nat}(hu:X.P.underlying t=some (.slice e))(l:ev x=some (.slice a m c)):
 XM X h ev ⟨d,.call {callee:=.builtin .len,args:=#[x],argTypes:=#[t]},ty,p,af,g⟩=some (.val (V9 m),.none):=by
 have he:evs ev [x]=some [.slice a m c]:=Zb l Zd;rw[U4];show(match evs ev [x] with|some args=>Uv X.P h .len #[t] ty args|none=>none)=_;rw[he];show vN (Zve X.P h t (.slice a m c))=_;unfold Zve;rw[hu];rfl
def ZPq{x y:V0}{t e:J}{sz b o m c k:Nat}{l:Int}(hu:X.P.underlying t=some (.slice e))(A:YO X.P e=some sz)(r:ev x=some (.slice (some ⟨b,o,none⟩) m c))(q:ev y=some (V9 l))(C:l=(k:Int))(B:k<m):
 XM X h ev ⟨d,.indexAddr t x y,ty,p,af,g⟩=some (.val (.pointer (some ⟨b,o+k*sz,none⟩)),.none):=by
 subst C;rw[Zm6,r,q];dsimp only;rw[Slc.addr hu A B];rfl
def Kc{x:V0}{t:J}{b:Z}(l:ev x=some (.bool b)):XM X h ev ⟨d,.unOp .not t x,ty,p,af,g⟩=some (.val (.bool (!b)),.none):=by rw[ZEy,l];rfl
def YN{l:BinOp}{x y:V0}{t q:J}{a b v:N}(A:ev x=some a)(r:ev y=some b)(hv:X9 X.P l t x y a b=some (.val v,.none)):XM X h ev ⟨d,.binOp l t x y q,ty,p,af,g⟩=some (.val v,.none):=by rw[Zzi,A,r];exact hv
def Zmf{c x y:V0}{b z:Z}(r:ev c=some (.bool b))(q:ev x=some (cond b (.bool z) undef))(l:ev y=some (.bool false)):XM X h ev ⟨d,.pick c x y,ty,p,af,g⟩=some (.val (.bool (b&&z)),.none):=by rw[Zhj,r,q,l];cases b<;>rfl
def ZKG{c x y:V0}{b z:Z}(r:ev c=some (.bool b))(q:ev x=some (.bool true))(l:ev y=some (cond (!b) (.bool z) undef)):XM X h ev ⟨d,.pick c x y,ty,p,af,g⟩=some (.val (.bool (b||z)),.none):=by rw[Zhj,r,q,l];cases b<;>rfl
def Zzd{x:V0}{t:J}{f:Nat}{w v:N}(l:ev x=some w)(hv:Zhm X.P t w f=some v):XM X h ev ⟨d,.field t x f,ty,p,af,g⟩=some (.val v,.none):=by rw[Zzh,l];dsimp only;rw[hv];rfl
def Jv{x:V0}{k:Nat}{vs:U N}{v:N}(l:ev x=some (.tuple vs.toArray))(hv:vs[k]? =some v):XM X h ev ⟨d,.extract x k,ty,p,af,g⟩=some (.val v,.none):=by rw[Zs0,l];dsimp only;unfold ZdY;dsimp only;rw[hv];rfl
def Ze(ops:V5 Oper)(o:Oper)(fr:Fr)(c:Z):Prop:=okG ops.toList o fr=true/\XJ ops.toList o fr=c
def Ze.yes{ops:V5 Oper}{o:Oper}{fr:Fr}{j:Nat}{b:Z}{l:Oper}{p:Tmp}(t:gk o=some (j,true))(q:ops.toList[j]? =some l)(r:l.dst=some p)(hv:fr.at p=.bool b):Ze ops o fr b:=by have⟨h,hsk⟩:=ZjO t fr;unfold Ze okG XJ Kb;rw[h];dsimp only;rw[q];dsimp only;rw[r];dsimp only;rw[hv,hsk];cases b<;>exact⟨rfl,rfl⟩
def Ze.no{ops:V5 Oper}{o:Oper}{fr:Fr}{j:Nat}{b:Z}{l:Oper}{p:Tmp}(t:gk o=some (j,false))(q:ops.toList[j]? =some l)(r:l.dst=some p)(hv:fr.at p=.bool b):Ze ops o fr (!b):=by have⟨h,hsk⟩:=ZjO t fr;unfold Ze okG XJ Kb;rw[h];dsimp only;rw[q];dsimp only;rw[r];dsimp only;rw[hv,hsk];cases b<;>exact⟨rfl,rfl⟩
def Ze.ZQr{ops:V5 Oper}{o:Oper}{fr:Fr}{j:Nat}{a b:Z}{l:Oper}{p:Tmp}(t:gk o=some (j,true))(q:ops.toList[j]? =some l)(r:l.dst=some p)(hv:fr.at p=cond a (.bool b) undef):Ze ops o fr (a&&b):=by have⟨h,hsk⟩:=ZjO t fr;unfold Ze okG XJ Kb;rw[h];dsimp only;rw[q];dsimp only;rw[r];dsimp only;rw[hv,hsk];cases a<;>cases b<;>exact⟨rfl,rfl⟩
def Ze.no2{ops:V5 Oper}{o:Oper}{fr:Fr}{j:Nat}{a b:Z}{l:Oper}{p:Tmp}(t:gk o=some (j,false))(q:ops.toList[j]? =some l)(r:l.dst=some p)(hv:fr.at p=cond a (.bool b) undef):Ze ops o fr (a && !b):=by have⟨h,hsk⟩:=ZjO t fr;unfold Ze okG XJ Kb;rw[h];dsimp only;rw[q];dsimp only;rw[r];dsimp only;rw[hv,hsk];cases a<;>cases b<;>exact⟨rfl,rfl⟩
def Zf7{l:Op}{fr:Fr}{t:Tmp}{xs:V5 V0}{ts:V5 J}(h:l=.call {callee:=.value (.tmp t),args:=xs,argTypes:=ts})(hv:Zf6 (fr.at t)=true):Zkk l fr=true:=by subst h;exact hv
def Zf8{fr:Fr}{t:Tmp}{v:N}(p:fr.at t=v)(h:Zf6 v=true):Zf6 (fr.at t)=true:=by rw[p];exact h
def Zkl{c:Z}{v:N}(h:Zf6 v=true):Zf6 (cond c v undef)=true:=by cases c;rfl;exact h
def Ze.Zts{ops:V5 Oper}{o:Oper}{fr:Fr}{j:Nat}{b:Z}{p:Oper}{q:Tmp}(h:o.guard=some (j,true))(r:ops.toList[j]? =some p)(t:p.dst=some q)(hv:fr.at q=.bool b)(l:Zkk o.op fr=true):Ze ops o fr b:=by unfold Ze okG XJ Kb;rw[h];dsimp only;rw[r];dsimp only;rw[t];dsimp only;rw[hv,l];cases b<;>exact⟨rfl,rfl⟩
def Ze.noC{ops:V5 Oper}{o:Oper}{fr:Fr}{j:Nat}{b:Z}{p:Oper}{q:Tmp}(h:o.guard=some (j,false))(r:ops.toList[j]? =some p)(t:p.dst=some q)(hv:fr.at q=.bool b)(l:Zkk o.op fr=true):Ze ops o fr (!b):=by unfold Ze okG XJ Kb;rw[h];dsimp only;rw[r];dsimp only;rw[t];dsimp only;rw[hv,l];cases b<;>exact⟨rfl,rfl⟩
def WO.gv{d:Nat}{q:Op}{c:Z}{v:N}(r:Ze ops ⟨some d,q,ty,p,af,g⟩ fr c)(t:Nat.blt d n=true)(x:c=true->XM X h (YI fr) ⟨some d,q,ty,p,af,g⟩=some (.val v,.none))
 (k:WO X n V rd ops l ⟨Tr.set fr d (cond c v undef),ds,h,none⟩ Q):WO X n V rd ops (⟨some d,q,ty,p,af,g⟩::l) ⟨fr,ds,h,none⟩ Q:=by
 cases c;.exact WO.o r t k
 exact WO.v r t (x rfl) rfl k
end
section
variable{X:Ctx}{n V:Nat}{rd:O Nat}{ops:V5 Oper}{l:U Oper}{fr:Fr}{ds:U V7}{h:H}{ty:J}{p:String}{af:V5 Edge}{g:O (Nat×Z)}
variable{Q:Fr->Prop}
def ZE7(V:Nat):MOf false V none=fun _=>False:=by funext x;unfold MOf;simp
def Zef:∀(j:WI)(r:QJ),(fun _:WI=>(none:O QJ)) j=some r->Zj3 j r:=fun _ _ h=>by cases h
end
end Go.ZU
end
end
