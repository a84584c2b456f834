/- Part 8. -/
import Derived.ProofKit
import Derived.Test.YtbnepjakjmnadaaGreatFp7
set_option linter.all false
set_option maxHeartbeats 2000000
def Go.Kq0{p:Prop}(h:p:=by kernel_rfl):p:=h
section
noncomputable section
namespace Go.Proofs.YtbnepjakjmnadaaGreat
open Go.ZF Go.RowKit Go.WideShapes Go.ChangeShapes
def isTrue(r:O YP):Z:=
 match r with
 | some (.fin (.ret (.bool true)) _)=>true
 | _=>false
def ZpV{r:O YP}(h:isTrue r=true):∃h',r=some (.fin (.ret (.bool true)) h'):=by
 unfold isTrue at h;split at h
 ·exact⟨_,rfl⟩
 ·cases h
def mixed:Tryz.prog.follows .mixedOrders=true:=Kq0
def ZpH:Ren:=⟨fun _=>none,fun _=>(0,0)⟩
section
variable{H:Type}{enc:J×N->H}{P:V7}
def Zk8{f:Func}{s:ChangeSpec}{apart fresh handsOn again:Z}{W W':V9}{args:Va N}{v:N}{ds gs:U (DataW H)}{before pa pv:U MemPlace}
 (hW:DataW.Whole enc P f.params.toList s.vars apart W args.toList ds gs before)
 (hres:∀(b:Nat)(sp:Nat->Z)(hd:Z),DataW.TrodAll enc P W' b sp hd f.resultTypes.toList (v.resultList f.resultTypes.size) (s.fn H (ds++gs)).results [])
 (hargs:∀sp:Nat->Z,(∀p∈before,sp p.block=true)->DataW.TrodAll enc P W' 0 sp true f.params.toList args.toList (s.fn H (ds++gs)).args pa)
 (hvars:∀sp:Nat->Z,(∀p∈before,sp p.block=true)->DataW.TrodVars enc P W' sp s.vars (s.fn H (ds++gs)).vars pv)
 (hps:before=pa++pv) (hb:Below W.heap.size W W')
 (hok:∀(j:Nat)(t:J)(r:N),f.resultTypes[j]? =some t->(v.resultList f.resultTypes.size)[j]? =some r->Value.okWide P W' .any 0 t r):
 s.post enc P f apart fresh handsOn again W args v W':=by
 have hlt:∀p∈before,p.block<W.heap.size:=fun p hp=>hW.lt p hp
 have hold:∀p∈before,(fun b=>decide (b<W.heap.size)) p.block=true:=fun p hp=>by simpa using hlt p hp
 refine⟨ds,gs,before,[],pa,pv,hW,hres _ _ _,hargs _ hold,hvars _ hold,World.keptBut_mono (fun p hp=>⟨hp,?_⟩) (hb.frame (· ∈ before)),fun _=>?_⟩
 ·rw[hps,Q1]at hp;exact Or.inr hp
 ·obtain⟨_,_,_,_,_,hz,hn⟩:=hW;refine⟨hok,_,_,([]++pa)++pv,⟨[]++pa,pv,trodAll_append (hargs _ (fun _ _=>rfl)) (hres _ _ _),hvars _ (fun _ _=>rfl),rfl,?_,?_⟩,?_⟩
  ·intro b off hp;have hin:MemPlace.cell b off∈before:=by rw[hps];simpa using hp
   rw[hb.frozen (hlt _ hin)];exact hz b off hin
  ·intro ha;have:=hn ha;rw[hps]at this
   simpa using this
  ·intro p hp _;rw[hps]
   simpa using hp
end
end Go.Proofs.YtbnepjakjmnadaaGreat
end
end
section
noncomputable section
namespace Go.ZF
section
variable{X:Ctx}
structure WC(X:Ctx)(n wm:Nat)(rd:Option Nat)(c:Code)(s:Fs)(Q:XX->Fs->Prop):Prop where
 out:∃e s',Q e s'/\Yq X (.code c n wm rd s) (.code e s')
structure WL(X:Ctx)(n wm:Nat)(rd:Option Nat)(c:Code)(s:Fs)(Q:XX->Fs->Prop):Prop where
 out:∃e s',Q e s'/\Yq X (.loop c n wm rd s) (.code e s')
structure WF(X:Ctx)(f:FuncId)(args:Array Value)(wm:Nat)(h:H)(Q:U4->H->Prop):Prop where
 out:∃e h',Q e h'/\Yq X (.call f args wm h) (.fin e h')
def ZOZ(X:Ctx)(n wm:Nat)(rd:O Nat)(ops:Va Oper)(l:U Oper)(s:Fs)(e:XX)(s':Fs):Prop:=
 ∀(Q:Exit->Act->V9->Prop){ρ:Ren}{F:Fence}{a:Act}{w:V9},Inv ρ n s a w->wm<=s.h.size->KO ρ rd F->(∀e' a' w',Xj wm n ρ s.h w e s' e' a' w'->Q e' a' w')->wpListIn F 0 X.P ops Q l a w
structure WO(X:Ctx)(n wm:Nat)(rd:Option Nat)(ops:Array Oper)(l:List Oper)(s:Fs)(Q:XX->Fs->Prop):Prop where
 out:∃e s',Q e s'/\ZOZ X n wm rd ops l s e s'
variable{n wm:Nat}{rd:O Nat}{s:Fs}{Q:XX->Fs->Prop}
def WC.mono{c:Code}{Q':XX->Fs->Prop}(h:WC X n wm rd c s Q)(k:∀e s',Q e s'->Q' e s'):WC X n wm rd c s Q':=let⟨e,s',h1,h2⟩:=h;⟨e,s',k e s' h1,h2⟩
def WF.mono{f:V8}{args:Va N}{h:H}{Q Q':U4->H->Prop}(h1:WF X f args wm h Q)(k:∀e s',Q e s'->Q' e s'):WF X f args wm h Q':=let⟨e,s',h1,h2⟩:=h1;⟨e,s',k e s' h1,h2⟩
def ZOU(X:Ctx)(n wm:Nat)(rd:O Nat)(b:Code)(Q:XX->Fs->Prop):XX->Fs->Prop:=fun e s=>
 match e with
 | .normal=>WC X n wm rd b s Q
 | e=>Q e s
def ZKl(X:Ctx)(n wm:Nat)(rd:O Nat)(c:Code)(Q:XX->Fs->Prop):XX->Fs->Prop:=fun e s=>
 match e with
 | .normal=>WL X n wm rd c s Q
 | e=>Q e s
def ZB1(id:Nat)(Q:XX->Fs->Prop):XX->Fs->Prop:=fun e s=>
 match e with
 | .exit k=>if k=id then Q .normal s else Q (.exit k) s
 | e=>Q e s
structure Yl(X:Ctx)(n wm:Nat)(rd:Option Nat)(b:Code)(Q:XX->Fs->Prop)(e:XX)(s:Fs):Prop where
 out:ZOU X n wm rd b Q e s
structure ZM(X:Ctx)(n wm:Nat)(rd:Option Nat)(b:Code)(Q:XX->Fs->Prop)(e:XX)(s:Fs):Prop where
 out:ZKl X n wm rd b Q e s
structure YW(id:Nat)(Q:XX->Fs->Prop)(e:XX)(s:Fs):Prop where
 out:ZB1 id Q e s
def ExR.Zji{ρ:Ren}{e:XX}{e':Exit}(he:ExR ρ e e')(h:e≠.normal){N':Act->V9->Prop}{R:Exit->Act->V9->Prop}{a:Act}{w:V9}(hr:R e' a w):Exit.then N' R e' a w:=by
 cases he with
 | normal=>exact absurd rfl h
 | _=>exact hr
def WC.seq{a b:Code}(h:WC X n wm rd a s (Yl X n wm rd b Q)):WC X n wm rd (.seq a b) s Q:=by
 obtain⟨e,s1,hq,ka⟩:=h;by_cases hn:e=.normal
 ·subst hn;obtain⟨e2,s2,hq2,kb⟩:=hq.out;refine⟨e2,s2,hq2,fun ρ a w F Zt hi hF=>wpIn_seq (wpIn_mono (ka ρ a w F Zt hi hF) ?_)⟩;rintro e' a' w' ⟨ρ',he,hi',hst⟩;cases he;exact wpIn_mono (kb ρ' a' w' F (KB Zt hst.size) hi' (hF.mono hst.ext)) fun _ _ _ hp=>Xj.trans hi.rel.lt hst hp
 ·refine⟨e,s1,?_,fun ρ a w F Zt hi hF=>wpIn_seq (wpIn_mono (ka ρ a w F Zt hi hF) ?_)⟩
  ·cases e with
   | normal=>exact absurd rfl hn
   | _=>exact hq.out
  ·rintro e' a' w' ⟨ρ',he,hi',hst⟩;exact he.Zji hn ⟨ρ',he,hi',hst⟩
def WC.cond{c:V6}{a b:Code}{t:Z}(hc:Yo s.fr c=some (.bool t))(h1:t=true->WC X n wm rd a s Q)(h2:t=false->WC X n wm rd b s Q):WC X n wm rd (.cond c a b) s Q:=by
 have:∃e s',Q e s'/\∀ρ a' w F,wm<=s.h.size->Inv ρ n s a' w->KO ρ rd F->(if t then a else b).wpIn F 0 X.P (Xj wm n ρ s.h w e s') a' w:=by
  cases t with
  | true=>obtain⟨e,s',q,k⟩:=h1 rfl;exact⟨e,s',q,k⟩
  | false=>obtain⟨e,s',q,k⟩:=h2 rfl;exact⟨e,s',q,k⟩
 obtain⟨e,s',hq,k⟩:=this;refine⟨e,s',hq,fun ρ a' w F Zt hi hF=>?_⟩;have hv:=Wv hi.fr _ _ hc;generalize hx:a'.eval c=x at hv;cases hv;exact wpIn_cond hx (k ρ a' w F Zt hi hF)
def WC.block{id:Nat}{c:Code}(h:WC X n wm rd c s (YW id Q)):WC X n wm rd (.block id c) s Q:=by
 obtain⟨e,s1,hq,ka⟩:=h
 have key:∃e2,Q e2 s1/\∀(KP n':Nat)(ρ0:Ren)(h0:H)(w0:V9)(e':Exit)(a':Act)(w':V9),Xj KP n' ρ0 h0 w0 e s1 e' a' w'->Exit.inBlock id (Xj KP n' ρ0 h0 w0 e2 s1) e' a' w':=by
  cases e with
  | exit k=>
    by_cases hk:k=id
    ·subst hk;refine⟨.normal,by simpa[ZB1]using hq.out,?_⟩;rintro _ _ _ _ _ e' a' w' ⟨ρ',he,hi',hst⟩;cases he;show if _ then _ else _
     rw[if_pos rfl];exact⟨ρ',.normal,hi',hst⟩
    ·refine⟨.exit k,by simpa[ZB1,hk]using hq.out,?_⟩;rintro _ _ _ _ _ e' a' w' ⟨ρ',he,hi',hst⟩;cases he;show if _ then _ else _
     rw[if_neg hk];exact⟨ρ',.exit k,hi',hst⟩
  | normal=>exact⟨.normal,hq.out,by rintro _ _ _ _ _ e' a' w' ⟨ρ',he,hi',hst⟩;cases he;exact⟨ρ',.normal,hi',hst⟩⟩
  | goto l=>exact⟨.goto l,hq.out,by rintro _ _ _ _ _ e' a' w' ⟨ρ',he,hi',hst⟩;cases he;exact⟨ρ',.goto l,hi',hst⟩⟩
  | ret=>exact⟨.ret,hq.out,by rintro _ _ _ _ _ e' a' w' ⟨ρ',he,hi',hst⟩;cases he;exact⟨ρ',.ret,hi',hst⟩⟩
  | panic v=>exact⟨.panic v,hq.out,by rintro _ _ _ _ _ e' a' w' ⟨ρ',he,hi',hst⟩;cases he with|panic hv=>exact⟨ρ',.panic hv,hi',hst⟩⟩
 obtain⟨e2,hq2,key⟩:=key;exact⟨e2,s1,hq2,fun ρ a w F Zt hi hF=>wpIn_block (wpIn_mono (ka ρ a w F Zt hi hF) fun e' a' w' hp=>key _ _ _ _ _ e' a' w' hp)⟩
def WC.skip(h:Q .normal s):WC X n wm rd .skip s Q:=⟨_,_,h,fun ρ _ _ _ _ hi _=>wpIn_skip ⟨ρ,.normal,hi,Stp.refl _ _ _ _⟩⟩
def WC.ret(h:Q .ret s):WC X n wm rd .ret s Q:=⟨_,_,h,fun ρ _ _ _ _ hi _=>wpIn_ret ⟨ρ,.ret,hi,Stp.refl _ _ _ _⟩⟩
def WC.exit{id:Nat}(h:Q (.exit id) s):WC X n wm rd (.exit id) s Q:=⟨_,_,h,fun ρ _ _ _ _ hi _=>wpIn_exit ⟨ρ,.exit id,hi,Stp.refl _ _ _ _⟩⟩
def WC.loop{c:Code}(h:WL X n wm rd c s Q):WC X n wm rd (.loop c) s Q:=
 let⟨e,s',hq,k⟩:=h;⟨e,s',hq,fun ρ a w F Zt hi hF=>ZbX (k ρ a w F Zt hi hF)⟩
def WC.region{id:Nat}{ops:Va Oper}(h:WO X n wm rd ops ops.toList s Q):WC X n wm rd (.region id ops false) s Q:=by
 obtain⟨e,s',hq,k⟩:=h;exact⟨e,s',hq,fun ρ a w F Zt hi hF=>wpIn_region_list (k _ hi Zt hF fun _ _ _ hp=>hp)⟩
def WL.step{c:Code}(h:WC X n wm rd c s (ZM X n wm rd c Q)):WL X n wm rd c s Q:=by
 obtain⟨e,s1,hq,ka⟩:=h;by_cases hn:e=.normal
 ·subst hn;obtain⟨e2,s2,hq2,kb⟩:=hq.out;refine⟨e2,s2,hq2,fun ρ a w F Zt hi hF=>Xo (wpIn_mono (ka ρ a w F Zt hi hF) ?_)⟩;rintro e' a' w' ⟨ρ',he,hi',hst⟩;cases he;have:=kb ρ' a' w' F (KB Zt hst.size) hi' (hF.mono hst.ext);intro b k cs h1 h2 h3;obtain⟨e3,a3,w3,hp,harr⟩:=this b k cs h1 h2 h3;exact⟨e3,a3,w3,Xj.trans hi.rel.lt hst hp,harr⟩
 ·refine⟨e,s1,?_,fun ρ a w F Zt hi hF=>Xo (wpIn_mono (ka ρ a w F Zt hi hF) ?_)⟩
  ·cases e with
   | normal=>exact absurd rfl hn
   | _=>exact hq.out
  ·rintro e' a' w' ⟨ρ',he,hi',hst⟩;exact he.Zji hn ⟨ρ',he,hi',hst⟩
def ZOX(X:Ctx)(fn:Func)(Q:U4->H->Prop):XX->Fs->Prop:=fun e s=>s.ds=[]/\
 match e with
 | .normal=>∃v,QJ X.P fn s.fr s.h=some v/\Q (.ret v) s.h
 | .ret=>∃v,QJ X.P fn s.fr s.h=some v/\Q (.ret v) s.h
 | .panic v=>Q (.ZX v) s.h
 | _=>False
structure YK(X:Ctx)(fn:Func)(Q:U4->H->Prop)(e:XX)(s:Fs):Prop where
 out:ZOX X fn Q e s
def WF.enter{f:V8}{fn:Func}{c:Code}{args:Va N}{h:H}{Q:U4->H->Prop}(hf:X.fns.get f=some fn)(hb:fn.body=some c)(hn:args.toList.length<=fn.ntmps)
 (k:WC X fn.ntmps wm none c {fr:=X0 args.toList 0 .nil,ds:=[],h:=h} (YK X fn Q)):WF X f args wm h Q:=by
 obtain⟨e,s',⟨hds,hq⟩,ka⟩:=k
 have main:∀(E:U4)(pm:PM),xPM e=some pm->Ua (cfg X fun _=>false) (fun _=>none) fn wm pm s'=some (.fin E s'.h)->Yq X (.call f args wm h) (.fin E s'.h):=by
  intro E pm hpm hl;have hj:=Jh (C:=cfg X fun _=>false) (ih:=fun _=>none) (fun _ _ h=>by cases h) hl;intro ρ args' w Zt hr hv
  have hi:Inv ρ fn.ntmps {fr:=X0 args.toList 0 .nil,ds:=[],h:=h} {tmps:=args'++Array.replicate (fn.ntmps-args'.size) undef,defers:=[]} w:=
   ⟨hr,Wy hv hn,.nil⟩
  refine callsIn_of_wp_marks (X.ok f fn hf).1 hb (ZgS hf) (wpIn_mono (ka ρ _ w base Zt hi rfl) ?_);rintro e' a' w' ⟨ρ',he,hi',hst⟩;cases he with
  | normal=>cases hpm;exact hj ρ' _ a' .returning w' _ (KB Zt hst.size) hi' .ret (fun _ _ hp=>UX.trans hr.lt hst hp)
  | ret=>cases hpm;exact hj ρ' _ a' .returning w' _ (KB Zt hst.size) hi' .ret (fun _ _ hp=>UX.trans hr.lt hst hp)
  | panic hv'=>cases hpm;exact hj ρ' _ a' _ w' _ (KB Zt hst.size) hi' (.ZX hv') (fun _ _ hp=>UX.trans hr.lt hst hp)
  | exit id=>cases hpm
  | goto l=>cases hpm
 cases e with
 | normal=>
   obtain⟨v,hv,hq⟩:=hq
   exact⟨_,_,hq,main _ .ret rfl (by
    have hv':QJ (cfg X fun _=>false).X.P fn s'.fr s'.h=some v:=hv;unfold Ua;rw[hds];simp only[hv'])⟩
 | ret=>
   obtain⟨v,hv,hq⟩:=hq
   exact⟨_,_,hq,main _ .ret rfl (by
    have hv':QJ (cfg X fun _=>false).X.P fn s'.fr s'.h=some v:=hv;unfold Ua;rw[hds];simp only[hv'])⟩
 | panic v=>exact⟨_,_,hq,main _ (.ZX v) rfl (by unfold Ua;rw[hds])⟩
 | exit _=>exact hq.elim
 | goto _=>exact hq.elim
abbrev Pure(X:Ctx)(f:V8)(args:Va N)(h:H)(v:N):Prop:=∀wm,Yq X (.call f args wm h) (.fin (.ret v) h)
def WF.pure{f:V8}{args:Va N}{h:H}{v:N}(hp:plain v=true)(k:WF X f args h.size h (fun e _=>e=.ret v)):Pure X f args h v:=by
 obtain⟨e,h',rfl,hj⟩:=k;intro wm ρ args' w Zt hr hv;refine(hj ρ args' w Vh hr hv).mono ?_;rintro e' w' ⟨ρ',he,hr',hst⟩;cases he with
 | ret hv'=>
   rw[VR.YS hp hv'];obtain⟨q1,q2⟩:=Za6 hr hst;exact⟨ρ,.ret (VR.ZC hp),q1,q2 wm⟩
variable{ops:Va Oper}{l:U Oper}{o:Oper}
def WO.nil(h:Q .normal s):WO X n wm rd ops [] s Q:=⟨_,_,h,fun _ ρ _ a w hi _ _ hq=>hq .normal a w ⟨ρ,.normal,hi,Stp.refl _ _ _ _⟩⟩
def WO.cons{ih:Qn->O YP}(HI:∀j r,ih j=some r->Yq X j r){s1:Fs}(h:JS X (fun _=>false) ih n wm rd ops.toList o s=some (.normal,s1))(k:WO X n wm rd ops l s1 Q):WO X n wm rd ops (o::l) s Q:=by
 obtain⟨e,s',hq,hk⟩:=k;refine⟨e,s',hq,fun Q' ρ F a w hi Zt hF hq'=>?_⟩;refine Ux HI h hi Zt hF (fun _ ρ' a' w' hi' st'=>?_) (fun v he=>by cases he);refine hk Q' hi' (KB Zt st'.size) (hF.mono st'.ext) fun e' a2 w2 hp=>?_
 obtain⟨ρ2,q1,q2,q3⟩:=hp;exact hq' e' a2 w2 ⟨ρ2,q1,q2,st'.trans hi.rel.lt q3⟩
def WO.panics{ih:Qn->O YP}(HI:∀j r,ih j=some r->Yq X j r){s1:Fs}{v:N}(h:JS X (fun _=>false) ih n wm rd ops.toList o s=some (.panic v,s1))(k:Q (.panic v) s1):WO X n wm rd ops (o::l) s Q:=by
 refine⟨.panic v,s1,k,fun Q' ρ F a w hi Zt hF hq'=>?_⟩;refine Ux HI h hi Zt hF (fun he=>by cases he) (fun v' he ρ' v2 a' w' hv hi' st'=>?_);cases he;exact hq' _ a' w' ⟨ρ',.panic hv,hi',st'⟩
def Zar(X:Ctx):∀(j:Qn)(r:YP),(fun _:Qn=>(none:O YP)) j=some r->Yq X j r:=fun _ _ h=>by cases h
def ZFn(op:Op):Z:=match op with
 | .call c=>match c.callee with
   | .value x=>match x with
     | .func f=>Nat.blt f nfs
     | _=>false
   | .builtin _=>true
   | .invoke _ _=>false
 | _=>true
def gk(o:Oper):O (Nat×Z):=bif ZFn o.op then o.guard else none
def Zio{o:Oper}{q:Nat×Z}(h:gk o=some q)(fr:Fr):o.guard=some q/\ZiW o.op fr=true:=by
 unfold gk at h;cases hs:ZFn o.op with
 | false=>rw[hs]at h;cases h
 | true=>
   rw[hs]at h;refine⟨h,?_⟩
   revert hs
   generalize o.op=op;intro hs;cases op with
   | call c=>
     obtain⟨callee,args,ats⟩:=c;cases callee with
     | value x=>
       cases x with
       | func f=>exact hs
       | tmp t=>cases hs
       | const v=>cases hs
       | global g=>cases hs
     | builtin b=>rfl
     | invoke r nm=>cases hs
   | _=>rfl
def ZP(ops:Va Oper)(o:Oper)(fr:Fr):Prop:=okG ops.toList o fr=true/\Y0 ops.toList o fr=true
def Zgk(ops:Va Oper)(o:Oper)(fr:Fr):Prop:=okG ops.toList o fr=true/\Y0 ops.toList o fr=false
def ZP.none{ops:Va Oper}{o:Oper}{fr:Fr}(h:o.guard=none):ZP ops o fr:=by unfold ZP okG Y0;rw[h];exact⟨rfl,rfl⟩
def gN{ops:Va Oper}{d:O Tmp}{op:Op}{ty:J}{p:String}{af:Va Edge}{fr:Fr}:ZP ops ⟨d,op,ty,p,af,Option.none⟩ fr:=ZP.none rfl
def Zky(n:Nat)(d:O Tmp):Z:=
 match d with
 | none=>true
 | some d=>Nat.blt d n
def Zf9{fr:Fr}{ds:U Vc}{h:H}{d:O Tmp}{v:N}(hd:Zky n d=true):Zhh n ⟨fr,ds,h,none⟩ d v=some ⟨QI fr d v,ds,h,none⟩:=by
 rw[ZiA];cases d with
 | none=>rfl
 | some d=>
   unfold Zky at hd;dsimp only at hd ⊢;rw[hd];rfl
variable{fr:Fr}{ds:U Vc}{h h1:H}
def WO.val{v:N}{E:Eff}(hg:ZP ops o fr)(hd:Zky n o.dst=true)(ha:Xm X h (Yo fr) o=some (.val v,E))(hE:E.apply wm h=some h1)
 (k:WO X n wm rd ops l ⟨QI fr o.dst v,ds,h1,none⟩ Q):WO X n wm rd ops (o::l) ⟨fr,ds,h,none⟩ Q:=by
 refine WO.cons (Zar X) ?_ k;unfold JS;rw[hg.1,hg.2];dsimp only[QP,Cq0,Cq1];rw[ha];dsimp only[QP,Cq0,Cq1];rw[hE];unfold Kn;dsimp only[Jz];rw[Zf9 hd]
 rfl
def WO.unit{E:Eff}(hg:ZP ops o fr)(hd:Zky n o.dst=true)(ha:Xm X h (Yo fr) o=some (.skip,E))(hE:E.apply wm h=some h1)
 (k:WO X n wm rd ops l ⟨QI fr o.dst undef,ds,h1,none⟩ Q):WO X n wm rd ops (o::l) ⟨fr,ds,h,none⟩ Q:=by
 refine WO.cons (Zar X) ?_ k;unfold JS;rw[hg.1,hg.2];dsimp only[QP,Cq0,Cq1];rw[ha];dsimp only[QP,Cq0,Cq1];rw[hE];unfold Kn;dsimp only[Jz];rw[Zf9 hd]
 rfl
def WO.panic{v:N}{E:Eff}(hg:ZP ops o fr)(ha:Xm X h (Yo fr) o=some (.panic v,E))(hE:E.apply wm h=some h1)
 (k:Q (.panic v) ⟨fr,ds,h1,none⟩):WO X n wm rd ops (o::l) ⟨fr,ds,h,none⟩ Q:=by
 refine WO.panics (Zar X) ?_ k;unfold JS;rw[hg.1,hg.2];dsimp only[QP,Cq0,Cq1];rw[ha];dsimp only[QP,Cq0,Cq1];rw[hE]
 rfl
def WO.off(hg:Zgk ops o fr)(hd:Zky n o.dst=true)(k:WO X n wm rd ops l ⟨QI fr o.dst undef,ds,h,none⟩ Q):WO X n wm rd ops (o::l) ⟨fr,ds,h,none⟩ Q:=by
 refine WO.cons (Zar X) ?_ k;unfold JS;rw[hg.1,hg.2];dsimp only[QP,Cq0,Cq1];rw[Zf9 hd]
 rfl
open Classical in
def QK (j:Qn) (r:YP):Qn ->Option YP:=fun j'=>if j'=j then some r else none
def Y9{j:Qn}{r:YP}(h:Yq X j r):∀j' r',QK j r j'=some r'->Yq X j' r':=by
 intro j' r' e;unfold QK at e;split at e
 ·rename_i hj;cases e;rw[hj];exact h
 ·cases e
def Xa(j:Qn)(r:YP):QK j r j=some r:=by unfold QK;rw[if_pos rfl]
def WO.call{f:V8}{args:Va N}{E:Eff}{v:N}{h2:H}(hg:ZP ops o fr)(hd:Zky n o.dst=true)(ha:Xm X h (Yo fr) o=some (.enter f args,E))(hE:E.apply wm h=some h1)
 (hc:Yq X (.call f args wm h1) (.fin (.ret v) h2)) (k:WO X n wm rd ops l ⟨QI fr o.dst v,ds,h2,none⟩ Q):WO X n wm rd ops (o::l) ⟨fr,ds,h,none⟩ Q:=by
 refine WO.cons (Y9 hc) ?_ k;unfold JS;rw[hg.1,hg.2];dsimp only[QP,Cq0,Cq1];rw[ha];dsimp only[QP,Cq0,Cq1];rw[hE];unfold Kn;dsimp only[Jz,Cq0];rw[Xa];dsimp only;rw[Zf9 hd]
 rfl
def WO.ZkD{f:V8}{args:Va N}{E:Eff}{v:N}{h2:H}(hg:ZP ops o fr)(ha:Xm X h (Yo fr) o=some (.enter f args,E))(hE:E.apply wm h=some h1)
 (hc:Yq X (.call f args wm h1) (.fin (.ZX v) h2)) (k:Q (.panic v) ⟨fr,ds,h2,none⟩):WO X n wm rd ops (o::l) ⟨fr,ds,h,none⟩ Q:=by
 refine WO.panics (Y9 hc) ?_ k;unfold JS;rw[hg.1,hg.2];dsimp only[QP,Cq0,Cq1];rw[ha];dsimp only[QP,Cq0,Cq1];rw[hE];unfold Kn;dsimp only[Jz,Cq0];rw[Xa]
 rfl
end
section
variable{X:Ctx}{P:V7}{h:H}{fr:Fr}{ev:V6->O N}{d:O Tmp}{ty:J}{p:String}{af:Va Edge}{g:O (Nat×Z)}
def at_set(fr:Fr)(d t:Nat)(v:N):Fr.at (Tr.set fr d v) t=if t=d then v else Fr.at fr t:=by
 unfold Fr.at;rw[Tr.XE];by_cases h:t=d<;>simp[h]
def Zn(i:Nat)(fr:Fr):X0 [] i fr=fr:=rfl
def Zl(v:N)(vs:U N)(i:Nat)(fr:Fr):X0 (v::vs) i fr=X0 vs (i+1) (Tr.set fr i v):=rfl
def ZiC(fr:Fr)(t:Nat):Yo fr (.tmp t)=bif Xt (fr.at t) then none else some (fr.at t):=rfl
def Zw8(fr:Fr)(v:N):Yo fr (.const v)=bif plain v then some v else none:=rfl
def Zrx(fr:Fr)(f:V8):Yo fr (.func f)=some (.func (.func f) #[] #[]):=rfl
def ZBv(x:V6):Xm X h ev ⟨d,.move x,ty,p,af,g⟩=vN (ev x):=rfl
def Ztw(x:V6):Xm X h ev ⟨d,.assign x,ty,p,af,g⟩=vN (ev x):=rfl
def Zw5(op:BinOp)(t:J)(x y:V6)(yt:J):Xm X h ev ⟨d,.binOp op t x y yt,ty,p,af,g⟩=match ev x,ev y with
 | some a,some b=>XT X.P op t x y a b
 | _,_=>none:=rfl
def Zgb(c a b:V6):Xm X h ev ⟨d,.pick c a b,ty,p,af,g⟩=match ev c with
 | some (.bool true)=>vN (ev a)
 | some (.bool false)=>vN (ev b)
 | _=>none:=rfl
def ZBu(op:UnOp)(t:J)(x:V6):Xm X h ev ⟨d,.unOp op t x,ty,p,af,g⟩=match ev x with
 | some a=>bif plain a then pN (U0 X.P (Op.unary op a)) else none
 | none=>none:=rfl
def Zrs(t:J)(x:V6):Xm X h ev ⟨d,.load t x,ty,p,af,g⟩=match ev x with
 | some v=>vN (Ko X.P h t v)
 | none=>none:=rfl
def Zw3(t:J)(a x:V6):Xm X h ev ⟨d,.store t a x,ty,p,af,g⟩=match ev a,ev x with
 | some a,some x=>sE (Zhf X.P h t a x)
 | _,_=>none:=rfl
def ZEQ(t:J)(x:V6):Xm X h ev ⟨d,.box t x,ty,p,af,g⟩=match ev x with
 | some v=>some (.val (Jd h),.new (.row v.cells.toList true 0))
 | none=>none:=rfl
def Zw6(t:J):Xm X h ev ⟨d,.alloc t,ty,p,af,g⟩=match YF X.P t with
 | some z=>some (.val (Jd h),.new (.row z.cells.toList true 0))
 | none=>none:=rfl
def ZlE(t:J)(x:V6)(f:Nat):Xm X h ev ⟨d,.fieldAddr t x f,ty,p,af,g⟩=match ev x with
 | some v=>vN (ZcQ X.P t v f)
 | none=>none:=rfl
def ZlD(t:J)(x i:V6):Xm X h ev ⟨d,.indexAddr t x i,ty,p,af,g⟩=match ev x,ev i with
 | some x,some i=>vN (ZeK X.P t x i)
 | _,_=>none:=rfl
def Zrt(x:V6)(k:Nat):Xm X h ev ⟨d,.extract x k,ty,p,af,g⟩=match ev x with
 | some x=>vN (ZcR x k)
 | none=>none:=rfl
def Uy(b:Builtin)(xs:Va V6)(ts:Va J):Xm X h ev ⟨d,.call {callee:=.builtin b,args:=xs,argTypes:=ts},ty,p,af,g⟩=match evs ev xs.toList with
 | some args=>J7 X.P h b ts ty args
 | none=>none:=by
 show(match Callee.builtin b,evs ev xs.toList with
  | .builtin b,some args=>J7 X.P h b ts ty args
  | .value f,some args=>match ev f with
    | some f=>Uz X h f args
    | none=>none
  | .invoke r name,some args=>match ev r with
    | some r=>ZbD X r name args
    | none=>none
  | _,_=>none)=_
 cases evs ev xs.toList<;>rfl
def Zdz(f:V6)(xs:Va V6)(ts:Va J):Xm X h ev ⟨d,.call {callee:=.value f,args:=xs,argTypes:=ts},ty,p,af,g⟩=match evs ev xs.toList with
 | some args=>match ev f with
   | some f=>Uz X h f args
   | none=>none
 | none=>none:=by
 show(match Callee.value f,evs ev xs.toList with
  | .builtin b,some args=>J7 X.P h b ts ty args
  | .value f,some args=>match ev f with
    | some f=>Uz X h f args
    | none=>none
  | .invoke r name,some args=>match ev r with
    | some r=>ZbD X r name args
    | none=>none
  | _,_=>none)=_
 cases evs ev xs.toList<;>rfl
def Zd:evs ev []=some []:=rfl
def Zb{x:V6}{xs:U V6}{v:N}{vs:U N}(h1:ev x=some v)(h2:evs ev xs=some vs):evs ev (x::xs)=some (v::vs):=by
 show(match ev x,evs ev xs with|some v,some vs=>some (v::vs) | _,_=>none)=_;rw[h1,h2]
def Zbb{op:BinOp}{t:J}{x y:V6}{k:IntKind}{a b:Int}{c:Z}(ho:Op.intCmp op a b=pure (.bool c))(h1:op=.eql\/op=.neq\/op=.lss\/op=.leq\/op=.gtr\/op=.geq):XT P op t x y (.int k a) (.int k b)=some (.val (.bool c),.none):=by
 have hp:(plain (.int k a)&&plain (.int k b))=true:=rfl;unfold XT;rw[hp,Cq1]
 have hb:binOp op t (.int k a) (.int k b)=pure (.bool c):=by
  rcases h1 with rfl|rfl|rfl|rfl|rfl|rfl<;>simp[binOp,ho]
 have hg:(do eqGuard op t x y (.int k a) (.int k b);binOp op t (.int k a) (.int k b):Sem N)=pure (.bool c):=by
  rw[hb];rcases h1 with rfl|rfl|rfl|rfl|rfl|rfl<;>rfl
 rw[hg];rfl
def Zgf{t:J}{x y:V6}{k:IntKind}{a b:Int}:XT P .eql t x y (.int k a) (.int k b)=some (.val (.bool (a==b)),.none):=Zbb rfl (by simp)
def ZBI{t:J}{x y:V6}{k:IntKind}{a b:Int}:XT P .neq t x y (.int k a) (.int k b)=some (.val (.bool (a !=b)),.none):=Zbb rfl (by simp)
def ZrB{t:J}{x y:V6}{k:IntKind}{a b:Int}:XT P .lss t x y (.int k a) (.int k b)=some (.val (.bool (decide (a<b))),.none):=Zbb rfl (by simp)
def ZBJ{t:J}{x y:V6}{k:IntKind}{a b:Int}:XT P .leq t x y (.int k a) (.int k b)=some (.val (.bool (decide (a<=b))),.none):=Zbb rfl (by simp)
def ZBK{t:J}{x y:V6}{k:IntKind}{a b:Int}:XT P .gtr t x y (.int k a) (.int k b)=some (.val (.bool (decide (a>b))),.none):=Zbb rfl (by simp)
def ZBL{t:J}{x y:V6}{k:IntKind}{a b:Int}:XT P .geq t x y (.int k a) (.int k b)=some (.val (.bool (decide (a >=b))),.none):=Zbb rfl (by simp)
def ZtG{op:BinOp}{t:J}{x y:V6}{k:IntKind}{a b c:Int}(h1:op=.add/\c=a+b\/op=.sub/\c=a-b\/op=.mul/\c=a*b):XT P op t x y (.int k a) (.int k b)=some (.val (.int k (k.wrap c)),.none):=by
 have hp:(plain (.int k a)&&plain (.int k b))=true:=rfl;unfold XT;rw[hp,Cq1]
 have hb:binOp op t (.int k a) (.int k b)=pure (.int k (k.wrap c)):=by
  rcases h1 with⟨rfl,rfl⟩|⟨rfl,rfl⟩|⟨rfl,rfl⟩<;>simp[binOp,Op.intArith]
 have hg:(do eqGuard op t x y (.int k a) (.int k b);binOp op t (.int k a) (.int k b):Sem N)=pure (.int k (k.wrap c)):=by
  rw[hb];rcases h1 with⟨rfl,rfl⟩|⟨rfl,rfl⟩|⟨rfl,rfl⟩<;>rfl
 rw[hg];rfl
end
section
variable{X:Ctx}{n wm:Nat}{rd:O Nat}{s:Fs}{Q:XX->Fs->Prop}
def Yl.YG{b:Code}(h:WC X n wm rd b s Q):Yl X n wm rd b Q .normal s:=⟨h⟩
def Yl.ret{b:Code}(h:Q .ret s):Yl X n wm rd b Q .ret s:=⟨h⟩
def Yl.exit{b:Code}{id:Nat}(h:Q (.exit id) s):Yl X n wm rd b Q (.exit id) s:=⟨h⟩
def Yl.panic{b:Code}{v:N}(h:Q (.panic v) s):Yl X n wm rd b Q (.panic v) s:=⟨h⟩
def ZM.YG{b:Code}(h:WL X n wm rd b s Q):ZM X n wm rd b Q .normal s:=⟨h⟩
def ZM.ret{b:Code}(h:Q .ret s):ZM X n wm rd b Q .ret s:=⟨h⟩
def ZM.exit{b:Code}{id:Nat}(h:Q (.exit id) s):ZM X n wm rd b Q (.exit id) s:=⟨h⟩
def ZM.panic{b:Code}{v:N}(h:Q (.panic v) s):ZM X n wm rd b Q (.panic v) s:=⟨h⟩
def YW.YG{id:Nat}(h:Q .normal s):YW id Q .normal s:=⟨h⟩
def YW.ret{id:Nat}(h:Q .ret s):YW id Q .ret s:=⟨h⟩
def YW.panic{id:Nat}{v:N}(h:Q (.panic v) s):YW id Q (.panic v) s:=⟨h⟩
def YW.here{id:Nat}(h:Q .normal s):YW id Q (.exit id) s:=⟨by show if _ then _ else _;rw[if_pos rfl];exact h⟩
def WF.begin{f:V8}{fn:Func}{c:Code}{args:U N}{h:H}{n:Nat}{R:U4->H->Prop}(hf:X.fns.get f=some fn)(hb:fn.body=some c)(hnt:fn.ntmps=n)(hn:args.length<=n)
 (k:WC X n wm none c ⟨X0 args 0 .nil,[],h,none⟩ (YK X fn R)):WF X f args.toArray wm h R:=by
 subst hnt;exact WF.enter hf hb hn k
variable{ops:Va Oper}{l:U Oper}{fr:Fr}{ds:U Vc}{h h1:H}{d:Nat}{op:Op}{ty:J}{p:String}{af:Va Edge}{g:O (Nat×Z)}
def WO.v{v:N}{E:Eff}(hg:ZP ops ⟨some d,op,ty,p,af,g⟩ fr)(hd:Nat.blt d n=true)(ha:Xm X h (Yo fr) ⟨some d,op,ty,p,af,g⟩=some (.val v,E))(hE:E.apply wm h=some h1)
 (k:WO X n wm rd ops l ⟨Tr.set fr d v,ds,h1,none⟩ Q):WO X n wm rd ops (⟨some d,op,ty,p,af,g⟩::l) ⟨fr,ds,h,none⟩ Q:=WO.val hg hd ha hE k
def WO.u{E:Eff}(hg:ZP ops ⟨none,op,ty,p,af,g⟩ fr)(ha:Xm X h (Yo fr) ⟨none,op,ty,p,af,g⟩=some (.skip,E))(hE:E.apply wm h=some h1)
 (k:WO X n wm rd ops l ⟨fr,ds,h1,none⟩ Q):WO X n wm rd ops (⟨none,op,ty,p,af,g⟩::l) ⟨fr,ds,h,none⟩ Q:=WO.unit hg rfl ha hE k
def WO.o(hg:Zgk ops ⟨some d,op,ty,p,af,g⟩ fr)(hd:Nat.blt d n=true)(k:WO X n wm rd ops l ⟨Tr.set fr d undef,ds,h,none⟩ Q):WO X n wm rd ops (⟨some d,op,ty,p,af,g⟩::l) ⟨fr,ds,h,none⟩ Q:=WO.off hg hd k
def WC.ZmA{c:V6}{a b:Code}{t:Z}(hc:Yo s.fr c=some (.bool t))(ht:t=true)(k:WC X n wm rd a s Q):WC X n wm rd (.cond c a b) s Q:=WC.cond hc (fun _=>k) fun e=>by rw[ht]at e;cases e
def WC.Zf3{c:V6}{a b:Code}{t:Z}(hc:Yo s.fr c=some (.bool t))(ht:t=false)(k:WC X n wm rd b s Q):WC X n wm rd (.cond c a b) s Q:=WC.cond hc (fun e=>by rw[ht]at e;cases e) fun _=>k
def ZBG{f:V8}{fn:Func}{vs:U N}(hf:X.fns.get f=some fn):Uz X h (.func (.func f) #[] #[]) vs=some (.enter f vs.toArray,.none):=by
 unfold Uz;simp[hf]
structure Slc(h:H)(a:Option Addr)(len sz:Nat)(cells:List Value):Prop where
 ZYj:cells.length=len*sz
 mem:len=0\/∃i o cs own z,a=some ⟨i,o,none⟩/\h.at i=.row cs own z/\o+len*sz<=cs.length/\(cs.drop o).take (len*sz)=cells
structure Grow(h h':H):Prop where
 size:h.size<=h'.size
 keep:∀i,i<h.size->h'.at i=h.at i
def Grow.refl(h:H):Grow h h:=⟨K1 _,fun _ _=>rfl⟩
def Grow.trans{a b c:H}(x:Grow a b)(y:Grow b c):Grow a c:=⟨KB x.size y.size,fun i hi=>(y.keep i (G0 hi x.size)).trans (x.keep i hi)⟩
def Grow.push{a b:H}(x:Grow a b)(A:YD):Grow a (b.push A):=⟨Nat.le_succ_of_le x.size,fun i hi=>by rw[H.Qc,if_neg (by have:=x.size;omega)];exact x.keep i hi⟩
def YH{h:H}{i:Nat}{A:YD}(e:h.at i=A)(hl:A.live=true):i<h.size:=by
 rcases Gk i h.size with z|z
 ·exact z
 ·rw[H.Za8 z]at e;subst e;cases hl
def Slc.load{P:V7}{h:H}{i o:Nat}{cs:U N}{own:Z}{z:Nat}{t:J}{v:N}(hr:h.at i=.row cs own z)(ht:Yw P t=some false)(hc:cs[o]? =some v):Ko P h t (.pointer (some ⟨i,o,none⟩))=some v:=by
 unfold Ko;dsimp only;rw[hr];dsimp only;rw[ht];dsimp only;exact hc
def Slc.addr{P:V7}{i o len cap k sz:Nat}{t e:J}(hu:P.underlying t=some (.slice e))(hs:Yu P e=some sz)(hk:k<len):ZeK P t (.slice (some ⟨i,o,none⟩) len cap) (Ve (k:Int))=some (.pointer (some ⟨i,o+k*sz,none⟩)):=by
 have:ZeK P t (.slice (some ⟨i,o,none⟩) len cap) (Ve (Int.ofNat k))=some (.pointer (some ⟨i,o+k*sz,none⟩)):=by
  unfold ZeK;rw[hu];dsimp only;rw[hs];dsimp only;have:Nat.blt k len=true:=by rw[G6];exact hk
  rw[this];rfl
 exact this
section
variable{ops:Va Oper}{l:U Oper}{fr:Fr}{ds:U Vc}{h:H}{d:Nat}{ty:J}{p:String}{af:Va Edge}{g:O (Nat×Z)}
end
end
section
variable{X:Ctx}{n wm:Nat}{rd:O Nat}{Q:XX->Fs->Prop}{ops:Va Oper}{l:U Oper}{fr:Fr}{ds:U Vc}{h:H}{d:Nat}{ty:J}{p:String}{af:Va Edge}{g:O (Nat×Z)}
def QV(h:H)(A:YD):(h.push A).at h.size=A:=by rw[H.Qc,if_pos rfl]
def WQ{h:H}{i:Nat}(hi:i<h.size)(A:YD):(h.push A).at i=h.at i:=by rw[H.Qc,if_neg Vg]
def Z4{h:H}{i:Nat}(hi:i<h.size)(A:YD):(h.put i A).at i=A:=by rw[H.XM,if_pos ⟨rfl,hi⟩]
def Xg{h:H}{i j:Nat}(hj:j≠i)(A:YD):(h.put i A).at j=h.at j:=by rw[H.XM,if_neg fun z=>hj z.1]
def Zo(P:V7)(t:J)(f off:Nat):Prop:=∃fs x m,P.underlying t=some (.struct fs)/\fs[f]? =some x/\Yu P x.type=some (m+1)/\x.offset=off
def Zo.of{P:V7}{t:J}{f off:Nat}(h:ZcQ P t ((Vf 0)) f=some (.pointer (some ⟨0,off,none⟩))):Zo P t f off:=by
 unfold ZcQ at h;cases e:P.underlying t with
 | none=>rw[e]at h;cases h
 | some u=>
   rw[e]at h;cases u with
   | struct fs=>
     dsimp only at h;cases ex:fs[f]? with
     | none=>rw[ex]at h;cases h
     | some x=>
       rw[ex]at h;dsimp only at h;cases em:Yu P x.type with
       | none=>rw[em]at h;cases h
       | some m=>
         rw[em]at h;cases m with
         | zero=>cases h
         | succ m=>cases h;exact⟨fs,x,m,e,ex,em,(G4 _).symm⟩
   | _=>cases h
def Zo.addr{P:V7}{t:J}{f off:Nat}(h:Zo P t f off)(i o:Nat):ZcQ P t (.pointer (some ⟨i,o,none⟩)) f=some (.pointer (some ⟨i,o+off,none⟩)):=by
 obtain⟨fs,x,m,h1,h2,h3,rfl⟩:=h;unfold ZcQ;rw[h1];dsimp only;rw[h2];dsimp only;rw[h3]
def Ztk(b:Z):(Value.bool b).cells.toList=[.bool b]:=rfl
def ZwV(k:IntKind)(m:Int):(Value.int k m).cells.toList=[.int k m]:=rfl
def Zor(s:Y):(Value.string s).cells.toList=[.string s]:=rfl
def ZwT(a:O Addr):(Value.pointer a).cells.toList=[.pointer a]:=rfl
def Zrc(a:O Addr)(m c:Nat):(Value.slice a m c).cells.toList=[.slice a m c]:=rfl
def ZwU(m:O Nat):(Value.map m).cells.toList=[.map m]:=rfl
def cells_func(f:Fn)(xs ys:Va N):(Value.func f xs ys).cells.toList=[.func f xs ys]:=rfl
def Zlx:(Value.nilFunc).cells.toList=[.nilFunc]:=rfl
def ZkC:(Value.nilIface).cells.toList=[.nilIface]:=rfl
def Zrd(t:J)(v:N):(Value.iface t v).cells.toList=[.iface t v]:=rfl
def ZwW(vs:U N):(Value.agg vs.toArray).cells.toList=vs:=rfl
def JO(P:V7)(t:J)(zs:U N)(pl:U (Nat×Nat)):Prop:=∃z fs,YF P t=some z/\z.cells.toList=zs/\P.underlying t=some (.struct fs)/\Zda P fs.toList=some pl
def Zj2(place:Nat->O (Nat×Nat))(len:Nat):U (Nat×N)->Z
 | []=>true
 | (i,v)::rest=>(match place i with
   | some (off,size)=>Nat.beq v.cells.toList.length size&&Nat.ble (off+v.cells.toList.length) len
   | none=>false)&&Zj2 place len rest
def ZqA(off:Nat->Nat):U N->U (Nat×N)->U N
 | cs,[]=>cs
 | cs,(i,v)::rest=>ZqA off (splice cs (off i) v.cells.toList) rest
def Zrw{place:Nat->O (Nat×Nat)}{off:Nat->Nat}(ho:∀i p,place i=some p->off i=p.1):∀(ps:U (Nat×N))(cs:U N),Zj2 place cs.length ps=true->ZcP place cs ps=some (ZqA off cs ps):=by
 intro ps
 induction ps with
 | nil=>intro cs _;rfl
 | cons q ps ih=>
   obtain⟨i,v⟩:=q;intro cs h;simp only[Zj2,Ba0]at h;obtain⟨h1,h2⟩:=h;unfold ZcP ZqA;cases e:place i with
   | none=>rw[e]at h1;cases h1
   | some q=>
     obtain⟨of,sz⟩:=q;rw[e]at h1;dsimp only at h1 ⊢;rw[h1,Cq1,ho i _ e]
     have hl:(splice cs of v.cells.toList).length=cs.length:=by
      rw[Ba0]at h1;have:=Nl0 h1.2;simp only[splice,K2,Gj,GE];omega
     exact ih _ (by rw[hl];exact h2)
def ZV{ev:V6->O N}:evp ev []=some []:=rfl
def ZE{ev:V6->O N}{i:Nat}{x:V6}{xs:U (Nat×V6)}{v:N}{vs:U (Nat×N)}(h1:ev x=some v)(h2:evp ev xs=some vs):evp ev ((i,x)::xs)=some ((i,v)::vs):=by
 show(match ev x,evp ev xs with|some v,some vs=>some ((i,v)::vs) | _,_=>none)=_;rw[h1,h2]
def ZmL{P:V7}{h:H}{t:J}{b o z sz:Nat}{cs vs:U N}{own:Z}(ht:Yw P t=some true)(hs:Yu P t=some sz)(hr:h.at b=.row cs own z)(hl:o+sz<=cs.length)(hv:(cs.drop o).take sz=vs):
 Ko P h t (.pointer (some ⟨b,o,none⟩))=some (.agg vs.toArray):=by
 unfold Ko;dsimp only;rw[hr];dsimp only;rw[ht,hs];dsimp only;have hb:Nat.ble (o+sz) cs.length=true:=Nm0 hl;rw[hb,hv];rfl
end
section
variable{X:Ctx}{n wm:Nat}{rd:O Nat}{Q:XX->Fs->Prop}{ops:Va Oper}{l:U Oper}{fr:Fr}{ds:U Vc}{h:H}{d:O Tmp}{ty:J}{p:String}{af:Va Edge}{g:O (Nat×Z)}{ev:V6->O N}
def Z0{x:V6}{v:N}(hx:ev x=some v):Xm X h ev ⟨d,.move x,ty,p,af,g⟩=some (.val v,.none):=by rw[ZBv,hx];rfl
def YO{x:V6}{v:N}(hx:ev x=some v):Xm X h ev ⟨d,.assign x,ty,p,af,g⟩=some (.val v,.none):=by rw[Ztw,hx];rfl
def Xf{x:V6}{t:J}{f off b o:Nat}(hf:Zo X.P t f off)(hx:ev x=some (.pointer (some ⟨b,o,none⟩))):Xm X h ev ⟨d,.fieldAddr t x f,ty,p,af,g⟩=some (.val (.pointer (some ⟨b,o+off,none⟩)),.none):=by
 rw[ZlE,hx];dsimp only;rw[hf.addr];rfl
def ZcI{x:V6}{a:Addr}(hx:ev x=some (.pointer (some a))):Xm X h ev ⟨d,.nilCheck x,ty,p,af,g⟩=some (.val (.pointer (some a)),.none):=by
 show(match ev x with
  | some (.pointer (some a))=>some (AN.val (.pointer (some a)),Eff.none)
  | _=>none)=_
 rw[hx]
def ZBp{x:V6}{t:J}{b o z:Nat}{cs:U N}{own:Z}{v:N}(ht:Yw X.P t=some false)(hx:ev x=some (.pointer (some ⟨b,o,none⟩)))(hr:h.at b=.row cs own z)(hc:cs[o]? =some v):
 Xm X h ev ⟨d,.load t x,ty,p,af,g⟩=some (.val v,.none):=by rw[Zrs,hx];dsimp only;rw[Slc.load hr ht hc];rfl
def ZBo{x:V6}{t:J}{b o z sz:Nat}{cs vs:U N}{own:Z}(ht:Yw X.P t=some true)(hs:Yu X.P t=some sz)(hx:ev x=some (.pointer (some ⟨b,o,none⟩)))(hr:h.at b=.row cs own z)(hl:o+sz<=cs.length)(hv:(cs.drop o).take sz=vs):
 Xm X h ev ⟨d,.load t x,ty,p,af,g⟩=some (.val (.agg vs.toArray),.none):=by rw[Zrs,hx];dsimp only;rw[ZmL ht hs hr hl hv];rfl
def ZJZ{x:V6}{t e:J}{a:O Addr}{m c:Nat}(hu:X.P.underlying t=some (.slice e))(hx:ev x=some (.slice a m c)):
 Xm X h ev ⟨d,.call {callee:=.builtin .len,args:=#[x],argTypes:=#[t]},ty,p,af,g⟩=some (.val (Ve m),.none):=by
 have he:evs ev [x]=some [.slice a m c]:=Zb hx Zd;rw[Uy]
 show(match evs ev [x] with
  | some args=>J7 X.P h .len #[t] ty args
  | none=>none)=_
 rw[he];show vN (Ztx X.P h t (.slice a m c))=_;unfold Ztx;rw[hu];rfl
def ZJ0{x y:V6}{t e:J}{sz b o m c k:Nat}{iv:Int}(hu:X.P.underlying t=some (.slice e))(hs:Yu X.P e=some sz)(hx:ev x=some (.slice (some ⟨b,o,none⟩) m c))(hy:ev y=some (Ve iv))(hi:iv=(k:Int))(hk:k<m):
 Xm X h ev ⟨d,.indexAddr t x y,ty,p,af,g⟩=some (.val (.pointer (some ⟨b,o+k*sz,none⟩)),.none):=by
 subst hi;rw[ZlD,hx,hy];dsimp only;rw[Slc.addr hu hs hk];rfl
def ZeI{x:V6}{t:J}{b:Z}(hx:ev x=some (.bool b)):Xm X h ev ⟨d,.unOp .not t x,ty,p,af,g⟩=some (.val (.bool (!b)),.none):=by rw[ZBu,hx];rfl
def YZ{op:BinOp}{x y:V6}{t yt:J}{a b v:N}(hx:ev x=some a)(hy:ev y=some b)(hv:XT X.P op t x y a b=some (.val v,.none)):Xm X h ev ⟨d,.binOp op t x y yt,ty,p,af,g⟩=some (.val v,.none):=by
 rw[Zw5,hx,hy];exact hv
def ZoE{c x y:V6}{b z:Z}(hc:ev c=some (.bool b))(hx:ev x=some (cond b (.bool z) undef))(hy:ev y=some (.bool false)):Xm X h ev ⟨d,.pick c x y,ty,p,af,g⟩=some (.val (.bool (b&&z)),.none):=by
 rw[Zgb,hc,hx,hy];cases b<;>rfl
def ZGy{c x y:V6}{b z:Z}(hc:ev c=some (.bool b))(hx:ev x=some (.bool true))(hy:ev y=some (cond (!b) (.bool z) undef)):Xm X h ev ⟨d,.pick c x y,ty,p,af,g⟩=some (.val (.bool (b||z)),.none):=by
 rw[Zgb,hc,hx,hy];cases b<;>rfl
def Q6{x:V6}{k:Nat}{vs:U N}{v:N}(hx:ev x=some (.tuple vs.toArray))(hv:vs[k]? =some v):Xm X h ev ⟨d,.extract x k,ty,p,af,g⟩=some (.val v,.none):=by
 rw[Zrt,hx];dsimp only;unfold ZcR;dsimp only;rw[hv];rfl
def Zk(ops:Va Oper)(o:Oper)(fr:Fr)(c:Z):Prop:=okG ops.toList o fr=true/\Y0 ops.toList o fr=c
def Zk.yes{ops:Va Oper}{o:Oper}{fr:Fr}{j:Nat}{b:Z}{og:Oper}{dd:Tmp}(h0:gk o=some (j,true))(hj:ops.toList[j]? =some og)(hd:og.dst=some dd)(hv:fr.at dd=.bool b):Zk ops o fr b:=by
 obtain⟨h,hsk⟩:=Zio h0 fr;unfold Zk okG Y0 Wp;rw[h];dsimp only;rw[hj];dsimp only;rw[hd];dsimp only;rw[hv,hsk];cases b<;>exact⟨rfl,rfl⟩
def Zk.no{ops:Va Oper}{o:Oper}{fr:Fr}{j:Nat}{b:Z}{og:Oper}{dd:Tmp}(h0:gk o=some (j,false))(hj:ops.toList[j]? =some og)(hd:og.dst=some dd)(hv:fr.at dd=.bool b):Zk ops o fr (!b):=by
 obtain⟨h,hsk⟩:=Zio h0 fr;unfold Zk okG Y0 Wp;rw[h];dsimp only;rw[hj];dsimp only;rw[hd];dsimp only;rw[hv,hsk];cases b<;>exact⟨rfl,rfl⟩
def Zk.ZPI{ops:Va Oper}{o:Oper}{fr:Fr}{j:Nat}{a b:Z}{og:Oper}{dd:Tmp}(h0:gk o=some (j,true))(hj:ops.toList[j]? =some og)(hd:og.dst=some dd)(hv:fr.at dd=cond a (.bool b) undef):Zk ops o fr (a&&b):=by
 obtain⟨h,hsk⟩:=Zio h0 fr;unfold Zk okG Y0 Wp;rw[h];dsimp only;rw[hj];dsimp only;rw[hd];dsimp only;rw[hv,hsk];cases a<;>cases b<;>exact⟨rfl,rfl⟩
def Zk.no2{ops:Va Oper}{o:Oper}{fr:Fr}{j:Nat}{a b:Z}{og:Oper}{dd:Tmp}(h0:gk o=some (j,false))(hj:ops.toList[j]? =some og)(hd:og.dst=some dd)(hv:fr.at dd=cond a (.bool b) undef):Zk ops o fr (a && !b):=by
 obtain⟨h,hsk⟩:=Zio h0 fr;unfold Zk okG Y0 Wp;rw[h];dsimp only;rw[hj];dsimp only;rw[hd];dsimp only;rw[hv,hsk];cases a<;>cases b<;>exact⟨rfl,rfl⟩
def Ze1{op:Op}{fr:Fr}{t:Tmp}{xs:Va V6}{ts:Va J}(hop:op=.call {callee:=.value (.tmp t),args:=xs,argTypes:=ts})(hv:Ze0 (fr.at t)=true):ZiW op fr=true:=by subst hop;exact hv
def Ze2{fr:Fr}{t:Tmp}{v:N}(p:fr.at t=v)(h:Ze0 v=true):Ze0 (fr.at t)=true:=by rw[p];exact h
def ZiX{c:Z}{v:N}(h:Ze0 v=true):Ze0 (cond c v undef)=true:=by cases c;rfl;exact h
def Zk.ZrU{ops:Va Oper}{o:Oper}{fr:Fr}{j:Nat}{b:Z}{og:Oper}{dd:Tmp}(h:o.guard=some (j,true))(hj:ops.toList[j]? =some og)(hd:og.dst=some dd)(hv:fr.at dd=.bool b)(hsk:ZiW o.op fr=true):Zk ops o fr b:=by
 unfold Zk okG Y0 Wp;rw[h];dsimp only;rw[hj];dsimp only;rw[hd];dsimp only;rw[hv,hsk];cases b<;>exact⟨rfl,rfl⟩
def Zk.noC{ops:Va Oper}{o:Oper}{fr:Fr}{j:Nat}{b:Z}{og:Oper}{dd:Tmp}(h:o.guard=some (j,false))(hj:ops.toList[j]? =some og)(hd:og.dst=some dd)(hv:fr.at dd=.bool b)(hsk:ZiW o.op fr=true):Zk ops o fr (!b):=by
 unfold Zk okG Y0 Wp;rw[h];dsimp only;rw[hj];dsimp only;rw[hd];dsimp only;rw[hv,hsk];cases b<;>exact⟨rfl,rfl⟩
def WO.gv{d:Nat}{op:Op}{c:Z}{v:N}(hg:Zk ops ⟨some d,op,ty,p,af,g⟩ fr c)(hd:Nat.blt d n=true)(ha:c=true->Xm X h (Yo fr) ⟨some d,op,ty,p,af,g⟩=some (.val v,.none))
 (k:WO X n wm rd ops l ⟨Tr.set fr d (cond c v undef),ds,h,none⟩ Q):WO X n wm rd ops (⟨some d,op,ty,p,af,g⟩::l) ⟨fr,ds,h,none⟩ Q:=by
 cases c
 ·exact WO.o hg hd k
 ·exact WO.v hg hd (ha rfl) rfl k
end
section
variable{X:Ctx}{n wm:Nat}{rd:O Nat}{ops:Va Oper}{l:U Oper}{fr:Fr}{ds:U Vc}{h:H}{ty:J}{p:String}{af:Va Edge}{g:O (Nat×Z)}
variable{Q:Fr->Prop}
def ZBT(wm:Nat):MOf false wm none=fun _=>False:=by funext x;unfold MOf;simp
def Zdd:∀(j:Qn)(r:YP),(fun _:Qn=>(none:O YP)) j=some r->Ja j r:=fun _ _ h=>by cases h
end
end Go.ZF
end
end
