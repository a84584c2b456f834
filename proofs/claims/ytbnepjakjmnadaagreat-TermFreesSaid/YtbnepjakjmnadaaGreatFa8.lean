/- Part 8. -/
import Derived.ProofKit
import Derived.Test.YtbnepjakjmnadaaGreatFa7
set_option linter.all false
set_option maxHeartbeats 2000000
section
noncomputable section
namespace Go.Proofs.YtbnepjakjmnadaaGreat
open Go.ZY Go.RowKit Go.WideShapes Go.ChangeShapes
def isTrue(r:O YO):Z:=
 match r with
 | some (.fin (.ret (.bool true)) _)=>true
 | _=>false
def Zo5{r:O YO}(h:isTrue r=true):∃h',r=some (.fin (.ret (.bool true)) h'):=by
 unfold isTrue at h;split at h
 ·exact⟨_,rfl⟩
 ·cases h
def mixed:Tryz.prog.follows .mixedOrders=true:=Kq0
def ZoQ:Ren:=⟨fun _=>none,fun _=>(0,0)⟩
section
variable{H:Type}{enc:J×N->H}{P:GQ}
def ZkV{f:Func}{s:ChangeSpec}{apart fresh handsOn again:Z}{W W':GS}{args:GT N}{v:N}{ds gs:U (DataW H)}{before pa pv:U MemPlace}
 (hW:DataW.Whole enc P f.params.toList s.vars apart W args.toList ds gs before)
 (hres:∀(b:Nat)(sp:Nat->Z)(hd:Z),DataW.TrodAll enc P W' b sp hd f.resultTypes.toList (v.resultList f.resultTypes.size) (s.fn H (ds++gs)).results [])
 (hargs:∀sp:Nat->Z,(∀p∈before,sp p.block=true)->DataW.TrodAll enc P W' 0 sp true f.params.toList args.toList (s.fn H (ds++gs)).args pa)
 (hvars:∀sp:Nat->Z,(∀p∈before,sp p.block=true)->DataW.TrodVars enc P W' sp s.vars (s.fn H (ds++gs)).vars pv)
 (hps:before=pa++pv) (hb:Below W.heap.size W W')
 (hok:∀(j:Nat)(t:J)(r:N),f.resultTypes[j]? =some t->(v.resultList f.resultTypes.size)[j]? =some r->Value.okWide P W' .any 0 t r):
 s.post enc P f apart fresh handsOn again W args v W':=by
 have hlt:∀p∈before,p.block<W.heap.size:=fun p hp=>hW.lt p hp
 have hold:∀p∈before,(fun b=>decide (b<W.heap.size)) p.block=true:=fun p hp=>by simpa using hlt p hp
 refine⟨ds,gs,before,[],pa,pv,hW,hres _ _ _,hargs _ hold,hvars _ hold,World.keptBut_mono (fun p hp=>⟨hp,?_⟩) (hb.frame (· ∈ before)),fun _=>?_⟩
 ·rw[hps,G8]at hp;exact Or.inr hp
 ·obtain⟨_,_,_,_,_,hz,hn⟩:=hW;refine⟨hok,_,_,([]++pa)++pv,⟨[]++pa,pv,trodAll_append (hargs _ (fun _ _=>rfl)) (hres _ _ _),hvars _ (fun _ _=>rfl),rfl,?_,?_⟩,?_⟩
  ·intro b off hp;have hin:MemPlace.cell b off∈before:=by rw[hps];simpa using hp
   rw[hb.frozen (hlt _ hin)];exact hz b off hin
  ·intro ha;have:=hn ha;rw[hps]at this
   simpa using this
  ·intro p hp _;rw[hps]
   simpa using hp
end
end Go.Proofs.YtbnepjakjmnadaaGreat
end
end
section
noncomputable section
namespace Go.ZY
section
variable{X:Ctx}
structure WC(X:Ctx)(n wm:Nat)(rd:Option Nat)(c:Code)(s:Fs)(Q:XX->Fs->Prop):Prop where
 out:∃e s',Q e s'/\Yx X (.code c n wm rd s) (.code e s')
structure WL(X:Ctx)(n wm:Nat)(rd:Option Nat)(c:Code)(s:Fs)(Q:XX->Fs->Prop):Prop where
 out:∃e s',Q e s'/\Yx X (.loop c n wm rd s) (.code e s')
structure WF(X:Ctx)(f:FuncId)(args:Array Value)(wm:Nat)(h:H)(Q:UN->H->Prop):Prop where
 out:∃e h',Q e h'/\Yx X (.call f args wm h) (.fin e h')
def ZOR(X:Ctx)(n wm:Nat)(rd:O Nat)(ops:GT Oper)(l:U Oper)(s:Fs)(e:XX)(s':Fs):Prop:=
 ∀(Q:Exit->Act->GS->Prop){ρ:Ren}{F:Fence}{a:Act}{w:GS},Inv ρ n s a w->wm<=s.h.size->K4 ρ rd F->(∀e' a' w',XE wm n ρ s.h w e s' e' a' w'->Q e' a' w')->wpListIn F 0 X.P ops Q l a w
structure WO(X:Ctx)(n wm:Nat)(rd:Option Nat)(ops:Array Oper)(l:List Oper)(s:Fs)(Q:XX->Fs->Prop):Prop where
 out:∃e s',Q e s'/\ZOR X n wm rd ops l s e s'
variable{n wm:Nat}{rd:O Nat}{s:Fs}{Q:XX->Fs->Prop}
def WC.mono{c:Code}{Q':XX->Fs->Prop}(h:WC X n wm rd c s Q)(k:∀e s',Q e s'->Q' e s'):WC X n wm rd c s Q':=let⟨e,s',h1,h2⟩:=h;⟨e,s',k e s' h1,h2⟩
def WF.mono{f:GR}{args:GT N}{h:H}{Q Q':UN->H->Prop}(h1:WF X f args wm h Q)(k:∀e s',Q e s'->Q' e s'):WF X f args wm h Q':=let⟨e,s',h1,h2⟩:=h1;⟨e,s',k e s' h1,h2⟩
def ZOM(X:Ctx)(n wm:Nat)(rd:O Nat)(b:Code)(Q:XX->Fs->Prop):XX->Fs->Prop:=fun e s=>
 match e with
 | .normal=>WC X n wm rd b s Q
 | e=>Q e s
def ZJI(X:Ctx)(n wm:Nat)(rd:O Nat)(c:Code)(Q:XX->Fs->Prop):XX->Fs->Prop:=fun e s=>
 match e with
 | .normal=>WL X n wm rd c s Q
 | e=>Q e s
def ZBe(id:Nat)(Q:XX->Fs->Prop):XX->Fs->Prop:=fun e s=>
 match e with
 | .exit k=>if k=id then Q .normal s else Q (.exit k) s
 | e=>Q e s
structure ZP(X:Ctx)(n wm:Nat)(rd:Option Nat)(b:Code)(Q:XX->Fs->Prop)(e:XX)(s:Fs):Prop where
 out:ZOM X n wm rd b Q e s
structure ZO(X:Ctx)(n wm:Nat)(rd:Option Nat)(b:Code)(Q:XX->Fs->Prop)(e:XX)(s:Fs):Prop where
 out:ZJI X n wm rd b Q e s
structure YG(id:Nat)(Q:XX->Fs->Prop)(e:XX)(s:Fs):Prop where
 out:ZBe id Q e s
def ExR.ZiS{ρ:Ren}{e:XX}{e':Exit}(he:ExR ρ e e')(h:e≠.normal){N':Act->GS->Prop}{R:Exit->Act->GS->Prop}{a:Act}{w:GS}(hr:R e' a w):Exit.then N' R e' a w:=by
 cases he with
 | normal=>exact absurd rfl h
 | _=>exact hr
def WC.seq{a b:Code}(h:WC X n wm rd a s (ZP X n wm rd b Q)):WC X n wm rd (.seq a b) s Q:=by
 obtain⟨e,s1,hq,ka⟩:=h;by_cases hn:e=.normal
 ·subst hn;obtain⟨e2,s2,hq2,kb⟩:=hq.out;refine⟨e2,s2,hq2,fun ρ a w F Zv hi hF=>wpIn_seq (wpIn_mono (ka ρ a w F Zv hi hF) ?_)⟩;rintro e' a' w' ⟨ρ',he,hi',hst⟩;cases he;exact wpIn_mono (kb ρ' a' w' F (Kx Zv hst.size) hi' (hF.mono hst.ext)) fun _ _ _ hp=>XE.trans hi.rel.lt hst hp
 ·refine⟨e,s1,?_,fun ρ a w F Zv hi hF=>wpIn_seq (wpIn_mono (ka ρ a w F Zv hi hF) ?_)⟩
  ·cases e with
   | normal=>exact absurd rfl hn
   | _=>exact hq.out
  ·rintro e' a' w' ⟨ρ',he,hi',hst⟩;exact he.ZiS hn ⟨ρ',he,hi',hst⟩
def WC.cond{c:GP}{a b:Code}{t:Z}(hc:YF s.fr c=some (.bool t))(h1:t=true->WC X n wm rd a s Q)(h2:t=false->WC X n wm rd b s Q):WC X n wm rd (.cond c a b) s Q:=by
 have:∃e s',Q e s'/\∀ρ a' w F,wm<=s.h.size->Inv ρ n s a' w->K4 ρ rd F->(if t then a else b).wpIn F 0 X.P (XE wm n ρ s.h w e s') a' w:=by
  cases t with
  | true=>obtain⟨e,s',q,k⟩:=h1 rfl;exact⟨e,s',q,k⟩
  | false=>obtain⟨e,s',q,k⟩:=h2 rfl;exact⟨e,s',q,k⟩
 obtain⟨e,s',hq,k⟩:=this;refine⟨e,s',hq,fun ρ a' w F Zv hi hF=>?_⟩;have hv:=U1 hi.fr _ _ hc;generalize hx:a'.eval c=x at hv;cases hv;exact wpIn_cond hx (k ρ a' w F Zv hi hF)
def WC.block{id:Nat}{c:Code}(h:WC X n wm rd c s (YG id Q)):WC X n wm rd (.block id c) s Q:=by
 obtain⟨e,s1,hq,ka⟩:=h
 have key:∃e2,Q e2 s1/\∀(wm' n':Nat)(ρ0:Ren)(h0:H)(w0:GS)(e':Exit)(a':Act)(w':GS),XE wm' n' ρ0 h0 w0 e s1 e' a' w'->Exit.inBlock id (XE wm' n' ρ0 h0 w0 e2 s1) e' a' w':=by
  cases e with
  | exit k=>
    by_cases hk:k=id
    ·subst hk;refine⟨.normal,by simpa[ZBe]using hq.out,?_⟩;rintro _ _ _ _ _ e' a' w' ⟨ρ',he,hi',hst⟩;cases he;show if _ then _ else _
     rw[if_pos rfl];exact⟨ρ',.normal,hi',hst⟩
    ·refine⟨.exit k,by simpa[ZBe,hk]using hq.out,?_⟩;rintro _ _ _ _ _ e' a' w' ⟨ρ',he,hi',hst⟩;cases he;show if _ then _ else _
     rw[if_neg hk];exact⟨ρ',.exit k,hi',hst⟩
  | normal=>exact⟨.normal,hq.out,by rintro _ _ _ _ _ e' a' w' ⟨ρ',he,hi',hst⟩;cases he;exact⟨ρ',.normal,hi',hst⟩⟩
  | goto l=>exact⟨.goto l,hq.out,by rintro _ _ _ _ _ e' a' w' ⟨ρ',he,hi',hst⟩;cases he;exact⟨ρ',.goto l,hi',hst⟩⟩
  | ret=>exact⟨.ret,hq.out,by rintro _ _ _ _ _ e' a' w' ⟨ρ',he,hi',hst⟩;cases he;exact⟨ρ',.ret,hi',hst⟩⟩
  | panic v=>exact⟨.panic v,hq.out,by rintro _ _ _ _ _ e' a' w' ⟨ρ',he,hi',hst⟩;cases he with|panic hv=>exact⟨ρ',.panic hv,hi',hst⟩⟩
 obtain⟨e2,hq2,key⟩:=key;exact⟨e2,s1,hq2,fun ρ a w F Zv hi hF=>wpIn_block (wpIn_mono (ka ρ a w F Zv hi hF) fun e' a' w' hp=>key _ _ _ _ _ e' a' w' hp)⟩
def WC.skip(h:Q .normal s):WC X n wm rd .skip s Q:=⟨_,_,h,fun ρ _ _ _ _ hi _=>wpIn_skip ⟨ρ,.normal,hi,Stp.refl _ _ _ _⟩⟩
def WC.ret(h:Q .ret s):WC X n wm rd .ret s Q:=⟨_,_,h,fun ρ _ _ _ _ hi _=>wpIn_ret ⟨ρ,.ret,hi,Stp.refl _ _ _ _⟩⟩
def WC.exit{id:Nat}(h:Q (.exit id) s):WC X n wm rd (.exit id) s Q:=⟨_,_,h,fun ρ _ _ _ _ hi _=>wpIn_exit ⟨ρ,.exit id,hi,Stp.refl _ _ _ _⟩⟩
def WC.loop{c:Code}(h:WL X n wm rd c s Q):WC X n wm rd (.loop c) s Q:=
 let⟨e,s',hq,k⟩:=h;⟨e,s',hq,fun ρ a w F Zv hi hF=>Zbv (k ρ a w F Zv hi hF)⟩
def WC.region{id:Nat}{ops:GT Oper}(h:WO X n wm rd ops ops.toList s Q):WC X n wm rd (.region id ops false) s Q:=by
 obtain⟨e,s',hq,k⟩:=h;exact⟨e,s',hq,fun ρ a w F Zv hi hF=>wpIn_region_list (k _ hi Zv hF fun _ _ _ hp=>hp)⟩
def WL.step{c:Code}(h:WC X n wm rd c s (ZO X n wm rd c Q)):WL X n wm rd c s Q:=by
 obtain⟨e,s1,hq,ka⟩:=h;by_cases hn:e=.normal
 ·subst hn;obtain⟨e2,s2,hq2,kb⟩:=hq.out;refine⟨e2,s2,hq2,fun ρ a w F Zv hi hF=>XO (wpIn_mono (ka ρ a w F Zv hi hF) ?_)⟩;rintro e' a' w' ⟨ρ',he,hi',hst⟩;cases he;have:=kb ρ' a' w' F (Kx Zv hst.size) hi' (hF.mono hst.ext);intro b k cs h1 h2 h3;obtain⟨e3,a3,w3,hp,harr⟩:=this b k cs h1 h2 h3;exact⟨e3,a3,w3,XE.trans hi.rel.lt hst hp,harr⟩
 ·refine⟨e,s1,?_,fun ρ a w F Zv hi hF=>XO (wpIn_mono (ka ρ a w F Zv hi hF) ?_)⟩
  ·cases e with
   | normal=>exact absurd rfl hn
   | _=>exact hq.out
  ·rintro e' a' w' ⟨ρ',he,hi',hst⟩;exact he.ZiS hn ⟨ρ',he,hi',hst⟩
def ZOO(X:Ctx)(fn:Func)(Q:UN->H->Prop):XX->Fs->Prop:=fun e s=>s.ds=[]/\
 match e with
 | .normal=>∃v,QE X.P fn s.fr s.h=some v/\Q (.ret v) s.h
 | .ret=>∃v,QE X.P fn s.fr s.h=some v/\Q (.ret v) s.h
 | .panic v=>Q (.Yd v) s.h
 | _=>False
structure YK(X:Ctx)(fn:Func)(Q:UN->H->Prop)(e:XX)(s:Fs):Prop where
 out:ZOO X fn Q e s
def WF.enter{f:GR}{fn:Func}{c:Code}{args:GT N}{h:H}{Q:UN->H->Prop}(hf:X.fns.get f=some fn)(hb:fn.body=some c)(hn:args.toList.length<=fn.ntmps)
 (k:WC X fn.ntmps wm none c {fr:=XZ args.toList 0 .nil,ds:=[],h:=h} (YK X fn Q)):WF X f args wm h Q:=by
 obtain⟨e,s',⟨hds,hq⟩,ka⟩:=k
 have main:∀(E:UN)(pm:PM),xPM e=some pm->Ug (cfg X fun _=>false) (fun _=>none) fn wm pm s'=some (.fin E s'.h)->Yx X (.call f args wm h) (.fin E s'.h):=by
  intro E pm hpm hl;have hj:=Jd (C:=cfg X fun _=>false) (ih:=fun _=>none) (fun _ _ h=>by cases h) hl;intro ρ args' w Zv hr hv
  have hi:Inv ρ fn.ntmps {fr:=XZ args.toList 0 .nil,ds:=[],h:=h} {tmps:=args'++Array.replicate (fn.ntmps-args'.size) undef,defers:=[]} w:=
   ⟨hr,U3 hv hn,.nil⟩
  refine callsIn_of_wp_marks (X.ok f fn hf).1 hb (Zgz hf) (wpIn_mono (ka ρ _ w base Zv hi rfl) ?_);rintro e' a' w' ⟨ρ',he,hi',hst⟩;cases he with
  | normal=>cases hpm;exact hj ρ' _ a' .returning w' _ (Kx Zv hst.size) hi' .ret (fun _ _ hp=>UI.trans hr.lt hst hp)
  | ret=>cases hpm;exact hj ρ' _ a' .returning w' _ (Kx Zv hst.size) hi' .ret (fun _ _ hp=>UI.trans hr.lt hst hp)
  | panic hv'=>cases hpm;exact hj ρ' _ a' _ w' _ (Kx Zv hst.size) hi' (.Yd hv') (fun _ _ hp=>UI.trans hr.lt hst hp)
  | exit id=>cases hpm
  | goto l=>cases hpm
 cases e with
 | normal=>
   obtain⟨v,hv,hq⟩:=hq
   exact⟨_,_,hq,main _ .ret rfl (by
    have hv':QE (cfg X fun _=>false).X.P fn s'.fr s'.h=some v:=hv;unfold Ug;rw[hds];simp only[hv'])⟩
 | ret=>
   obtain⟨v,hv,hq⟩:=hq
   exact⟨_,_,hq,main _ .ret rfl (by
    have hv':QE (cfg X fun _=>false).X.P fn s'.fr s'.h=some v:=hv;unfold Ug;rw[hds];simp only[hv'])⟩
 | panic v=>exact⟨_,_,hq,main _ (.Yd v) rfl (by unfold Ug;rw[hds])⟩
 | exit _=>exact hq.elim
 | goto _=>exact hq.elim
abbrev Pure(X:Ctx)(f:GR)(args:GT N)(h:H)(v:N):Prop:=∀wm,Yx X (.call f args wm h) (.fin (.ret v) h)
def WF.pure{f:GR}{args:GT N}{h:H}{v:N}(hp:plain v=true)(k:WF X f args h.size h (fun e _=>e=.ret v)):Pure X f args h v:=by
 obtain⟨e,h',rfl,hj⟩:=k;intro wm ρ args' w Zv hr hv;refine(hj ρ args' w V0 hr hv).mono ?_;rintro e' w' ⟨ρ',he,hr',hst⟩;cases he with
 | ret hv'=>
   rw[VR.Y4 hp hv'];obtain⟨q1,q2⟩:=ZaB hr hst;exact⟨ρ,.ret (VR.ZN hp),q1,q2 wm⟩
variable{ops:GT Oper}{l:U Oper}{o:Oper}
def WO.nil(h:Q .normal s):WO X n wm rd ops [] s Q:=⟨_,_,h,fun _ ρ _ a w hi _ _ hq=>hq .normal a w ⟨ρ,.normal,hi,Stp.refl _ _ _ _⟩⟩
def WO.cons{ih:Qo->O YO}(HI:∀j r,ih j=some r->Yx X j r){s1:Fs}(h:JV X (fun _=>false) ih n wm rd ops.toList o s=some (.normal,s1))(k:WO X n wm rd ops l s1 Q):WO X n wm rd ops (o::l) s Q:=by
 obtain⟨e,s',hq,hk⟩:=k;refine⟨e,s',hq,fun Q' ρ F a w hi Zv hF hq'=>?_⟩;refine Ux HI h hi Zv hF (fun _ ρ' a' w' hi' st'=>?_) (fun v he=>by cases he);refine hk Q' hi' (Kx Zv st'.size) (hF.mono st'.ext) fun e' a2 w2 hp=>?_
 obtain⟨ρ2,q1,q2,q3⟩:=hp;exact hq' e' a2 w2 ⟨ρ2,q1,q2,st'.trans hi.rel.lt q3⟩
def WO.panics{ih:Qo->O YO}(HI:∀j r,ih j=some r->Yx X j r){s1:Fs}{v:N}(h:JV X (fun _=>false) ih n wm rd ops.toList o s=some (.panic v,s1))(k:Q (.panic v) s1):WO X n wm rd ops (o::l) s Q:=by
 refine⟨.panic v,s1,k,fun Q' ρ F a w hi Zv hF hq'=>?_⟩;refine Ux HI h hi Zv hF (fun he=>by cases he) (fun v' he ρ' v2 a' w' hv hi' st'=>?_);cases he;exact hq' _ a' w' ⟨ρ',.panic hv,hi',st'⟩
def KQ(X:Ctx):∀(j:Qo)(r:YO),(fun _:Qo=>(none:O YO)) j=some r->Yx X j r:=fun _ _ h=>by cases h
def ZEu(op:Op):Z:=match op with
 | .call c=>match c.callee with
   | .value x=>match x with
     | .func f=>Nat.blt f nfs
     | _=>false
   | .builtin _=>true
   | .invoke _ _=>false
 | _=>true
def gk(o:Oper):O (Nat×Z):=bif ZEu o.op then o.guard else none
def Zh4{o:Oper}{q:Nat×Z}(h:gk o=some q)(fr:Fr):o.guard=some q/\Zlx o.op fr=true:=by
 unfold gk at h;cases hs:ZEu o.op with
 | false=>rw[hs]at h;cases h
 | true=>
   rw[hs]at h;refine⟨h,?_⟩
   revert hs
   generalize o.op=op;intro hs;cases op with
   | call c=>
     obtain⟨callee,args,ats⟩:=c;cases callee with
     | value x=>
       cases x with
       | func f=>exact hs
       | tmp t=>cases hs
       | const v=>cases hs
       | global g=>cases hs
     | builtin b=>rfl
     | invoke r nm=>cases hs
   | _=>rfl
def Z7(ops:GT Oper)(o:Oper)(fr:Fr):Prop:=okG ops.toList o fr=true/\Y2 ops.toList o fr=true
def Zf2(ops:GT Oper)(o:Oper)(fr:Fr):Prop:=okG ops.toList o fr=true/\Y2 ops.toList o fr=false
def Z7.none{ops:GT Oper}{o:Oper}{fr:Fr}(h:o.guard=none):Z7 ops o fr:=by unfold Z7 okG Y2;rw[h];exact⟨rfl,rfl⟩
def gN{ops:GT Oper}{d:O Tmp}{op:Op}{ty:J}{p:String}{af:GT Edge}{fr:Fr}:Z7 ops ⟨d,op,ty,p,af,Option.none⟩ fr:=Z7.none rfl
def Zka(n:Nat)(d:O Tmp):Z:=
 match d with
 | none=>true
 | some d=>Nat.blt d n
def ZfS{fr:Fr}{ds:U GV}{h:H}{d:O Tmp}{v:N}(hd:Zka n d=true):Zg6 n ⟨fr,ds,h,none⟩ d v=some ⟨Jh fr d v,ds,h,none⟩:=by
 rw[Zid];cases d with
 | none=>rfl
 | some d=>
   unfold Zka at hd;dsimp only at hd ⊢;rw[hd];rfl
variable{fr:Fr}{ds:U GV}{h h1:H}
def WO.val{v:N}{E:Eff}(hg:Z7 ops o fr)(hd:Zka n o.dst=true)(ha:Xu X h (YF fr) o=some (.val v,E))(hE:E.apply wm h=some h1)
 (k:WO X n wm rd ops l ⟨Jh fr o.dst v,ds,h1,none⟩ Q):WO X n wm rd ops (o::l) ⟨fr,ds,h,none⟩ Q:=by
 refine WO.cons (KQ X) ?_ k;unfold JV;rw[hg.1,hg.2];dsimp only[KK,Cq0,Cq1];rw[ha];dsimp only[KK,Cq0,Cq1];rw[hE];unfold WJ;dsimp only[Jv];rw[ZfS hd]
 rfl
def WO.unit{E:Eff}(hg:Z7 ops o fr)(hd:Zka n o.dst=true)(ha:Xu X h (YF fr) o=some (.skip,E))(hE:E.apply wm h=some h1)
 (k:WO X n wm rd ops l ⟨Jh fr o.dst undef,ds,h1,none⟩ Q):WO X n wm rd ops (o::l) ⟨fr,ds,h,none⟩ Q:=by
 refine WO.cons (KQ X) ?_ k;unfold JV;rw[hg.1,hg.2];dsimp only[KK,Cq0,Cq1];rw[ha];dsimp only[KK,Cq0,Cq1];rw[hE];unfold WJ;dsimp only[Jv];rw[ZfS hd]
 rfl
def WO.panic{v:N}{E:Eff}(hg:Z7 ops o fr)(ha:Xu X h (YF fr) o=some (.panic v,E))(hE:E.apply wm h=some h1)
 (k:Q (.panic v) ⟨fr,ds,h1,none⟩):WO X n wm rd ops (o::l) ⟨fr,ds,h,none⟩ Q:=by
 refine WO.panics (KQ X) ?_ k;unfold JV;rw[hg.1,hg.2];dsimp only[KK,Cq0,Cq1];rw[ha];dsimp only[KK,Cq0,Cq1];rw[hE]
 rfl
def WO.off(hg:Zf2 ops o fr)(hd:Zka n o.dst=true)(k:WO X n wm rd ops l ⟨Jh fr o.dst undef,ds,h,none⟩ Q):WO X n wm rd ops (o::l) ⟨fr,ds,h,none⟩ Q:=by
 refine WO.cons (KQ X) ?_ k;unfold JV;rw[hg.1,hg.2];dsimp only[KK,Cq0,Cq1];rw[ZfS hd]
 rfl
open Classical in
def JD (j:Qo) (r:YO):Qo ->Option YO:=fun j'=>if j'=j then some r else none
def Xl{j:Qo}{r:YO}(h:Yx X j r):∀j' r',JD j r j'=some r'->Yx X j' r':=by
 intro j' r' e;unfold JD at e;split at e
 ·rename_i hj;cases e;rw[hj];exact h
 ·cases e
def Xm(j:Qo)(r:YO):JD j r j=some r:=by unfold JD;rw[if_pos rfl]
def WO.call{f:GR}{args:GT N}{E:Eff}{v:N}{h2:H}(hg:Z7 ops o fr)(hd:Zka n o.dst=true)(ha:Xu X h (YF fr) o=some (.enter f args,E))(hE:E.apply wm h=some h1)
 (hc:Yx X (.call f args wm h1) (.fin (.ret v) h2)) (k:WO X n wm rd ops l ⟨Jh fr o.dst v,ds,h2,none⟩ Q):WO X n wm rd ops (o::l) ⟨fr,ds,h,none⟩ Q:=by
 refine WO.cons (Xl hc) ?_ k;unfold JV;rw[hg.1,hg.2];dsimp only[KK,Cq0,Cq1];rw[ha];dsimp only[KK,Cq0,Cq1];rw[hE];unfold WJ;dsimp only[Jv,Cq0];rw[Xm];dsimp only;rw[ZfS hd]
 rfl
def WO.Zkg{f:GR}{args:GT N}{E:Eff}{v:N}{h2:H}(hg:Z7 ops o fr)(ha:Xu X h (YF fr) o=some (.enter f args,E))(hE:E.apply wm h=some h1)
 (hc:Yx X (.call f args wm h1) (.fin (.Yd v) h2)) (k:Q (.panic v) ⟨fr,ds,h2,none⟩):WO X n wm rd ops (o::l) ⟨fr,ds,h,none⟩ Q:=by
 refine WO.panics (Xl hc) ?_ k;unfold JV;rw[hg.1,hg.2];dsimp only[KK,Cq0,Cq1];rw[ha];dsimp only[KK,Cq0,Cq1];rw[hE];unfold WJ;dsimp only[Jv,Cq0];rw[Xm]
 rfl
end
section
variable{X:Ctx}{P:GQ}{h:H}{fr:Fr}{ev:GP->O N}{d:O Tmp}{ty:J}{p:String}{af:GT Edge}{g:O (Nat×Z)}
def at_set(fr:Fr)(d t:Nat)(v:N):Fr.at (Tr.set fr d v) t=if t=d then v else Fr.at fr t:=by
 unfold Fr.at;rw[Tr.XA];by_cases h:t=d<;>simp[h]
def ZJ(i:Nat)(fr:Fr):XZ [] i fr=fr:=rfl
def ZE(v:N)(vs:U N)(i:Nat)(fr:Fr):XZ (v::vs) i fr=XZ vs (i+1) (Tr.set fr i v):=rfl
def Zif(fr:Fr)(t:Nat):YF fr (.tmp t)=bif XV (fr.at t) then none else some (fr.at t):=rfl
def ZvX(fr:Fr)(v:N):YF fr (.const v)=bif plain v then some v else none:=rfl
def ZqN(fr:Fr)(f:GR):YF fr (.func f)=some (.func (.func f) #[] #[]):=rfl
def ZAH(x:GP):Xu X h ev ⟨d,.move x,ty,p,af,g⟩=vN (ev x):=rfl
def ZsL(x:GP):Xu X h ev ⟨d,.assign x,ty,p,af,g⟩=vN (ev x):=rfl
def ZvT(op:BinOp)(t:J)(x y:GP)(yt:J):Xu X h ev ⟨d,.binOp op t x y yt,ty,p,af,g⟩=match ev x,ev y with
 | some a,some b=>QM X.P op t x y a b
 | _,_=>none:=rfl
def ZfU(c a b:GP):Xu X h ev ⟨d,.pick c a b,ty,p,af,g⟩=match ev c with
 | some (.bool true)=>vN (ev a)
 | some (.bool false)=>vN (ev b)
 | _=>none:=rfl
def ZAF(op:UnOp)(t:J)(x:GP):Xu X h ev ⟨d,.unOp op t x,ty,p,af,g⟩=match ev x with
 | some a=>bif plain a then pN (Ku X.P (Op.unary op a)) else none
 | none=>none:=rfl
def ZqH(t:J)(x:GP):Xu X h ev ⟨d,.load t x,ty,p,af,g⟩=match ev x with
 | some v=>vN (WK X.P h t v)
 | none=>none:=rfl
def ZvR(t:J)(a x:GP):Xu X h ev ⟨d,.store t a x,ty,p,af,g⟩=match ev a,ev x with
 | some a,some x=>sE (Zg4 X.P h t a x)
 | _,_=>none:=rfl
def ZDT(t:J)(x:GP):Xu X h ev ⟨d,.box t x,ty,p,af,g⟩=match ev x with
 | some v=>some (.val (Jb h),.new (.row v.cells.toList true 0))
 | none=>none:=rfl
def ZvU(t:J):Xu X h ev ⟨d,.alloc t,ty,p,af,g⟩=match YP X.P t with
 | some z=>some (.val (Jb h),.new (.row z.cells.toList true 0))
 | none=>none:=rfl
def Zlp(t:J)(x:GP)(f:Nat):Xu X h ev ⟨d,.fieldAddr t x f,ty,p,af,g⟩=match ev x with
 | some v=>vN (Zcx X.P t v f)
 | none=>none:=rfl
def Zlo(t:J)(x i:GP):Xu X h ev ⟨d,.indexAddr t x i,ty,p,af,g⟩=match ev x,ev i with
 | some x,some i=>vN (Zev X.P t x i)
 | _,_=>none:=rfl
def ZqI(x:GP)(k:Nat):Xu X h ev ⟨d,.extract x k,ty,p,af,g⟩=match ev x with
 | some x=>vN (Zcy x k)
 | none=>none:=rfl
def Wh(b:Builtin)(xs:GT GP)(ts:GT J):Xu X h ev ⟨d,.call {callee:=.builtin b,args:=xs,argTypes:=ts},ty,p,af,g⟩=match evs ev xs.toList with
 | some args=>Wi X.P h b ts ty args
 | none=>none:=by
 show(match Callee.builtin b,evs ev xs.toList with
  | .builtin b,some args=>Wi X.P h b ts ty args
  | .value f,some args=>match ev f with
    | some f=>UR X h f args
    | none=>none
  | .invoke r name,some args=>match ev r with
    | some r=>Zba X r name args
    | none=>none
  | _,_=>none)=_
 cases evs ev xs.toList<;>rfl
def Zdg(f:GP)(xs:GT GP)(ts:GT J):Xu X h ev ⟨d,.call {callee:=.value f,args:=xs,argTypes:=ts},ty,p,af,g⟩=match evs ev xs.toList with
 | some args=>match ev f with
   | some f=>UR X h f args
   | none=>none
 | none=>none:=by
 show(match Callee.value f,evs ev xs.toList with
  | .builtin b,some args=>Wi X.P h b ts ty args
  | .value f,some args=>match ev f with
    | some f=>UR X h f args
    | none=>none
  | .invoke r name,some args=>match ev r with
    | some r=>Zba X r name args
    | none=>none
  | _,_=>none)=_
 cases evs ev xs.toList<;>rfl
def Zd:evs ev []=some []:=rfl
def Zb{x:GP}{xs:U GP}{v:N}{vs:U N}(h1:ev x=some v)(h2:evs ev xs=some vs):evs ev (x::xs)=some (v::vs):=by
 show(match ev x,evs ev xs with|some v,some vs=>some (v::vs) | _,_=>none)=_;rw[h1,h2]
def ZaF{op:BinOp}{t:J}{x y:GP}{k:IntKind}{a b:Int}{c:Z}(ho:Op.intCmp op a b=pure (.bool c))(h1:op=.eql\/op=.neq\/op=.lss\/op=.leq\/op=.gtr\/op=.geq):QM P op t x y (.int k a) (.int k b)=some (.val (.bool c),.none):=by
 have hp:(plain (.int k a)&&plain (.int k b))=true:=rfl;unfold QM;rw[hp,Cq1]
 have hb:binOp op t (.int k a) (.int k b)=pure (.bool c):=by
  rcases h1 with rfl|rfl|rfl|rfl|rfl|rfl<;>simp[binOp,ho]
 have hg:(do eqGuard op t x y (.int k a) (.int k b);binOp op t (.int k a) (.int k b):Sem N)=pure (.bool c):=by
  rw[hb];rcases h1 with rfl|rfl|rfl|rfl|rfl|rfl<;>rfl
 rw[hg];rfl
def ZfY{t:J}{x y:GP}{k:IntKind}{a b:Int}:QM P .eql t x y (.int k a) (.int k b)=some (.val (.bool (a==b)),.none):=ZaF rfl (by simp)
def ZAW{t:J}{x y:GP}{k:IntKind}{a b:Int}:QM P .neq t x y (.int k a) (.int k b)=some (.val (.bool (a !=b)),.none):=ZaF rfl (by simp)
def ZfX{t:J}{x y:GP}{k:IntKind}{a b:Int}:QM P .lss t x y (.int k a) (.int k b)=some (.val (.bool (decide (a<b))),.none):=ZaF rfl (by simp)
def ZkA{t:J}{x y:GP}{k:IntKind}{a b:Int}:QM P .leq t x y (.int k a) (.int k b)=some (.val (.bool (decide (a<=b))),.none):=ZaF rfl (by simp)
def ZAY{t:J}{x y:GP}{k:IntKind}{a b:Int}:QM P .gtr t x y (.int k a) (.int k b)=some (.val (.bool (decide (a>b))),.none):=ZaF rfl (by simp)
def ZAZ{t:J}{x y:GP}{k:IntKind}{a b:Int}:QM P .geq t x y (.int k a) (.int k b)=some (.val (.bool (decide (a >=b))),.none):=ZaF rfl (by simp)
def ZsV{op:BinOp}{t:J}{x y:GP}{k:IntKind}{a b c:Int}(h1:op=.add/\c=a+b\/op=.sub/\c=a-b\/op=.mul/\c=a*b):QM P op t x y (.int k a) (.int k b)=some (.val (.int k (k.wrap c)),.none):=by
 have hp:(plain (.int k a)&&plain (.int k b))=true:=rfl;unfold QM;rw[hp,Cq1]
 have hb:binOp op t (.int k a) (.int k b)=pure (.int k (k.wrap c)):=by
  rcases h1 with⟨rfl,rfl⟩|⟨rfl,rfl⟩|⟨rfl,rfl⟩<;>simp[binOp,Op.intArith]
 have hg:(do eqGuard op t x y (.int k a) (.int k b);binOp op t (.int k a) (.int k b):Sem N)=pure (.int k (k.wrap c)):=by
  rw[hb];rcases h1 with⟨rfl,rfl⟩|⟨rfl,rfl⟩|⟨rfl,rfl⟩<;>rfl
 rw[hg];rfl
end
section
variable{X:Ctx}{n wm:Nat}{rd:O Nat}{s:Fs}{Q:XX->Fs->Prop}
def ZP.Yc{b:Code}(h:WC X n wm rd b s Q):ZP X n wm rd b Q .normal s:=⟨h⟩
def ZP.ret{b:Code}(h:Q .ret s):ZP X n wm rd b Q .ret s:=⟨h⟩
def ZP.exit{b:Code}{id:Nat}(h:Q (.exit id) s):ZP X n wm rd b Q (.exit id) s:=⟨h⟩
def ZP.panic{b:Code}{v:N}(h:Q (.panic v) s):ZP X n wm rd b Q (.panic v) s:=⟨h⟩
def ZO.Yc{b:Code}(h:WL X n wm rd b s Q):ZO X n wm rd b Q .normal s:=⟨h⟩
def ZO.ret{b:Code}(h:Q .ret s):ZO X n wm rd b Q .ret s:=⟨h⟩
def ZO.exit{b:Code}{id:Nat}(h:Q (.exit id) s):ZO X n wm rd b Q (.exit id) s:=⟨h⟩
def ZO.panic{b:Code}{v:N}(h:Q (.panic v) s):ZO X n wm rd b Q (.panic v) s:=⟨h⟩
def YG.Yc{id:Nat}(h:Q .normal s):YG id Q .normal s:=⟨h⟩
def YG.ret{id:Nat}(h:Q .ret s):YG id Q .ret s:=⟨h⟩
def YG.panic{id:Nat}{v:N}(h:Q (.panic v) s):YG id Q (.panic v) s:=⟨h⟩
def YG.here{id:Nat}(h:Q .normal s):YG id Q (.exit id) s:=⟨by show if _ then _ else _;rw[if_pos rfl];exact h⟩
def WF.begin{f:GR}{fn:Func}{c:Code}{args:U N}{h:H}{n:Nat}{R:UN->H->Prop}(hf:X.fns.get f=some fn)(hb:fn.body=some c)(hnt:fn.ntmps=n)(hn:args.length<=n)
 (k:WC X n wm none c ⟨XZ args 0 .nil,[],h,none⟩ (YK X fn R)):WF X f args.toArray wm h R:=by
 subst hnt;exact WF.enter hf hb hn k
variable{ops:GT Oper}{l:U Oper}{fr:Fr}{ds:U GV}{h h1:H}{d:Nat}{op:Op}{ty:J}{p:String}{af:GT Edge}{g:O (Nat×Z)}
def WO.v{v:N}{E:Eff}(hg:Z7 ops ⟨some d,op,ty,p,af,g⟩ fr)(hd:Nat.blt d n=true)(ha:Xu X h (YF fr) ⟨some d,op,ty,p,af,g⟩=some (.val v,E))(hE:E.apply wm h=some h1)
 (k:WO X n wm rd ops l ⟨Tr.set fr d v,ds,h1,none⟩ Q):WO X n wm rd ops (⟨some d,op,ty,p,af,g⟩::l) ⟨fr,ds,h,none⟩ Q:=WO.val hg hd ha hE k
def WO.u{E:Eff}(hg:Z7 ops ⟨none,op,ty,p,af,g⟩ fr)(ha:Xu X h (YF fr) ⟨none,op,ty,p,af,g⟩=some (.skip,E))(hE:E.apply wm h=some h1)
 (k:WO X n wm rd ops l ⟨fr,ds,h1,none⟩ Q):WO X n wm rd ops (⟨none,op,ty,p,af,g⟩::l) ⟨fr,ds,h,none⟩ Q:=WO.unit hg rfl ha hE k
def WO.o(hg:Zf2 ops ⟨some d,op,ty,p,af,g⟩ fr)(hd:Nat.blt d n=true)(k:WO X n wm rd ops l ⟨Tr.set fr d undef,ds,h,none⟩ Q):WO X n wm rd ops (⟨some d,op,ty,p,af,g⟩::l) ⟨fr,ds,h,none⟩ Q:=WO.off hg hd k
def WC.ZAi{c:GP}{a b:Code}{t:Z}(hc:YF s.fr c=some (.bool t))(ht:t=true)(k:WC X n wm rd a s Q):WC X n wm rd (.cond c a b) s Q:=WC.cond hc (fun _=>k) fun e=>by rw[ht]at e;cases e
def WC.Zuj{c:GP}{a b:Code}{t:Z}(hc:YF s.fr c=some (.bool t))(ht:t=false)(k:WC X n wm rd b s Q):WC X n wm rd (.cond c a b) s Q:=WC.cond hc (fun e=>by rw[ht]at e;cases e) fun _=>k
def ZAU{f:GR}{fn:Func}{vs:U N}(hf:X.fns.get f=some fn):UR X h (.func (.func f) #[] #[]) vs=some (.enter f vs.toArray,.none):=by
 unfold UR;simp[hf]
structure Slc(h:H)(a:Option Addr)(len sz:Nat)(cells:List Value):Prop where
 ZXG:cells.length=len*sz
 mem:len=0\/∃i o cs own z,a=some ⟨i,o,none⟩/\h.at i=.row cs own z/\o+len*sz<=cs.length/\(cs.drop o).take (len*sz)=cells
structure Grow(h h':H):Prop where
 size:h.size<=h'.size
 keep:∀i,i<h.size->h'.at i=h.at i
def Grow.refl(h:H):Grow h h:=⟨K1 _,fun _ _=>rfl⟩
def Grow.trans{a b c:H}(x:Grow a b)(y:Grow b c):Grow a c:=⟨Kx x.size y.size,fun i hi=>(y.keep i (J0 hi x.size)).trans (x.keep i hi)⟩
def Grow.push{a b:H}(x:Grow a b)(A:YV):Grow a (b.push A):=⟨Nat.le_succ_of_le x.size,fun i hi=>by rw[H.Qa,if_neg (by have:=x.size;omega)];exact x.keep i hi⟩
def Qt{h:H}{i:Nat}{A:YV}(e:h.at i=A)(hl:A.live=true):i<h.size:=by
 rcases Gj i h.size with z|z
 ·exact z
 ·rw[H.ZaC z]at e;subst e;cases hl
def Slc.load{P:GQ}{h:H}{i o:Nat}{cs:U N}{own:Z}{z:Nat}{t:J}{v:N}(hr:h.at i=.row cs own z)(ht:YE P t=some false)(hc:cs[o]? =some v):WK P h t (.pointer (some ⟨i,o,none⟩))=some v:=by
 unfold WK;dsimp only;rw[hr];dsimp only;rw[ht];dsimp only;exact hc
def Slc.addr{P:GQ}{i o len cap k sz:Nat}{t e:J}(hu:P.underlying t=some (.slice e))(hs:Yz P e=some sz)(hk:k<len):Zev P t (.slice (some ⟨i,o,none⟩) len cap) (GX (k:Int))=some (.pointer (some ⟨i,o+k*sz,none⟩)):=by
 have:Zev P t (.slice (some ⟨i,o,none⟩) len cap) (GX (Int.ofNat k))=some (.pointer (some ⟨i,o+k*sz,none⟩)):=by
  unfold Zev;rw[hu];dsimp only;rw[hs];dsimp only;have:Nat.blt k len=true:=by rw[Jn];exact hk
  rw[this];rfl
 exact this
section
variable{ops:GT Oper}{l:U Oper}{fr:Fr}{ds:U GV}{h:H}{d:Nat}{ty:J}{p:String}{af:GT Edge}{g:O (Nat×Z)}
end
end
section
variable{X:Ctx}{n wm:Nat}{rd:O Nat}{Q:XX->Fs->Prop}{ops:GT Oper}{l:U Oper}{fr:Fr}{ds:U GV}{h:H}{d:Nat}{ty:J}{p:String}{af:GT Edge}{g:O (Nat×Z)}
def QR(h:H)(A:YV):(h.push A).at h.size=A:=by rw[H.Qa,if_pos rfl]
def Wd{h:H}{i:Nat}(hi:i<h.size)(A:YV):(h.push A).at i=h.at i:=by rw[H.Qa,if_neg GZ]
def YX{h:H}{i:Nat}(hi:i<h.size)(A:YV):(h.put i A).at i=A:=by rw[H.XG,if_pos ⟨rfl,hi⟩]
def XL{h:H}{i j:Nat}(hj:j≠i)(A:YV):(h.put i A).at j=h.at j:=by rw[H.XG,if_neg fun z=>hj z.1]
def Zw(P:GQ)(t:J)(f off:Nat):Prop:=∃fs x m,P.underlying t=some (.struct fs)/\fs[f]? =some x/\Yz P x.type=some (m+1)/\x.offset=off
def Zw.of{P:GQ}{t:J}{f off:Nat}(h:Zcx P t ((GY 0)) f=some (.pointer (some ⟨0,off,none⟩))):Zw P t f off:=by
 unfold Zcx at h;cases e:P.underlying t with
 | none=>rw[e]at h;cases h
 | some u=>
   rw[e]at h;cases u with
   | struct fs=>
     dsimp only at h;cases ex:fs[f]? with
     | none=>rw[ex]at h;cases h
     | some x=>
       rw[ex]at h;dsimp only at h;cases em:Yz P x.type with
       | none=>rw[em]at h;cases h
       | some m=>
         rw[em]at h;cases m with
         | zero=>cases h
         | succ m=>cases h;exact⟨fs,x,m,e,ex,em,(J1 _).symm⟩
   | _=>cases h
def Zw.addr{P:GQ}{t:J}{f off:Nat}(h:Zw P t f off)(i o:Nat):Zcx P t (.pointer (some ⟨i,o,none⟩)) f=some (.pointer (some ⟨i,o+off,none⟩)):=by
 obtain⟨fs,x,m,h1,h2,h3,rfl⟩:=h;unfold Zcx;rw[h1];dsimp only;rw[h2];dsimp only;rw[h3]
def ZsB(b:Z):(Value.bool b).cells.toList=[.bool b]:=rfl
def ZvJ(k:IntKind)(m:Int):(Value.int k m).cells.toList=[.int k m]:=rfl
def ZnP(s:Y):(Value.string s).cells.toList=[.string s]:=rfl
def ZvH(a:O Addr):(Value.pointer a).cells.toList=[.pointer a]:=rfl
def Zqr(a:O Addr)(m c:Nat):(Value.slice a m c).cells.toList=[.slice a m c]:=rfl
def ZvI(m:O Nat):(Value.map m).cells.toList=[.map m]:=rfl
def cells_func(f:Fn)(xs ys:GT N):(Value.func f xs ys).cells.toList=[.func f xs ys]:=rfl
def Zli:(Value.nilFunc).cells.toList=[.nilFunc]:=rfl
def Zkf:(Value.nilIface).cells.toList=[.nilIface]:=rfl
def Zqs(t:J)(v:N):(Value.iface t v).cells.toList=[.iface t v]:=rfl
def ZvK(vs:U N):(Value.agg vs.toArray).cells.toList=vs:=rfl
def Jq(P:GQ)(t:J)(zs:U N)(pl:U (Nat×Nat)):Prop:=∃z fs,YP P t=some z/\z.cells.toList=zs/\P.underlying t=some (.struct fs)/\ZcM P fs.toList=some pl
def ZjC(place:Nat->O (Nat×Nat))(len:Nat):U (Nat×N)->Z
 | []=>true
 | (i,v)::rest=>(match place i with
   | some (off,size)=>Nat.beq v.cells.toList.length size&&Nat.ble (off+v.cells.toList.length) len
   | none=>false)&&ZjC place len rest
def ZpX(off:Nat->Nat):U N->U (Nat×N)->U N
 | cs,[]=>cs
 | cs,(i,v)::rest=>ZpX off (splice cs (off i) v.cells.toList) rest
def ZqM{place:Nat->O (Nat×Nat)}{off:Nat->Nat}(ho:∀i p,place i=some p->off i=p.1):∀(ps:U (Nat×N))(cs:U N),ZjC place cs.length ps=true->Zcw place cs ps=some (ZpX off cs ps):=by
 intro ps
 induction ps with
 | nil=>intro cs _;rfl
 | cons q ps ih=>
   obtain⟨i,v⟩:=q;intro cs h;simp only[ZjC,Ba0]at h;obtain⟨h1,h2⟩:=h;unfold Zcw ZpX;cases e:place i with
   | none=>rw[e]at h1;cases h1
   | some q=>
     obtain⟨of,sz⟩:=q;rw[e]at h1;dsimp only at h1 ⊢;rw[h1,Cq1,ho i _ e]
     have hl:(splice cs of v.cells.toList).length=cs.length:=by
      rw[Ba0]at h1;have:=Nl0 h1.2;simp only[splice,K0,Gt,GA];omega
     exact ih _ (by rw[hl];exact h2)
def Z0{ev:GP->O N}:evp ev []=some []:=rfl
def ZA{ev:GP->O N}{i:Nat}{x:GP}{xs:U (Nat×GP)}{v:N}{vs:U (Nat×N)}(h1:ev x=some v)(h2:evp ev xs=some vs):evp ev ((i,x)::xs)=some ((i,v)::vs):=by
 show(match ev x,evp ev xs with|some v,some vs=>some ((i,v)::vs) | _,_=>none)=_;rw[h1,h2]
def Zmq{P:GQ}{h:H}{t:J}{b o z sz:Nat}{cs vs:U N}{own:Z}(ht:YE P t=some true)(hs:Yz P t=some sz)(hr:h.at b=.row cs own z)(hl:o+sz<=cs.length)(hv:(cs.drop o).take sz=vs):
 WK P h t (.pointer (some ⟨b,o,none⟩))=some (.agg vs.toArray):=by
 unfold WK;dsimp only;rw[hr];dsimp only;rw[ht,hs];dsimp only;have hb:Nat.ble (o+sz) cs.length=true:=Nm0 hl;rw[hb,hv];rfl
end
section
variable{X:Ctx}{n wm:Nat}{rd:O Nat}{Q:XX->Fs->Prop}{ops:GT Oper}{l:U Oper}{fr:Fr}{ds:U GV}{h:H}{d:O Tmp}{ty:J}{p:String}{af:GT Edge}{g:O (Nat×Z)}{ev:GP->O N}
def Ym{x:GP}{v:N}(hx:ev x=some v):Xu X h ev ⟨d,.move x,ty,p,af,g⟩=some (.val v,.none):=by rw[ZAH,hx];rfl
def Yy{x:GP}{v:N}(hx:ev x=some v):Xu X h ev ⟨d,.assign x,ty,p,af,g⟩=some (.val v,.none):=by rw[ZsL,hx];rfl
def YT{x:GP}{t:J}{f off b o:Nat}(hf:Zw X.P t f off)(hx:ev x=some (.pointer (some ⟨b,o,none⟩))):Xu X h ev ⟨d,.fieldAddr t x f,ty,p,af,g⟩=some (.val (.pointer (some ⟨b,o+off,none⟩)),.none):=by
 rw[Zlp,hx];dsimp only;rw[hf.addr];rfl
def Zes{x:GP}{a:Addr}(hx:ev x=some (.pointer (some a))):Xu X h ev ⟨d,.nilCheck x,ty,p,af,g⟩=some (.val (.pointer (some a)),.none):=by
 show(match ev x with
  | some (.pointer (some a))=>some (AN.val (.pointer (some a)),Eff.none)
  | _=>none)=_
 rw[hx]
def ZAx{x:GP}{t:J}{b o z:Nat}{cs:U N}{own:Z}{v:N}(ht:YE X.P t=some false)(hx:ev x=some (.pointer (some ⟨b,o,none⟩)))(hr:h.at b=.row cs own z)(hc:cs[o]? =some v):
 Xu X h ev ⟨d,.load t x,ty,p,af,g⟩=some (.val v,.none):=by rw[ZqH,hx];dsimp only;rw[Slc.load hr ht hc];rfl
def ZAw{x:GP}{t:J}{b o z sz:Nat}{cs vs:U N}{own:Z}(ht:YE X.P t=some true)(hs:Yz X.P t=some sz)(hx:ev x=some (.pointer (some ⟨b,o,none⟩)))(hr:h.at b=.row cs own z)(hl:o+sz<=cs.length)(hv:(cs.drop o).take sz=vs):
 Xu X h ev ⟨d,.load t x,ty,p,af,g⟩=some (.val (.agg vs.toArray),.none):=by rw[ZqH,hx];dsimp only;rw[Zmq ht hs hr hl hv];rfl
def ZJq{x:GP}{t e:J}{a:O Addr}{m c:Nat}(hu:X.P.underlying t=some (.slice e))(hx:ev x=some (.slice a m c)):
 Xu X h ev ⟨d,.call {callee:=.builtin .len,args:=#[x],argTypes:=#[t]},ty,p,af,g⟩=some (.val (GX m),.none):=by
 have he:evs ev [x]=some [.slice a m c]:=Zb hx Zd;rw[Wh]
 show(match evs ev [x] with
  | some args=>Wi X.P h .len #[t] ty args
  | none=>none)=_
 rw[he];show vN (ZsM X.P h t (.slice a m c))=_;unfold ZsM;rw[hu];rfl
def ZJr{x y:GP}{t e:J}{sz b o m c k:Nat}{iv:Int}(hu:X.P.underlying t=some (.slice e))(hs:Yz X.P e=some sz)(hx:ev x=some (.slice (some ⟨b,o,none⟩) m c))(hy:ev y=some (GX iv))(hi:iv=(k:Int))(hk:k<m):
 Xu X h ev ⟨d,.indexAddr t x y,ty,p,af,g⟩=some (.val (.pointer (some ⟨b,o+k*sz,none⟩)),.none):=by
 subst hi;rw[Zlo,hx,hy];dsimp only;rw[Slc.addr hu hs hk];rfl
def Zaf{x:GP}{t:J}{b:Z}(hx:ev x=some (.bool b)):Xu X h ev ⟨d,.unOp .not t x,ty,p,af,g⟩=some (.val (.bool (!b)),.none):=by rw[ZAF,hx];rfl
def Xo{op:BinOp}{x y:GP}{t yt:J}{a b v:N}(hx:ev x=some a)(hy:ev y=some b)(hv:QM X.P op t x y a b=some (.val v,.none)):Xu X h ev ⟨d,.binOp op t x y yt,ty,p,af,g⟩=some (.val v,.none):=by
 rw[ZvT,hx,hy];exact hv
def Za6{c x y:GP}{b z:Z}(hc:ev c=some (.bool b))(hx:ev x=some (cond b (.bool z) undef))(hy:ev y=some (.bool false)):Xu X h ev ⟨d,.pick c x y,ty,p,af,g⟩=some (.val (.bool (b&&z)),.none):=by
 rw[ZfU,hc,hx,hy];cases b<;>rfl
def ZhG{c x y:GP}{b z:Z}(hc:ev c=some (.bool b))(hx:ev x=some (.bool true))(hy:ev y=some (cond (!b) (.bool z) undef)):Xu X h ev ⟨d,.pick c x y,ty,p,af,g⟩=some (.val (.bool (b||z)),.none):=by
 rw[ZfU,hc,hx,hy];cases b<;>rfl
def Xk{x:GP}{k:Nat}{vs:U N}{v:N}(hx:ev x=some (.tuple vs.toArray))(hv:vs[k]? =some v):Xu X h ev ⟨d,.extract x k,ty,p,af,g⟩=some (.val v,.none):=by
 rw[ZqI,hx];dsimp only;unfold Zcy;dsimp only;rw[hv];rfl
def Zh(ops:GT Oper)(o:Oper)(fr:Fr)(c:Z):Prop:=okG ops.toList o fr=true/\Y2 ops.toList o fr=c
def Zh.yes{ops:GT Oper}{o:Oper}{fr:Fr}{j:Nat}{b:Z}{og:Oper}{dd:Tmp}(h0:gk o=some (j,true))(hj:ops.toList[j]? =some og)(hd:og.dst=some dd)(hv:fr.at dd=.bool b):Zh ops o fr b:=by
 obtain⟨h,hsk⟩:=Zh4 h0 fr;unfold Zh okG Y2 Wy;rw[h];dsimp only;rw[hj];dsimp only;rw[hd];dsimp only;rw[hv,hsk];cases b<;>exact⟨rfl,rfl⟩
def Zh.no{ops:GT Oper}{o:Oper}{fr:Fr}{j:Nat}{b:Z}{og:Oper}{dd:Tmp}(h0:gk o=some (j,false))(hj:ops.toList[j]? =some og)(hd:og.dst=some dd)(hv:fr.at dd=.bool b):Zh ops o fr (!b):=by
 obtain⟨h,hsk⟩:=Zh4 h0 fr;unfold Zh okG Y2 Wy;rw[h];dsimp only;rw[hj];dsimp only;rw[hd];dsimp only;rw[hv,hsk];cases b<;>exact⟨rfl,rfl⟩
def Zh.ZF1{ops:GT Oper}{o:Oper}{fr:Fr}{j:Nat}{a b:Z}{og:Oper}{dd:Tmp}(h0:gk o=some (j,true))(hj:ops.toList[j]? =some og)(hd:og.dst=some dd)(hv:fr.at dd=cond a (.bool b) undef):Zh ops o fr (a&&b):=by
 obtain⟨h,hsk⟩:=Zh4 h0 fr;unfold Zh okG Y2 Wy;rw[h];dsimp only;rw[hj];dsimp only;rw[hd];dsimp only;rw[hv,hsk];cases a<;>cases b<;>exact⟨rfl,rfl⟩
def Zh.no2{ops:GT Oper}{o:Oper}{fr:Fr}{j:Nat}{a b:Z}{og:Oper}{dd:Tmp}(h0:gk o=some (j,false))(hj:ops.toList[j]? =some og)(hd:og.dst=some dd)(hv:fr.at dd=cond a (.bool b) undef):Zh ops o fr (a && !b):=by
 obtain⟨h,hsk⟩:=Zh4 h0 fr;unfold Zh okG Y2 Wy;rw[h];dsimp only;rw[hj];dsimp only;rw[hd];dsimp only;rw[hv,hsk];cases a<;>cases b<;>exact⟨rfl,rfl⟩
def Ziv{op:Op}{fr:Fr}{t:Tmp}{xs:GT GP}{ts:GT J}(hop:op=.call {callee:=.value (.tmp t),args:=xs,argTypes:=ts})(hv:Zhk (fr.at t)=true):Zlx op fr=true:=by subst hop;exact hv
def Ziw{fr:Fr}{t:Tmp}{v:N}(p:fr.at t=v)(h:Zhk v=true):Zhk (fr.at t)=true:=by rw[p];exact h
def Zix{c:Z}{v:N}(h:Zhk v=true):Zhk (cond c v undef)=true:=by cases c;rfl;exact h
def Zh.Zra{ops:GT Oper}{o:Oper}{fr:Fr}{j:Nat}{b:Z}{og:Oper}{dd:Tmp}(h:o.guard=some (j,true))(hj:ops.toList[j]? =some og)(hd:og.dst=some dd)(hv:fr.at dd=.bool b)(hsk:Zlx o.op fr=true):Zh ops o fr b:=by
 unfold Zh okG Y2 Wy;rw[h];dsimp only;rw[hj];dsimp only;rw[hd];dsimp only;rw[hv,hsk];cases b<;>exact⟨rfl,rfl⟩
def WO.gv{d:Nat}{op:Op}{c:Z}{v:N}(hg:Zh ops ⟨some d,op,ty,p,af,g⟩ fr c)(hd:Nat.blt d n=true)(ha:c=true->Xu X h (YF fr) ⟨some d,op,ty,p,af,g⟩=some (.val v,.none))
 (k:WO X n wm rd ops l ⟨Tr.set fr d (cond c v undef),ds,h,none⟩ Q):WO X n wm rd ops (⟨some d,op,ty,p,af,g⟩::l) ⟨fr,ds,h,none⟩ Q:=by
 cases c
 ·exact WO.o hg hd k
 ·exact WO.v hg hd (ha rfl) rfl k
end
section
variable{X:Ctx}{n wm:Nat}{rd:O Nat}{ops:GT Oper}{l:U Oper}{fr:Fr}{ds:U GV}{h:H}{ty:J}{p:String}{af:GT Edge}{g:O (Nat×Z)}
variable{Q:Fr->Prop}
def ZA9(wm:Nat):MOf false wm none=fun _=>False:=by funext x;unfold MOf;simp
def ZcQ:∀(j:Qo)(r:YO),(fun _:Qo=>(none:O YO)) j=some r->QY j r:=fun _ _ h=>by cases h
end
end Go.ZY
end
end
