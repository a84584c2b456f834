/- Part 8. -/
import Derived.ProofKit
import Derived.Test.YtbnepjakjmnadaaGreatCn7
set_option linter.all false
set_option maxHeartbeats 2000000
section
noncomputable section
namespace Go.Proofs.YtbnepjakjmnadaaGreat
open Go.ZK Go.RowKit Go.WideShapes Go.ChangeShapes
def isTrue(r:O YL):Z:=
 match r with
 | some (.fin (.ret (.bool true)) _)=>true
 | _=>false
def ZoK{r:O YL}(h:isTrue r=true):∃h',r=some (.fin (.ret (.bool true)) h'):=by
 unfold isTrue at h;split at h
 ·exact⟨_,rfl⟩
 ·cases h
def mixed:Tryz.prog.follows .mixedOrders=true:=Kq0
def Zou:Ren:=⟨fun _=>none,fun _=>(0,0)⟩
section
variable{H:Type}{enc:J×N->H}{P:GW}
def Zkl{f:Func}{s:ChangeSpec}{apart fresh handsOn again:Z}{W W':GY}{args:GZ N}{v:N}{ds gs:U (DataW H)}{before pa pv:U MemPlace}
 (hW:DataW.Whole enc P f.params.toList s.vars apart W args.toList ds gs before)
 (hres:∀(b:Nat)(sp:Nat->Z)(hd:Z),DataW.TrodAll enc P W' b sp hd f.resultTypes.toList (v.resultList f.resultTypes.size) (s.fn H (ds++gs)).results [])
 (hargs:∀sp:Nat->Z,(∀p∈before,sp p.block=true)->DataW.TrodAll enc P W' 0 sp true f.params.toList args.toList (s.fn H (ds++gs)).args pa)
 (hvars:∀sp:Nat->Z,(∀p∈before,sp p.block=true)->DataW.TrodVars enc P W' sp s.vars (s.fn H (ds++gs)).vars pv)
 (hps:before=pa++pv) (hb:Below W.heap.size W W')
 (hok:∀(j:Nat)(t:J)(r:N),f.resultTypes[j]? =some t->(v.resultList f.resultTypes.size)[j]? =some r->Value.okWide P W' .any 0 t r):
 s.post enc P f apart fresh handsOn again W args v W':=by
 have hlt:∀p∈before,p.block<W.heap.size:=fun p hp=>hW.lt p hp
 have hold:∀p∈before,(fun b=>decide (b<W.heap.size)) p.block=true:=fun p hp=>by simpa using hlt p hp
 refine⟨ds,gs,before,[],pa,pv,hW,hres _ _ _,hargs _ hold,hvars _ hold,World.keptBut_mono (fun p hp=>⟨hp,?_⟩) (hb.frame (· ∈ before)),fun _=>?_⟩
 ·rw[hps,Q1]at hp;exact Or.inr hp
 ·obtain⟨_,_,_,_,_,hz,hn⟩:=hW;refine⟨hok,_,_,([]++pa)++pv,⟨[]++pa,pv,trodAll_append (hargs _ (fun _ _=>rfl)) (hres _ _ _),hvars _ (fun _ _=>rfl),rfl,?_,?_⟩,?_⟩
  ·intro b off hp;have hin:MemPlace.cell b off∈before:=by rw[hps];simpa using hp
   rw[hb.frozen (hlt _ hin)];exact hz b off hin
  ·intro ha;have:=hn ha;rw[hps]at this
   simpa using this
  ·intro p hp _;rw[hps]
   simpa using hp
end
end Go.Proofs.YtbnepjakjmnadaaGreat
end
end
section
noncomputable section
namespace Go.ZK
section
variable{X:Ctx}
structure WC(X:Ctx)(n wm:Nat)(rd:Option Nat)(c:Code)(s:Fs)(Q:XX->Fs->Prop):Prop where
 out:∃e s',Q e s'/\Ym X (.code c n wm rd s) (.code e s')
structure WL(X:Ctx)(n wm:Nat)(rd:Option Nat)(c:Code)(s:Fs)(Q:XX->Fs->Prop):Prop where
 out:∃e s',Q e s'/\Ym X (.loop c n wm rd s) (.code e s')
structure WF(X:Ctx)(f:FuncId)(args:Array Value)(wm:Nat)(h:H)(Q:UG->H->Prop):Prop where
 out:∃e h',Q e h'/\Ym X (.call f args wm h) (.fin e h')
def ZMC(X:Ctx)(n wm:Nat)(rd:O Nat)(ops:GZ Oper)(l:U Oper)(s:Fs)(e:XX)(s':Fs):Prop:=
 ∀(Q:Exit->Act->GY->Prop){ρ:Ren}{F:Fence}{a:Act}{w:GY},Inv ρ n s a w->wm<=s.h.size->K7 ρ rd F->(∀e' a' w',XJ wm n ρ s.h w e s' e' a' w'->Q e' a' w')->wpListIn F 0 X.P ops Q l a w
structure WO(X:Ctx)(n wm:Nat)(rd:Option Nat)(ops:Array Oper)(l:List Oper)(s:Fs)(Q:XX->Fs->Prop):Prop where
 out:∃e s',Q e s'/\ZMC X n wm rd ops l s e s'
variable{n wm:Nat}{rd:O Nat}{s:Fs}{Q:XX->Fs->Prop}
def WC.mono{c:Code}{Q':XX->Fs->Prop}(h:WC X n wm rd c s Q)(k:∀e s',Q e s'->Q' e s'):WC X n wm rd c s Q':=let⟨e,s',h1,h2⟩:=h;⟨e,s',k e s' h1,h2⟩
def WF.mono{f:GX}{args:GZ N}{h:H}{Q Q':UG->H->Prop}(h1:WF X f args wm h Q)(k:∀e s',Q e s'->Q' e s'):WF X f args wm h Q':=let⟨e,s',h1,h2⟩:=h1;⟨e,s',k e s' h1,h2⟩
def ZMx(X:Ctx)(n wm:Nat)(rd:O Nat)(b:Code)(Q:XX->Fs->Prop):XX->Fs->Prop:=fun e s=>
 match e with
 | .normal=>WC X n wm rd b s Q
 | e=>Q e s
def ZIq(X:Ctx)(n wm:Nat)(rd:O Nat)(c:Code)(Q:XX->Fs->Prop):XX->Fs->Prop:=fun e s=>
 match e with
 | .normal=>WL X n wm rd c s Q
 | e=>Q e s
def ZAp(id:Nat)(Q:XX->Fs->Prop):XX->Fs->Prop:=fun e s=>
 match e with
 | .exit k=>if k=id then Q .normal s else Q (.exit k) s
 | e=>Q e s
structure ZH(X:Ctx)(n wm:Nat)(rd:Option Nat)(b:Code)(Q:XX->Fs->Prop)(e:XX)(s:Fs):Prop where
 out:ZMx X n wm rd b Q e s
structure ZV(X:Ctx)(n wm:Nat)(rd:Option Nat)(b:Code)(Q:XX->Fs->Prop)(e:XX)(s:Fs):Prop where
 out:ZIq X n wm rd b Q e s
structure Yu(id:Nat)(Q:XX->Fs->Prop)(e:XX)(s:Fs):Prop where
 out:ZAp id Q e s
def ExR.Ziv{ρ:Ren}{e:XX}{e':Exit}(he:ExR ρ e e')(h:e≠.normal){N':Act->GY->Prop}{R:Exit->Act->GY->Prop}{a:Act}{w:GY}(hr:R e' a w):Exit.then N' R e' a w:=by
 cases he with
 | normal=>exact absurd rfl h
 | _=>exact hr
def WC.seq{a b:Code}(h:WC X n wm rd a s (ZH X n wm rd b Q)):WC X n wm rd (.seq a b) s Q:=by
 obtain⟨e,s1,hq,ka⟩:=h;by_cases hn:e=.normal
 ·subst hn;obtain⟨e2,s2,hq2,kb⟩:=hq.out;refine⟨e2,s2,hq2,fun ρ a w F Zx hi hF=>wpIn_seq (wpIn_mono (ka ρ a w F Zx hi hF) ?_)⟩;rintro e' a' w' ⟨ρ',he,hi',hst⟩;cases he;exact wpIn_mono (kb ρ' a' w' F (KB Zx hst.size) hi' (hF.mono hst.ext)) fun _ _ _ hp=>XJ.trans hi.rel.lt hst hp
 ·refine⟨e,s1,?_,fun ρ a w F Zx hi hF=>wpIn_seq (wpIn_mono (ka ρ a w F Zx hi hF) ?_)⟩
  ·cases e with
   | normal=>exact absurd rfl hn
   | _=>exact hq.out
  ·rintro e' a' w' ⟨ρ',he,hi',hst⟩;exact he.Ziv hn ⟨ρ',he,hi',hst⟩
def WC.cond{c:GV}{a b:Code}{t:Z}(hc:YI s.fr c=some (.bool t))(h1:t=true->WC X n wm rd a s Q)(h2:t=false->WC X n wm rd b s Q):WC X n wm rd (.cond c a b) s Q:=by
 have:∃e s',Q e s'/\∀ρ a' w F,wm<=s.h.size->Inv ρ n s a' w->K7 ρ rd F->(if t then a else b).wpIn F 0 X.P (XJ wm n ρ s.h w e s') a' w:=by
  cases t with
  | true=>obtain⟨e,s',q,k⟩:=h1 rfl;exact⟨e,s',q,k⟩
  | false=>obtain⟨e,s',q,k⟩:=h2 rfl;exact⟨e,s',q,k⟩
 obtain⟨e,s',hq,k⟩:=this;refine⟨e,s',hq,fun ρ a' w F Zx hi hF=>?_⟩;have hv:=UX hi.fr _ _ hc;generalize hx:a'.eval c=x at hv;cases hv;exact wpIn_cond hx (k ρ a' w F Zx hi hF)
def WC.block{id:Nat}{c:Code}(h:WC X n wm rd c s (Yu id Q)):WC X n wm rd (.block id c) s Q:=by
 obtain⟨e,s1,hq,ka⟩:=h
 have key:∃e2,Q e2 s1/\∀(wm' n':Nat)(ρ0:Ren)(h0:H)(w0:GY)(e':Exit)(a':Act)(w':GY),XJ wm' n' ρ0 h0 w0 e s1 e' a' w'->Exit.inBlock id (XJ wm' n' ρ0 h0 w0 e2 s1) e' a' w':=by
  cases e with
  | exit k=>
    by_cases hk:k=id
    ·subst hk;refine⟨.normal,by simpa[ZAp]using hq.out,?_⟩;rintro _ _ _ _ _ e' a' w' ⟨ρ',he,hi',hst⟩;cases he;show if _ then _ else _
     rw[if_pos rfl];exact⟨ρ',.normal,hi',hst⟩
    ·refine⟨.exit k,by simpa[ZAp,hk]using hq.out,?_⟩;rintro _ _ _ _ _ e' a' w' ⟨ρ',he,hi',hst⟩;cases he;show if _ then _ else _
     rw[if_neg hk];exact⟨ρ',.exit k,hi',hst⟩
  | normal=>exact⟨.normal,hq.out,by rintro _ _ _ _ _ e' a' w' ⟨ρ',he,hi',hst⟩;cases he;exact⟨ρ',.normal,hi',hst⟩⟩
  | goto l=>exact⟨.goto l,hq.out,by rintro _ _ _ _ _ e' a' w' ⟨ρ',he,hi',hst⟩;cases he;exact⟨ρ',.goto l,hi',hst⟩⟩
  | ret=>exact⟨.ret,hq.out,by rintro _ _ _ _ _ e' a' w' ⟨ρ',he,hi',hst⟩;cases he;exact⟨ρ',.ret,hi',hst⟩⟩
  | panic v=>exact⟨.panic v,hq.out,by rintro _ _ _ _ _ e' a' w' ⟨ρ',he,hi',hst⟩;cases he with|panic hv=>exact⟨ρ',.panic hv,hi',hst⟩⟩
 obtain⟨e2,hq2,key⟩:=key;exact⟨e2,s1,hq2,fun ρ a w F Zx hi hF=>wpIn_block (wpIn_mono (ka ρ a w F Zx hi hF) fun e' a' w' hp=>key _ _ _ _ _ e' a' w' hp)⟩
def WC.skip(h:Q .normal s):WC X n wm rd .skip s Q:=⟨_,_,h,fun ρ _ _ _ _ hi _=>wpIn_skip ⟨ρ,.normal,hi,Stp.refl _ _ _ _⟩⟩
def WC.ret(h:Q .ret s):WC X n wm rd .ret s Q:=⟨_,_,h,fun ρ _ _ _ _ hi _=>wpIn_ret ⟨ρ,.ret,hi,Stp.refl _ _ _ _⟩⟩
def WC.exit{id:Nat}(h:Q (.exit id) s):WC X n wm rd (.exit id) s Q:=⟨_,_,h,fun ρ _ _ _ _ hi _=>wpIn_exit ⟨ρ,.exit id,hi,Stp.refl _ _ _ _⟩⟩
def WC.loop{c:Code}(h:WL X n wm rd c s Q):WC X n wm rd (.loop c) s Q:=
 let⟨e,s',hq,k⟩:=h;⟨e,s',hq,fun ρ a w F Zx hi hF=>ZbA (k ρ a w F Zx hi hF)⟩
def WC.region{id:Nat}{ops:GZ Oper}(h:WO X n wm rd ops ops.toList s Q):WC X n wm rd (.region id ops false) s Q:=by
 obtain⟨e,s',hq,k⟩:=h;exact⟨e,s',hq,fun ρ a w F Zx hi hF=>wpIn_region_list (k _ hi Zx hF fun _ _ _ hp=>hp)⟩
def WL.step{c:Code}(h:WC X n wm rd c s (ZV X n wm rd c Q)):WL X n wm rd c s Q:=by
 obtain⟨e,s1,hq,ka⟩:=h;by_cases hn:e=.normal
 ·subst hn;obtain⟨e2,s2,hq2,kb⟩:=hq.out;refine⟨e2,s2,hq2,fun ρ a w F Zx hi hF=>XV (wpIn_mono (ka ρ a w F Zx hi hF) ?_)⟩;rintro e' a' w' ⟨ρ',he,hi',hst⟩;cases he;have:=kb ρ' a' w' F (KB Zx hst.size) hi' (hF.mono hst.ext);intro b k cs h1 h2 h3;obtain⟨e3,a3,w3,hp,harr⟩:=this b k cs h1 h2 h3;exact⟨e3,a3,w3,XJ.trans hi.rel.lt hst hp,harr⟩
 ·refine⟨e,s1,?_,fun ρ a w F Zx hi hF=>XV (wpIn_mono (ka ρ a w F Zx hi hF) ?_)⟩
  ·cases e with
   | normal=>exact absurd rfl hn
   | _=>exact hq.out
  ·rintro e' a' w' ⟨ρ',he,hi',hst⟩;exact he.Ziv hn ⟨ρ',he,hi',hst⟩
def ZMA(X:Ctx)(fn:Func)(Q:UG->H->Prop):XX->Fs->Prop:=fun e s=>s.ds=[]/\
 match e with
 | .normal=>∃v,QB X.P fn s.fr s.h=some v/\Q (.ret v) s.h
 | .ret=>∃v,QB X.P fn s.fr s.h=some v/\Q (.ret v) s.h
 | .panic v=>Q (.Z6 v) s.h
 | _=>False
structure Y6(X:Ctx)(fn:Func)(Q:UG->H->Prop)(e:XX)(s:Fs):Prop where
 out:ZMA X fn Q e s
def WF.enter{f:GX}{fn:Func}{c:Code}{args:GZ N}{h:H}{Q:UG->H->Prop}(hf:X.fns.get f=some fn)(hb:fn.body=some c)(hn:args.toList.length<=fn.ntmps)
 (k:WC X fn.ntmps wm none c {fr:=X4 args.toList 0 .nil,ds:=[],h:=h} (Y6 X fn Q)):WF X f args wm h Q:=by
 obtain⟨e,s',⟨hds,hq⟩,ka⟩:=k
 have main:∀(E:UG)(pm:PM),xPM e=some pm->J5 (cfg X fun _=>false) (fun _=>none) fn wm pm s'=some (.fin E s'.h)->Ym X (.call f args wm h) (.fin E s'.h):=by
  intro E pm hpm hl;have hj:=Q8 (C:=cfg X fun _=>false) (ih:=fun _=>none) (fun _ _ h=>by cases h) hl;intro ρ args' w Zx hr hv
  have hi:Inv ρ fn.ntmps {fr:=X4 args.toList 0 .nil,ds:=[],h:=h} {tmps:=args'++Array.replicate (fn.ntmps-args'.size) undef,defers:=[]} w:=
   ⟨hr,UY hv hn,.nil⟩
  refine callsIn_of_wp_marks (X.ok f fn hf).1 hb (Zgb hf) (wpIn_mono (ka ρ _ w base Zx hi rfl) ?_);rintro e' a' w' ⟨ρ',he,hi',hst⟩;cases he with
  | normal=>cases hpm;exact hj ρ' _ a' .returning w' _ (KB Zx hst.size) hi' .ret (fun _ _ hp=>Uz.trans hr.lt hst hp)
  | ret=>cases hpm;exact hj ρ' _ a' .returning w' _ (KB Zx hst.size) hi' .ret (fun _ _ hp=>Uz.trans hr.lt hst hp)
  | panic hv'=>cases hpm;exact hj ρ' _ a' _ w' _ (KB Zx hst.size) hi' (.Z6 hv') (fun _ _ hp=>Uz.trans hr.lt hst hp)
  | exit id=>cases hpm
  | goto l=>cases hpm
 cases e with
 | normal=>
   obtain⟨v,hv,hq⟩:=hq
   exact⟨_,_,hq,main _ .ret rfl (by
    have hv':QB (cfg X fun _=>false).X.P fn s'.fr s'.h=some v:=hv;unfold J5;rw[hds];simp only[hv'])⟩
 | ret=>
   obtain⟨v,hv,hq⟩:=hq
   exact⟨_,_,hq,main _ .ret rfl (by
    have hv':QB (cfg X fun _=>false).X.P fn s'.fr s'.h=some v:=hv;unfold J5;rw[hds];simp only[hv'])⟩
 | panic v=>exact⟨_,_,hq,main _ (.Z6 v) rfl (by unfold J5;rw[hds])⟩
 | exit _=>exact hq.elim
 | goto _=>exact hq.elim
abbrev Pure(X:Ctx)(f:GX)(args:GZ N)(h:H)(v:N):Prop:=∀wm,Ym X (.call f args wm h) (.fin (.ret v) h)
def WF.pure{f:GX}{args:GZ N}{h:H}{v:N}(hp:plain v=true)(k:WF X f args h.size h (fun e _=>e=.ret v)):Pure X f args h v:=by
 obtain⟨e,h',rfl,hj⟩:=k;intro wm ρ args' w Zx hr hv;refine(hj ρ args' w V7 hr hv).mono ?_;rintro e' w' ⟨ρ',he,hr',hst⟩;cases he with
 | ret hv'=>
   rw[VR.Y5 hp hv'];obtain⟨q1,q2⟩:=ZaE hr hst;exact⟨ρ,.ret (VR.ZL hp),q1,q2 wm⟩
variable{ops:GZ Oper}{l:U Oper}{o:Oper}
def WO.nil(h:Q .normal s):WO X n wm rd ops [] s Q:=⟨_,_,h,fun _ ρ _ a w hi _ _ hq=>hq .normal a w ⟨ρ,.normal,hi,Stp.refl _ _ _ _⟩⟩
def WO.cons{ih:Ql->O YL}(HI:∀j r,ih j=some r->Ym X j r){s1:Fs}(h:JO X (fun _=>false) ih n wm rd ops.toList o s=some (.normal,s1))(k:WO X n wm rd ops l s1 Q):WO X n wm rd ops (o::l) s Q:=by
 obtain⟨e,s',hq,hk⟩:=k;refine⟨e,s',hq,fun Q' ρ F a w hi Zx hF hq'=>?_⟩;refine Uk HI h hi Zx hF (fun _ ρ' a' w' hi' st'=>?_) (fun v he=>by cases he);refine hk Q' hi' (KB Zx st'.size) (hF.mono st'.ext) fun e' a2 w2 hp=>?_
 obtain⟨ρ2,q1,q2,q3⟩:=hp;exact hq' e' a2 w2 ⟨ρ2,q1,q2,st'.trans hi.rel.lt q3⟩
def WO.panics{ih:Ql->O YL}(HI:∀j r,ih j=some r->Ym X j r){s1:Fs}{v:N}(h:JO X (fun _=>false) ih n wm rd ops.toList o s=some (.panic v,s1))(k:Q (.panic v) s1):WO X n wm rd ops (o::l) s Q:=by
 refine⟨.panic v,s1,k,fun Q' ρ F a w hi Zx hF hq'=>?_⟩;refine Uk HI h hi Zx hF (fun he=>by cases he) (fun v' he ρ' v2 a' w' hv hi' st'=>?_);cases he;exact hq' _ a' w' ⟨ρ',.panic hv,hi',st'⟩
def KQ(X:Ctx):∀(j:Ql)(r:YL),(fun _:Ql=>(none:O YL)) j=some r->Ym X j r:=fun _ _ h=>by cases h
def ZDD(op:Op):Z:=match op with
 | .call c=>match c.callee with
   | .value x=>match x with
     | .func f=>Nat.blt f nfs
     | _=>false
   | .builtin _=>true
   | .invoke _ _=>false
 | _=>true
def gk(o:Oper):O (Nat×Z):=bif ZDD o.op then o.guard else none
def Zhy{o:Oper}{q:Nat×Z}(h:gk o=some q)(fr:Fr):o.guard=some q/\ZkS o.op fr=true:=by
 unfold gk at h;cases hs:ZDD o.op with
 | false=>rw[hs]at h;cases h
 | true=>
   rw[hs]at h;refine⟨h,?_⟩
   revert hs
   generalize o.op=op;intro hs;cases op with
   | call c=>
     obtain⟨callee,args,ats⟩:=c;cases callee with
     | value x=>
       cases x with
       | func f=>exact hs
       | tmp t=>cases hs
       | const v=>cases hs
       | global g=>cases hs
     | builtin b=>rfl
     | invoke r nm=>cases hs
   | _=>rfl
def ZX(ops:GZ Oper)(o:Oper)(fr:Fr):Prop:=okG ops.toList o fr=true/\YZ ops.toList o fr=true
def ZfC(ops:GZ Oper)(o:Oper)(fr:Fr):Prop:=okG ops.toList o fr=true/\YZ ops.toList o fr=false
def ZX.none{ops:GZ Oper}{o:Oper}{fr:Fr}(h:o.guard=none):ZX ops o fr:=by unfold ZX okG YZ;rw[h];exact⟨rfl,rfl⟩
def gN{ops:GZ Oper}{d:O Tmp}{op:Op}{ty:J}{p:String}{af:GZ Edge}{fr:Fr}:ZX ops ⟨d,op,ty,p,af,Option.none⟩ fr:=ZX.none rfl
def ZjM(n:Nat)(d:O Tmp):Z:=
 match d with
 | none=>true
 | some d=>Nat.blt d n
def Zfp{fr:Fr}{ds:U V2}{h:H}{d:O Tmp}{v:N}(hd:ZjM n d=true):Zgy n ⟨fr,ds,h,none⟩ d v=some ⟨Jb fr d v,ds,h,none⟩:=by
 rw[ZhM];cases d with
 | none=>rfl
 | some d=>
   unfold ZjM at hd;dsimp only at hd ⊢;rw[hd];rfl
variable{fr:Fr}{ds:U V2}{h h1:H}
def WO.val{v:N}{E:Eff}(hg:ZX ops o fr)(hd:ZjM n o.dst=true)(ha:Xx X h (YI fr) o=some (.val v,E))(hE:E.apply wm h=some h1)
 (k:WO X n wm rd ops l ⟨Jb fr o.dst v,ds,h1,none⟩ Q):WO X n wm rd ops (o::l) ⟨fr,ds,h,none⟩ Q:=by
 refine WO.cons (KQ X) ?_ k;unfold JO;rw[hg.1,hg.2];dsimp only[QP,Cq0,Cq1];rw[ha];dsimp only[QP,Cq0,Cq1];rw[hE];unfold WI;dsimp only[Jp];rw[Zfp hd]
 rfl
def WO.unit{E:Eff}(hg:ZX ops o fr)(hd:ZjM n o.dst=true)(ha:Xx X h (YI fr) o=some (.skip,E))(hE:E.apply wm h=some h1)
 (k:WO X n wm rd ops l ⟨Jb fr o.dst undef,ds,h1,none⟩ Q):WO X n wm rd ops (o::l) ⟨fr,ds,h,none⟩ Q:=by
 refine WO.cons (KQ X) ?_ k;unfold JO;rw[hg.1,hg.2];dsimp only[QP,Cq0,Cq1];rw[ha];dsimp only[QP,Cq0,Cq1];rw[hE];unfold WI;dsimp only[Jp];rw[Zfp hd]
 rfl
def WO.panic{v:N}{E:Eff}(hg:ZX ops o fr)(ha:Xx X h (YI fr) o=some (.panic v,E))(hE:E.apply wm h=some h1)
 (k:Q (.panic v) ⟨fr,ds,h1,none⟩):WO X n wm rd ops (o::l) ⟨fr,ds,h,none⟩ Q:=by
 refine WO.panics (KQ X) ?_ k;unfold JO;rw[hg.1,hg.2];dsimp only[QP,Cq0,Cq1];rw[ha];dsimp only[QP,Cq0,Cq1];rw[hE]
 rfl
def WO.off(hg:ZfC ops o fr)(hd:ZjM n o.dst=true)(k:WO X n wm rd ops l ⟨Jb fr o.dst undef,ds,h,none⟩ Q):WO X n wm rd ops (o::l) ⟨fr,ds,h,none⟩ Q:=by
 refine WO.cons (KQ X) ?_ k;unfold JO;rw[hg.1,hg.2];dsimp only[QP,Cq0,Cq1];rw[Zfp hd]
 rfl
open Classical in
def QD (j:Ql) (r:YL):Ql ->Option YL:=fun j'=>if j'=j then some r else none
def Y1{j:Ql}{r:YL}(h:Ym X j r):∀j' r',QD j r j'=some r'->Ym X j' r':=by
 intro j' r' e;unfold QD at e;split at e
 ·rename_i hj;cases e;rw[hj];exact h
 ·cases e
def Y2(j:Ql)(r:YL):QD j r j=some r:=by unfold QD;rw[if_pos rfl]
def WO.call{f:GX}{args:GZ N}{E:Eff}{v:N}{h2:H}(hg:ZX ops o fr)(hd:ZjM n o.dst=true)(ha:Xx X h (YI fr) o=some (.enter f args,E))(hE:E.apply wm h=some h1)
 (hc:Ym X (.call f args wm h1) (.fin (.ret v) h2)) (k:WO X n wm rd ops l ⟨Jb fr o.dst v,ds,h2,none⟩ Q):WO X n wm rd ops (o::l) ⟨fr,ds,h,none⟩ Q:=by
 refine WO.cons (Y1 hc) ?_ k;unfold JO;rw[hg.1,hg.2];dsimp only[QP,Cq0,Cq1];rw[ha];dsimp only[QP,Cq0,Cq1];rw[hE];unfold WI;dsimp only[Jp,Cq0];rw[Y2];dsimp only;rw[Zfp hd]
 rfl
def WO.ZjR{f:GX}{args:GZ N}{E:Eff}{v:N}{h2:H}(hg:ZX ops o fr)(ha:Xx X h (YI fr) o=some (.enter f args,E))(hE:E.apply wm h=some h1)
 (hc:Ym X (.call f args wm h1) (.fin (.Z6 v) h2)) (k:Q (.panic v) ⟨fr,ds,h2,none⟩):WO X n wm rd ops (o::l) ⟨fr,ds,h,none⟩ Q:=by
 refine WO.panics (Y1 hc) ?_ k;unfold JO;rw[hg.1,hg.2];dsimp only[QP,Cq0,Cq1];rw[ha];dsimp only[QP,Cq0,Cq1];rw[hE];unfold WI;dsimp only[Jp,Cq0];rw[Y2]
 rfl
end
section
variable{X:Ctx}{P:GW}{h:H}{fr:Fr}{ev:GV->O N}{d:O Tmp}{ty:J}{p:String}{af:GZ Edge}{g:O (Nat×Z)}
def at_set(fr:Fr)(d t:Nat)(v:N):Fr.at (Tr.set fr d v) t=if t=d then v else Fr.at fr t:=by
 unfold Fr.at;rw[Tr.XE];by_cases h:t=d<;>simp[h]
def Zw(i:Nat)(fr:Fr):X4 [] i fr=fr:=rfl
def Zn(v:N)(vs:U N)(i:Nat)(fr:Fr):X4 (v::vs) i fr=X4 vs (i+1) (Tr.set fr i v):=rfl
def Znw(fr:Fr)(t:Nat):YI fr (.tmp t)=bif XG (fr.at t) then none else some (fr.at t):=rfl
def ZvF(fr:Fr)(v:N):YI fr (.const v)=bif plain v then some v else none:=rfl
def Zqa(fr:Fr)(f:GX):YI fr (.func f)=some (.func (.func f) #[] #[]):=rfl
def ZzP(x:GV):Xx X h ev ⟨d,.move x,ty,p,af,g⟩=vN (ev x):=rfl
def Zsd(x:GV):Xx X h ev ⟨d,.assign x,ty,p,af,g⟩=vN (ev x):=rfl
def ZvC(op:BinOp)(t:J)(x y:GV)(yt:J):Xx X h ev ⟨d,.binOp op t x y yt,ty,p,af,g⟩=match ev x,ev y with
 | some a,some b=>Qk X.P op t x y a b
 | _,_=>none:=rfl
def Zfr(c a b:GV):Xx X h ev ⟨d,.pick c a b,ty,p,af,g⟩=match ev c with
 | some (.bool true)=>vN (ev a)
 | some (.bool false)=>vN (ev b)
 | _=>none:=rfl
def ZzO(op:UnOp)(t:J)(x:GV):Xx X h ev ⟨d,.unOp op t x,ty,p,af,g⟩=match ev x with
 | some a=>bif plain a then pN (Wo X.P (Op.unary op a)) else none
 | none=>none:=rfl
def Zp5(t:J)(x:GV):Xx X h ev ⟨d,.load t x,ty,p,af,g⟩=match ev x with
 | some v=>vN (WJ X.P h t v)
 | none=>none:=rfl
def ZvA(t:J)(a x:GV):Xx X h ev ⟨d,.store t a x,ty,p,af,g⟩=match ev a,ev x with
 | some a,some x=>sE (Zgw X.P h t a x)
 | _,_=>none:=rfl
def ZC9(t:J)(x:GV):Xx X h ev ⟨d,.box t x,ty,p,af,g⟩=match ev x with
 | some v=>some (.val (Q0 h),.new (.row v.cells.toList true 0))
 | none=>none:=rfl
def ZvD(t:J):Xx X h ev ⟨d,.alloc t,ty,p,af,g⟩=match YM X.P t with
 | some z=>some (.val (Q0 h),.new (.row z.cells.toList true 0))
 | none=>none:=rfl
def ZkL(t:J)(x:GV)(f:Nat):Xx X h ev ⟨d,.fieldAddr t x f,ty,p,af,g⟩=match ev x with
 | some v=>vN (Zcl X.P t v f)
 | none=>none:=rfl
def ZkK(t:J)(x i:GV):Xx X h ev ⟨d,.indexAddr t x i,ty,p,af,g⟩=match ev x,ev i with
 | some x,some i=>vN (Zd7 X.P t x i)
 | _,_=>none:=rfl
def Zp6(x:GV)(k:Nat):Xx X h ev ⟨d,.extract x k,ty,p,af,g⟩=match ev x with
 | some x=>vN (Zcm x k)
 | none=>none:=rfl
def U8(b:Builtin)(xs:GZ GV)(ts:GZ J):Xx X h ev ⟨d,.call {callee:=.builtin b,args:=xs,argTypes:=ts},ty,p,af,g⟩=match evs ev xs.toList with
 | some args=>U9 X.P h b ts ty args
 | none=>none:=by
 show(match Callee.builtin b,evs ev xs.toList with
  | .builtin b,some args=>U9 X.P h b ts ty args
  | .value f,some args=>match ev f with
    | some f=>Ul X h f args
    | none=>none
  | .invoke r name,some args=>match ev r with
    | some r=>Zbf X r name args
    | none=>none
  | _,_=>none)=_
 cases evs ev xs.toList<;>rfl
def Zc3(f:GV)(xs:GZ GV)(ts:GZ J):Xx X h ev ⟨d,.call {callee:=.value f,args:=xs,argTypes:=ts},ty,p,af,g⟩=match evs ev xs.toList with
 | some args=>match ev f with
   | some f=>Ul X h f args
   | none=>none
 | none=>none:=by
 show(match Callee.value f,evs ev xs.toList with
  | .builtin b,some args=>U9 X.P h b ts ty args
  | .value f,some args=>match ev f with
    | some f=>Ul X h f args
    | none=>none
  | .invoke r name,some args=>match ev r with
    | some r=>Zbf X r name args
    | none=>none
  | _,_=>none)=_
 cases evs ev xs.toList<;>rfl
def Zd:evs ev []=some []:=rfl
def Zb{x:GV}{xs:U GV}{v:N}{vs:U N}(h1:ev x=some v)(h2:evs ev xs=some vs):evs ev (x::xs)=some (v::vs):=by
 show(match ev x,evs ev xs with|some v,some vs=>some (v::vs) | _,_=>none)=_;rw[h1,h2]
def ZaI{op:BinOp}{t:J}{x y:GV}{k:IntKind}{a b:Int}{c:Z}(ho:Op.intCmp op a b=pure (.bool c))(h1:op=.eql\/op=.neq\/op=.lss\/op=.leq\/op=.gtr\/op=.geq):Qk P op t x y (.int k a) (.int k b)=some (.val (.bool c),.none):=by
 have hp:(plain (.int k a)&&plain (.int k b))=true:=rfl;unfold Qk;rw[hp,Cq1]
 have hb:binOp op t (.int k a) (.int k b)=pure (.bool c):=by
  rcases h1 with rfl|rfl|rfl|rfl|rfl|rfl<;>simp[binOp,ho]
 have hg:(do eqGuard op t x y (.int k a) (.int k b);binOp op t (.int k a) (.int k b):Sem N)=pure (.bool c):=by
  rw[hb];rcases h1 with rfl|rfl|rfl|rfl|rfl|rfl<;>rfl
 rw[hg];rfl
def Zfv{t:J}{x y:GV}{k:IntKind}{a b:Int}:Qk P .eql t x y (.int k a) (.int k b)=some (.val (.bool (a==b)),.none):=ZaI rfl (by simp)
def Zz3{t:J}{x y:GV}{k:IntKind}{a b:Int}:Qk P .neq t x y (.int k a) (.int k b)=some (.val (.bool (a !=b)),.none):=ZaI rfl (by simp)
def Zfu{t:J}{x y:GV}{k:IntKind}{a b:Int}:Qk P .lss t x y (.int k a) (.int k b)=some (.val (.bool (decide (a<b))),.none):=ZaI rfl (by simp)
def Zj5{t:J}{x y:GV}{k:IntKind}{a b:Int}:Qk P .leq t x y (.int k a) (.int k b)=some (.val (.bool (decide (a<=b))),.none):=ZaI rfl (by simp)
def Zz5{t:J}{x y:GV}{k:IntKind}{a b:Int}:Qk P .gtr t x y (.int k a) (.int k b)=some (.val (.bool (decide (a>b))),.none):=ZaI rfl (by simp)
def Zz6{t:J}{x y:GV}{k:IntKind}{a b:Int}:Qk P .geq t x y (.int k a) (.int k b)=some (.val (.bool (decide (a >=b))),.none):=ZaI rfl (by simp)
def Zsm{op:BinOp}{t:J}{x y:GV}{k:IntKind}{a b c:Int}(h1:op=.add/\c=a+b\/op=.sub/\c=a-b\/op=.mul/\c=a*b):Qk P op t x y (.int k a) (.int k b)=some (.val (.int k (k.wrap c)),.none):=by
 have hp:(plain (.int k a)&&plain (.int k b))=true:=rfl;unfold Qk;rw[hp,Cq1]
 have hb:binOp op t (.int k a) (.int k b)=pure (.int k (k.wrap c)):=by
  rcases h1 with⟨rfl,rfl⟩|⟨rfl,rfl⟩|⟨rfl,rfl⟩<;>simp[binOp,Op.intArith]
 have hg:(do eqGuard op t x y (.int k a) (.int k b);binOp op t (.int k a) (.int k b):Sem N)=pure (.int k (k.wrap c)):=by
  rw[hb];rcases h1 with⟨rfl,rfl⟩|⟨rfl,rfl⟩|⟨rfl,rfl⟩<;>rfl
 rw[hg];rfl
end
section
variable{X:Ctx}{n wm:Nat}{rd:O Nat}{s:Fs}{Q:XX->Fs->Prop}
def ZH.Yf{b:Code}(h:WC X n wm rd b s Q):ZH X n wm rd b Q .normal s:=⟨h⟩
def ZH.ret{b:Code}(h:Q .ret s):ZH X n wm rd b Q .ret s:=⟨h⟩
def ZH.exit{b:Code}{id:Nat}(h:Q (.exit id) s):ZH X n wm rd b Q (.exit id) s:=⟨h⟩
def ZH.panic{b:Code}{v:N}(h:Q (.panic v) s):ZH X n wm rd b Q (.panic v) s:=⟨h⟩
def ZV.Yf{b:Code}(h:WL X n wm rd b s Q):ZV X n wm rd b Q .normal s:=⟨h⟩
def ZV.ret{b:Code}(h:Q .ret s):ZV X n wm rd b Q .ret s:=⟨h⟩
def ZV.exit{b:Code}{id:Nat}(h:Q (.exit id) s):ZV X n wm rd b Q (.exit id) s:=⟨h⟩
def ZV.panic{b:Code}{v:N}(h:Q (.panic v) s):ZV X n wm rd b Q (.panic v) s:=⟨h⟩
def Yu.Yf{id:Nat}(h:Q .normal s):Yu id Q .normal s:=⟨h⟩
def Yu.ret{id:Nat}(h:Q .ret s):Yu id Q .ret s:=⟨h⟩
def Yu.panic{id:Nat}{v:N}(h:Q (.panic v) s):Yu id Q (.panic v) s:=⟨h⟩
def Yu.here{id:Nat}(h:Q .normal s):Yu id Q (.exit id) s:=⟨by show if _ then _ else _;rw[if_pos rfl];exact h⟩
def WF.begin{f:GX}{fn:Func}{c:Code}{args:U N}{h:H}{n:Nat}{R:UG->H->Prop}(hf:X.fns.get f=some fn)(hb:fn.body=some c)(hnt:fn.ntmps=n)(hn:args.length<=n)
 (k:WC X n wm none c ⟨X4 args 0 .nil,[],h,none⟩ (Y6 X fn R)):WF X f args.toArray wm h R:=by
 subst hnt;exact WF.enter hf hb hn k
variable{ops:GZ Oper}{l:U Oper}{fr:Fr}{ds:U V2}{h h1:H}{d:Nat}{op:Op}{ty:J}{p:String}{af:GZ Edge}{g:O (Nat×Z)}
def WO.v{v:N}{E:Eff}(hg:ZX ops ⟨some d,op,ty,p,af,g⟩ fr)(hd:Nat.blt d n=true)(ha:Xx X h (YI fr) ⟨some d,op,ty,p,af,g⟩=some (.val v,E))(hE:E.apply wm h=some h1)
 (k:WO X n wm rd ops l ⟨Tr.set fr d v,ds,h1,none⟩ Q):WO X n wm rd ops (⟨some d,op,ty,p,af,g⟩::l) ⟨fr,ds,h,none⟩ Q:=WO.val hg hd ha hE k
def WO.u{E:Eff}(hg:ZX ops ⟨none,op,ty,p,af,g⟩ fr)(ha:Xx X h (YI fr) ⟨none,op,ty,p,af,g⟩=some (.skip,E))(hE:E.apply wm h=some h1)
 (k:WO X n wm rd ops l ⟨fr,ds,h1,none⟩ Q):WO X n wm rd ops (⟨none,op,ty,p,af,g⟩::l) ⟨fr,ds,h,none⟩ Q:=WO.unit hg rfl ha hE k
def WO.o(hg:ZfC ops ⟨some d,op,ty,p,af,g⟩ fr)(hd:Nat.blt d n=true)(k:WO X n wm rd ops l ⟨Tr.set fr d undef,ds,h,none⟩ Q):WO X n wm rd ops (⟨some d,op,ty,p,af,g⟩::l) ⟨fr,ds,h,none⟩ Q:=WO.off hg hd k
def WC.Zzv{c:GV}{a b:Code}{t:Z}(hc:YI s.fr c=some (.bool t))(ht:t=true)(k:WC X n wm rd a s Q):WC X n wm rd (.cond c a b) s Q:=WC.cond hc (fun _=>k) fun e=>by rw[ht]at e;cases e
def WC.ZtS{c:GV}{a b:Code}{t:Z}(hc:YI s.fr c=some (.bool t))(ht:t=false)(k:WC X n wm rd b s Q):WC X n wm rd (.cond c a b) s Q:=WC.cond hc (fun e=>by rw[ht]at e;cases e) fun _=>k
def Zz1{f:GX}{fn:Func}{vs:U N}(hf:X.fns.get f=some fn):Ul X h (.func (.func f) #[] #[]) vs=some (.enter f vs.toArray,.none):=by
 unfold Ul;simp[hf]
structure Slc(h:H)(a:Option Addr)(len sz:Nat)(cells:List Value):Prop where
 ZUB:cells.length=len*sz
 mem:len=0\/∃i o cs own z,a=some ⟨i,o,none⟩/\h.at i=.row cs own z/\o+len*sz<=cs.length/\(cs.drop o).take (len*sz)=cells
structure Grow(h h':H):Prop where
 size:h.size<=h'.size
 keep:∀i,i<h.size->h'.at i=h.at i
def Grow.refl(h:H):Grow h h:=⟨K1 _,fun _ _=>rfl⟩
def Grow.trans{a b c:H}(x:Grow a b)(y:Grow b c):Grow a c:=⟨KB x.size y.size,fun i hi=>(y.keep i (Jx hi x.size)).trans (x.keep i hi)⟩
def Grow.push{a b:H}(x:Grow a b)(A:YR):Grow a (b.push A):=⟨Nat.le_succ_of_le x.size,fun i hi=>by rw[H.Qd,if_neg (by have:=x.size;omega)];exact x.keep i hi⟩
def Qc{h:H}{i:Nat}{A:YR}(e:h.at i=A)(hl:A.live=true):i<h.size:=by
 rcases Gl i h.size with z|z
 ·exact z
 ·rw[H.ZaF z]at e;subst e;cases hl
def Slc.load{P:GW}{h:H}{i o:Nat}{cs:U N}{own:Z}{z:Nat}{t:J}{v:N}(hr:h.at i=.row cs own z)(ht:Yy P t=some false)(hc:cs[o]? =some v):WJ P h t (.pointer (some ⟨i,o,none⟩))=some v:=by
 unfold WJ;dsimp only;rw[hr];dsimp only;rw[ht];dsimp only;exact hc
def Slc.addr{P:GW}{i o len cap k sz:Nat}{t e:J}(hu:P.underlying t=some (.slice e))(hs:Yv P e=some sz)(hk:k<len):Zd7 P t (.slice (some ⟨i,o,none⟩) len cap) (V4 (k:Int))=some (.pointer (some ⟨i,o+k*sz,none⟩)):=by
 have:Zd7 P t (.slice (some ⟨i,o,none⟩) len cap) (V4 (Int.ofNat k))=some (.pointer (some ⟨i,o+k*sz,none⟩)):=by
  unfold Zd7;rw[hu];dsimp only;rw[hs];dsimp only;have:Nat.blt k len=true:=by rw[G0];exact hk
  rw[this];rfl
 exact this
section
variable{ops:GZ Oper}{l:U Oper}{fr:Fr}{ds:U V2}{h:H}{d:Nat}{ty:J}{p:String}{af:GZ Edge}{g:O (Nat×Z)}
end
end
section
variable{X:Ctx}{n wm:Nat}{rd:O Nat}{Q:XX->Fs->Prop}{ops:GZ Oper}{l:U Oper}{fr:Fr}{ds:U V2}{h:H}{d:Nat}{ty:J}{p:String}{af:GZ Edge}{g:O (Nat×Z)}
def QL(h:H)(A:YR):(h.push A).at h.size=A:=by rw[H.Qd,if_pos rfl]
def U7{h:H}{i:Nat}(hi:i<h.size)(A:YR):(h.push A).at i=h.at i:=by rw[H.Qd,if_neg V6]
def Yw{h:H}{i:Nat}(hi:i<h.size)(A:YR):(h.put i A).at i=A:=by rw[H.XP,if_pos ⟨rfl,hi⟩]
def XR{h:H}{i j:Nat}(hj:j≠i)(A:YR):(h.put i A).at j=h.at j:=by rw[H.XP,if_neg fun z=>hj z.1]
def Zr(P:GW)(t:J)(f off:Nat):Prop:=∃fs x m,P.underlying t=some (.struct fs)/\fs[f]? =some x/\Yv P x.type=some (m+1)/\x.offset=off
def Zr.of{P:GW}{t:J}{f off:Nat}(h:Zcl P t ((V5 0)) f=some (.pointer (some ⟨0,off,none⟩))):Zr P t f off:=by
 unfold Zcl at h;cases e:P.underlying t with
 | none=>rw[e]at h;cases h
 | some u=>
   rw[e]at h;cases u with
   | struct fs=>
     dsimp only at h;cases ex:fs[f]? with
     | none=>rw[ex]at h;cases h
     | some x=>
       rw[ex]at h;dsimp only at h;cases em:Yv P x.type with
       | none=>rw[em]at h;cases h
       | some m=>
         rw[em]at h;cases m with
         | zero=>cases h
         | succ m=>cases h;exact⟨fs,x,m,e,ex,em,(JT _).symm⟩
   | _=>cases h
def Zr.addr{P:GW}{t:J}{f off:Nat}(h:Zr P t f off)(i o:Nat):Zcl P t (.pointer (some ⟨i,o,none⟩)) f=some (.pointer (some ⟨i,o+off,none⟩)):=by
 obtain⟨fs,x,m,h1,h2,h3,rfl⟩:=h;unfold Zcl;rw[h1];dsimp only;rw[h2];dsimp only;rw[h3]
def ZrZ(b:Z):(Value.bool b).cells.toList=[.bool b]:=rfl
def Zvq(k:IntKind)(m:Int):(Value.int k m).cells.toList=[.int k m]:=rfl
def Zng(s:Y):(Value.string s).cells.toList=[.string s]:=rfl
def Zvo(a:O Addr):(Value.pointer a).cells.toList=[.pointer a]:=rfl
def ZpP(a:O Addr)(m c:Nat):(Value.slice a m c).cells.toList=[.slice a m c]:=rfl
def Zvp(m:O Nat):(Value.map m).cells.toList=[.map m]:=rfl
def cells_func(f:Fn)(xs ys:GZ N):(Value.func f xs ys).cells.toList=[.func f xs ys]:=rfl
def ZkF:(Value.nilFunc).cells.toList=[.nilFunc]:=rfl
def ZjP:(Value.nilIface).cells.toList=[.nilIface]:=rfl
def ZpQ(t:J)(v:N):(Value.iface t v).cells.toList=[.iface t v]:=rfl
def Zvr(vs:U N):(Value.agg vs.toArray).cells.toList=vs:=rfl
def JK(P:GW)(t:J)(zs:U N)(pl:U (Nat×Nat)):Prop:=∃z fs,YM P t=some z/\z.cells.toList=zs/\P.underlying t=some (.struct fs)/\ZcB P fs.toList=some pl
def Zjf(place:Nat->O (Nat×Nat))(len:Nat):U (Nat×N)->Z
 | []=>true
 | (i,v)::rest=>(match place i with
   | some (off,size)=>Nat.beq v.cells.toList.length size&&Nat.ble (off+v.cells.toList.length) len
   | none=>false)&&Zjf place len rest
def Zpl(off:Nat->Nat):U N->U (Nat×N)->U N
 | cs,[]=>cs
 | cs,(i,v)::rest=>Zpl off (splice cs (off i) v.cells.toList) rest
def Zp9{place:Nat->O (Nat×Nat)}{off:Nat->Nat}(ho:∀i p,place i=some p->off i=p.1):∀(ps:U (Nat×N))(cs:U N),Zjf place cs.length ps=true->Zck place cs ps=some (Zpl off cs ps):=by
 intro ps
 induction ps with
 | nil=>intro cs _;rfl
 | cons q ps ih=>
   obtain⟨i,v⟩:=q;intro cs h;simp only[Zjf,Ba0]at h;obtain⟨h1,h2⟩:=h;unfold Zck Zpl;cases e:place i with
   | none=>rw[e]at h1;cases h1
   | some q=>
     obtain⟨of,sz⟩:=q;rw[e]at h1;dsimp only at h1 ⊢;rw[h1,Cq1,ho i _ e]
     have hl:(splice cs of v.cells.toList).length=cs.length:=by
      rw[Ba0]at h1;have:=Nl0 h1.2;simp only[splice,K2,GL,GU];omega
     exact ih _ (by rw[hl];exact h2)
def Ya{ev:GV->O N}:evp ev []=some []:=rfl
def ZG{ev:GV->O N}{i:Nat}{x:GV}{xs:U (Nat×GV)}{v:N}{vs:U (Nat×N)}(h1:ev x=some v)(h2:evp ev xs=some vs):evp ev ((i,x)::xs)=some ((i,v)::vs):=by
 show(match ev x,evp ev xs with|some v,some vs=>some ((i,v)::vs) | _,_=>none)=_;rw[h1,h2]
def ZlM{P:GW}{h:H}{t:J}{b o z sz:Nat}{cs vs:U N}{own:Z}(ht:Yy P t=some true)(hs:Yv P t=some sz)(hr:h.at b=.row cs own z)(hl:o+sz<=cs.length)(hv:(cs.drop o).take sz=vs):
 WJ P h t (.pointer (some ⟨b,o,none⟩))=some (.agg vs.toArray):=by
 unfold WJ;dsimp only;rw[hr];dsimp only;rw[ht,hs];dsimp only;have hb:Nat.ble (o+sz) cs.length=true:=Nm0 hl;rw[hb,hv];rfl
end
section
variable{X:Ctx}{n wm:Nat}{rd:O Nat}{Q:XX->Fs->Prop}{ops:GZ Oper}{l:U Oper}{fr:Fr}{ds:U V2}{h:H}{d:O Tmp}{ty:J}{p:String}{af:GZ Edge}{g:O (Nat×Z)}{ev:GV->O N}
def ZW{x:GV}{v:N}(hx:ev x=some v):Xx X h ev ⟨d,.move x,ty,p,af,g⟩=some (.val v,.none):=by rw[ZzP,hx];rfl
def Z5{x:GV}{v:N}(hx:ev x=some v):Xx X h ev ⟨d,.assign x,ty,p,af,g⟩=some (.val v,.none):=by rw[Zsd,hx];rfl
def YV{x:GV}{t:J}{f off b o:Nat}(hf:Zr X.P t f off)(hx:ev x=some (.pointer (some ⟨b,o,none⟩))):Xx X h ev ⟨d,.fieldAddr t x f,ty,p,af,g⟩=some (.val (.pointer (some ⟨b,o+off,none⟩)),.none):=by
 rw[ZkL,hx];dsimp only;rw[hf.addr];rfl
def ZjZ{x:GV}{a:Addr}(hx:ev x=some (.pointer (some a))):Xx X h ev ⟨d,.nilCheck x,ty,p,af,g⟩=some (.val (.pointer (some a)),.none):=by
 show(match ev x with
  | some (.pointer (some a))=>some (AN.val (.pointer (some a)),Eff.none)
  | _=>none)=_
 rw[hx]
def ZzI{x:GV}{t:J}{b o z:Nat}{cs:U N}{own:Z}{v:N}(ht:Yy X.P t=some false)(hx:ev x=some (.pointer (some ⟨b,o,none⟩)))(hr:h.at b=.row cs own z)(hc:cs[o]? =some v):
 Xx X h ev ⟨d,.load t x,ty,p,af,g⟩=some (.val v,.none):=by rw[Zp5,hx];dsimp only;rw[Slc.load hr ht hc];rfl
def ZzH{x:GV}{t:J}{b o z sz:Nat}{cs vs:U N}{own:Z}(ht:Yy X.P t=some true)(hs:Yv X.P t=some sz)(hx:ev x=some (.pointer (some ⟨b,o,none⟩)))(hr:h.at b=.row cs own z)(hl:o+sz<=cs.length)(hv:(cs.drop o).take sz=vs):
 Xx X h ev ⟨d,.load t x,ty,p,af,g⟩=some (.val (.agg vs.toArray),.none):=by rw[Zp5,hx];dsimp only;rw[ZlM ht hs hr hl hv];rfl
def ZH6{x:GV}{t e:J}{a:O Addr}{m c:Nat}(hu:X.P.underlying t=some (.slice e))(hx:ev x=some (.slice a m c)):
 Xx X h ev ⟨d,.call {callee:=.builtin .len,args:=#[x],argTypes:=#[t]},ty,p,af,g⟩=some (.val (V4 m),.none):=by
 have he:evs ev [x]=some [.slice a m c]:=Zb hx Zd;rw[U8]
 show(match evs ev [x] with
  | some args=>U9 X.P h .len #[t] ty args
  | none=>none)=_
 rw[he];show vN (Zse X.P h t (.slice a m c))=_;unfold Zse;rw[hu];rfl
def ZH7{x y:GV}{t e:J}{sz b o m c k:Nat}{iv:Int}(hu:X.P.underlying t=some (.slice e))(hs:Yv X.P e=some sz)(hx:ev x=some (.slice (some ⟨b,o,none⟩) m c))(hy:ev y=some (V4 iv))(hi:iv=(k:Int))(hk:k<m):
 Xx X h ev ⟨d,.indexAddr t x y,ty,p,af,g⟩=some (.val (.pointer (some ⟨b,o+k*sz,none⟩)),.none):=by
 subst hi;rw[ZkK,hx,hy];dsimp only;rw[Slc.addr hu hs hk];rfl
def Zce{x:GV}{t:J}{b:Z}(hx:ev x=some (.bool b)):Xx X h ev ⟨d,.unOp .not t x,ty,p,af,g⟩=some (.val (.bool (!b)),.none):=by rw[ZzO,hx];rfl
def YW{op:BinOp}{x y:GV}{t yt:J}{a b v:N}(hx:ev x=some a)(hy:ev y=some b)(hv:Qk X.P op t x y a b=some (.val v,.none)):Xx X h ev ⟨d,.binOp op t x y yt,ty,p,af,g⟩=some (.val v,.none):=by
 rw[ZvC,hx,hy];exact hv
def Znn{c x y:GV}{b z:Z}(hc:ev c=some (.bool b))(hx:ev x=some (cond b (.bool z) undef))(hy:ev y=some (.bool false)):Xx X h ev ⟨d,.pick c x y,ty,p,af,g⟩=some (.val (.bool (b&&z)),.none):=by
 rw[Zfr,hc,hx,hy];cases b<;>rfl
def ZMi{c x y:GV}{b z:Z}(hc:ev c=some (.bool b))(hx:ev x=some (.bool true))(hy:ev y=some (cond (!b) (.bool z) undef)):Xx X h ev ⟨d,.pick c x y,ty,p,af,g⟩=some (.val (.bool (b||z)),.none):=by
 rw[Zfr,hc,hx,hy];cases b<;>rfl
def Xj{x:GV}{k:Nat}{vs:U N}{v:N}(hx:ev x=some (.tuple vs.toArray))(hv:vs[k]? =some v):Xx X h ev ⟨d,.extract x k,ty,p,af,g⟩=some (.val v,.none):=by
 rw[Zp6,hx];dsimp only;unfold Zcm;dsimp only;rw[hv];rfl
def Zi(ops:GZ Oper)(o:Oper)(fr:Fr)(c:Z):Prop:=okG ops.toList o fr=true/\YZ ops.toList o fr=c
def Zi.yes{ops:GZ Oper}{o:Oper}{fr:Fr}{j:Nat}{b:Z}{og:Oper}{dd:Tmp}(h0:gk o=some (j,true))(hj:ops.toList[j]? =some og)(hd:og.dst=some dd)(hv:fr.at dd=.bool b):Zi ops o fr b:=by
 obtain⟨h,hsk⟩:=Zhy h0 fr;unfold Zi okG YZ Ww;rw[h];dsimp only;rw[hj];dsimp only;rw[hd];dsimp only;rw[hv,hsk];cases b<;>exact⟨rfl,rfl⟩
def Zi.no{ops:GZ Oper}{o:Oper}{fr:Fr}{j:Nat}{b:Z}{og:Oper}{dd:Tmp}(h0:gk o=some (j,false))(hj:ops.toList[j]? =some og)(hd:og.dst=some dd)(hv:fr.at dd=.bool b):Zi ops o fr (!b):=by
 obtain⟨h,hsk⟩:=Zhy h0 fr;unfold Zi okG YZ Ww;rw[h];dsimp only;rw[hj];dsimp only;rw[hd];dsimp only;rw[hv,hsk];cases b<;>exact⟨rfl,rfl⟩
def Zi.ZNc{ops:GZ Oper}{o:Oper}{fr:Fr}{j:Nat}{a b:Z}{og:Oper}{dd:Tmp}(h0:gk o=some (j,true))(hj:ops.toList[j]? =some og)(hd:og.dst=some dd)(hv:fr.at dd=cond a (.bool b) undef):Zi ops o fr (a&&b):=by
 obtain⟨h,hsk⟩:=Zhy h0 fr;unfold Zi okG YZ Ww;rw[h];dsimp only;rw[hj];dsimp only;rw[hd];dsimp only;rw[hv,hsk];cases a<;>cases b<;>exact⟨rfl,rfl⟩
def Zi.no2{ops:GZ Oper}{o:Oper}{fr:Fr}{j:Nat}{a b:Z}{og:Oper}{dd:Tmp}(h0:gk o=some (j,false))(hj:ops.toList[j]? =some og)(hd:og.dst=some dd)(hv:fr.at dd=cond a (.bool b) undef):Zi ops o fr (a && !b):=by
 obtain⟨h,hsk⟩:=Zhy h0 fr;unfold Zi okG YZ Ww;rw[h];dsimp only;rw[hj];dsimp only;rw[hd];dsimp only;rw[hv,hsk];cases a<;>cases b<;>exact⟨rfl,rfl⟩
def Zh2{op:Op}{fr:Fr}{t:Tmp}{xs:GZ GV}{ts:GZ J}(hop:op=.call {callee:=.value (.tmp t),args:=xs,argTypes:=ts})(hv:ZgO (fr.at t)=true):ZkS op fr=true:=by subst hop;exact hv
def Zh3{fr:Fr}{t:Tmp}{v:N}(p:fr.at t=v)(h:ZgO v=true):ZgO (fr.at t)=true:=by rw[p];exact h
def Zh4{c:Z}{v:N}(h:ZgO v=true):ZgO (cond c v undef)=true:=by cases c;rfl;exact h
def Zi.ZqB{ops:GZ Oper}{o:Oper}{fr:Fr}{j:Nat}{b:Z}{og:Oper}{dd:Tmp}(h:o.guard=some (j,true))(hj:ops.toList[j]? =some og)(hd:og.dst=some dd)(hv:fr.at dd=.bool b)(hsk:ZkS o.op fr=true):Zi ops o fr b:=by
 unfold Zi okG YZ Ww;rw[h];dsimp only;rw[hj];dsimp only;rw[hd];dsimp only;rw[hv,hsk];cases b<;>exact⟨rfl,rfl⟩
def WO.gv{d:Nat}{op:Op}{c:Z}{v:N}(hg:Zi ops ⟨some d,op,ty,p,af,g⟩ fr c)(hd:Nat.blt d n=true)(ha:c=true->Xx X h (YI fr) ⟨some d,op,ty,p,af,g⟩=some (.val v,.none))
 (k:WO X n wm rd ops l ⟨Tr.set fr d (cond c v undef),ds,h,none⟩ Q):WO X n wm rd ops (⟨some d,op,ty,p,af,g⟩::l) ⟨fr,ds,h,none⟩ Q:=by
 cases c
 ·exact WO.o hg hd k
 ·exact WO.v hg hd (ha rfl) rfl k
end
section
variable{X:Ctx}{n wm:Nat}{rd:O Nat}{ops:GZ Oper}{l:U Oper}{fr:Fr}{ds:U V2}{h:H}{ty:J}{p:String}{af:GZ Edge}{g:O (Nat×Z)}
variable{Q:Fr->Prop}
def ZAi(wm:Nat):MOf false wm none=fun _=>False:=by funext x;unfold MOf;simp
def ZcF:∀(j:Ql)(r:YL),(fun _:Ql=>(none:O YL)) j=some r->QV j r:=fun _ _ h=>by cases h
end
end Go.ZK
end
end
