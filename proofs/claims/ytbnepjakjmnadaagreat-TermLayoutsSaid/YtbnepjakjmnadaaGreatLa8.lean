/- Part 8. -/
import Derived.ProofKit
import Derived.Test.YtbnepjakjmnadaaGreatLa7
set_option linter.all false
set_option maxHeartbeats 2000000
section
noncomputable section
namespace Go.Proofs.YtbnepjakjmnadaaGreat
open Go.ZP Go.RowKit Go.WideShapes Go.ChangeShapes
def isTrue(r:O YL):Z:=
 match r with
 | some (.fin (.ret (.bool true)) _)=>true
 | _=>false
def Zpa{r:O YL}(h:isTrue r=true):∃h',r=some (.fin (.ret (.bool true)) h'):=by
 unfold isTrue at h;split at h
 ·exact⟨_,rfl⟩
 ·cases h
def mixed:Tryz.prog.follows .mixedOrders=true:=Kq0
def ZoP:Ren:=⟨fun _=>none,fun _=>(0,0)⟩
section
variable{H:Type}{enc:J×N->H}{P:V0}
def ZkK{f:Func}{s:ChangeSpec}{apart fresh handsOn again:Z}{W W':V3}{args:V4 N}{v:N}{ds gs:U (DataW H)}{before pa pv:U MemPlace}
 (hW:DataW.Whole enc P f.params.toList s.vars apart W args.toList ds gs before)
 (hres:∀(b:Nat)(sp:Nat->Z)(hd:Z),DataW.TrodAll enc P W' b sp hd f.resultTypes.toList (v.resultList f.resultTypes.size) (s.fn H (ds++gs)).results [])
 (hargs:∀sp:Nat->Z,(∀p∈before,sp p.block=true)->DataW.TrodAll enc P W' 0 sp true f.params.toList args.toList (s.fn H (ds++gs)).args pa)
 (hvars:∀sp:Nat->Z,(∀p∈before,sp p.block=true)->DataW.TrodVars enc P W' sp s.vars (s.fn H (ds++gs)).vars pv)
 (hps:before=pa++pv) (hb:Below W.heap.size W W')
 (hok:∀(j:Nat)(t:J)(r:N),f.resultTypes[j]? =some t->(v.resultList f.resultTypes.size)[j]? =some r->Value.okWide P W' .any 0 t r):
 s.post enc P f apart fresh handsOn again W args v W':=by
 have hlt:∀p∈before,p.block<W.heap.size:=fun p hp=>hW.lt p hp
 have hold:∀p∈before,(fun b=>decide (b<W.heap.size)) p.block=true:=fun p hp=>by simpa using hlt p hp
 refine⟨ds,gs,before,[],pa,pv,hW,hres _ _ _,hargs _ hold,hvars _ hold,World.keptBut_mono (fun p hp=>⟨hp,?_⟩) (hb.frame (· ∈ before)),fun _=>?_⟩
 ·rw[hps,Q1]at hp;exact Or.inr hp
 ·obtain⟨_,_,_,_,_,hz,hn⟩:=hW;refine⟨hok,_,_,([]++pa)++pv,⟨[]++pa,pv,trodAll_append (hargs _ (fun _ _=>rfl)) (hres _ _ _),hvars _ (fun _ _=>rfl),rfl,?_,?_⟩,?_⟩
  ·intro b off hp;have hin:MemPlace.cell b off∈before:=by rw[hps];simpa using hp
   rw[hb.frozen (hlt _ hin)];exact hz b off hin
  ·intro ha;have:=hn ha;rw[hps]at this
   simpa using this
  ·intro p hp _;rw[hps]
   simpa using hp
end
end Go.Proofs.YtbnepjakjmnadaaGreat
end
end
section
noncomputable section
namespace Go.ZP
section
variable{X:Ctx}
structure WC(X:Ctx)(n wm:Nat)(rd:Option Nat)(c:Code)(s:Fs)(Q:XX->Fs->Prop):Prop where
 out:∃e s',Q e s'/\Yn X (.code c n wm rd s) (.code e s')
structure WL(X:Ctx)(n wm:Nat)(rd:Option Nat)(c:Code)(s:Fs)(Q:XX->Fs->Prop):Prop where
 out:∃e s',Q e s'/\Yn X (.loop c n wm rd s) (.code e s')
structure WF(X:Ctx)(f:FuncId)(args:Array Value)(wm:Nat)(h:H)(Q:UW->H->Prop):Prop where
 out:∃e h',Q e h'/\Yn X (.call f args wm h) (.fin e h')
def ZNY(X:Ctx)(n wm:Nat)(rd:O Nat)(ops:V4 Oper)(l:U Oper)(s:Fs)(e:XX)(s':Fs):Prop:=
 ∀(Q:Exit->Act->V3->Prop){ρ:Ren}{F:Fence}{a:Act}{w:V3},Inv ρ n s a w->wm<=s.h.size->FR' ρ rd F->(∀e' a' w',XH wm n ρ s.h w e s' e' a' w'->Q e' a' w')->wpListIn F 0 X.P ops Q l a w
structure WO(X:Ctx)(n wm:Nat)(rd:Option Nat)(ops:Array Oper)(l:List Oper)(s:Fs)(Q:XX->Fs->Prop):Prop where
 out:∃e s',Q e s'/\ZNY X n wm rd ops l s e s'
variable{n wm:Nat}{rd:O Nat}{s:Fs}{Q:XX->Fs->Prop}
def WC.mono{c:Code}{Q':XX->Fs->Prop}(h:WC X n wm rd c s Q)(k:∀e s',Q e s'->Q' e s'):WC X n wm rd c s Q':=let⟨e,s',h1,h2⟩:=h;⟨e,s',k e s' h1,h2⟩
def WF.mono{f:V2}{args:V4 N}{h:H}{Q Q':UW->H->Prop}(h1:WF X f args wm h Q)(k:∀e s',Q e s'->Q' e s'):WF X f args wm h Q':=let⟨e,s',h1,h2⟩:=h1;⟨e,s',k e s' h1,h2⟩
def ZNS(X:Ctx)(n wm:Nat)(rd:O Nat)(b:Code)(Q:XX->Fs->Prop):XX->Fs->Prop:=fun e s=>
 match e with
 | .normal=>WC X n wm rd b s Q
 | e=>Q e s
def ZJi(X:Ctx)(n wm:Nat)(rd:O Nat)(c:Code)(Q:XX->Fs->Prop):XX->Fs->Prop:=fun e s=>
 match e with
 | .normal=>WL X n wm rd c s Q
 | e=>Q e s
def ZBc(id:Nat)(Q:XX->Fs->Prop):XX->Fs->Prop:=fun e s=>
 match e with
 | .exit k=>if k=id then Q .normal s else Q (.exit k) s
 | e=>Q e s
structure ZB(X:Ctx)(n wm:Nat)(rd:Option Nat)(b:Code)(Q:XX->Fs->Prop)(e:XX)(s:Fs):Prop where
 out:ZNS X n wm rd b Q e s
structure Ya(X:Ctx)(n wm:Nat)(rd:Option Nat)(b:Code)(Q:XX->Fs->Prop)(e:XX)(s:Fs):Prop where
 out:ZJi X n wm rd b Q e s
structure Yy(id:Nat)(Q:XX->Fs->Prop)(e:XX)(s:Fs):Prop where
 out:ZBc id Q e s
def ExR.ZiF{ρ:Ren}{e:XX}{e':Exit}(he:ExR ρ e e')(h:e≠.normal){N':Act->V3->Prop}{R:Exit->Act->V3->Prop}{a:Act}{w:V3}(hr:R e' a w):Exit.then N' R e' a w:=by
 cases he with
 | normal=>exact absurd rfl h
 | _=>exact hr
def WC.seq{a b:Code}(h:WC X n wm rd a s (ZB X n wm rd b Q)):WC X n wm rd (.seq a b) s Q:=by
 obtain⟨e,s1,hq,ka⟩:=h;by_cases hn:e=.normal
 ·subst hn;obtain⟨e2,s2,hq2,kb⟩:=hq.out;refine⟨e2,s2,hq2,fun ρ a w F Zy hi hF=>wpIn_seq (wpIn_mono (ka ρ a w F Zy hi hF) ?_)⟩;rintro e' a' w' ⟨ρ',he,hi',hst⟩;cases he;exact wpIn_mono (kb ρ' a' w' F (KB Zy hst.size) hi' (hF.mono hst.ext)) fun _ _ _ hp=>XH.trans hi.rel.lt hst hp
 ·refine⟨e,s1,?_,fun ρ a w F Zy hi hF=>wpIn_seq (wpIn_mono (ka ρ a w F Zy hi hF) ?_)⟩
  ·cases e with
   | normal=>exact absurd rfl hn
   | _=>exact hq.out
  ·rintro e' a' w' ⟨ρ',he,hi',hst⟩;exact he.ZiF hn ⟨ρ',he,hi',hst⟩
def WC.cond{c:GZ}{a b:Code}{t:Z}(hc:YG s.fr c=some (.bool t))(h1:t=true->WC X n wm rd a s Q)(h2:t=false->WC X n wm rd b s Q):WC X n wm rd (.cond c a b) s Q:=by
 have:∃e s',Q e s'/\∀ρ a' w F,wm<=s.h.size->Inv ρ n s a' w->FR' ρ rd F->(if t then a else b).wpIn F 0 X.P (XH wm n ρ s.h w e s') a' w:=by
  cases t with
  | true=>obtain⟨e,s',q,k⟩:=h1 rfl;exact⟨e,s',q,k⟩
  | false=>obtain⟨e,s',q,k⟩:=h2 rfl;exact⟨e,s',q,k⟩
 obtain⟨e,s',hq,k⟩:=this;refine⟨e,s',hq,fun ρ a' w F Zy hi hF=>?_⟩;have hv:=Wj hi.fr _ _ hc;generalize hx:a'.eval c=x at hv;cases hv;exact wpIn_cond hx (k ρ a' w F Zy hi hF)
def WC.block{id:Nat}{c:Code}(h:WC X n wm rd c s (Yy id Q)):WC X n wm rd (.block id c) s Q:=by
 obtain⟨e,s1,hq,ka⟩:=h
 have key:∃e2,Q e2 s1/\∀(UC n':Nat)(ρ0:Ren)(h0:H)(w0:V3)(e':Exit)(a':Act)(w':V3),XH UC n' ρ0 h0 w0 e s1 e' a' w'->Exit.inBlock id (XH UC n' ρ0 h0 w0 e2 s1) e' a' w':=by
  cases e with
  | exit k=>
    by_cases hk:k=id
    ·subst hk;refine⟨.normal,by simpa[ZBc]using hq.out,?_⟩;rintro _ _ _ _ _ e' a' w' ⟨ρ',he,hi',hst⟩;cases he;show if _ then _ else _
     rw[if_pos rfl];exact⟨ρ',.normal,hi',hst⟩
    ·refine⟨.exit k,by simpa[ZBc,hk]using hq.out,?_⟩;rintro _ _ _ _ _ e' a' w' ⟨ρ',he,hi',hst⟩;cases he;show if _ then _ else _
     rw[if_neg hk];exact⟨ρ',.exit k,hi',hst⟩
  | normal=>exact⟨.normal,hq.out,by rintro _ _ _ _ _ e' a' w' ⟨ρ',he,hi',hst⟩;cases he;exact⟨ρ',.normal,hi',hst⟩⟩
  | goto l=>exact⟨.goto l,hq.out,by rintro _ _ _ _ _ e' a' w' ⟨ρ',he,hi',hst⟩;cases he;exact⟨ρ',.goto l,hi',hst⟩⟩
  | ret=>exact⟨.ret,hq.out,by rintro _ _ _ _ _ e' a' w' ⟨ρ',he,hi',hst⟩;cases he;exact⟨ρ',.ret,hi',hst⟩⟩
  | panic v=>exact⟨.panic v,hq.out,by rintro _ _ _ _ _ e' a' w' ⟨ρ',he,hi',hst⟩;cases he with|panic hv=>exact⟨ρ',.panic hv,hi',hst⟩⟩
 obtain⟨e2,hq2,key⟩:=key;exact⟨e2,s1,hq2,fun ρ a w F Zy hi hF=>wpIn_block (wpIn_mono (ka ρ a w F Zy hi hF) fun e' a' w' hp=>key _ _ _ _ _ e' a' w' hp)⟩
def WC.skip(h:Q .normal s):WC X n wm rd .skip s Q:=⟨_,_,h,fun ρ _ _ _ _ hi _=>wpIn_skip ⟨ρ,.normal,hi,Stp.refl _ _ _ _⟩⟩
def WC.ret(h:Q .ret s):WC X n wm rd .ret s Q:=⟨_,_,h,fun ρ _ _ _ _ hi _=>wpIn_ret ⟨ρ,.ret,hi,Stp.refl _ _ _ _⟩⟩
def WC.exit{id:Nat}(h:Q (.exit id) s):WC X n wm rd (.exit id) s Q:=⟨_,_,h,fun ρ _ _ _ _ hi _=>wpIn_exit ⟨ρ,.exit id,hi,Stp.refl _ _ _ _⟩⟩
def WC.loop{c:Code}(h:WL X n wm rd c s Q):WC X n wm rd (.loop c) s Q:=
 let⟨e,s',hq,k⟩:=h;⟨e,s',hq,fun ρ a w F Zy hi hF=>ZbI (k ρ a w F Zy hi hF)⟩
def WC.region{id:Nat}{ops:V4 Oper}(h:WO X n wm rd ops ops.toList s Q):WC X n wm rd (.region id ops false) s Q:=by
 obtain⟨e,s',hq,k⟩:=h;exact⟨e,s',hq,fun ρ a w F Zy hi hF=>wpIn_region_list (k _ hi Zy hF fun _ _ _ hp=>hp)⟩
def WL.step{c:Code}(h:WC X n wm rd c s (Ya X n wm rd c Q)):WL X n wm rd c s Q:=by
 obtain⟨e,s1,hq,ka⟩:=h;by_cases hn:e=.normal
 ·subst hn;obtain⟨e2,s2,hq2,kb⟩:=hq.out;refine⟨e2,s2,hq2,fun ρ a w F Zy hi hF=>XZ (wpIn_mono (ka ρ a w F Zy hi hF) ?_)⟩;rintro e' a' w' ⟨ρ',he,hi',hst⟩;cases he;have:=kb ρ' a' w' F (KB Zy hst.size) hi' (hF.mono hst.ext);intro b k cs h1 h2 h3;obtain⟨e3,a3,w3,hp,harr⟩:=this b k cs h1 h2 h3;exact⟨e3,a3,w3,XH.trans hi.rel.lt hst hp,harr⟩
 ·refine⟨e,s1,?_,fun ρ a w F Zy hi hF=>XZ (wpIn_mono (ka ρ a w F Zy hi hF) ?_)⟩
  ·cases e with
   | normal=>exact absurd rfl hn
   | _=>exact hq.out
  ·rintro e' a' w' ⟨ρ',he,hi',hst⟩;exact he.ZiF hn ⟨ρ',he,hi',hst⟩
def ZNV(X:Ctx)(fn:Func)(Q:UW->H->Prop):XX->Fs->Prop:=fun e s=>s.ds=[]/\
 match e with
 | .normal=>∃v,QH X.P fn s.fr s.h=some v/\Q (.ret v) s.h
 | .ret=>∃v,QH X.P fn s.fr s.h=some v/\Q (.ret v) s.h
 | .panic v=>Q (.Z9 v) s.h
 | _=>False
structure Y0(X:Ctx)(fn:Func)(Q:UW->H->Prop)(e:XX)(s:Fs):Prop where
 out:ZNV X fn Q e s
def WF.enter{f:V2}{fn:Func}{c:Code}{args:V4 N}{h:H}{Q:UW->H->Prop}(hf:X.fns.get f=some fn)(hb:fn.body=some c)(hn:args.toList.length<=fn.ntmps)
 (k:WC X fn.ntmps wm none c {fr:=X7 args.toList 0 .nil,ds:=[],h:=h} (Y0 X fn Q)):WF X f args wm h Q:=by
 obtain⟨e,s',⟨hds,hq⟩,ka⟩:=k
 have main:∀(E:UW)(pm:PM),xPM e=some pm->Uj (cfg X fun _=>false) (fun _=>none) fn wm pm s'=some (.fin E s'.h)->Yn X (.call f args wm h) (.fin E s'.h):=by
  intro E pm hpm hl;have hj:=Jf (C:=cfg X fun _=>false) (ih:=fun _=>none) (fun _ _ h=>by cases h) hl;intro ρ args' w Zy hr hv
  have hi:Inv ρ fn.ntmps {fr:=X7 args.toList 0 .nil,ds:=[],h:=h} {tmps:=args'++Array.replicate (fn.ntmps-args'.size) undef,defers:=[]} w:=
   ⟨hr,Wn hv hn,.nil⟩
  refine callsIn_of_wp_marks (X.ok f fn hf).1 hb (Zgd hf) (wpIn_mono (ka ρ _ w base Zy hi rfl) ?_);rintro e' a' w' ⟨ρ',he,hi',hst⟩;cases he with
  | normal=>cases hpm;exact hj ρ' _ a' .returning w' _ (KB Zy hst.size) hi' .ret (fun _ _ hp=>UQ.trans hr.lt hst hp)
  | ret=>cases hpm;exact hj ρ' _ a' .returning w' _ (KB Zy hst.size) hi' .ret (fun _ _ hp=>UQ.trans hr.lt hst hp)
  | panic hv'=>cases hpm;exact hj ρ' _ a' _ w' _ (KB Zy hst.size) hi' (.Z9 hv') (fun _ _ hp=>UQ.trans hr.lt hst hp)
  | exit id=>cases hpm
  | goto l=>cases hpm
 cases e with
 | normal=>
   obtain⟨v,hv,hq⟩:=hq
   exact⟨_,_,hq,main _ .ret rfl (by
    have hv':QH (cfg X fun _=>false).X.P fn s'.fr s'.h=some v:=hv;unfold Uj;rw[hds];simp only[hv'])⟩
 | ret=>
   obtain⟨v,hv,hq⟩:=hq
   exact⟨_,_,hq,main _ .ret rfl (by
    have hv':QH (cfg X fun _=>false).X.P fn s'.fr s'.h=some v:=hv;unfold Uj;rw[hds];simp only[hv'])⟩
 | panic v=>exact⟨_,_,hq,main _ (.Z9 v) rfl (by unfold Uj;rw[hds])⟩
 | exit _=>exact hq.elim
 | goto _=>exact hq.elim
abbrev Pure(X:Ctx)(f:V2)(args:V4 N)(h:H)(v:N):Prop:=∀wm,Yn X (.call f args wm h) (.fin (.ret v) h)
def WF.pure{f:V2}{args:V4 N}{h:H}{v:N}(hp:plain v=true)(k:WF X f args h.size h (fun e _=>e=.ret v)):Pure X f args h v:=by
 obtain⟨e,h',rfl,hj⟩:=k;intro wm ρ args' w Zy hr hv;refine(hj ρ args' w Vb hr hv).mono ?_;rintro e' w' ⟨ρ',he,hr',hst⟩;cases he with
 | ret hv'=>
   rw[VR.Y2 hp hv'];obtain⟨q1,q2⟩:=ZaO hr hst;exact⟨ρ,.ret (VR.ZL hp),q1,q2 wm⟩
variable{ops:V4 Oper}{l:U Oper}{o:Oper}
def WO.nil(h:Q .normal s):WO X n wm rd ops [] s Q:=⟨_,_,h,fun _ ρ _ a w hi _ _ hq=>hq .normal a w ⟨ρ,.normal,hi,Stp.refl _ _ _ _⟩⟩
def WO.cons{ih:Qr->O YL}(HI:∀j r,ih j=some r->Yn X j r){s1:Fs}(h:JX X (fun _=>false) ih n wm rd ops.toList o s=some (.normal,s1))(k:WO X n wm rd ops l s1 Q):WO X n wm rd ops (o::l) s Q:=by
 obtain⟨e,s',hq,hk⟩:=k;refine⟨e,s',hq,fun Q' ρ F a w hi Zy hF hq'=>?_⟩;refine UA HI h hi Zy hF (fun _ ρ' a' w' hi' st'=>?_) (fun v he=>by cases he);refine hk Q' hi' (KB Zy st'.size) (hF.mono st'.ext) fun e' a2 w2 hp=>?_
 obtain⟨ρ2,q1,q2,q3⟩:=hp;exact hq' e' a2 w2 ⟨ρ2,q1,q2,st'.trans hi.rel.lt q3⟩
def WO.panics{ih:Qr->O YL}(HI:∀j r,ih j=some r->Yn X j r){s1:Fs}{v:N}(h:JX X (fun _=>false) ih n wm rd ops.toList o s=some (.panic v,s1))(k:Q (.panic v) s1):WO X n wm rd ops (o::l) s Q:=by
 refine⟨.panic v,s1,k,fun Q' ρ F a w hi Zy hF hq'=>?_⟩;refine UA HI h hi Zy hF (fun he=>by cases he) (fun v' he ρ' v2 a' w' hv hi' st'=>?_);cases he;exact hq' _ a' w' ⟨ρ',.panic hv,hi',st'⟩
def K3(X:Ctx):∀(j:Qr)(r:YL),(fun _:Qr=>(none:O YL)) j=some r->Yn X j r:=fun _ _ h=>by cases h
def ZEC(op:Op):Z:=match op with
 | .call c=>match c.callee with
   | .value x=>match x with
     | .func f=>Nat.blt f nfs
     | _=>false
   | .builtin _=>true
   | .invoke _ _=>false
 | _=>true
def gk(o:Oper):O (Nat×Z):=bif ZEC o.op then o.guard else none
def ZhA{o:Oper}{q:Nat×Z}(h:gk o=some q)(fr:Fr):o.guard=some q/\Zlj o.op fr=true:=by
 unfold gk at h;cases hs:ZEC o.op with
 | false=>rw[hs]at h;cases h
 | true=>
   rw[hs]at h;refine⟨h,?_⟩
   revert hs
   generalize o.op=op;intro hs;cases op with
   | call c=>
     obtain⟨callee,args,ats⟩:=c;cases callee with
     | value x=>
       cases x with
       | func f=>exact hs
       | tmp t=>cases hs
       | const v=>cases hs
       | global g=>cases hs
     | builtin b=>rfl
     | invoke r nm=>cases hs
   | _=>rfl
def ZY(ops:V4 Oper)(o:Oper)(fr:Fr):Prop:=okG ops.toList o fr=true/\YW ops.toList o fr=true
def ZfJ(ops:V4 Oper)(o:Oper)(fr:Fr):Prop:=okG ops.toList o fr=true/\YW ops.toList o fr=false
def ZY.none{ops:V4 Oper}{o:Oper}{fr:Fr}(h:o.guard=none):ZY ops o fr:=by unfold ZY okG YW;rw[h];exact⟨rfl,rfl⟩
def gN{ops:V4 Oper}{d:O Tmp}{op:Op}{ty:J}{p:String}{af:V4 Edge}{fr:Fr}:ZY ops ⟨d,op,ty,p,af,Option.none⟩ fr:=ZY.none rfl
def Zj7(n:Nat)(d:O Tmp):Z:=
 match d with
 | none=>true
 | some d=>Nat.blt d n
def ZfB{fr:Fr}{ds:U V6}{h:H}{d:O Tmp}{v:N}(hd:Zj7 n d=true):ZgB n ⟨fr,ds,h,none⟩ d v=some ⟨Ji fr d v,ds,h,none⟩:=by
 rw[ZhU];cases d with
 | none=>rfl
 | some d=>
   unfold Zj7 at hd;dsimp only at hd ⊢;rw[hd];rfl
variable{fr:Fr}{ds:U V6}{h h1:H}
def WO.val{v:N}{E:Eff}(hg:ZY ops o fr)(hd:Zj7 n o.dst=true)(ha:Xt X h (YG fr) o=some (.val v,E))(hE:E.apply wm h=some h1)
 (k:WO X n wm rd ops l ⟨Ji fr o.dst v,ds,h1,none⟩ Q):WO X n wm rd ops (o::l) ⟨fr,ds,h,none⟩ Q:=by
 refine WO.cons (K3 X) ?_ k;unfold JX;rw[hg.1,hg.2];dsimp only[KK,Cq0,Cq1];rw[ha];dsimp only[KK,Cq0,Cq1];rw[hE];unfold Kh;dsimp only[Js];rw[ZfB hd]
 rfl
def WO.unit{E:Eff}(hg:ZY ops o fr)(hd:Zj7 n o.dst=true)(ha:Xt X h (YG fr) o=some (.skip,E))(hE:E.apply wm h=some h1)
 (k:WO X n wm rd ops l ⟨Ji fr o.dst undef,ds,h1,none⟩ Q):WO X n wm rd ops (o::l) ⟨fr,ds,h,none⟩ Q:=by
 refine WO.cons (K3 X) ?_ k;unfold JX;rw[hg.1,hg.2];dsimp only[KK,Cq0,Cq1];rw[ha];dsimp only[KK,Cq0,Cq1];rw[hE];unfold Kh;dsimp only[Js];rw[ZfB hd]
 rfl
def WO.panic{v:N}{E:Eff}(hg:ZY ops o fr)(ha:Xt X h (YG fr) o=some (.panic v,E))(hE:E.apply wm h=some h1)
 (k:Q (.panic v) ⟨fr,ds,h1,none⟩):WO X n wm rd ops (o::l) ⟨fr,ds,h,none⟩ Q:=by
 refine WO.panics (K3 X) ?_ k;unfold JX;rw[hg.1,hg.2];dsimp only[KK,Cq0,Cq1];rw[ha];dsimp only[KK,Cq0,Cq1];rw[hE]
 rfl
def WO.off(hg:ZfJ ops o fr)(hd:Zj7 n o.dst=true)(k:WO X n wm rd ops l ⟨Ji fr o.dst undef,ds,h,none⟩ Q):WO X n wm rd ops (o::l) ⟨fr,ds,h,none⟩ Q:=by
 refine WO.cons (K3 X) ?_ k;unfold JX;rw[hg.1,hg.2];dsimp only[KK,Cq0,Cq1];rw[ZfB hd]
 rfl
open Classical in
def JD (j:Qr) (r:YL):Qr ->Option YL:=fun j'=>if j'=j then some r else none
def Xh{j:Qr}{r:YL}(h:Yn X j r):∀j' r',JD j r j'=some r'->Yn X j' r':=by
 intro j' r' e;unfold JD at e;split at e
 ·rename_i hj;cases e;rw[hj];exact h
 ·cases e
def Xi(j:Qr)(r:YL):JD j r j=some r:=by unfold JD;rw[if_pos rfl]
def WO.call{f:V2}{args:V4 N}{E:Eff}{v:N}{h2:H}(hg:ZY ops o fr)(hd:Zj7 n o.dst=true)(ha:Xt X h (YG fr) o=some (.enter f args,E))(hE:E.apply wm h=some h1)
 (hc:Yn X (.call f args wm h1) (.fin (.ret v) h2)) (k:WO X n wm rd ops l ⟨Ji fr o.dst v,ds,h2,none⟩ Q):WO X n wm rd ops (o::l) ⟨fr,ds,h,none⟩ Q:=by
 refine WO.cons (Xh hc) ?_ k;unfold JX;rw[hg.1,hg.2];dsimp only[KK,Cq0,Cq1];rw[ha];dsimp only[KK,Cq0,Cq1];rw[hE];unfold Kh;dsimp only[Js,Cq0];rw[Xi];dsimp only;rw[ZfB hd]
 rfl
def WO.Zkd{f:V2}{args:V4 N}{E:Eff}{v:N}{h2:H}(hg:ZY ops o fr)(ha:Xt X h (YG fr) o=some (.enter f args,E))(hE:E.apply wm h=some h1)
 (hc:Yn X (.call f args wm h1) (.fin (.Z9 v) h2)) (k:Q (.panic v) ⟨fr,ds,h2,none⟩):WO X n wm rd ops (o::l) ⟨fr,ds,h,none⟩ Q:=by
 refine WO.panics (Xh hc) ?_ k;unfold JX;rw[hg.1,hg.2];dsimp only[KK,Cq0,Cq1];rw[ha];dsimp only[KK,Cq0,Cq1];rw[hE];unfold Kh;dsimp only[Js,Cq0];rw[Xi]
 rfl
end
section
variable{X:Ctx}{P:V0}{h:H}{fr:Fr}{ev:GZ->O N}{d:O Tmp}{ty:J}{p:String}{af:V4 Edge}{g:O (Nat×Z)}
def at_set(fr:Fr)(d t:Nat)(v:N):Fr.at (Tr.set fr d v) t=if t=d then v else Fr.at fr t:=by
 unfold Fr.at;rw[Tr.XB];by_cases h:t=d<;>simp[h]
def Zx(i:Nat)(fr:Fr):X7 [] i fr=fr:=rfl
def Zq(v:N)(vs:U N)(i:Nat)(fr:Fr):X7 (v::vs) i fr=X7 vs (i+1) (Tr.set fr i v):=rfl
def Zn2(fr:Fr)(t:Nat):YG fr (.tmp t)=bif X6 (fr.at t) then none else some (fr.at t):=rfl
def Zv9(fr:Fr)(v:N):YG fr (.const v)=bif plain v then some v else none:=rfl
def ZqL(fr:Fr)(f:V2):YG fr (.func f)=some (.func (.func f) #[] #[]):=rfl
def ZAC(x:GZ):Xt X h ev ⟨d,.move x,ty,p,af,g⟩=vN (ev x):=rfl
def ZsJ(x:GZ):Xt X h ev ⟨d,.assign x,ty,p,af,g⟩=vN (ev x):=rfl
def Zv5(op:BinOp)(t:J)(x y:GZ)(yt:J):Xt X h ev ⟨d,.binOp op t x y yt,ty,p,af,g⟩=match ev x,ev y with
 | some a,some b=>QO X.P op t x y a b
 | _,_=>none:=rfl
def ZfC(c a b:GZ):Xt X h ev ⟨d,.pick c a b,ty,p,af,g⟩=match ev c with
 | some (.bool true)=>vN (ev a)
 | some (.bool false)=>vN (ev b)
 | _=>none:=rfl
def ZAB(op:UnOp)(t:J)(x:GZ):Xt X h ev ⟨d,.unOp op t x,ty,p,af,g⟩=match ev x with
 | some a=>bif plain a then pN (KJ X.P (Op.unary op a)) else none
 | none=>none:=rfl
def ZqF(t:J)(x:GZ):Xt X h ev ⟨d,.load t x,ty,p,af,g⟩=match ev x with
 | some v=>vN (Ki X.P h t v)
 | none=>none:=rfl
def Zv3(t:J)(a x:GZ):Xt X h ev ⟨d,.store t a x,ty,p,af,g⟩=match ev a,ev x with
 | some a,some x=>sE (Zgz X.P h t a x)
 | _,_=>none:=rfl
def ZDV(t:J)(x:GZ):Xt X h ev ⟨d,.box t x,ty,p,af,g⟩=match ev x with
 | some v=>some (.val (Jc h),.new (.row v.cells.toList true 0))
 | none=>none:=rfl
def Zv6(t:J):Xt X h ev ⟨d,.alloc t,ty,p,af,g⟩=match YM X.P t with
 | some z=>some (.val (Jc h),.new (.row z.cells.toList true 0))
 | none=>none:=rfl
def Zla(t:J)(x:GZ)(f:Nat):Xt X h ev ⟨d,.fieldAddr t x f,ty,p,af,g⟩=match ev x with
 | some v=>vN (ZcD X.P t v f)
 | none=>none:=rfl
def Zk9(t:J)(x i:GZ):Xt X h ev ⟨d,.indexAddr t x i,ty,p,af,g⟩=match ev x,ev i with
 | some x,some i=>vN (Zel X.P t x i)
 | _,_=>none:=rfl
def ZqG(x:GZ)(k:Nat):Xt X h ev ⟨d,.extract x k,ty,p,af,g⟩=match ev x with
 | some x=>vN (ZcE x k)
 | none=>none:=rfl
def Wx(b:Builtin)(xs:V4 GZ)(ts:V4 J):Xt X h ev ⟨d,.call {callee:=.builtin b,args:=xs,argTypes:=ts},ty,p,af,g⟩=match evs ev xs.toList with
 | some args=>Wz X.P h b ts ty args
 | none=>none:=by
 show(match Callee.builtin b,evs ev xs.toList with
  | .builtin b,some args=>Wz X.P h b ts ty args
  | .value f,some args=>match ev f with
    | some f=>U5 X h f args
    | none=>none
  | .invoke r name,some args=>match ev r with
    | some r=>Zbo X r name args
    | none=>none
  | _,_=>none)=_
 cases evs ev xs.toList<;>rfl
def Zdl(f:GZ)(xs:V4 GZ)(ts:V4 J):Xt X h ev ⟨d,.call {callee:=.value f,args:=xs,argTypes:=ts},ty,p,af,g⟩=match evs ev xs.toList with
 | some args=>match ev f with
   | some f=>U5 X h f args
   | none=>none
 | none=>none:=by
 show(match Callee.value f,evs ev xs.toList with
  | .builtin b,some args=>Wz X.P h b ts ty args
  | .value f,some args=>match ev f with
    | some f=>U5 X h f args
    | none=>none
  | .invoke r name,some args=>match ev r with
    | some r=>Zbo X r name args
    | none=>none
  | _,_=>none)=_
 cases evs ev xs.toList<;>rfl
def Zd:evs ev []=some []:=rfl
def Zb{x:GZ}{xs:U GZ}{v:N}{vs:U N}(h1:ev x=some v)(h2:evs ev xs=some vs):evs ev (x::xs)=some (v::vs):=by
 show(match ev x,evs ev xs with|some v,some vs=>some (v::vs) | _,_=>none)=_;rw[h1,h2]
def ZaT{op:BinOp}{t:J}{x y:GZ}{k:IntKind}{a b:Int}{c:Z}(ho:Op.intCmp op a b=pure (.bool c))(h1:op=.eql\/op=.neq\/op=.lss\/op=.leq\/op=.gtr\/op=.geq):QO P op t x y (.int k a) (.int k b)=some (.val (.bool c),.none):=by
 have hp:(plain (.int k a)&&plain (.int k b))=true:=rfl;unfold QO;rw[hp,Cq1]
 have hb:binOp op t (.int k a) (.int k b)=pure (.bool c):=by
  rcases h1 with rfl|rfl|rfl|rfl|rfl|rfl<;>simp[binOp,ho]
 have hg:(do eqGuard op t x y (.int k a) (.int k b);binOp op t (.int k a) (.int k b):Sem N)=pure (.bool c):=by
  rw[hb];rcases h1 with rfl|rfl|rfl|rfl|rfl|rfl<;>rfl
 rw[hg];rfl
def ZaS{t:J}{x y:GZ}{k:IntKind}{a b:Int}:QO P .eql t x y (.int k a) (.int k b)=some (.val (.bool (a==b)),.none):=ZaT rfl (by simp)
def ZAR{t:J}{x y:GZ}{k:IntKind}{a b:Int}:QO P .neq t x y (.int k a) (.int k b)=some (.val (.bool (a !=b)),.none):=ZaT rfl (by simp)
def ZaR{t:J}{x y:GZ}{k:IntKind}{a b:Int}:QO P .lss t x y (.int k a) (.int k b)=some (.val (.bool (decide (a<b))),.none):=ZaT rfl (by simp)
def Zks{t:J}{x y:GZ}{k:IntKind}{a b:Int}:QO P .leq t x y (.int k a) (.int k b)=some (.val (.bool (decide (a<=b))),.none):=ZaT rfl (by simp)
def ZAT{t:J}{x y:GZ}{k:IntKind}{a b:Int}:QO P .gtr t x y (.int k a) (.int k b)=some (.val (.bool (decide (a>b))),.none):=ZaT rfl (by simp)
def ZAU{t:J}{x y:GZ}{k:IntKind}{a b:Int}:QO P .geq t x y (.int k a) (.int k b)=some (.val (.bool (decide (a >=b))),.none):=ZaT rfl (by simp)
def ZsT{op:BinOp}{t:J}{x y:GZ}{k:IntKind}{a b c:Int}(h1:op=.add/\c=a+b\/op=.sub/\c=a-b\/op=.mul/\c=a*b):QO P op t x y (.int k a) (.int k b)=some (.val (.int k (k.wrap c)),.none):=by
 have hp:(plain (.int k a)&&plain (.int k b))=true:=rfl;unfold QO;rw[hp,Cq1]
 have hb:binOp op t (.int k a) (.int k b)=pure (.int k (k.wrap c)):=by
  rcases h1 with⟨rfl,rfl⟩|⟨rfl,rfl⟩|⟨rfl,rfl⟩<;>simp[binOp,Op.intArith]
 have hg:(do eqGuard op t x y (.int k a) (.int k b);binOp op t (.int k a) (.int k b):Sem N)=pure (.int k (k.wrap c)):=by
  rw[hb];rcases h1 with⟨rfl,rfl⟩|⟨rfl,rfl⟩|⟨rfl,rfl⟩<;>rfl
 rw[hg];rfl
end
section
variable{X:Ctx}{n wm:Nat}{rd:O Nat}{s:Fs}{Q:XX->Fs->Prop}
def ZB.Yc{b:Code}(h:WC X n wm rd b s Q):ZB X n wm rd b Q .normal s:=⟨h⟩
def ZB.ret{b:Code}(h:Q .ret s):ZB X n wm rd b Q .ret s:=⟨h⟩
def ZB.exit{b:Code}{id:Nat}(h:Q (.exit id) s):ZB X n wm rd b Q (.exit id) s:=⟨h⟩
def ZB.panic{b:Code}{v:N}(h:Q (.panic v) s):ZB X n wm rd b Q (.panic v) s:=⟨h⟩
def Ya.Yc{b:Code}(h:WL X n wm rd b s Q):Ya X n wm rd b Q .normal s:=⟨h⟩
def Ya.ret{b:Code}(h:Q .ret s):Ya X n wm rd b Q .ret s:=⟨h⟩
def Ya.exit{b:Code}{id:Nat}(h:Q (.exit id) s):Ya X n wm rd b Q (.exit id) s:=⟨h⟩
def Ya.panic{b:Code}{v:N}(h:Q (.panic v) s):Ya X n wm rd b Q (.panic v) s:=⟨h⟩
def Yy.Yc{id:Nat}(h:Q .normal s):Yy id Q .normal s:=⟨h⟩
def Yy.ret{id:Nat}(h:Q .ret s):Yy id Q .ret s:=⟨h⟩
def Yy.panic{id:Nat}{v:N}(h:Q (.panic v) s):Yy id Q (.panic v) s:=⟨h⟩
def Yy.here{id:Nat}(h:Q .normal s):Yy id Q (.exit id) s:=⟨by show if _ then _ else _;rw[if_pos rfl];exact h⟩
def WF.begin{f:V2}{fn:Func}{c:Code}{args:U N}{h:H}{n:Nat}{R:UW->H->Prop}(hf:X.fns.get f=some fn)(hb:fn.body=some c)(hnt:fn.ntmps=n)(hn:args.length<=n)
 (k:WC X n wm none c ⟨X7 args 0 .nil,[],h,none⟩ (Y0 X fn R)):WF X f args.toArray wm h R:=by
 subst hnt;exact WF.enter hf hb hn k
variable{ops:V4 Oper}{l:U Oper}{fr:Fr}{ds:U V6}{h h1:H}{d:Nat}{op:Op}{ty:J}{p:String}{af:V4 Edge}{g:O (Nat×Z)}
def WO.v{v:N}{E:Eff}(hg:ZY ops ⟨some d,op,ty,p,af,g⟩ fr)(hd:Nat.blt d n=true)(ha:Xt X h (YG fr) ⟨some d,op,ty,p,af,g⟩=some (.val v,E))(hE:E.apply wm h=some h1)
 (k:WO X n wm rd ops l ⟨Tr.set fr d v,ds,h1,none⟩ Q):WO X n wm rd ops (⟨some d,op,ty,p,af,g⟩::l) ⟨fr,ds,h,none⟩ Q:=WO.val hg hd ha hE k
def WO.u{E:Eff}(hg:ZY ops ⟨none,op,ty,p,af,g⟩ fr)(ha:Xt X h (YG fr) ⟨none,op,ty,p,af,g⟩=some (.skip,E))(hE:E.apply wm h=some h1)
 (k:WO X n wm rd ops l ⟨fr,ds,h1,none⟩ Q):WO X n wm rd ops (⟨none,op,ty,p,af,g⟩::l) ⟨fr,ds,h,none⟩ Q:=WO.unit hg rfl ha hE k
def WO.o(hg:ZfJ ops ⟨some d,op,ty,p,af,g⟩ fr)(hd:Nat.blt d n=true)(k:WO X n wm rd ops l ⟨Tr.set fr d undef,ds,h,none⟩ Q):WO X n wm rd ops (⟨some d,op,ty,p,af,g⟩::l) ⟨fr,ds,h,none⟩ Q:=WO.off hg hd k
def WC.ZAd{c:GZ}{a b:Code}{t:Z}(hc:YG s.fr c=some (.bool t))(ht:t=true)(k:WC X n wm rd a s Q):WC X n wm rd (.cond c a b) s Q:=WC.cond hc (fun _=>k) fun e=>by rw[ht]at e;cases e
def WC.Zue{c:GZ}{a b:Code}{t:Z}(hc:YG s.fr c=some (.bool t))(ht:t=false)(k:WC X n wm rd b s Q):WC X n wm rd (.cond c a b) s Q:=WC.cond hc (fun e=>by rw[ht]at e;cases e) fun _=>k
def ZAP{f:V2}{fn:Func}{vs:U N}(hf:X.fns.get f=some fn):U5 X h (.func (.func f) #[] #[]) vs=some (.enter f vs.toArray,.none):=by
 unfold U5;simp[hf]
structure Slc(h:H)(a:Option Addr)(len sz:Nat)(cells:List Value):Prop where
 ZWG:cells.length=len*sz
 mem:len=0\/∃i o cs own z,a=some ⟨i,o,none⟩/\h.at i=.row cs own z/\o+len*sz<=cs.length/\(cs.drop o).take (len*sz)=cells
structure Grow(h h':H):Prop where
 size:h.size<=h'.size
 keep:∀i,i<h.size->h'.at i=h.at i
def Grow.refl(h:H):Grow h h:=⟨K1 _,fun _ _=>rfl⟩
def Grow.trans{a b c:H}(x:Grow a b)(y:Grow b c):Grow a c:=⟨KB x.size y.size,fun i hi=>(y.keep i (Jx hi x.size)).trans (x.keep i hi)⟩
def Grow.push{a b:H}(x:Grow a b)(A:YS):Grow a (b.push A):=⟨Nat.le_succ_of_le x.size,fun i hi=>by rw[H.Qg,if_neg (by have:=x.size;omega)];exact x.keep i hi⟩
def Qf{h:H}{i:Nat}{A:YS}(e:h.at i=A)(hl:A.live=true):i<h.size:=by
 rcases Gp i h.size with z|z
 ·exact z
 ·rw[H.ZaP z]at e;subst e;cases hl
def Slc.load{P:V0}{h:H}{i o:Nat}{cs:U N}{own:Z}{z:Nat}{t:J}{v:N}(hr:h.at i=.row cs own z)(ht:YE P t=some false)(hc:cs[o]? =some v):Ki P h t (.pointer (some ⟨i,o,none⟩))=some v:=by
 unfold Ki;dsimp only;rw[hr];dsimp only;rw[ht];dsimp only;exact hc
def Slc.addr{P:V0}{i o len cap k sz:Nat}{t e:J}(hu:P.underlying t=some (.slice e))(hs:Yz P e=some sz)(hk:k<len):Zel P t (.slice (some ⟨i,o,none⟩) len cap) (V8 (k:Int))=some (.pointer (some ⟨i,o+k*sz,none⟩)):=by
 have:Zel P t (.slice (some ⟨i,o,none⟩) len cap) (V8 (Int.ofNat k))=some (.pointer (some ⟨i,o+k*sz,none⟩)):=by
  unfold Zel;rw[hu];dsimp only;rw[hs];dsimp only;have:Nat.blt k len=true:=by rw[G4];exact hk
  rw[this];rfl
 exact this
section
variable{ops:V4 Oper}{l:U Oper}{fr:Fr}{ds:U V6}{h:H}{d:Nat}{ty:J}{p:String}{af:V4 Edge}{g:O (Nat×Z)}
end
end
section
variable{X:Ctx}{n wm:Nat}{rd:O Nat}{Q:XX->Fs->Prop}{ops:V4 Oper}{l:U Oper}{fr:Fr}{ds:U V6}{h:H}{d:Nat}{ty:J}{p:String}{af:V4 Edge}{g:O (Nat×Z)}
def QU(h:H)(A:YS):(h.push A).at h.size=A:=by rw[H.Qg,if_pos rfl]
def Ww{h:H}{i:Nat}(hi:i<h.size)(A:YS):(h.push A).at i=h.at i:=by rw[H.Qg,if_neg Va]
def YU{h:H}{i:Nat}(hi:i<h.size)(A:YS):(h.put i A).at i=A:=by rw[H.XM,if_pos ⟨rfl,hi⟩]
def XT{h:H}{i j:Nat}(hj:j≠i)(A:YS):(h.put i A).at j=h.at j:=by rw[H.XM,if_neg fun z=>hj z.1]
def Zr(P:V0)(t:J)(f off:Nat):Prop:=∃fs x m,P.underlying t=some (.struct fs)/\fs[f]? =some x/\Yz P x.type=some (m+1)/\x.offset=off
def Zr.of{P:V0}{t:J}{f off:Nat}(h:ZcD P t ((V9 0)) f=some (.pointer (some ⟨0,off,none⟩))):Zr P t f off:=by
 unfold ZcD at h;cases e:P.underlying t with
 | none=>rw[e]at h;cases h
 | some u=>
   rw[e]at h;cases u with
   | struct fs=>
     dsimp only at h;cases ex:fs[f]? with
     | none=>rw[ex]at h;cases h
     | some x=>
       rw[ex]at h;dsimp only at h;cases em:Yz P x.type with
       | none=>rw[em]at h;cases h
       | some m=>
         rw[em]at h;cases m with
         | zero=>cases h
         | succ m=>cases h;exact⟨fs,x,m,e,ex,em,(G0 _).symm⟩
   | _=>cases h
def Zr.addr{P:V0}{t:J}{f off:Nat}(h:Zr P t f off)(i o:Nat):ZcD P t (.pointer (some ⟨i,o,none⟩)) f=some (.pointer (some ⟨i,o+off,none⟩)):=by
 obtain⟨fs,x,m,h1,h2,h3,rfl⟩:=h;unfold ZcD;rw[h1];dsimp only;rw[h2];dsimp only;rw[h3]
def Zsy(b:Z):(Value.bool b).cells.toList=[.bool b]:=rfl
def ZvW(k:IntKind)(m:Int):(Value.int k m).cells.toList=[.int k m]:=rfl
def ZnM(s:Y):(Value.string s).cells.toList=[.string s]:=rfl
def ZvU(a:O Addr):(Value.pointer a).cells.toList=[.pointer a]:=rfl
def Zqp(a:O Addr)(m c:Nat):(Value.slice a m c).cells.toList=[.slice a m c]:=rfl
def ZvV(m:O Nat):(Value.map m).cells.toList=[.map m]:=rfl
def cells_func(f:Fn)(xs ys:V4 N):(Value.func f xs ys).cells.toList=[.func f xs ys]:=rfl
def Zk3:(Value.nilFunc).cells.toList=[.nilFunc]:=rfl
def Zkc:(Value.nilIface).cells.toList=[.nilIface]:=rfl
def Zqq(t:J)(v:N):(Value.iface t v).cells.toList=[.iface t v]:=rfl
def ZvX(vs:U N):(Value.agg vs.toArray).cells.toList=vs:=rfl
def JQ(P:V0)(t:J)(zs:U N)(pl:U (Nat×Nat)):Prop:=∃z fs,YM P t=some z/\z.cells.toList=zs/\P.underlying t=some (.struct fs)/\ZcU P fs.toList=some pl
def Zjk(place:Nat->O (Nat×Nat))(len:Nat):U (Nat×N)->Z
 | []=>true
 | (i,v)::rest=>(match place i with
   | some (off,size)=>Nat.beq v.cells.toList.length size&&Nat.ble (off+v.cells.toList.length) len
   | none=>false)&&Zjk place len rest
def ZpP(off:Nat->Nat):U N->U (Nat×N)->U N
 | cs,[]=>cs
 | cs,(i,v)::rest=>ZpP off (splice cs (off i) v.cells.toList) rest
def ZqK{place:Nat->O (Nat×Nat)}{off:Nat->Nat}(ho:∀i p,place i=some p->off i=p.1):∀(ps:U (Nat×N))(cs:U N),Zjk place cs.length ps=true->ZcC place cs ps=some (ZpP off cs ps):=by
 intro ps
 induction ps with
 | nil=>intro cs _;rfl
 | cons q ps ih=>
   obtain⟨i,v⟩:=q;intro cs h;simp only[Zjk,Ba0]at h;obtain⟨h1,h2⟩:=h;unfold ZcC ZpP;cases e:place i with
   | none=>rw[e]at h1;cases h1
   | some q=>
     obtain⟨of,sz⟩:=q;rw[e]at h1;dsimp only at h1 ⊢;rw[h1,Cq1,ho i _ e]
     have hl:(splice cs of v.cells.toList).length=cs.length:=by
      rw[Ba0]at h1;have:=Nl0 h1.2;simp only[splice,K0,Gu,GG];omega
     exact ih _ (by rw[hl];exact h2)
def Z5{ev:GZ->O N}:evp ev []=some []:=rfl
def ZF{ev:GZ->O N}{i:Nat}{x:GZ}{xs:U (Nat×GZ)}{v:N}{vs:U (Nat×N)}(h1:ev x=some v)(h2:evp ev xs=some vs):evp ev ((i,x)::xs)=some ((i,v)::vs):=by
 show(match ev x,evp ev xs with|some v,some vs=>some ((i,v)::vs) | _,_=>none)=_;rw[h1,h2]
def Zmd{P:V0}{h:H}{t:J}{b o z sz:Nat}{cs vs:U N}{own:Z}(ht:YE P t=some true)(hs:Yz P t=some sz)(hr:h.at b=.row cs own z)(hl:o+sz<=cs.length)(hv:(cs.drop o).take sz=vs):
 Ki P h t (.pointer (some ⟨b,o,none⟩))=some (.agg vs.toArray):=by
 unfold Ki;dsimp only;rw[hr];dsimp only;rw[ht,hs];dsimp only;have hb:Nat.ble (o+sz) cs.length=true:=Nm0 hl;rw[hb,hv];rfl
end
section
variable{X:Ctx}{n wm:Nat}{rd:O Nat}{Q:XX->Fs->Prop}{ops:V4 Oper}{l:U Oper}{fr:Fr}{ds:U V6}{h:H}{d:O Tmp}{ty:J}{p:String}{af:V4 Edge}{g:O (Nat×Z)}{ev:GZ->O N}
def ZO{x:GZ}{v:N}(hx:ev x=some v):Xt X h ev ⟨d,.move x,ty,p,af,g⟩=some (.val v,.none):=by rw[ZAC,hx];rfl
def ZW{x:GZ}{v:N}(hx:ev x=some v):Xt X h ev ⟨d,.assign x,ty,p,af,g⟩=some (.val v,.none):=by rw[ZsJ,hx];rfl
def YI{x:GZ}{t:J}{f off b o:Nat}(hf:Zr X.P t f off)(hx:ev x=some (.pointer (some ⟨b,o,none⟩))):Xt X h ev ⟨d,.fieldAddr t x f,ty,p,af,g⟩=some (.val (.pointer (some ⟨b,o+off,none⟩)),.none):=by
 rw[Zla,hx];dsimp only;rw[hf.addr];rfl
def ZsE{x:GZ}{a:Addr}(hx:ev x=some (.pointer (some a))):Xt X h ev ⟨d,.nilCheck x,ty,p,af,g⟩=some (.val (.pointer (some a)),.none):=by
 show(match ev x with
  | some (.pointer (some a))=>some (AN.val (.pointer (some a)),Eff.none)
  | _=>none)=_
 rw[hx]
def ZAv{x:GZ}{t:J}{b o z:Nat}{cs:U N}{own:Z}{v:N}(ht:YE X.P t=some false)(hx:ev x=some (.pointer (some ⟨b,o,none⟩)))(hr:h.at b=.row cs own z)(hc:cs[o]? =some v):
 Xt X h ev ⟨d,.load t x,ty,p,af,g⟩=some (.val v,.none):=by rw[ZqF,hx];dsimp only;rw[Slc.load hr ht hc];rfl
def ZAu{x:GZ}{t:J}{b o z sz:Nat}{cs vs:U N}{own:Z}(ht:YE X.P t=some true)(hs:Yz X.P t=some sz)(hx:ev x=some (.pointer (some ⟨b,o,none⟩)))(hr:h.at b=.row cs own z)(hl:o+sz<=cs.length)(hv:(cs.drop o).take sz=vs):
 Xt X h ev ⟨d,.load t x,ty,p,af,g⟩=some (.val (.agg vs.toArray),.none):=by rw[ZqF,hx];dsimp only;rw[Zmd ht hs hr hl hv];rfl
def ZIX{x:GZ}{t e:J}{a:O Addr}{m c:Nat}(hu:X.P.underlying t=some (.slice e))(hx:ev x=some (.slice a m c)):
 Xt X h ev ⟨d,.call {callee:=.builtin .len,args:=#[x],argTypes:=#[t]},ty,p,af,g⟩=some (.val (V8 m),.none):=by
 have he:evs ev [x]=some [.slice a m c]:=Zb hx Zd;rw[Wx]
 show(match evs ev [x] with
  | some args=>Wz X.P h .len #[t] ty args
  | none=>none)=_
 rw[he];show vN (ZsK X.P h t (.slice a m c))=_;unfold ZsK;rw[hu];rfl
def ZIY{x y:GZ}{t e:J}{sz b o m c k:Nat}{iv:Int}(hu:X.P.underlying t=some (.slice e))(hs:Yz X.P e=some sz)(hx:ev x=some (.slice (some ⟨b,o,none⟩) m c))(hy:ev y=some (V8 iv))(hi:iv=(k:Int))(hk:k<m):
 Xt X h ev ⟨d,.indexAddr t x y,ty,p,af,g⟩=some (.val (.pointer (some ⟨b,o+k*sz,none⟩)),.none):=by
 subst hi;rw[Zk9,hx,hy];dsimp only;rw[Slc.addr hu hs hk];rfl
def Zcv{x:GZ}{t:J}{b:Z}(hx:ev x=some (.bool b)):Xt X h ev ⟨d,.unOp .not t x,ty,p,af,g⟩=some (.val (.bool (!b)),.none):=by rw[ZAB,hx];rfl
def Y5{op:BinOp}{x y:GZ}{t yt:J}{a b v:N}(hx:ev x=some a)(hy:ev y=some b)(hv:QO X.P op t x y a b=some (.val v,.none)):Xt X h ev ⟨d,.binOp op t x y yt,ty,p,af,g⟩=some (.val v,.none):=by
 rw[Zv5,hx,hy];exact hv
def ZnT{c x y:GZ}{b z:Z}(hc:ev c=some (.bool b))(hx:ev x=some (cond b (.bool z) undef))(hy:ev y=some (.bool false)):Xt X h ev ⟨d,.pick c x y,ty,p,af,g⟩=some (.val (.bool (b&&z)),.none):=by
 rw[ZfC,hc,hx,hy];cases b<;>rfl
def ZNE{c x y:GZ}{b z:Z}(hc:ev c=some (.bool b))(hx:ev x=some (.bool true))(hy:ev y=some (cond (!b) (.bool z) undef)):Xt X h ev ⟨d,.pick c x y,ty,p,af,g⟩=some (.val (.bool (b||z)),.none):=by
 rw[ZfC,hc,hx,hy];cases b<;>rfl
def Xg{x:GZ}{k:Nat}{vs:U N}{v:N}(hx:ev x=some (.tuple vs.toArray))(hv:vs[k]? =some v):Xt X h ev ⟨d,.extract x k,ty,p,af,g⟩=some (.val v,.none):=by
 rw[ZqG,hx];dsimp only;unfold ZcE;dsimp only;rw[hv];rfl
def Zn(ops:V4 Oper)(o:Oper)(fr:Fr)(c:Z):Prop:=okG ops.toList o fr=true/\YW ops.toList o fr=c
def Zn.yes{ops:V4 Oper}{o:Oper}{fr:Fr}{j:Nat}{b:Z}{og:Oper}{dd:Tmp}(h0:gk o=some (j,true))(hj:ops.toList[j]? =some og)(hd:og.dst=some dd)(hv:fr.at dd=.bool b):Zn ops o fr b:=by
 obtain⟨h,hsk⟩:=ZhA h0 fr;unfold Zn okG YW WY;rw[h];dsimp only;rw[hj];dsimp only;rw[hd];dsimp only;rw[hv,hsk];cases b<;>exact⟨rfl,rfl⟩
def Zn.no{ops:V4 Oper}{o:Oper}{fr:Fr}{j:Nat}{b:Z}{og:Oper}{dd:Tmp}(h0:gk o=some (j,false))(hj:ops.toList[j]? =some og)(hd:og.dst=some dd)(hv:fr.at dd=.bool b):Zn ops o fr (!b):=by
 obtain⟨h,hsk⟩:=ZhA h0 fr;unfold Zn okG YW WY;rw[h];dsimp only;rw[hj];dsimp only;rw[hd];dsimp only;rw[hv,hsk];cases b<;>exact⟨rfl,rfl⟩
def Zn.ZOz{ops:V4 Oper}{o:Oper}{fr:Fr}{j:Nat}{a b:Z}{og:Oper}{dd:Tmp}(h0:gk o=some (j,true))(hj:ops.toList[j]? =some og)(hd:og.dst=some dd)(hv:fr.at dd=cond a (.bool b) undef):Zn ops o fr (a&&b):=by
 obtain⟨h,hsk⟩:=ZhA h0 fr;unfold Zn okG YW WY;rw[h];dsimp only;rw[hj];dsimp only;rw[hd];dsimp only;rw[hv,hsk];cases a<;>cases b<;>exact⟨rfl,rfl⟩
def Zn.no2{ops:V4 Oper}{o:Oper}{fr:Fr}{j:Nat}{a b:Z}{og:Oper}{dd:Tmp}(h0:gk o=some (j,false))(hj:ops.toList[j]? =some og)(hd:og.dst=some dd)(hv:fr.at dd=cond a (.bool b) undef):Zn ops o fr (a && !b):=by
 obtain⟨h,hsk⟩:=ZhA h0 fr;unfold Zn okG YW WY;rw[h];dsimp only;rw[hj];dsimp only;rw[hd];dsimp only;rw[hv,hsk];cases a<;>cases b<;>exact⟨rfl,rfl⟩
def Zib{op:Op}{fr:Fr}{t:Tmp}{xs:V4 GZ}{ts:V4 J}(hop:op=.call {callee:=.value (.tmp t),args:=xs,argTypes:=ts})(hv:ZgN (fr.at t)=true):Zlj op fr=true:=by subst hop;exact hv
def Zic{fr:Fr}{t:Tmp}{v:N}(p:fr.at t=v)(h:ZgN v=true):ZgN (fr.at t)=true:=by rw[p];exact h
def Zid{c:Z}{v:N}(h:ZgN v=true):ZgN (cond c v undef)=true:=by cases c;rfl;exact h
def Zn.Zq7{ops:V4 Oper}{o:Oper}{fr:Fr}{j:Nat}{b:Z}{og:Oper}{dd:Tmp}(h:o.guard=some (j,true))(hj:ops.toList[j]? =some og)(hd:og.dst=some dd)(hv:fr.at dd=.bool b)(hsk:Zlj o.op fr=true):Zn ops o fr b:=by
 unfold Zn okG YW WY;rw[h];dsimp only;rw[hj];dsimp only;rw[hd];dsimp only;rw[hv,hsk];cases b<;>exact⟨rfl,rfl⟩
def WO.gv{d:Nat}{op:Op}{c:Z}{v:N}(hg:Zn ops ⟨some d,op,ty,p,af,g⟩ fr c)(hd:Nat.blt d n=true)(ha:c=true->Xt X h (YG fr) ⟨some d,op,ty,p,af,g⟩=some (.val v,.none))
 (k:WO X n wm rd ops l ⟨Tr.set fr d (cond c v undef),ds,h,none⟩ Q):WO X n wm rd ops (⟨some d,op,ty,p,af,g⟩::l) ⟨fr,ds,h,none⟩ Q:=by
 cases c
 ·exact WO.o hg hd k
 ·exact WO.v hg hd (ha rfl) rfl k
end
section
variable{X:Ctx}{n wm:Nat}{rd:O Nat}{ops:V4 Oper}{l:U Oper}{fr:Fr}{ds:U V6}{h:H}{ty:J}{p:String}{af:V4 Edge}{g:O (Nat×Z)}
variable{Q:Fr->Prop}
def ZA6(wm:Nat):MOf false wm none=fun _=>False:=by funext x;unfold MOf;simp
def ZcX:∀(j:Qr)(r:YL),(fun _:Qr=>(none:O YL)) j=some r->Q6 j r:=fun _ _ h=>by cases h
end
end Go.ZP
end
end
