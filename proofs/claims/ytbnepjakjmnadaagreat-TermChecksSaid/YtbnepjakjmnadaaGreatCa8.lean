/- Part 8. -/
import Derived.ProofKit
import Derived.Test.YtbnepjakjmnadaaGreatCa7
set_option linter.all false
set_option maxHeartbeats 2000000
section
noncomputable section
namespace Go.Proofs.YtbnepjakjmnadaaGreat
open Go.Yj Go.RowKit Go.WideShapes Go.ChangeShapes
def isTrue (r:Option YF):Bool:=
 match r with
 | some (.fin (.ret (.bool true)) _)=>true
 | _=>false
theorem Zli {r:Option YF} (h:isTrue r=true):∃ h',r=some (.fin (.ret (.bool true)) h'):=by
 unfold isTrue at h;split at h
 ·exact⟨_,rfl⟩
 ·cases h
theorem mixed:Tryz.prog.follows .mixedOrders=true:=Kq0
def Zk7:Ren:= ⟨fun _=>none,fun _=>(0,0)⟩
section
variable {H:Type} {enc:TypeId×Value ->H} {P:Program}
theorem ZhM {f:Func} {s:ChangeSpec} {apart fresh handsOn again:Bool} {W W':World} {args:Array Value} {v:Value} {ds gs:List (DataW H)} {before pa pv:List MemPlace}
 (hW:DataW.Whole enc P f.params.toList s.vars apart W args.toList ds gs before)
 (hres:∀ (b:Nat) (sp:Nat ->Bool) (hd:Bool),DataW.TrodAll enc P W' b sp hd f.resultTypes.toList (v.resultList f.resultTypes.size) (s.fn H (ds ++ gs)).results [])
 (hargs:∀ sp:Nat ->Bool,(∀ p ∈ before,sp p.block=true) ->DataW.TrodAll enc P W' 0 sp true f.params.toList args.toList (s.fn H (ds ++ gs)).args pa)
 (hvars:∀ sp:Nat ->Bool,(∀ p ∈ before,sp p.block=true) ->DataW.TrodVars enc P W' sp s.vars (s.fn H (ds ++ gs)).vars pv)
 (hps:before=pa ++ pv) (hb:Below W.heap.size W W')
 (hok:∀ (j:Nat) (t:TypeId) (r:Value),f.resultTypes[j]? =some t ->(v.resultList f.resultTypes.size)[j]? =some r ->Value.okWide P W' .any 0 t r):
 s.post enc P f apart fresh handsOn again W args v W':=by
 have hlt:∀ p ∈ before,p.block < W.heap.size:=fun p hp=>hW.lt p hp
 have hold:∀ p ∈ before,(fun b=>decide (b < W.heap.size)) p.block=true:=fun p hp=>by simpa using hlt p hp
 refine⟨ds,gs,before,[],pa,pv,hW,hres _ _ _,hargs _ hold,hvars _ hold,World.keptBut_mono (fun p hp=>⟨hp,?_⟩) (hb.frame (· ∈ before)),fun _=>?_⟩
 ·rw [hps,List.mem_append] at hp;exact Or.inr hp
 ·obtain⟨_,_,_,_,_,hz,hn⟩:=hW;refine⟨hok,_,_,([] ++ pa) ++ pv,⟨[] ++ pa,pv,trodAll_append (hargs _ (fun _ _=>rfl)) (hres _ _ _),hvars _ (fun _ _=>rfl),rfl,?_,?_⟩,?_⟩
  ·intro b off hp;have hin:MemPlace.cell b off ∈ before:=by rw [hps];simpa using hp
   rw [hb.frozen (hlt _ hin)];exact hz b off hin
  ·intro ha;have:=hn ha;rw [hps] at this
   simpa using this
  ·intro p hp _;rw [hps]
   simpa using hp
end
end Go.Proofs.YtbnepjakjmnadaaGreat
end
end
section
noncomputable section
namespace Go.Yj
variable {X:Ctx}
structure WC (X:Ctx) (n wm:Nat) (rd:Option Nat) (c:Code) (s:Fs) (Q:XX ->Fs ->Prop):Prop where
 out:∃ e s',Q e s'∧Yu X (.code c n wm rd s) (.code e s')
structure WL (X:Ctx) (n wm:Nat) (rd:Option Nat) (c:Code) (s:Fs) (Q:XX ->Fs ->Prop):Prop where
 out:∃ e s',Q e s'∧Yu X (.loop c n wm rd s) (.code e s')
structure WF (X:Ctx) (f:FuncId) (args:Array Value) (wm:Nat) (h:H) (Q:Uo ->H ->Prop):Prop where
 out:∃ e h',Q e h'∧Yu X (.call f args wm h) (.fin e h')
def ZE0 (X:Ctx) (n wm:Nat) (rd:Option Nat) (ops:Array Oper) (l:List Oper) (s:Fs) (e:XX) (s':Fs):Prop:=
 ∀ (Q:Exit ->Act ->World ->Prop) {ρ:Ren} {F:Fence} {a:Act} {w:World},Inv ρ n s a w ->wm <=s.h.size ->Kl ρ rd F ->(∀ e' a' w',Xu wm n ρ s.h w e s' e' a' w' ->Q e' a' w') ->wpListIn F 0 X.P ops Q l a w
structure WO (X:Ctx) (n wm:Nat) (rd:Option Nat) (ops:Array Oper) (l:List Oper) (s:Fs) (Q:XX ->Fs ->Prop):Prop where
 out:∃ e s',Q e s'∧ZE0 X n wm rd ops l s e s'
variable {n wm:Nat} {rd:Option Nat} {s:Fs} {Q:XX ->Fs ->Prop}
theorem WC.mono {c:Code} {Q':XX ->Fs ->Prop} (h:WC X n wm rd c s Q) (k:∀ e s',Q e s' ->Q' e s'):WC X n wm rd c s Q':=let⟨e,s',h1,h2⟩:=h;⟨e,s',k e s' h1,h2⟩
theorem WF.mono {f:FuncId} {args:Array Value} {h:H} {Q Q':Uo ->H ->Prop} (h1:WF X f args wm h Q) (k:∀ e s',Q e s' ->Q' e s'):WF X f args wm h Q':=let⟨e,s',h1,h2⟩:=h1;⟨e,s',k e s' h1,h2⟩
def ZEV (X:Ctx) (n wm:Nat) (rd:Option Nat) (b:Code) (Q:XX ->Fs ->Prop):XX ->Fs ->Prop:=fun e s=>
 match e with
 | .normal=>WC X n wm rd b s Q
 | e=>Q e s
def ZAY (X:Ctx) (n wm:Nat) (rd:Option Nat) (c:Code) (Q:XX ->Fs ->Prop):XX ->Fs ->Prop:=fun e s=>
 match e with
 | .normal=>WL X n wm rd c s Q
 | e=>Q e s
def Zuz (id:Nat) (Q:XX ->Fs ->Prop):XX ->Fs ->Prop:=fun e s=>
 match e with
 | .exit k=>if k=id then Q .normal s else Q (.exit k) s
 | e=>Q e s
structure Zh (X:Ctx) (n wm:Nat) (rd:Option Nat) (b:Code) (Q:XX ->Fs ->Prop) (e:XX) (s:Fs):Prop where
 out:ZEV X n wm rd b Q e s
structure ZT (X:Ctx) (n wm:Nat) (rd:Option Nat) (b:Code) (Q:XX ->Fs ->Prop) (e:XX) (s:Fs):Prop where
 out:ZAY X n wm rd b Q e s
structure ZK (id:Nat) (Q:XX ->Fs ->Prop) (e:XX) (s:Fs):Prop where
 out:Zuz id Q e s
theorem ExR.Zgm {ρ:Ren} {e:XX} {e':Exit} (he:ExR ρ e e') (h:e ≠ .normal) {N:Act ->World ->Prop} {R:Exit ->Act ->World ->Prop} {a:Act} {w:World} (hr:R e' a w):Exit.then N R e' a w:=by
 cases he with
 | normal=>exact absurd rfl h
 | _=>exact hr
theorem WC.seq {a b:Code} (h:WC X n wm rd a s (Zh X n wm rd b Q)):WC X n wm rd (.seq a b) s Q:=by
 obtain⟨e,s1,hq,ka⟩:=h;by_cases hn:e= .normal
 ·subst hn;obtain⟨e2,s2,hq2,kb⟩:=hq.out;refine⟨e2,s2,hq2,fun ρ a w F ZQ hi hF=>wpIn_seq (wpIn_mono (ka ρ a w F ZQ hi hF) ?_)⟩;rintro e' a' w' ⟨ρ',he,hi',hst⟩;cases he;exact wpIn_mono (kb ρ' a' w' F (Nat.le_trans ZQ hst.size) hi' (hF.mono hst.ext)) fun _ _ _ hp=>Xu.trans hi.rel.lt hst hp
 ·refine⟨e,s1,?_,fun ρ a w F ZQ hi hF=>wpIn_seq (wpIn_mono (ka ρ a w F ZQ hi hF) ?_)⟩
  ·cases e with
   | normal=>exact absurd rfl hn
   | _=>exact hq.out
  ·rintro e' a' w' ⟨ρ',he,hi',hst⟩;exact he.Zgm hn ⟨ρ',he,hi',hst⟩
theorem WC.cond {c:Operand} {a b:Code} {t:Bool} (hc:Y5 s.fr c=some (.bool t)) (h1:t=true ->WC X n wm rd a s Q) (h2:t=false ->WC X n wm rd b s Q):WC X n wm rd (.cond c a b) s Q:=by
 have:∃ e s',Q e s'∧∀ ρ a' w F,wm <=s.h.size ->Inv ρ n s a' w ->Kl ρ rd F ->(if t then a else b).wpIn F 0 X.P (Xu wm n ρ s.h w e s') a' w:=by
  cases t with
  | true=>obtain⟨e,s',q,k⟩:=h1 rfl;exact⟨e,s',q,k⟩
  | false=>obtain⟨e,s',q,k⟩:=h2 rfl;exact⟨e,s',q,k⟩
 obtain⟨e,s',hq,k⟩:=this;refine⟨e,s',hq,fun ρ a' w F ZQ hi hF=>?_⟩;have hv:=UE hi.fr _ _ hc;generalize hx:a'.eval c=x at hv;cases hv;exact wpIn_cond hx (k ρ a' w F ZQ hi hF)
theorem WC.block {id:Nat} {c:Code} (h:WC X n wm rd c s (ZK id Q)):WC X n wm rd (.block id c) s Q:=by
 obtain⟨e,s1,hq,ka⟩:=h
 have key:∃ e2,Q e2 s1∧∀ (wm' n':Nat) (ρ0:Ren) (h0:H) (w0:World) (e':Exit) (a':Act) (w':World),Xu wm' n' ρ0 h0 w0 e s1 e' a' w' ->Exit.inBlock id (Xu wm' n' ρ0 h0 w0 e2 s1) e' a' w':=by
  cases e with
  | exit k=>
    by_cases hk:k=id
    ·subst hk;refine⟨.normal,by simpa [Zuz] using hq.out,?_⟩;rintro _ _ _ _ _ e' a' w' ⟨ρ',he,hi',hst⟩;cases he;show if _ then _ else _
     rw [if_pos rfl];exact⟨ρ',.normal,hi',hst⟩
    ·refine⟨.exit k,by simpa [Zuz,hk] using hq.out,?_⟩;rintro _ _ _ _ _ e' a' w' ⟨ρ',he,hi',hst⟩;cases he;show if _ then _ else _
     rw [if_neg hk];exact⟨ρ',.exit k,hi',hst⟩
  | normal=>exact⟨.normal,hq.out,by rintro _ _ _ _ _ e' a' w' ⟨ρ',he,hi',hst⟩;cases he;exact⟨ρ',.normal,hi',hst⟩⟩
  | goto l=>exact⟨.goto l,hq.out,by rintro _ _ _ _ _ e' a' w' ⟨ρ',he,hi',hst⟩;cases he;exact⟨ρ',.goto l,hi',hst⟩⟩
  | ret=>exact⟨.ret,hq.out,by rintro _ _ _ _ _ e' a' w' ⟨ρ',he,hi',hst⟩;cases he;exact⟨ρ',.ret,hi',hst⟩⟩
  | panic v=>exact⟨.panic v,hq.out,by rintro _ _ _ _ _ e' a' w' ⟨ρ',he,hi',hst⟩;cases he with | panic hv=>exact⟨ρ',.panic hv,hi',hst⟩⟩
 obtain⟨e2,hq2,key⟩:=key;exact⟨e2,s1,hq2,fun ρ a w F ZQ hi hF=>wpIn_block (wpIn_mono (ka ρ a w F ZQ hi hF) fun e' a' w' hp=>key _ _ _ _ _ e' a' w' hp)⟩
theorem WC.skip (h:Q .normal s):WC X n wm rd .skip s Q:= ⟨_,_,h,fun ρ _ _ _ _ hi _=>wpIn_skip ⟨ρ,.normal,hi,Stp.refl _ _ _ _⟩⟩
theorem WC.ret (h:Q .ret s):WC X n wm rd .ret s Q:= ⟨_,_,h,fun ρ _ _ _ _ hi _=>wpIn_ret ⟨ρ,.ret,hi,Stp.refl _ _ _ _⟩⟩
theorem WC.exit {id:Nat} (h:Q (.exit id) s):WC X n wm rd (.exit id) s Q:= ⟨_,_,h,fun ρ _ _ _ _ hi _=>wpIn_exit ⟨ρ,.exit id,hi,Stp.refl _ _ _ _⟩⟩
theorem WC.loop {c:Code} (h:WL X n wm rd c s Q):WC X n wm rd (.loop c) s Q:=
 let⟨e,s',hq,k⟩:=h;⟨e,s',hq,fun ρ a w F ZQ hi hF=>ZaL (k ρ a w F ZQ hi hF)⟩
theorem WC.region {id:Nat} {ops:Array Oper} (h:WO X n wm rd ops ops.toList s Q):WC X n wm rd (.region id ops false) s Q:=by
 obtain⟨e,s',hq,k⟩:=h;exact⟨e,s',hq,fun ρ a w F ZQ hi hF=>wpIn_region_list (k _ hi ZQ hF fun _ _ _ hp=>hp)⟩
theorem WL.step {c:Code} (h:WC X n wm rd c s (ZT X n wm rd c Q)):WL X n wm rd c s Q:=by
 obtain⟨e,s1,hq,ka⟩:=h;by_cases hn:e= .normal
 ·subst hn;obtain⟨e2,s2,hq2,kb⟩:=hq.out;refine⟨e2,s2,hq2,fun ρ a w F ZQ hi hF=>Xz (wpIn_mono (ka ρ a w F ZQ hi hF) ?_)⟩;rintro e' a' w' ⟨ρ',he,hi',hst⟩;cases he;have:=kb ρ' a' w' F (Nat.le_trans ZQ hst.size) hi' (hF.mono hst.ext);intro b k cs h1 h2 h3;obtain⟨e3,a3,w3,hp,harr⟩:=this b k cs h1 h2 h3;exact⟨e3,a3,w3,Xu.trans hi.rel.lt hst hp,harr⟩
 ·refine⟨e,s1,?_,fun ρ a w F ZQ hi hF=>Xz (wpIn_mono (ka ρ a w F ZQ hi hF) ?_)⟩
  ·cases e with
   | normal=>exact absurd rfl hn
   | _=>exact hq.out
  ·rintro e' a' w' ⟨ρ',he,hi',hst⟩;exact he.Zgm hn ⟨ρ',he,hi',hst⟩
def ZEX (X:Ctx) (fn:Func) (Q:Uo ->H ->Prop):XX ->Fs ->Prop:=fun e s=>s.ds= []∧
 match e with
 | .normal=>∃ v,Qt X.P fn s.fr s.h=some v∧Q (.ret v) s.h
 | .ret=>∃ v,Qt X.P fn s.fr s.h=some v∧Q (.ret v) s.h
 | .panic v=>Q (.Yn v) s.h
 | _=>False
structure YT (X:Ctx) (fn:Func) (Q:Uo ->H ->Prop) (e:XX) (s:Fs):Prop where
 out:ZEX X fn Q e s
theorem WF.enter {f:FuncId} {fn:Func} {c:Code} {args:Array Value} {h:H} {Q:Uo ->H ->Prop} (hf:X.fns.get f=some fn) (hb:fn.body=some c) (hn:args.toList.length <=fn.ntmps)
 (k:WC X fn.ntmps wm none c {fr:=XQ args.toList 0 .nil,ds:= [],h:=h} (YT X fn Q)):WF X f args wm h Q:=by
 obtain⟨e,s',⟨hds,hq⟩,ka⟩:=k
 have main:∀ (E:Uo) (pm:PM),xPM e=some pm ->JQ (cfg X fun _=>false) (fun _=>none) fn wm pm s'=some (.fin E s'.h) ->Yu X (.call f args wm h) (.fin E s'.h):=by
  intro E pm hpm hl;have hj:=QX (C:=cfg X fun _=>false) (ih:=fun _=>none) (fun _ _ h=>by cases h) hl;intro ρ args' w ZQ hr hv
  have hi:Inv ρ fn.ntmps {fr:=XQ args.toList 0 .nil,ds:= [],h:=h} {tmps:=args' ++ Array.replicate (fn.ntmps - args'.size) undef,defers:= []} w:=
   ⟨hr,UG hv hn,.nil⟩
  refine callsIn_of_wp_marks (X.ok f fn hf).1 hb (ZeA hf) (wpIn_mono (ka ρ _ w base ZQ hi rfl) ?_);rintro e' a' w' ⟨ρ',he,hi',hst⟩;cases he with
  | normal=>cases hpm;exact hj ρ' _ a' .returning w' _ (Nat.le_trans ZQ hst.size) hi' .ret (fun _ _ hp=>Uk.trans hr.lt hst hp)
  | ret=>cases hpm;exact hj ρ' _ a' .returning w' _ (Nat.le_trans ZQ hst.size) hi' .ret (fun _ _ hp=>Uk.trans hr.lt hst hp)
  | panic hv'=>cases hpm;exact hj ρ' _ a' _ w' _ (Nat.le_trans ZQ hst.size) hi' (.Yn hv') (fun _ _ hp=>Uk.trans hr.lt hst hp)
  | exit id=>cases hpm
  | goto l=>cases hpm
 cases e with
 | normal=>
   obtain⟨v,hv,hq⟩:=hq
   exact⟨_,_,hq,main _ .ret rfl (by
    have hv':Qt (cfg X fun _=>false).X.P fn s'.fr s'.h=some v:=hv;unfold JQ;rw [hds];simp only [hv'])⟩
 | ret=>
   obtain⟨v,hv,hq⟩:=hq
   exact⟨_,_,hq,main _ .ret rfl (by
    have hv':Qt (cfg X fun _=>false).X.P fn s'.fr s'.h=some v:=hv;unfold JQ;rw [hds];simp only [hv'])⟩
 | panic v=>exact⟨_,_,hq,main _ (.Yn v) rfl (by unfold JQ;rw [hds])⟩
 | exit _=>exact hq.elim
 | goto _=>exact hq.elim
abbrev Pure (X:Ctx) (f:FuncId) (args:Array Value) (h:H) (v:Value):Prop:=∀ wm,Yu X (.call f args wm h) (.fin (.ret v) h)
theorem WF.pure {f:FuncId} {args:Array Value} {h:H} {v:Value} (hp:plain v=true) (k:WF X f args h.size h (fun e _=>e= .ret v)):Pure X f args h v:=by
 obtain⟨e,h',rfl,hj⟩:=k;intro wm ρ args' w ZQ hr hv;refine(hj ρ args' w (Nat.le_refl _) hr hv).mono ?_;rintro e' w' ⟨ρ',he,hr',hst⟩;cases he with
 | ret hv'=>
   rw [VR.YZ hp hv'];obtain⟨q1,q2⟩:=KS hr hst;exact⟨ρ,.ret (VR.Z0 hp),q1,q2 wm⟩
variable {ops:Array Oper} {l:List Oper} {o:Oper}
theorem WO.nil (h:Q .normal s):WO X n wm rd ops [] s Q:= ⟨_,_,h,fun _ ρ _ a w hi _ _ hq=>hq .normal a w ⟨ρ,.normal,hi,Stp.refl _ _ _ _⟩⟩
theorem WO.cons {ih:Qg ->Option YF} (HI:∀ j r,ih j=some r ->Yu X j r) {s1:Fs} (h:Uv X (fun _=>false) ih n wm rd ops.toList o s=some (.normal,s1)) (k:WO X n wm rd ops l s1 Q):WO X n wm rd ops (o::l) s Q:=by
 obtain⟨e,s',hq,hk⟩:=k;refine⟨e,s',hq,fun Q' ρ F a w hi ZQ hF hq'=>?_⟩;refine Kj HI h hi ZQ hF (fun _ ρ' a' w' hi' st'=>?_) (fun v he=>by cases he);refine hk Q' hi' (Nat.le_trans ZQ st'.size) (hF.mono st'.ext) fun e' a2 w2 hp=>?_
 obtain⟨ρ2,q1,q2,q3⟩:=hp;exact hq' e' a2 w2 ⟨ρ2,q1,q2,st'.trans hi.rel.lt q3⟩
theorem WO.panics {ih:Qg ->Option YF} (HI:∀ j r,ih j=some r ->Yu X j r) {s1:Fs} {v:Value} (h:Uv X (fun _=>false) ih n wm rd ops.toList o s=some (.panic v,s1)) (k:Q (.panic v) s1):WO X n wm rd ops (o::l) s Q:=by
 refine⟨.panic v,s1,k,fun Q' ρ F a w hi ZQ hF hq'=>?_⟩;refine Kj HI h hi ZQ hF (fun he=>by cases he) (fun v' he ρ' v2 a' w' hv hi' st'=>?_);cases he;exact hq' _ a' w' ⟨ρ',.panic hv,hi',st'⟩
theorem Zab (X:Ctx):∀ (j:Qg) (r:YF),(fun _:Qg=>(none:Option YF)) j=some r ->Yu X j r:=fun _ _ h=>by cases h
def Zw6 (op:Op):Bool:=match op with
 | .call c=>match c.callee with
   | .value x=>match x with
     | .func f=>Nat.blt f nfs
     | _=>false
   | .builtin _=>true
   | .invoke _ _=>false
 | _=>true
def gk (o:Oper):Option (Nat×Bool):=bif Zw6 o.op then o.guard else none
theorem ZfN {o:Oper} {q:Nat×Bool} (h:gk o=some q) (fr:Fr):o.guard=some q∧Zid o.op fr=true:=by
 unfold gk at h;cases hs:Zw6 o.op with
 | false=>rw [hs] at h;cases h
 | true=>
   rw [hs] at h;refine⟨h,?_⟩
   revert hs
   generalize o.op=op;intro hs;cases op with
   | call c=>
     obtain⟨callee,args,ats⟩:=c;cases callee with
     | value x=>
       cases x with
       | func f=>exact hs
       | tmp t=>cases hs
       | const v=>cases hs
       | global g=>cases hs
     | builtin b=>rfl
     | invoke r nm=>cases hs
   | _=>rfl
def Yi (ops:Array Oper) (o:Oper) (fr:Fr):Prop:=okG ops.toList o fr=true∧YR ops.toList o fr=true
def Zeb (ops:Array Oper) (o:Oper) (fr:Fr):Prop:=okG ops.toList o fr=true∧YR ops.toList o fr=false
theorem Yi.none {ops:Array Oper} {o:Oper} {fr:Fr} (h:o.guard=none):Yi ops o fr:=by unfold Yi okG YR;rw [h];exact⟨rfl,rfl⟩
theorem gN {ops:Array Oper} {d:Option Tmp} {op:Op} {ty:TypeId} {p:String} {af:Array Edge} {fr:Fr}:Yi ops ⟨d,op,ty,p,af,Option.none⟩ fr:=Yi.none rfl
def Zhg (n:Nat) (d:Option Tmp):Bool:=
 match d with
 | none=>true
 | some d=>Nat.blt d n
theorem Zd3 {fr:Fr} {ds:List Deferred} {h:H} {d:Option Tmp} {v:Value} (hd:Zhg n d=true):ZfC n ⟨fr,ds,h,none⟩ d v=some ⟨QZ fr d v,ds,h,none⟩:=by
 rw [ZfU];cases d with
 | none=>rfl
 | some d=>
   unfold Zhg at hd;dsimp only at hd ⊢;rw [hd];rfl
variable {fr:Fr} {ds:List Deferred} {h h1:H}
theorem WO.val {v:Value} {E:Eff} (hg:Yi ops o fr) (hd:Zhg n o.dst=true) (ha:XG X h (Y5 fr) o=some (.val v,E)) (hE:E.apply wm h=some h1)
 (k:WO X n wm rd ops l ⟨QZ fr o.dst v,ds,h1,none⟩ Q):WO X n wm rd ops (o::l) ⟨fr,ds,h,none⟩ Q:=by
 refine WO.cons (Zab X) ?_ k;unfold Uv;rw [hg.1,hg.2];dsimp only [Bool.not_true,Cq0,Cq1];rw [ha];dsimp only [Bool.not_true,Cq0,Cq1];rw [hE];unfold Kh;dsimp only [J9];rw [Zd3 hd]
 rfl
theorem WO.unit {E:Eff} (hg:Yi ops o fr) (hd:Zhg n o.dst=true) (ha:XG X h (Y5 fr) o=some (.skip,E)) (hE:E.apply wm h=some h1)
 (k:WO X n wm rd ops l ⟨QZ fr o.dst undef,ds,h1,none⟩ Q):WO X n wm rd ops (o::l) ⟨fr,ds,h,none⟩ Q:=by
 refine WO.cons (Zab X) ?_ k;unfold Uv;rw [hg.1,hg.2];dsimp only [Bool.not_true,Cq0,Cq1];rw [ha];dsimp only [Bool.not_true,Cq0,Cq1];rw [hE];unfold Kh;dsimp only [J9];rw [Zd3 hd]
 rfl
theorem WO.panic {v:Value} {E:Eff} (hg:Yi ops o fr) (ha:XG X h (Y5 fr) o=some (.panic v,E)) (hE:E.apply wm h=some h1)
 (k:Q (.panic v) ⟨fr,ds,h1,none⟩):WO X n wm rd ops (o::l) ⟨fr,ds,h,none⟩ Q:=by
 refine WO.panics (Zab X) ?_ k;unfold Uv;rw [hg.1,hg.2];dsimp only [Bool.not_true,Cq0,Cq1];rw [ha];dsimp only [Bool.not_true,Cq0,Cq1];rw [hE]
 rfl
theorem WO.off (hg:Zeb ops o fr) (hd:Zhg n o.dst=true) (k:WO X n wm rd ops l ⟨QZ fr o.dst undef,ds,h,none⟩ Q):WO X n wm rd ops (o::l) ⟨fr,ds,h,none⟩ Q:=by
 refine WO.cons (Zab X) ?_ k;unfold Uv;rw [hg.1,hg.2];dsimp only [Bool.not_true,Cq0,Cq1];rw [Zd3 hd]
 rfl
open Classical in
def JA (j:Qg) (r:YF):Qg ->Option YF:=fun j'=>if j'=j then some r else none
theorem Xg {j:Qg} {r:YF} (h:Yu X j r):∀ j' r',JA j r j'=some r' ->Yu X j' r':=by
 intro j' r' e;unfold JA at e;split at e
 ·rename_i hj;cases e;rw [hj];exact h
 ·cases e
theorem Xh (j:Qg) (r:YF):JA j r j=some r:=by unfold JA;rw [if_pos rfl]
theorem WO.call {f:FuncId} {args:Array Value} {E:Eff} {v:Value} {h2:H} (hg:Yi ops o fr) (hd:Zhg n o.dst=true) (ha:XG X h (Y5 fr) o=some (.enter f args,E)) (hE:E.apply wm h=some h1)
 (hc:Yu X (.call f args wm h1) (.fin (.ret v) h2)) (k:WO X n wm rd ops l ⟨QZ fr o.dst v,ds,h2,none⟩ Q):WO X n wm rd ops (o::l) ⟨fr,ds,h,none⟩ Q:=by
 refine WO.cons (Xg hc) ?_ k;unfold Uv;rw [hg.1,hg.2];dsimp only [Bool.not_true,Cq0,Cq1];rw [ha];dsimp only [Bool.not_true,Cq0,Cq1];rw [hE];unfold Kh;dsimp only [J9,Cq0];rw [Xh];dsimp only;rw [Zd3 hd]
 rfl
theorem WO.Zhm {f:FuncId} {args:Array Value} {E:Eff} {v:Value} {h2:H} (hg:Yi ops o fr) (ha:XG X h (Y5 fr) o=some (.enter f args,E)) (hE:E.apply wm h=some h1)
 (hc:Yu X (.call f args wm h1) (.fin (.Yn v) h2)) (k:Q (.panic v) ⟨fr,ds,h2,none⟩):WO X n wm rd ops (o::l) ⟨fr,ds,h,none⟩ Q:=by
 refine WO.panics (Xg hc) ?_ k;unfold Uv;rw [hg.1,hg.2];dsimp only [Bool.not_true,Cq0,Cq1];rw [ha];dsimp only [Bool.not_true,Cq0,Cq1];rw [hE];unfold Kh;dsimp only [J9,Cq0];rw [Xh]
 rfl
end Go.Yj
end
end
section
noncomputable section
namespace Go.Yj
variable {X:Ctx} {P:Program} {h:H} {fr:Fr} {ev:Operand ->Option Value} {d:Option Tmp} {ty:TypeId} {p:String} {af:Array Edge} {g:Option (Nat×Bool)}
theorem at_set (fr:Fr) (d t:Nat) (v:Value):Fr.at (Tr.set fr d v) t=if t=d then v else Fr.at fr t:=by
 unfold Fr.at;rw [Tr.QI];by_cases h:t=d <;> simp [h]
theorem ZF (i:Nat) (fr:Fr):XQ [] i fr=fr:=rfl
theorem Zx (v:Value) (vs:List Value) (i:Nat) (fr:Fr):XQ (v::vs) i fr=XQ vs (i + 1) (Tr.set fr i v):=rfl
theorem ZfW (fr:Fr) (t:Nat):Y5 fr (.tmp t)=bif QC (fr.at t) then none else some (fr.at t):=rfl
theorem ZqQ (fr:Fr) (v:Value):Y5 fr (.const v)=bif plain v then some v else none:=rfl
theorem ZmC (fr:Fr) (f:FuncId):Y5 fr (.func f)=some (.func (.func f) #[] #[]):=rfl
theorem Zub (x:Operand):XG X h ev ⟨d,.move x,ty,p,af,g⟩=vN (ev x):=rfl
theorem Zof (x:Operand):XG X h ev ⟨d,.assign x,ty,p,af,g⟩=vN (ev x):=rfl
theorem ZqK (op:BinOp) (t:TypeId) (x y:Operand) (yt:TypeId):XG X h ev ⟨d,.binOp op t x y yt,ty,p,af,g⟩=match ev x,ev y with
 | some a,some b=>Ui X.P op t x y a b
 | _,_=>none:=rfl
theorem Zd5 (c a b:Operand):XG X h ev ⟨d,.pick c a b,ty,p,af,g⟩=match ev c with
 | some (.bool true)=>vN (ev a)
 | some (.bool false)=>vN (ev b)
 | _=>none:=rfl
theorem Zua (op:UnOp) (t:TypeId) (x:Operand):XG X h ev ⟨d,.unOp op t x,ty,p,af,g⟩=match ev x with
 | some a=>bif plain a then pN (K8 X.P (Op.unary op a)) else none
 | none=>none:=rfl
theorem Zmx (t:TypeId) (x:Operand):XG X h ev ⟨d,.load t x,ty,p,af,g⟩=match ev x with
 | some v=>vN (WU X.P h t v)
 | none=>none:=rfl
theorem ZqH (t:TypeId) (a x:Operand):XG X h ev ⟨d,.store t a x,ty,p,af,g⟩=match ev a,ev x with
 | some a,some x=>sE (ZeX X.P h t a x)
 | _,_=>none:=rfl
theorem ZwB (t:TypeId) (x:Operand):XG X h ev ⟨d,.box t x,ty,p,af,g⟩=match ev x with
 | some v=>some (.val (QS h),.new (.row v.cells.toList true 0))
 | none=>none:=rfl
theorem ZqL (t:TypeId):XG X h ev ⟨d,.alloc t,ty,p,af,g⟩=match Y3 X.P t with
 | some z=>some (.val (QS h),.new (.row z.cells.toList true 0))
 | none=>none:=rfl
theorem Zh7 (t:TypeId) (x:Operand) (f:Nat):XG X h ev ⟨d,.fieldAddr t x f,ty,p,af,g⟩=match ev x with
 | some v=>vN (ZbA X.P t v f)
 | none=>none:=rfl
theorem Zh6 (t:TypeId) (x i:Operand):XG X h ev ⟨d,.indexAddr t x i,ty,p,af,g⟩=match ev x,ev i with
 | some x,some i=>vN (ZcT X.P t x i)
 | _,_=>none:=rfl
theorem Zmy (x:Operand) (k:Nat):XG X h ev ⟨d,.extract x k,ty,p,af,g⟩=match ev x with
 | some x=>vN (ZbB x k)
 | none=>none:=rfl
theorem UN (b:Builtin) (xs:Array Operand) (ts:Array TypeId):XG X h ev ⟨d,.call {callee:= .builtin b,args:=xs,argTypes:=ts},ty,p,af,g⟩=match evs ev xs.toList with
 | some args=>UO X.P h b ts ty args
 | none=>none:=by
 show(match Callee.builtin b,evs ev xs.toList with
  | .builtin b,some args=>UO X.P h b ts ty args
  | .value f,some args=>match ev f with
    | some f=>Ux X h f args
    | none=>none
  | .invoke r name,some args=>match ev r with
    | some r=>Zaq X r name args
    | none=>none
  | _,_=>none)=_
 cases evs ev xs.toList <;> rfl
theorem Zb7 (f:Operand) (xs:Array Operand) (ts:Array TypeId):XG X h ev ⟨d,.call {callee:= .value f,args:=xs,argTypes:=ts},ty,p,af,g⟩=match evs ev xs.toList with
 | some args=>match ev f with
   | some f=>Ux X h f args
   | none=>none
 | none=>none:=by
 show(match Callee.value f,evs ev xs.toList with
  | .builtin b,some args=>UO X.P h b ts ty args
  | .value f,some args=>match ev f with
    | some f=>Ux X h f args
    | none=>none
  | .invoke r name,some args=>match ev r with
    | some r=>Zaq X r name args
    | none=>none
  | _,_=>none)=_
 cases evs ev xs.toList <;> rfl
theorem Zm:evs ev []=some []:=rfl
theorem Zf {x:Operand} {xs:List Operand} {v:Value} {vs:List Value} (h1:ev x=some v) (h2:evs ev xs=some vs):evs ev (x::xs)=some (v::vs):=by
 show(match ev x,evs ev xs with | some v,some vs=>some (v::vs) | _,_=>none)=_;rw [h1,h2]
theorem KX {op:BinOp} {t:TypeId} {x y:Operand} {k:IntKind} {a b:Int} {c:Bool} (ho:Op.intCmp op a b=pure (.bool c)) (h1:op= .eql∨op= .neq∨op= .lss∨op= .leq∨op= .gtr∨op= .geq):Ui P op t x y (.int k a) (.int k b)=some (.val (.bool c),.none):=by
 have hp:(plain (.int k a) && plain (.int k b))=true:=rfl;unfold Ui;rw [hp,Cq1]
 have hb:binOp op t (.int k a) (.int k b)=pure (.bool c):=by
  rcases h1 with rfl | rfl | rfl | rfl | rfl | rfl <;> simp [binOp,ho]
 have hg:(do eqGuard op t x y (.int k a) (.int k b);binOp op t (.int k a) (.int k b):Sem Value)=pure (.bool c):=by
  rw [hb];rcases h1 with rfl | rfl | rfl | rfl | rfl | rfl <;> rfl
 rw [hg];rfl
theorem ZL {t:TypeId} {x y:Operand} {k:IntKind} {a b:Int}:Ui P .eql t x y (.int k a) (.int k b)=some (.val (.bool (a==b)),.none):=KX rfl (by simp)
theorem KW {t:TypeId} {x y:Operand} {k:IntKind} {a b:Int}:Ui P .neq t x y (.int k a) (.int k b)=some (.val (.bool (a !=b)),.none):=KX rfl (by simp)
theorem Z7 {t:TypeId} {x y:Operand} {k:IntKind} {a b:Int}:Ui P .lss t x y (.int k a) (.int k b)=some (.val (.bool (decide (a < b))),.none):=KX rfl (by simp)
theorem XI {t:TypeId} {x y:Operand} {k:IntKind} {a b:Int}:Ui P .leq t x y (.int k a) (.int k b)=some (.val (.bool (decide (a <=b))),.none):=KX rfl (by simp)
theorem QU {t:TypeId} {x y:Operand} {k:IntKind} {a b:Int}:Ui P .gtr t x y (.int k a) (.int k b)=some (.val (.bool (decide (a > b))),.none):=KX rfl (by simp)
theorem QV {t:TypeId} {x y:Operand} {k:IntKind} {a b:Int}:Ui P .geq t x y (.int k a) (.int k b)=some (.val (.bool (decide (a >=b))),.none):=KX rfl (by simp)
theorem Zoo {op:BinOp} {t:TypeId} {x y:Operand} {k:IntKind} {a b c:Int} (h1:op= .add∧c=a + b∨op= .sub∧c=a - b∨op= .mul∧c=a * b):Ui P op t x y (.int k a) (.int k b)=some (.val (.int k (k.wrap c)),.none):=by
 have hp:(plain (.int k a) && plain (.int k b))=true:=rfl;unfold Ui;rw [hp,Cq1]
 have hb:binOp op t (.int k a) (.int k b)=pure (.int k (k.wrap c)):=by
  rcases h1 with⟨rfl,rfl⟩ | ⟨rfl,rfl⟩ | ⟨rfl,rfl⟩ <;> simp [binOp,Op.intArith]
 have hg:(do eqGuard op t x y (.int k a) (.int k b);binOp op t (.int k a) (.int k b):Sem Value)=pure (.int k (k.wrap c)):=by
  rw [hb];rcases h1 with⟨rfl,rfl⟩ | ⟨rfl,rfl⟩ | ⟨rfl,rfl⟩ <;> rfl
 rw [hg];rfl
end Go.Yj
end
end
section
noncomputable section
namespace Go.Yj
variable {X:Ctx} {n wm:Nat} {rd:Option Nat} {s:Fs} {Q:XX ->Fs ->Prop}
theorem Zh.Zv {b:Code} (h:WC X n wm rd b s Q):Zh X n wm rd b Q .normal s:= ⟨h⟩
theorem Zh.ret {b:Code} (h:Q .ret s):Zh X n wm rd b Q .ret s:= ⟨h⟩
theorem Zh.exit {b:Code} {id:Nat} (h:Q (.exit id) s):Zh X n wm rd b Q (.exit id) s:= ⟨h⟩
theorem Zh.panic {b:Code} {v:Value} (h:Q (.panic v) s):Zh X n wm rd b Q (.panic v) s:= ⟨h⟩
theorem ZT.Zv {b:Code} (h:WL X n wm rd b s Q):ZT X n wm rd b Q .normal s:= ⟨h⟩
theorem ZT.ret {b:Code} (h:Q .ret s):ZT X n wm rd b Q .ret s:= ⟨h⟩
theorem ZT.exit {b:Code} {id:Nat} (h:Q (.exit id) s):ZT X n wm rd b Q (.exit id) s:= ⟨h⟩
theorem ZT.panic {b:Code} {v:Value} (h:Q (.panic v) s):ZT X n wm rd b Q (.panic v) s:= ⟨h⟩
theorem ZK.Zv {id:Nat} (h:Q .normal s):ZK id Q .normal s:= ⟨h⟩
theorem ZK.ret {id:Nat} (h:Q .ret s):ZK id Q .ret s:= ⟨h⟩
theorem ZK.panic {id:Nat} {v:Value} (h:Q (.panic v) s):ZK id Q (.panic v) s:= ⟨h⟩
theorem ZK.here {id:Nat} (h:Q .normal s):ZK id Q (.exit id) s:= ⟨by show if _ then _ else _;rw [if_pos rfl];exact h⟩
theorem WF.begin {f:FuncId} {fn:Func} {c:Code} {args:List Value} {h:H} {n:Nat} {R:Uo ->H ->Prop} (hf:X.fns.get f=some fn) (hb:fn.body=some c) (hnt:fn.ntmps=n) (hn:args.length <=n)
 (k:WC X n wm none c ⟨XQ args 0 .nil,[],h,none⟩ (YT X fn R)):WF X f args.toArray wm h R:=by
 subst hnt;exact WF.enter hf hb hn k
variable {ops:Array Oper} {l:List Oper} {fr:Fr} {ds:List Deferred} {h h1:H} {d:Nat} {op:Op} {ty:TypeId} {p:String} {af:Array Edge} {g:Option (Nat×Bool)}
theorem WO.v {v:Value} {E:Eff} (hg:Yi ops ⟨some d,op,ty,p,af,g⟩ fr) (hd:Nat.blt d n=true) (ha:XG X h (Y5 fr) ⟨some d,op,ty,p,af,g⟩=some (.val v,E)) (hE:E.apply wm h=some h1)
 (k:WO X n wm rd ops l ⟨Tr.set fr d v,ds,h1,none⟩ Q):WO X n wm rd ops (⟨some d,op,ty,p,af,g⟩::l) ⟨fr,ds,h,none⟩ Q:=WO.val hg hd ha hE k
theorem WO.u {E:Eff} (hg:Yi ops ⟨none,op,ty,p,af,g⟩ fr) (ha:XG X h (Y5 fr) ⟨none,op,ty,p,af,g⟩=some (.skip,E)) (hE:E.apply wm h=some h1)
 (k:WO X n wm rd ops l ⟨fr,ds,h1,none⟩ Q):WO X n wm rd ops (⟨none,op,ty,p,af,g⟩::l) ⟨fr,ds,h,none⟩ Q:=WO.unit hg rfl ha hE k
theorem WO.o (hg:Zeb ops ⟨some d,op,ty,p,af,g⟩ fr) (hd:Nat.blt d n=true) (k:WO X n wm rd ops l ⟨Tr.set fr d undef,ds,h,none⟩ Q):WO X n wm rd ops (⟨some d,op,ty,p,af,g⟩::l) ⟨fr,ds,h,none⟩ Q:=WO.off hg hd k
theorem WC.Zpx {c:Operand} {a b:Code} {t:Bool} (hc:Y5 s.fr c=some (.bool t)) (ht:t=true) (k:WC X n wm rd a s Q):WC X n wm rd (.cond c a b) s Q:=WC.cond hc (fun _=>k) fun e=>by rw [ht] at e;cases e
theorem WC.ZiI {c:Operand} {a b:Code} {t:Bool} (hc:Y5 s.fr c=some (.bool t)) (ht:t=false) (k:WC X n wm rd b s Q):WC X n wm rd (.cond c a b) s Q:=WC.cond hc (fun e=>by rw [ht] at e;cases e) fun _=>k
theorem Zuk {f:FuncId} {fn:Func} {vs:List Value} (hf:X.fns.get f=some fn):Ux X h (.func (.func f) #[] #[]) vs=some (.enter f vs.toArray,.none):=by
 unfold Ux;simp [hf]
structure Slc (h:H) (a:Option Addr) (len sz:Nat) (cells:List Value):Prop where
 ZLW:cells.length=len * sz
 mem:len=0∨∃ i o cs own z,a=some ⟨i,o,none⟩∧h.at i= .row cs own z∧o + len * sz <=cs.length∧(cs.drop o).take (len * sz)=cells
structure Grow (h h':H):Prop where
 size:h.size <=h'.size
 keep:∀ i,i < h.size ->h'.at i=h.at i
theorem Grow.refl (h:H):Grow h h:= ⟨Nat.le_refl _,fun _ _=>rfl⟩
theorem Grow.trans {a b c:H} (x:Grow a b) (y:Grow b c):Grow a c:= ⟨Nat.le_trans x.size y.size,fun i hi=>(y.keep i (Nat.lt_of_lt_of_le hi x.size)).trans (x.keep i hi)⟩
theorem Grow.push {a b:H} (x:Grow a b) (A:YN):Grow a (b.push A):= ⟨Nat.le_succ_of_le x.size,fun i hi=>by rw [H.XR,if_neg (by have:=x.size;omega)];exact x.keep i hi⟩
theorem JN {h:H} {i:Nat} {A:YN} (e:h.at i=A) (hl:A.live=true):i < h.size:=by
 rcases Nat.lt_or_ge i h.size with z | z
 ·exact z
 ·rw [H.KU z] at e;subst e;cases hl
theorem Slc.load {P:Program} {h:H} {i o:Nat} {cs:List Value} {own:Bool} {z:Nat} {t:TypeId} {v:Value} (hr:h.at i= .row cs own z) (ht:YL P t=some false) (hc:cs[o]? =some v):WU P h t (.pointer (some ⟨i,o,none⟩))=some v:=by
 unfold WU;dsimp only;rw [hr];dsimp only;rw [ht];dsimp only;exact hc
theorem Slc.addr {P:Program} {i o len cap k sz:Nat} {t e:TypeId} (hu:P.underlying t=some (.slice e)) (hs:YG P e=some sz) (hk:k < len):ZcT P t (.slice (some ⟨i,o,none⟩) len cap) (.int .i64 (k:Int))=some (.pointer (some ⟨i,o + k * sz,none⟩)):=by
 have:ZcT P t (.slice (some ⟨i,o,none⟩) len cap) (.int .i64 (Int.ofNat k))=some (.pointer (some ⟨i,o + k * sz,none⟩)):=by
  unfold ZcT;rw [hu];dsimp only;rw [hs];dsimp only;have:Nat.blt k len=true:=by rw [Nat.blt_eq];exact hk
  rw [this];rfl
 exact this
section
variable {ops:Array Oper} {l:List Oper} {fr:Fr} {ds:List Deferred} {h:H} {d:Nat} {ty:TypeId} {p:String} {af:Array Edge} {g:Option (Nat×Bool)}
end
end Go.Yj
end
end
section
noncomputable section
namespace Go.Yj
variable {X:Ctx} {n wm:Nat} {rd:Option Nat} {Q:XX ->Fs ->Prop} {ops:Array Oper} {l:List Oper} {fr:Fr} {ds:List Deferred} {h:H} {d:Nat} {ty:TypeId} {p:String} {af:Array Edge} {g:Option (Nat×Bool)}
theorem J5 (h:H) (A:YN):(h.push A).at h.size=A:=by rw [H.XR,if_pos rfl]
theorem Ki {h:H} {i:Nat} (hi:i < h.size) (A:YN):(h.push A).at i=h.at i:=by rw [H.XR,if_neg (by omega)]
theorem Xj {h:H} {i:Nat} (hi:i < h.size) (A:YN):(h.put i A).at i=A:=by rw [H.Xq,if_pos ⟨rfl,hi⟩]
theorem Jt {h:H} {i j:Nat} (hj:j ≠ i) (A:YN):(h.put i A).at j=h.at j:=by rw [H.Xq,if_neg fun z=>hj z.1]
def ZY (P:Program) (t:TypeId) (f off:Nat):Prop:=∃ fs x m,P.underlying t=some (.struct fs)∧fs[f]? =some x∧YG P x.type=some (m + 1)∧x.offset=off
theorem ZY.of {P:Program} {t:TypeId} {f off:Nat} (h:ZbA P t (.pointer (some ⟨0,0,none⟩)) f=some (.pointer (some ⟨0,off,none⟩))):ZY P t f off:=by
 unfold ZbA at h;cases e:P.underlying t with
 | none=>rw [e] at h;cases h
 | some u=>
   rw [e] at h;cases u with
   | struct fs=>
     dsimp only at h;cases ex:fs[f]? with
     | none=>rw [ex] at h;cases h
     | some x=>
       rw [ex] at h;dsimp only at h;cases em:YG P x.type with
       | none=>rw [em] at h;cases h
       | some m=>
         rw [em] at h;cases m with
         | zero=>cases h
         | succ m=>cases h;exact⟨fs,x,m,e,ex,em,(Nat.zero_add _).symm⟩
   | _=>cases h
theorem ZY.addr {P:Program} {t:TypeId} {f off:Nat} (h:ZY P t f off) (i o:Nat):ZbA P t (.pointer (some ⟨i,o,none⟩)) f=some (.pointer (some ⟨i,o + off,none⟩)):=by
 obtain⟨fs,x,m,h1,h2,h3,rfl⟩:=h;unfold ZbA;rw [h1];dsimp only;rw [h2];dsimp only;rw [h3]
def Km (P:Program) (t:TypeId) (zs:List Value) (pl:List (Nat×Nat)):Prop:=∃ z fs,Y3 P t=some z∧z.cells.toList=zs∧P.underlying t=some (.struct fs)∧ZbN P fs.toList=some pl
def ZgU (place:Nat ->Option (Nat×Nat)) (len:Nat):List (Nat×Value) ->Bool
 | []=>true
 | (i,v)::rest=>(match place i with
   | some (off,size)=>Nat.beq v.cells.toList.length size && Nat.ble (off + v.cells.toList.length) len
   | none=>false) && ZgU place len rest
def ZlW (off:Nat ->Nat):List Value ->List (Nat×Value) ->List Value
 | cs,[]=>cs
 | cs,(i,v)::rest=>ZlW off (splice cs (off i) v.cells.toList) rest
theorem ZmB {place:Nat ->Option (Nat×Nat)} {off:Nat ->Nat} (ho:∀ i p,place i=some p ->off i=p.1):∀ (ps:List (Nat×Value)) (cs:List Value),ZgU place cs.length ps=true ->Zbz place cs ps=some (ZlW off cs ps):=by
 intro ps
 induction ps with
 | nil=>intro cs _;rfl
 | cons q ps ih=>
   obtain⟨i,v⟩:=q;intro cs h;simp only [ZgU,Ba0] at h;obtain⟨h1,h2⟩:=h;unfold Zbz ZlW;cases e:place i with
   | none=>rw [e] at h1;cases h1
   | some q=>
     obtain⟨of,sz⟩:=q;rw [e] at h1;dsimp only at h1 ⊢;rw [h1,Cq1,ho i _ e]
     have hl:(splice cs of v.cells.toList).length=cs.length:=by
      rw [Ba0] at h1;have:=Nl0 h1.2;simp only [splice,List.length_append,List.length_take,List.length_drop];omega
     exact ih _ (by rw [hl];exact h2)
theorem Y6 {ev:Operand ->Option Value}:evp ev []=some []:=rfl
theorem Ym {ev:Operand ->Option Value} {i:Nat} {x:Operand} {xs:List (Nat×Operand)} {v:Value} {vs:List (Nat×Value)} (h1:ev x=some v) (h2:evp ev xs=some vs):evp ev ((i,x)::xs)=some ((i,v)::vs):=by
 show(match ev x,evp ev xs with | some v,some vs=>some ((i,v)::vs) | _,_=>none)=_;rw [h1,h2]
theorem ZqN {P:Program} {h:H} {t:TypeId} {b o z sz:Nat} {cs vs:List Value} {own:Bool} (ht:YL P t=some true) (hs:YG P t=some sz) (hr:h.at b= .row cs own z) (hl:o + sz <=cs.length) (hv:(cs.drop o).take sz=vs):
 WU P h t (.pointer (some ⟨b,o,none⟩))=some (.agg vs.toArray):=by
 unfold WU;dsimp only;rw [hr];dsimp only;rw [ht,hs];dsimp only;have hb:Nat.ble (o + sz) cs.length=true:=Nm0 hl;rw [hb,hv];rfl
end Go.Yj
end
end
section
noncomputable section
namespace Go.Yj
variable {X:Ctx} {n wm:Nat} {rd:Option Nat} {Q:XX ->Fs ->Prop} {ops:Array Oper} {l:List Oper} {fr:Fr} {ds:List Deferred} {h:H} {d:Option Tmp} {ty:TypeId} {p:String} {af:Array Edge} {g:Option (Nat×Bool)} {ev:Operand ->Option Value}
theorem Zb {x:Operand} {v:Value} (hx:ev x=some v):XG X h ev ⟨d,.move x,ty,p,af,g⟩=some (.val v,.none):=by rw [Zub,hx];rfl
theorem Zc {x:Operand} {v:Value} (hx:ev x=some v):XG X h ev ⟨d,.assign x,ty,p,af,g⟩=some (.val v,.none):=by rw [Zof,hx];rfl
theorem Zt {x:Operand} {t:TypeId} {f off b o:Nat} (hf:ZY X.P t f off) (hx:ev x=some (.pointer (some ⟨b,o,none⟩))):XG X h ev ⟨d,.fieldAddr t x f,ty,p,af,g⟩=some (.val (.pointer (some ⟨b,o + off,none⟩)),.none):=by
 rw [Zh7,hx];dsimp only;rw [hf.addr];rfl
theorem YM {x:Operand} {a:Addr} (hx:ev x=some (.pointer (some a))):XG X h ev ⟨d,.nilCheck x,ty,p,af,g⟩=some (.val (.pointer (some a)),.none):=by
 show(match ev x with
  | some (.pointer (some a))=>some (AN.val (.pointer (some a)),Eff.none)
  | _=>none)=_
 rw [hx]
theorem Zt1 {x:Operand} {t:TypeId} {b o z:Nat} {cs:List Value} {own:Bool} {v:Value} (ht:YL X.P t=some false) (hx:ev x=some (.pointer (some ⟨b,o,none⟩))) (hr:h.at b= .row cs own z) (hc:cs[o]? =some v):
 XG X h ev ⟨d,.load t x,ty,p,af,g⟩=some (.val v,.none):=by rw [Zmx,hx];dsimp only;rw [Slc.load hr ht hc];rfl
theorem Zt0 {x:Operand} {t:TypeId} {b o z sz:Nat} {cs vs:List Value} {own:Bool} (ht:YL X.P t=some true) (hs:YG X.P t=some sz) (hx:ev x=some (.pointer (some ⟨b,o,none⟩))) (hr:h.at b= .row cs own z) (hl:o + sz <=cs.length) (hv:(cs.drop o).take sz=vs):
 XG X h ev ⟨d,.load t x,ty,p,af,g⟩=some (.val (.agg vs.toArray),.none):=by rw [Zmx,hx];dsimp only;rw [ZqN ht hs hr hl hv];rfl
theorem ZAN {x:Operand} {t e:TypeId} {a:Option Addr} {m c:Nat} (hu:X.P.underlying t=some (.slice e)) (hx:ev x=some (.slice a m c)):
 XG X h ev ⟨d,.call {callee:= .builtin .len,args:=#[x],argTypes:=#[t]},ty,p,af,g⟩=some (.val (.int .i64 m),.none):=by
 have he:evs ev [x]=some [.slice a m c]:=Zf hx Zm;rw [UN]
 show(match evs ev [x] with
  | some args=>UO X.P h .len #[t] ty args
  | none=>none)=_
 rw [he];show vN (Zog X.P h t (.slice a m c))=_;unfold Zog;rw [hu];rfl
theorem ZAO {x y:Operand} {t e:TypeId} {sz b o m c k:Nat} {iv:Int} (hu:X.P.underlying t=some (.slice e)) (hs:YG X.P e=some sz) (hx:ev x=some (.slice (some ⟨b,o,none⟩) m c)) (hy:ev y=some (.int .i64 iv)) (hi:iv= (k:Int)) (hk:k < m):
 XG X h ev ⟨d,.indexAddr t x y,ty,p,af,g⟩=some (.val (.pointer (some ⟨b,o + k * sz,none⟩)),.none):=by
 subst hi;rw [Zh6,hx,hy];dsimp only;rw [Slc.addr hu hs hk];rfl
theorem YV {x:Operand} {t:TypeId} {b:Bool} (hx:ev x=some (.bool b)):XG X h ev ⟨d,.unOp .not t x,ty,p,af,g⟩=some (.val (.bool (!b)),.none):=by rw [Zua,hx];rfl
theorem Zn {op:BinOp} {x y:Operand} {t yt:TypeId} {a b v:Value} (hx:ev x=some a) (hy:ev y=some b) (hv:Ui X.P op t x y a b=some (.val v,.none)):XG X h ev ⟨d,.binOp op t x y yt,ty,p,af,g⟩=some (.val v,.none):=by
 rw [ZqK,hx,hy];exact hv
theorem Ye {c x y:Operand} {b z:Bool} (hc:ev c=some (.bool b)) (hx:ev x=some (cond b (.bool z) undef)) (hy:ev y=some (.bool false)):XG X h ev ⟨d,.pick c x y,ty,p,af,g⟩=some (.val (.bool (b && z)),.none):=by
 rw [Zd5,hc,hx,hy];cases b <;> rfl
theorem Ja {c x y:Operand} {b z:Bool} (hc:ev c=some (.bool b)) (hx:ev x=some (.bool true)) (hy:ev y=some (cond (!b) (.bool z) undef)):XG X h ev ⟨d,.pick c x y,ty,p,af,g⟩=some (.val (.bool (b || z)),.none):=by
 rw [Zd5,hc,hx,hy];cases b <;> rfl
theorem ZE {x:Operand} {k:Nat} {vs:List Value} {v:Value} (hx:ev x=some (.tuple vs.toArray)) (hv:vs[k]? =some v):XG X h ev ⟨d,.extract x k,ty,p,af,g⟩=some (.val v,.none):=by
 rw [Zmy,hx];dsimp only;unfold ZbB;dsimp only;rw [hv];rfl
def Ze (ops:Array Oper) (o:Oper) (fr:Fr) (c:Bool):Prop:=okG ops.toList o fr=true∧YR ops.toList o fr=c
theorem Ze.yes {ops:Array Oper} {o:Oper} {fr:Fr} {j:Nat} {b:Bool} {og:Oper} {dd:Tmp} (h0:gk o=some (j,true)) (hj:ops.toList[j]? =some og) (hd:og.dst=some dd) (hv:fr.at dd= .bool b):Ze ops o fr b:=by
 obtain⟨h,hsk⟩:=ZfN h0 fr;unfold Ze okG YR U2;rw [h];dsimp only;rw [hj];dsimp only;rw [hd];dsimp only;rw [hv,hsk];cases b <;> exact⟨rfl,rfl⟩
theorem Ze.no {ops:Array Oper} {o:Oper} {fr:Fr} {j:Nat} {b:Bool} {og:Oper} {dd:Tmp} (h0:gk o=some (j,false)) (hj:ops.toList[j]? =some og) (hd:og.dst=some dd) (hv:fr.at dd= .bool b):Ze ops o fr (!b):=by
 obtain⟨h,hsk⟩:=ZfN h0 fr;unfold Ze okG YR U2;rw [h];dsimp only;rw [hj];dsimp only;rw [hd];dsimp only;rw [hv,hsk];cases b <;> exact⟨rfl,rfl⟩
theorem Ze.ZaK {ops:Array Oper} {o:Oper} {fr:Fr} {j:Nat} {a b:Bool} {og:Oper} {dd:Tmp} (h0:gk o=some (j,true)) (hj:ops.toList[j]? =some og) (hd:og.dst=some dd) (hv:fr.at dd=cond a (.bool b) undef):Ze ops o fr (a && b):=by
 obtain⟨h,hsk⟩:=ZfN h0 fr;unfold Ze okG YR U2;rw [h];dsimp only;rw [hj];dsimp only;rw [hd];dsimp only;rw [hv,hsk];cases a <;> cases b <;> exact⟨rfl,rfl⟩
theorem Ze.no2 {ops:Array Oper} {o:Oper} {fr:Fr} {j:Nat} {a b:Bool} {og:Oper} {dd:Tmp} (h0:gk o=some (j,false)) (hj:ops.toList[j]? =some og) (hd:og.dst=some dd) (hv:fr.at dd=cond a (.bool b) undef):Ze ops o fr (a && !b):=by
 obtain⟨h,hsk⟩:=ZfN h0 fr;unfold Ze okG YR U2;rw [h];dsimp only;rw [hj];dsimp only;rw [hd];dsimp only;rw [hv,hsk];cases a <;> cases b <;> exact⟨rfl,rfl⟩
theorem ZoC {op:Op} {fr:Fr} {t:Tmp} {xs:Array Operand} {ts:Array TypeId} (hop:op= .call {callee:= .value (.tmp t),args:=xs,argTypes:=ts}) (hv:Zfa (fr.at t)=true):Zid op fr=true:=by subst hop;exact hv
theorem ZoD {fr:Fr} {t:Tmp} {v:Value} (p:fr.at t=v) (h:Zfa v=true):Zfa (fr.at t)=true:=by rw [p];exact h
theorem ZoE {c:Bool} {v:Value} (h:Zfa v=true):Zfa (cond c v undef)=true:=by cases c;rfl;exact h
theorem Ze.ZuP {ops:Array Oper} {o:Oper} {fr:Fr} {j:Nat} {b:Bool} {og:Oper} {dd:Tmp} (h:o.guard=some (j,true)) (hj:ops.toList[j]? =some og) (hd:og.dst=some dd) (hv:fr.at dd= .bool b) (hsk:Zid o.op fr=true):Ze ops o fr b:=by
 unfold Ze okG YR U2;rw [h];dsimp only;rw [hj];dsimp only;rw [hd];dsimp only;rw [hv,hsk];cases b <;> exact⟨rfl,rfl⟩
theorem WO.gv {d:Nat} {op:Op} {c:Bool} {v:Value} (hg:Ze ops ⟨some d,op,ty,p,af,g⟩ fr c) (hd:Nat.blt d n=true) (ha:c=true ->XG X h (Y5 fr) ⟨some d,op,ty,p,af,g⟩=some (.val v,.none))
 (k:WO X n wm rd ops l ⟨Tr.set fr d (cond c v undef),ds,h,none⟩ Q):WO X n wm rd ops (⟨some d,op,ty,p,af,g⟩::l) ⟨fr,ds,h,none⟩ Q:=by
 cases c
 ·exact WO.o hg hd k
 ·exact WO.v hg hd (ha rfl) rfl k
end Go.Yj
end
end
section
noncomputable section
namespace Go.Yj
variable {X:Ctx} {n wm:Nat} {rd:Option Nat} {ops:Array Oper} {l:List Oper} {fr:Fr} {ds:List Deferred} {h:H} {ty:TypeId} {p:String} {af:Array Edge} {g:Option (Nat×Bool)}
variable {Q:Fr ->Prop}
theorem Zuv (wm:Nat):KZ false wm none=fun _=>False:=by funext x;unfold KZ;simp
theorem ZbQ:∀ (j:Qg) (r:YF),(fun _:Qg=>(none:Option YF)) j=some r ->QM j r:=fun _ _ h=>by cases h
end Go.Yj
end
end
