/- Does Part 7 of the proof. -/
import Derived.ProofKit
import Derived.Test.YtekpjgmhkkjhgaaDa6
set_option linter.all false
section
noncomputable section
namespace Go.Proofs.Ytekpjgmhkkjhgaa
open Go.Yy Go.RowKit Go.WideShapes Go.ChangeShapes
def isTrue (r:Option YO):Bool:=
 match r with
 | some (.fin (.ret (.bool true)) _)=>true
 | _=>false
theorem Zmy {r:Option YO} (h:isTrue r=true):∃ h',r=some (.fin (.ret (.bool true)) h'):=by
 unfold isTrue at h;split at h
 ·exact⟨_,rfl⟩
 ·cases h
theorem mixed:Try.prog.follows .mixedOrders=true:=by kernel_rfl
def Zzm:Ren:= ⟨fun _=>none,fun _=>(0,0)⟩
theorem ZnH (X:Ctx) (hX:X.P=Try.prog) {k:Nat} {f:FuncId} (h:isTrue (ev (cfg X fun _=>false) k (.call f #[] 0 ⟨.nil,0⟩))=true) (w:World):
 Calls Try.prog f #[] w fun e w'=>e= .returned (.bool true)∧Below w.heap.size w w':=by
 obtain⟨h',e⟩:=Zmy h;have hj:Yv X (.call f #[] 0 ⟨.nil,0⟩) (.fin (.ret (.bool true)) h'):=Zfo (by rw [hX];exact mixed) k _ _ e;have hr:Rel Zzm ⟨.nil,0⟩ w:= ⟨fun _ _ _ e=>(by cases e),fun _ _ _ e=>(by cases e),fun _ _ _ _ _ e=>(by cases e)⟩
 rw [← hX];have:=callsIn_wide.1 (hj Zzm #[] w (Nat.le_refl 0) hr ⟨rfl,fun i v v' e=>by simp at e⟩);refine this.mono fun e w' ⟨ρ',he,_,st⟩=>?_
 refine⟨?_,st.below fun i b d _ e=>by cases e⟩;cases he with
 | ret hv=>cases hv;rfl
section
variable {H:Type} {enc:TypeId×Value ->H} {P:Program}
theorem Zjh {f:Func} {s:ChangeSpec} {apart fresh handsOn again:Bool} {W W':World} {args:Array Value} {v:Value} {ds gs:List (DataW H)} {before pa pv:List MemPlace}
 (hW:DataW.Whole enc P f.params.toList s.vars apart W args.toList ds gs before)
 (hres:∀ (b:Nat) (sp:Nat ->Bool) (hd:Bool),DataW.TrodAll enc P W' b sp hd f.resultTypes.toList (v.resultList f.resultTypes.size) (s.fn H (ds ++ gs)).results [])
 (hargs:∀ sp:Nat ->Bool,(∀ p ∈ before,sp p.block=true) ->DataW.TrodAll enc P W' 0 sp true f.params.toList args.toList (s.fn H (ds ++ gs)).args pa)
 (hvars:∀ sp:Nat ->Bool,(∀ p ∈ before,sp p.block=true) ->DataW.TrodVars enc P W' sp s.vars (s.fn H (ds ++ gs)).vars pv)
 (hps:before=pa ++ pv) (hb:Below W.heap.size W W')
 (hok:∀ (j:Nat) (t:TypeId) (r:Value),f.resultTypes[j]? =some t ->(v.resultList f.resultTypes.size)[j]? =some r ->Value.okWide P W' .any 0 t r):
 s.post enc P f apart fresh handsOn again W args v W':=by
 have hlt:∀ p ∈ before,p.block < W.heap.size:=fun p hp=>hW.lt p hp
 have hold:∀ p ∈ before,(fun b=>decide (b < W.heap.size)) p.block=true:=fun p hp=>by simpa using hlt p hp
 refine⟨ds,gs,before,[],pa,pv,hW,hres _ _ _,hargs _ hold,hvars _ hold,World.keptBut_mono (fun p hp=>⟨hp,?_⟩) (hb.frame (· ∈ before)),fun _=>?_⟩
 ·rw [hps,List.mem_append] at hp;exact Or.inr hp
 ·obtain⟨_,_,_,_,_,hz,hn⟩:=hW;refine⟨hok,_,_,([] ++ pa) ++ pv,⟨[] ++ pa,pv,trodAll_append (hargs _ (fun _ _=>rfl)) (hres _ _ _),hvars _ (fun _ _=>rfl),rfl,?_,?_⟩,?_⟩
  ·intro b off hp;have hin:MemPlace.cell b off ∈ before:=by rw [hps];simpa using hp
   rw [hb.frozen (hlt _ hin)];exact hz b off hin
  ·intro ha;have:=hn ha;rw [hps] at this
   simpa using this
  ·intro p hp _;rw [hps]
   simpa using hp
end
end Go.Proofs.Ytekpjgmhkkjhgaa
end
end
section
noncomputable section
namespace Go.Yy
variable {X:Ctx}
structure WC (X:Ctx) (n wm:Nat) (rd:Option Nat) (c:Code) (s:Fs) (Q:XX ->Fs ->Prop):Prop where
 out:∃ e s',Q e s'∧Yv X (.code c n wm rd s) (.code e s')
structure WL (X:Ctx) (n wm:Nat) (rd:Option Nat) (c:Code) (s:Fs) (Q:XX ->Fs ->Prop):Prop where
 out:∃ e s',Q e s'∧Yv X (.loop c n wm rd s) (.code e s')
structure WF (X:Ctx) (f:FuncId) (args:Array Value) (wm:Nat) (h:H) (Q:Kr ->H ->Prop):Prop where
 out:∃ e h',Q e h'∧Yv X (.call f args wm h) (.fin e h')
def ZHb (X:Ctx) (n wm:Nat) (rd:Option Nat) (ops:Array Oper) (l:List Oper) (s:Fs) (e:XX) (s':Fs):Prop:=
 ∀ (Q:Exit ->Act ->World ->Prop) {ρ:Ren} {F:Fence} {a:Act} {w:World},Inv ρ n s a w ->wm <=s.h.size ->FR' ρ rd F ->(∀ e' a' w',XF wm n ρ s.h w e s' e' a' w' ->Q e' a' w') ->wpListIn F 0 X.P ops Q l a w
structure WO (X:Ctx) (n wm:Nat) (rd:Option Nat) (ops:Array Oper) (l:List Oper) (s:Fs) (Q:XX ->Fs ->Prop):Prop where
 out:∃ e s',Q e s'∧ZHb X n wm rd ops l s e s'
variable {n wm:Nat} {rd:Option Nat} {s:Fs} {Q:XX ->Fs ->Prop}
theorem WC.mono {c:Code} {Q':XX ->Fs ->Prop} (h:WC X n wm rd c s Q) (k:∀ e s',Q e s' ->Q' e s'):WC X n wm rd c s Q':=let⟨e,s',h1,h2⟩:=h;⟨e,s',k e s' h1,h2⟩
theorem WF.mono {f:FuncId} {args:Array Value} {h:H} {Q Q':Kr ->H ->Prop} (h1:WF X f args wm h Q) (k:∀ e s',Q e s' ->Q' e s'):WF X f args wm h Q':=let⟨e,s',h1,h2⟩:=h1;⟨e,s',k e s' h1,h2⟩
def ZG7 (X:Ctx) (n wm:Nat) (rd:Option Nat) (b:Code) (Q:XX ->Fs ->Prop):XX ->Fs ->Prop:=fun e s=>
 match e with
 | .normal=>WC X n wm rd b s Q
 | e=>Q e s
def ZC5 (X:Ctx) (n wm:Nat) (rd:Option Nat) (c:Code) (Q:XX ->Fs ->Prop):XX ->Fs ->Prop:=fun e s=>
 match e with
 | .normal=>WL X n wm rd c s Q
 | e=>Q e s
def Zwl (id:Nat) (Q:XX ->Fs ->Prop):XX ->Fs ->Prop:=fun e s=>
 match e with
 | .exit k=>if k=id then Q .normal s else Q (.exit k) s
 | e=>Q e s
def ZG9 (Q:XX ->Fs ->Prop):XX ->Fs ->Prop:=fun e s=>
 match e with
 | .goto _=>False
 | e=>Q e s
structure QD (X:Ctx) (n wm:Nat) (rd:Option Nat) (b:Code) (Q:XX ->Fs ->Prop) (e:XX) (s:Fs):Prop where
 out:ZG7 X n wm rd b Q e s
structure Yg (X:Ctx) (n wm:Nat) (rd:Option Nat) (b:Code) (Q:XX ->Fs ->Prop) (e:XX) (s:Fs):Prop where
 out:ZC5 X n wm rd b Q e s
structure Wx (id:Nat) (Q:XX ->Fs ->Prop) (e:XX) (s:Fs):Prop where
 out:Zwl id Q e s
structure Zse (Q:XX ->Fs ->Prop) (e:XX) (s:Fs):Prop where
 out:ZG9 Q e s
theorem ExR.ZhN {ρ:Ren} {e:XX} {e':Exit} (he:ExR ρ e e') (h:e ≠ .normal) {N:Act ->World ->Prop} {R:Exit ->Act ->World ->Prop} {a:Act} {w:World} (hr:R e' a w):Exit.then N R e' a w:=by
 cases he with
 | normal=>exact absurd rfl h
 | _=>exact hr
theorem WC.seq {a b:Code} (h:WC X n wm rd a s (QD X n wm rd b Q)):WC X n wm rd (.seq a b) s Q:=by
 obtain⟨e,s1,hq,ka⟩:=h;by_cases hn:e= .normal
 ·subst hn;obtain⟨e2,s2,hq2,kb⟩:=hq.out;refine⟨e2,s2,hq2,fun ρ a w F ZJ hi hF=>wpIn_seq (wpIn_mono (ka ρ a w F ZJ hi hF) ?_)⟩;rintro e' a' w' ⟨ρ',he,hi',hst⟩;cases he;exact wpIn_mono (kb ρ' a' w' F (Nat.le_trans ZJ hst.size) hi' (hF.mono hst.ext)) fun _ _ _ hp=>XF.trans hi.rel.lt hst hp
 ·refine⟨e,s1,?_,fun ρ a w F ZJ hi hF=>wpIn_seq (wpIn_mono (ka ρ a w F ZJ hi hF) ?_)⟩
  ·cases e with
   | normal=>exact absurd rfl hn
   | _=>exact hq.out
  ·rintro e' a' w' ⟨ρ',he,hi',hst⟩;exact he.ZhN hn ⟨ρ',he,hi',hst⟩
theorem WC.cond {c:Operand} {a b:Code} {t:Bool} (hc:ZY s.fr c=some (.bool t)) (h1:t=true ->WC X n wm rd a s Q) (h2:t=false ->WC X n wm rd b s Q):WC X n wm rd (.cond c a b) s Q:=by
 have:∃ e s',Q e s'∧∀ ρ a' w F,wm <=s.h.size ->Inv ρ n s a' w ->FR' ρ rd F ->(if t then a else b).wpIn F 0 X.P (XF wm n ρ s.h w e s') a' w:=by
  cases t with
  | true=>obtain⟨e,s',q,k⟩:=h1 rfl;exact⟨e,s',q,k⟩
  | false=>obtain⟨e,s',q,k⟩:=h2 rfl;exact⟨e,s',q,k⟩
 obtain⟨e,s',hq,k⟩:=this;refine⟨e,s',hq,fun ρ a' w F ZJ hi hF=>?_⟩;have hv:=KS hi.fr _ _ hc;generalize hx:a'.eval c=x at hv;cases hv;exact wpIn_cond hx (k ρ a' w F ZJ hi hF)
theorem WC.block {id:Nat} {c:Code} (h:WC X n wm rd c s (Wx id Q)):WC X n wm rd (.block id c) s Q:=by
 obtain⟨e,s1,hq,ka⟩:=h
 have key:∃ e2,Q e2 s1∧∀ (UZ n':Nat) (ρ0:Ren) (h0:H) (w0:World) (e':Exit) (a':Act) (w':World),XF UZ n' ρ0 h0 w0 e s1 e' a' w' ->Exit.inBlock id (XF UZ n' ρ0 h0 w0 e2 s1) e' a' w':=by
  cases e with
  | exit k=>
    by_cases hk:k=id
    ·subst hk;refine⟨.normal,by simpa [Zwl] using hq.out,?_⟩;rintro _ _ _ _ _ e' a' w' ⟨ρ',he,hi',hst⟩;cases he;show if _ then _ else _
     rw [if_pos rfl];exact⟨ρ',.normal,hi',hst⟩
    ·refine⟨.exit k,by simpa [Zwl,hk] using hq.out,?_⟩;rintro _ _ _ _ _ e' a' w' ⟨ρ',he,hi',hst⟩;cases he;show if _ then _ else _
     rw [if_neg hk];exact⟨ρ',.exit k,hi',hst⟩
  | normal=>exact⟨.normal,hq.out,by rintro _ _ _ _ _ e' a' w' ⟨ρ',he,hi',hst⟩;cases he;exact⟨ρ',.normal,hi',hst⟩⟩
  | goto l=>exact⟨.goto l,hq.out,by rintro _ _ _ _ _ e' a' w' ⟨ρ',he,hi',hst⟩;cases he;exact⟨ρ',.goto l,hi',hst⟩⟩
  | ret=>exact⟨.ret,hq.out,by rintro _ _ _ _ _ e' a' w' ⟨ρ',he,hi',hst⟩;cases he;exact⟨ρ',.ret,hi',hst⟩⟩
  | panic v=>exact⟨.panic v,hq.out,by rintro _ _ _ _ _ e' a' w' ⟨ρ',he,hi',hst⟩;cases he with | panic hv=>exact⟨ρ',.panic hv,hi',hst⟩⟩
 obtain⟨e2,hq2,key⟩:=key;exact⟨e2,s1,hq2,fun ρ a w F ZJ hi hF=>wpIn_block (wpIn_mono (ka ρ a w F ZJ hi hF) fun e' a' w' hp=>key _ _ _ _ _ e' a' w' hp)⟩
theorem WC.scope {c:Code} (h:WC X n wm rd c s (Zse Q)):WC X n wm rd (.scope c) s Q:=by
 obtain⟨e,s1,hq,ka⟩:=h;cases e with
 | goto l=>exact hq.out.elim
 | exit k=>exact⟨_,s1,hq.out,fun ρ a w F ZJ hi hF=>JB (wpIn_mono (ka ρ a w F ZJ hi hF) (by rintro e' a' w' ⟨ρ',he,hi',hst⟩;cases he;exact⟨ρ',.exit k,hi',hst⟩))⟩
 | normal=>exact⟨_,s1,hq.out,fun ρ a w F ZJ hi hF=>JB (wpIn_mono (ka ρ a w F ZJ hi hF) (by rintro e' a' w' ⟨ρ',he,hi',hst⟩;cases he;exact⟨ρ',.normal,hi',hst⟩))⟩
 | ret=>exact⟨_,s1,hq.out,fun ρ a w F ZJ hi hF=>JB (wpIn_mono (ka ρ a w F ZJ hi hF) (by rintro e' a' w' ⟨ρ',he,hi',hst⟩;cases he;exact⟨ρ',.ret,hi',hst⟩))⟩
 | panic v=>exact⟨_,s1,hq.out,fun ρ a w F ZJ hi hF=>JB (wpIn_mono (ka ρ a w F ZJ hi hF) (by rintro e' a' w' ⟨ρ',he,hi',hst⟩;cases he with | panic hv=>exact⟨ρ',.panic hv,hi',hst⟩))⟩
theorem WC.skip (h:Q .normal s):WC X n wm rd .skip s Q:= ⟨_,_,h,fun ρ _ _ _ _ hi _=>wpIn_skip ⟨ρ,.normal,hi,Stp.refl _ _ _ _⟩⟩
theorem WC.label {l:Nat} (h:Q .normal s):WC X n wm rd (.label l) s Q:= ⟨_,_,h,fun ρ _ _ _ _ hi _=>wpIn_label ⟨ρ,.normal,hi,Stp.refl _ _ _ _⟩⟩
theorem WC.ret (h:Q .ret s):WC X n wm rd .ret s Q:= ⟨_,_,h,fun ρ _ _ _ _ hi _=>wpIn_ret ⟨ρ,.ret,hi,Stp.refl _ _ _ _⟩⟩
theorem WC.exit {id:Nat} (h:Q (.exit id) s):WC X n wm rd (.exit id) s Q:= ⟨_,_,h,fun ρ _ _ _ _ hi _=>wpIn_exit ⟨ρ,.exit id,hi,Stp.refl _ _ _ _⟩⟩
theorem WC.loop {c:Code} (h:WL X n wm rd c s Q):WC X n wm rd (.loop c) s Q:=
 let⟨e,s',hq,k⟩:=h;⟨e,s',hq,fun ρ a w F ZJ hi hF=>ZbU (k ρ a w F ZJ hi hF)⟩
theorem WC.region {id:Nat} {ops:Array Oper} (h:WO X n wm rd ops ops.toList s Q):WC X n wm rd (.region id ops false) s Q:=by
 obtain⟨e,s',hq,k⟩:=h;exact⟨e,s',hq,fun ρ a w F ZJ hi hF=>wpIn_region_list (k _ hi ZJ hF fun _ _ _ hp=>hp)⟩
theorem WL.step {c:Code} (h:WC X n wm rd c s (Yg X n wm rd c Q)):WL X n wm rd c s Q:=by
 obtain⟨e,s1,hq,ka⟩:=h;by_cases hn:e= .normal
 ·subst hn;obtain⟨e2,s2,hq2,kb⟩:=hq.out;refine⟨e2,s2,hq2,fun ρ a w F ZJ hi hF=>XH (wpIn_mono (ka ρ a w F ZJ hi hF) ?_)⟩;rintro e' a' w' ⟨ρ',he,hi',hst⟩;cases he;have:=kb ρ' a' w' F (Nat.le_trans ZJ hst.size) hi' (hF.mono hst.ext);intro b k cs h1 h2 h3;obtain⟨e3,a3,w3,hp,harr⟩:=this b k cs h1 h2 h3;exact⟨e3,a3,w3,XF.trans hi.rel.lt hst hp,harr⟩
 ·refine⟨e,s1,?_,fun ρ a w F ZJ hi hF=>XH (wpIn_mono (ka ρ a w F ZJ hi hF) ?_)⟩
  ·cases e with
   | normal=>exact absurd rfl hn
   | _=>exact hq.out
  ·rintro e' a' w' ⟨ρ',he,hi',hst⟩;exact he.ZhN hn ⟨ρ',he,hi',hst⟩
def ZHa (X:Ctx) (fn:Func) (Q:Kr ->H ->Prop):XX ->Fs ->Prop:=fun e s=>s.ds= []∧
 match e with
 | .normal=>∃ v,QE X.P fn s.fr s.h=some v∧Q (.ret v) s.h
 | .ret=>∃ v,QE X.P fn s.fr s.h=some v∧Q (.ret v) s.h
 | .panic v=>Q (.Jr v) s.h
 | _=>False
structure ZX (X:Ctx) (fn:Func) (Q:Kr ->H ->Prop) (e:XX) (s:Fs):Prop where
 out:ZHa X fn Q e s
theorem WF.enter {f:FuncId} {fn:Func} {c:Code} {args:Array Value} {h:H} {Q:Kr ->H ->Prop} (hf:X.fns.get f=some fn) (hb:fn.body=some c) (hn:args.toList.length <=fn.ntmps)
 (k:WC X fn.ntmps wm none c {fr:=XO args.toList 0 .nil,ds:= [],h:=h} (ZX X fn Q)):WF X f args wm h Q:=by
 obtain⟨e,s',⟨hds,hq⟩,ka⟩:=k
 have main:∀ (E:Kr) (pm:PM),xPM e=some pm ->Um (cfg X fun _=>false) (fun _=>none) fn wm pm s'=some (.fin E s'.h) ->Yv X (.call f args wm h) (.fin E s'.h):=by
  intro E pm hpm hl;have hj:=Jo (C:=cfg X fun _=>false) (ih:=fun _=>none) (fun _ _ h=>by cases h) hl;intro ρ args' w ZJ hr hv
  have hi:Inv ρ fn.ntmps {fr:=XO args.toList 0 .nil,ds:= [],h:=h} {tmps:=args' ++ Array.replicate (fn.ntmps - args'.size) undef,defers:= []} w:=
   ⟨hr,WW hv hn,.nil⟩
  refine callsIn_of_wp_marks (X.ok f fn hf).1 hb trivial (wpIn_mono (ka ρ _ w Fence.wide ZJ hi rfl) ?_);rintro e' a' w' ⟨ρ',he,hi',hst⟩;cases he with
  | normal=>cases hpm;exact hj ρ' _ a' .returning w' _ (Nat.le_trans ZJ hst.size) hi' .ret (fun _ _ hp=>WA.trans hr.lt hst hp)
  | ret=>cases hpm;exact hj ρ' _ a' .returning w' _ (Nat.le_trans ZJ hst.size) hi' .ret (fun _ _ hp=>WA.trans hr.lt hst hp)
  | panic hv'=>cases hpm;exact hj ρ' _ a' _ w' _ (Nat.le_trans ZJ hst.size) hi' (.Jr hv') (fun _ _ hp=>WA.trans hr.lt hst hp)
  | exit id=>cases hpm
  | goto l=>cases hpm
 cases e with
 | normal=>
   obtain⟨v,hv,hq⟩:=hq
   exact⟨_,_,hq,main _ .ret rfl (by
    have hv':QE (cfg X fun _=>false).X.P fn s'.fr s'.h=some v:=hv;unfold Um;rw [hds];simp only [hv'])⟩
 | ret=>
   obtain⟨v,hv,hq⟩:=hq
   exact⟨_,_,hq,main _ .ret rfl (by
    have hv':QE (cfg X fun _=>false).X.P fn s'.fr s'.h=some v:=hv;unfold Um;rw [hds];simp only [hv'])⟩
 | panic v=>exact⟨_,_,hq,main _ (.Jr v) rfl (by unfold Um;rw [hds])⟩
 | exit _=>exact hq.elim
 | goto _=>exact hq.elim
abbrev Pure (X:Ctx) (f:FuncId) (args:Array Value) (h:H) (v:Value):Prop:=∀ wm,Yv X (.call f args wm h) (.fin (.ret v) h)
theorem WF.pure {f:FuncId} {args:Array Value} {h:H} {v:Value} (hp:plain v=true) (k:WF X f args h.size h (fun e _=>e= .ret v)):Pure X f args h v:=by
 obtain⟨e,h',rfl,hj⟩:=k;intro wm ρ args' w ZJ hr hv;refine(hj ρ args' w (Nat.le_refl _) hr hv).mono ?_;rintro e' w' ⟨ρ',he,hr',hst⟩;cases he with
 | ret hv'=>
   rw [VR.YQ hp hv'];obtain⟨q1,q2⟩:=Za2 hr hst;exact⟨ρ,.ret (VR.ZN hp),q1,q2 wm⟩
variable {ops:Array Oper} {l:List Oper} {o:Oper}
theorem WO.nil (h:Q .normal s):WO X n wm rd ops [] s Q:= ⟨_,_,h,fun _ ρ _ a w hi _ _ hq=>hq .normal a w ⟨ρ,.normal,hi,Stp.refl _ _ _ _⟩⟩
theorem WO.cons {ih:Jg ->Option YO} (HI:∀ j r,ih j=some r ->Yv X j r) {s1:Fs} (h:Ko X (fun _=>false) ih n wm rd ops.toList o s=some (.normal,s1)) (k:WO X n wm rd ops l s1 Q):WO X n wm rd ops (o::l) s Q:=by
 obtain⟨e,s',hq,hk⟩:=k;refine⟨e,s',hq,fun Q' ρ F a w hi ZJ hF hq'=>?_⟩;refine Zaw HI h hi ZJ hF (fun _ ρ' a' w' hi' st'=>?_) (fun v he=>by cases he);refine hk Q' hi' (Nat.le_trans ZJ st'.size) (hF.mono st'.ext) fun e' a2 w2 hp=>?_
 obtain⟨ρ2,q1,q2,q3⟩:=hp;exact hq' e' a2 w2 ⟨ρ2,q1,q2,st'.trans hi.rel.lt q3⟩
theorem WO.panics {ih:Jg ->Option YO} (HI:∀ j r,ih j=some r ->Yv X j r) {s1:Fs} {v:Value} (h:Ko X (fun _=>false) ih n wm rd ops.toList o s=some (.panic v,s1)) (k:Q (.panic v) s1):WO X n wm rd ops (o::l) s Q:=by
 refine⟨.panic v,s1,k,fun Q' ρ F a w hi ZJ hF hq'=>?_⟩;refine Zaw HI h hi ZJ hF (fun he=>by cases he) (fun v' he ρ' v2 a' w' hv hi' st'=>?_);cases he;exact hq' _ a' w' ⟨ρ',.panic hv,hi',st'⟩
theorem Zbq (X:Ctx):∀ (j:Jg) (r:YO),(fun _:Jg=>(none:Option YO)) j=some r ->Yv X j r:=fun _ _ h=>by cases h
def ZU (ops:Array Oper) (o:Oper) (fr:Fr):Prop:=okG ops.toList o fr=true∧Xm ops.toList o fr=true
def Zff (ops:Array Oper) (o:Oper) (fr:Fr):Prop:=okG ops.toList o fr=true∧Xm ops.toList o fr=false
theorem ZU.none {ops:Array Oper} {o:Oper} {fr:Fr} (h:o.guard=none):ZU ops o fr:=by unfold ZU okG Xm;rw [h];exact⟨rfl,rfl⟩
theorem gN {ops:Array Oper} {d:Option Tmp} {op:Op} {ty:TypeId} {p:String} {af:Array Edge} {fr:Fr}:ZU ops ⟨d,op,ty,p,af,Option.none⟩ fr:=ZU.none rfl
def ZiS (n:Nat) (d:Option Tmp):Bool:=
 match d with
 | none=>true
 | some d=>Nat.blt d n
theorem Ze7 {fr:Fr} {ds:List Deferred} {h:H} {d:Option Tmp} {v:Value} (hd:ZiS n d=true):Zg2 n ⟨fr,ds,h,none⟩ d v=some ⟨J9 fr d v,ds,h,none⟩:=by
 rw [Zho];cases d with
 | none=>rfl
 | some d=>
   unfold ZiS at hd;dsimp only at hd ⊢;rw [hd];rfl
variable {fr:Fr} {ds:List Deferred} {h h1:H}
theorem WO.val {v:Value} {E:Eff} (hg:ZU ops o fr) (hd:ZiS n o.dst=true) (ha:Xy X h (ZY fr) o=some (.val v,E)) (hE:E.apply wm h=some h1)
 (k:WO X n wm rd ops l ⟨J9 fr o.dst v,ds,h1,none⟩ Q):WO X n wm rd ops (o::l) ⟨fr,ds,h,none⟩ Q:=by
 refine WO.cons (Zbq X) ?_ k;unfold Ko;rw [hg.1,hg.2];dsimp only [Bool.not_true,cond_false,cond_true];rw [ha];dsimp only [Bool.not_true,cond_false,cond_true];rw [hE];unfold Za7;dsimp only [Kc];rw [Ze7 hd]
 rfl
theorem WO.unit {E:Eff} (hg:ZU ops o fr) (hd:ZiS n o.dst=true) (ha:Xy X h (ZY fr) o=some (.skip,E)) (hE:E.apply wm h=some h1)
 (k:WO X n wm rd ops l ⟨J9 fr o.dst undef,ds,h1,none⟩ Q):WO X n wm rd ops (o::l) ⟨fr,ds,h,none⟩ Q:=by
 refine WO.cons (Zbq X) ?_ k;unfold Ko;rw [hg.1,hg.2];dsimp only [Bool.not_true,cond_false,cond_true];rw [ha];dsimp only [Bool.not_true,cond_false,cond_true];rw [hE];unfold Za7;dsimp only [Kc];rw [Ze7 hd]
 rfl
theorem WO.panic {v:Value} {E:Eff} (hg:ZU ops o fr) (ha:Xy X h (ZY fr) o=some (.panic v,E)) (hE:E.apply wm h=some h1)
 (k:Q (.panic v) ⟨fr,ds,h1,none⟩):WO X n wm rd ops (o::l) ⟨fr,ds,h,none⟩ Q:=by
 refine WO.panics (Zbq X) ?_ k;unfold Ko;rw [hg.1,hg.2];dsimp only [Bool.not_true,cond_false,cond_true];rw [ha];dsimp only [Bool.not_true,cond_false,cond_true];rw [hE]
 rfl
theorem WO.off (hg:Zff ops o fr) (hd:ZiS n o.dst=true) (k:WO X n wm rd ops l ⟨J9 fr o.dst undef,ds,h,none⟩ Q):WO X n wm rd ops (o::l) ⟨fr,ds,h,none⟩ Q:=by
 refine WO.cons (Zbq X) ?_ k;unfold Ko;rw [hg.1,hg.2];dsimp only [Bool.not_true,cond_false,cond_true];rw [Ze7 hd]
 rfl
open Classical in
def Ku (j:Jg) (r:YO):Jg ->Option YO:=fun j'=>if j'=j then some r else none
theorem QJ {j:Jg} {r:YO} (h:Yv X j r):∀ j' r',Ku j r j'=some r' ->Yv X j' r':=by
 intro j' r' e;unfold Ku at e;split at e
 ·rename_i hj;cases e;rw [hj];exact h
 ·cases e
theorem QK (j:Jg) (r:YO):Ku j r j=some r:=by unfold Ku;rw [if_pos rfl]
theorem WO.call {f:FuncId} {args:Array Value} {E:Eff} {v:Value} {h2:H} (hg:ZU ops o fr) (hd:ZiS n o.dst=true) (ha:Xy X h (ZY fr) o=some (.enter f args,E)) (hE:E.apply wm h=some h1)
 (hc:Yv X (.call f args wm h1) (.fin (.ret v) h2)) (k:WO X n wm rd ops l ⟨J9 fr o.dst v,ds,h2,none⟩ Q):WO X n wm rd ops (o::l) ⟨fr,ds,h,none⟩ Q:=by
 refine WO.cons (QJ hc) ?_ k;unfold Ko;rw [hg.1,hg.2];dsimp only [Bool.not_true,cond_false,cond_true];rw [ha];dsimp only [Bool.not_true,cond_false,cond_true];rw [hE];unfold Za7;dsimp only [Kc,cond_false];rw [QK];dsimp only;rw [Ze7 hd]
 rfl
theorem WO.ZiW {f:FuncId} {args:Array Value} {E:Eff} {v:Value} {h2:H} (hg:ZU ops o fr) (ha:Xy X h (ZY fr) o=some (.enter f args,E)) (hE:E.apply wm h=some h1)
 (hc:Yv X (.call f args wm h1) (.fin (.Jr v) h2)) (k:Q (.panic v) ⟨fr,ds,h2,none⟩):WO X n wm rd ops (o::l) ⟨fr,ds,h,none⟩ Q:=by
 refine WO.panics (QJ hc) ?_ k;unfold Ko;rw [hg.1,hg.2];dsimp only [Bool.not_true,cond_false,cond_true];rw [ha];dsimp only [Bool.not_true,cond_false,cond_true];rw [hE];unfold Za7;dsimp only [Kc,cond_false];rw [QK]
 rfl
end Go.Yy
end
end
section
noncomputable section
namespace Go.Yy
variable {X:Ctx} {P:Program} {h:H} {fr:Fr} {ev:Operand ->Option Value} {d:Option Tmp} {ty:TypeId} {p:String} {af:Array Edge} {g:Option (Nat×Bool)}
theorem at_set (fr:Fr) (d t:Nat) (v:Value):Fr.at (Tr.set fr d v) t=if t=d then v else Fr.at fr t:=by
 unfold Fr.at;rw [Tr.JY];by_cases h:t=d <;> simp [h]
theorem Z4 (i:Nat) (fr:Fr):XO [] i fr=fr:=rfl
theorem ZT (v:Value) (vs:List Value) (i:Nat) (fr:Fr):XO (v::vs) i fr=XO vs (i + 1) (Tr.set fr i v):=rfl
theorem Zhp (fr:Fr) (t:Nat):ZY fr (.tmp t)=bif QL (fr.at t) then none else some (fr.at t):=rfl
theorem Zr5 (fr:Fr) (v:Value):ZY fr (.const v)=bif plain v then some v else none:=rfl
theorem Zv8 (fr:Fr) (f:FuncId):ZY fr (.func f)=some (.func (.func f) #[] #[]):=rfl
theorem ZvZ (x:Operand):Xy X h ev ⟨d,.move x,ty,p,af,g⟩=vN (ev x):=rfl
theorem ZpD (x:Operand):Xy X h ev ⟨d,.assign x,ty,p,af,g⟩=vN (ev x):=rfl
theorem Zr3 (op:BinOp) (t:TypeId) (x y:Operand) (yt:TypeId):Xy X h ev ⟨d,.binOp op t x y yt,ty,p,af,g⟩=match ev x,ev y with
 | some a,some b=>J3 X.P op t x y a b
 | _,_=>none:=rfl
theorem Ze9 (c a b:Operand):Xy X h ev ⟨d,.pick c a b,ty,p,af,g⟩=match ev c with
 | some (.bool true)=>vN (ev a)
 | some (.bool false)=>vN (ev b)
 | _=>none:=rfl
theorem ZvY (op:UnOp) (t:TypeId) (x:Operand):Xy X h ev ⟨d,.unOp op t x,ty,p,af,g⟩=match ev x with
 | some a=>bif plain a then pN (Zbh X.P (Op.unary op a)) else none
 | none=>none:=rfl
theorem ZnW (t:TypeId) (x:Operand):Xy X h ev ⟨d,.load t x,ty,p,af,g⟩=match ev x with
 | some v=>vN (KE X.P h t v)
 | none=>none:=rfl
theorem Zr0 (t:TypeId) (a x:Operand):Xy X h ev ⟨d,.store t a x,ty,p,af,g⟩=match ev a,ev x with
 | some a,some x=>sE (Zgm X.P h t a x)
 | _,_=>none:=rfl
theorem ZyQ (t:TypeId) (x:Operand):Xy X h ev ⟨d,.box t x,ty,p,af,g⟩=match ev x with
 | some v=>some (.val (Jk h),.new (.row v.cells.toList true 0))
 | none=>none:=rfl
theorem Zr4 (t:TypeId):Xy X h ev ⟨d,.alloc t,ty,p,af,g⟩=match YI X.P t with
 | some z=>some (.val (Jk h),.new (.row z.cells.toList true 0))
 | none=>none:=rfl
theorem ZjC (t:TypeId) (x:Operand) (f:Nat):Xy X h ev ⟨d,.fieldAddr t x f,ty,p,af,g⟩=match ev x with
 | some v=>vN (ZcE X.P t v f)
 | none=>none:=rfl
theorem ZjB (t:TypeId) (x i:Operand):Xy X h ev ⟨d,.indexAddr t x i,ty,p,af,g⟩=match ev x,ev i with
 | some x,some i=>vN (Zd2 X.P t x i)
 | _,_=>none:=rfl
theorem ZnX (x:Operand) (k:Nat):Xy X h ev ⟨d,.extract x k,ty,p,af,g⟩=match ev x with
 | some x=>vN (ZcF x k)
 | none=>none:=rfl
theorem UR (b:Builtin) (xs:Array Operand) (ts:Array TypeId):Xy X h ev ⟨d,.call {callee:= .builtin b,args:=xs,argTypes:=ts},ty,p,af,g⟩=match evs ev xs.toList with
 | some args=>Ws X.P h b ts ty args
 | none=>none:=by
 show(match Callee.builtin b,evs ev xs.toList with
  | .builtin b,some args=>Ws X.P h b ts ty args
  | .value f,some args=>match ev f with
    | some f=>Zay X h f args
    | none=>none
  | _,_=>none)=_
 cases evs ev xs.toList <;> rfl
theorem Zgp (f:Operand) (xs:Array Operand) (ts:Array TypeId):Xy X h ev ⟨d,.call {callee:= .value f,args:=xs,argTypes:=ts},ty,p,af,g⟩=match evs ev xs.toList with
 | some args=>match ev f with
   | some f=>Zay X h f args
   | none=>none
 | none=>none:=by
 show(match Callee.value f,evs ev xs.toList with
  | .builtin b,some args=>Ws X.P h b ts ty args
  | .value f,some args=>match ev f with
    | some f=>Zay X h f args
    | none=>none
  | _,_=>none)=_
 cases evs ev xs.toList <;> rfl
theorem Zj:evs ev []=some []:=rfl
theorem Zc {x:Operand} {xs:List Operand} {v:Value} {vs:List Value} (h1:ev x=some v) (h2:evs ev xs=some vs):evs ev (x::xs)=some (v::vs):=by
 show(match ev x,evs ev xs with | some v,some vs=>some (v::vs) | _,_=>none)=_;rw [h1,h2]
theorem Zbb {op:BinOp} {t:TypeId} {x y:Operand} {k:IntKind} {a b:Int} {c:Bool} (ho:Op.intCmp op a b=pure (.bool c)) (h1:op= .eql∨op= .neq∨op= .lss∨op= .leq∨op= .gtr∨op= .geq):J3 P op t x y (.int k a) (.int k b)=some (.val (.bool c),.none):=by
 have hp:(plain (.int k a) && plain (.int k b))=true:=rfl;unfold J3;rw [hp,cond_true]
 have hb:binOp op t (.int k a) (.int k b)=pure (.bool c):=by
  rcases h1 with rfl | rfl | rfl | rfl | rfl | rfl <;> simp [binOp,ho]
 have hg:(do eqGuard op t x y (.int k a) (.int k b);binOp op t (.int k a) (.int k b):Sem Value)=pure (.bool c):=by
  rw [hb];rcases h1 with rfl | rfl | rfl | rfl | rfl | rfl <;> rfl
 rw [hg];rfl
theorem JS {t:TypeId} {x y:Operand} {k:IntKind} {a b:Int}:J3 P .eql t x y (.int k a) (.int k b)=some (.val (.bool (a==b)),.none):=Zbb rfl (by simp)
theorem Zi4 {t:TypeId} {x y:Operand} {k:IntKind} {a b:Int}:J3 P .neq t x y (.int k a) (.int k b)=some (.val (.bool (a !=b)),.none):=Zbb rfl (by simp)
theorem ZcH {t:TypeId} {x y:Operand} {k:IntKind} {a b:Int}:J3 P .lss t x y (.int k a) (.int k b)=some (.val (.bool (decide (a < b))),.none):=Zbb rfl (by simp)
theorem Zwc {t:TypeId} {x y:Operand} {k:IntKind} {a b:Int}:J3 P .leq t x y (.int k a) (.int k b)=some (.val (.bool (decide (a <=b))),.none):=Zbb rfl (by simp)
theorem Zwd {t:TypeId} {x y:Operand} {k:IntKind} {a b:Int}:J3 P .gtr t x y (.int k a) (.int k b)=some (.val (.bool (decide (a > b))),.none):=Zbb rfl (by simp)
theorem Wt {t:TypeId} {x y:Operand} {k:IntKind} {a b:Int}:J3 P .geq t x y (.int k a) (.int k b)=some (.val (.bool (decide (a >=b))),.none):=Zbb rfl (by simp)
theorem ZpM {op:BinOp} {t:TypeId} {x y:Operand} {k:IntKind} {a b c:Int} (h1:op= .add∧c=a + b∨op= .sub∧c=a - b∨op= .mul∧c=a * b):J3 P op t x y (.int k a) (.int k b)=some (.val (.int k (k.wrap c)),.none):=by
 have hp:(plain (.int k a) && plain (.int k b))=true:=rfl;unfold J3;rw [hp,cond_true]
 have hb:binOp op t (.int k a) (.int k b)=pure (.int k (k.wrap c)):=by
  rcases h1 with⟨rfl,rfl⟩ | ⟨rfl,rfl⟩ | ⟨rfl,rfl⟩ <;> simp [binOp,Op.intArith]
 have hg:(do eqGuard op t x y (.int k a) (.int k b);binOp op t (.int k a) (.int k b):Sem Value)=pure (.int k (k.wrap c)):=by
  rw [hb];rcases h1 with⟨rfl,rfl⟩ | ⟨rfl,rfl⟩ | ⟨rfl,rfl⟩ <;> rfl
 rw [hg];rfl
end Go.Yy
end
end
section
noncomputable section
namespace Go.Yy
variable {X:Ctx} {n wm:Nat} {rd:Option Nat} {s:Fs} {Q:XX ->Fs ->Prop}
theorem QD.Yo {b:Code} (h:WC X n wm rd b s Q):QD X n wm rd b Q .normal s:= ⟨h⟩
theorem QD.ret {b:Code} (h:Q .ret s):QD X n wm rd b Q .ret s:= ⟨h⟩
theorem QD.exit {b:Code} {id:Nat} (h:Q (.exit id) s):QD X n wm rd b Q (.exit id) s:= ⟨h⟩
theorem QD.panic {b:Code} {v:Value} (h:Q (.panic v) s):QD X n wm rd b Q (.panic v) s:= ⟨h⟩
theorem Yg.Yo {b:Code} (h:WL X n wm rd b s Q):Yg X n wm rd b Q .normal s:= ⟨h⟩
theorem Yg.ret {b:Code} (h:Q .ret s):Yg X n wm rd b Q .ret s:= ⟨h⟩
theorem Yg.exit {b:Code} {id:Nat} (h:Q (.exit id) s):Yg X n wm rd b Q (.exit id) s:= ⟨h⟩
theorem Wx.Yo {id:Nat} (h:Q .normal s):Wx id Q .normal s:= ⟨h⟩
theorem Wx.ret {id:Nat} (h:Q .ret s):Wx id Q .ret s:= ⟨h⟩
theorem Wx.panic {id:Nat} {v:Value} (h:Q (.panic v) s):Wx id Q (.panic v) s:= ⟨h⟩
theorem Wx.here {id:Nat} (h:Q .normal s):Wx id Q (.exit id) s:= ⟨by show if _ then _ else _;rw [if_pos rfl];exact h⟩
theorem Wx.other {id k:Nat} (hk:Nat.beq k id=false) (h:Q (.exit k) s):Wx id Q (.exit k) s:= ⟨by
 show if _ then _ else _
 rw [if_neg fun e=>by rw [e,Nat.beq_refl] at hk;cases hk];exact h⟩
theorem Zse.ret (h:Q .ret s):Zse Q .ret s:= ⟨h⟩
theorem WF.begin {f:FuncId} {fn:Func} {c:Code} {args:List Value} {h:H} {n:Nat} {R:Kr ->H ->Prop} (hf:X.fns.get f=some fn) (hb:fn.body=some c) (hnt:fn.ntmps=n) (hn:args.length <=n)
 (k:WC X n wm none c ⟨XO args 0 .nil,[],h,none⟩ (ZX X fn R)):WF X f args.toArray wm h R:=by
 subst hnt;exact WF.enter hf hb hn k
variable {ops:Array Oper} {l:List Oper} {fr:Fr} {ds:List Deferred} {h h1:H} {d:Nat} {op:Op} {ty:TypeId} {p:String} {af:Array Edge} {g:Option (Nat×Bool)}
theorem WO.v {v:Value} {E:Eff} (hg:ZU ops ⟨some d,op,ty,p,af,g⟩ fr) (hd:Nat.blt d n=true) (ha:Xy X h (ZY fr) ⟨some d,op,ty,p,af,g⟩=some (.val v,E)) (hE:E.apply wm h=some h1)
 (k:WO X n wm rd ops l ⟨Tr.set fr d v,ds,h1,none⟩ Q):WO X n wm rd ops (⟨some d,op,ty,p,af,g⟩::l) ⟨fr,ds,h,none⟩ Q:=WO.val hg hd ha hE k
theorem WO.u {E:Eff} (hg:ZU ops ⟨none,op,ty,p,af,g⟩ fr) (ha:Xy X h (ZY fr) ⟨none,op,ty,p,af,g⟩=some (.skip,E)) (hE:E.apply wm h=some h1)
 (k:WO X n wm rd ops l ⟨fr,ds,h1,none⟩ Q):WO X n wm rd ops (⟨none,op,ty,p,af,g⟩::l) ⟨fr,ds,h,none⟩ Q:=WO.unit hg rfl ha hE k
theorem WO.o (hg:Zff ops ⟨some d,op,ty,p,af,g⟩ fr) (hd:Nat.blt d n=true) (k:WO X n wm rd ops l ⟨Tr.set fr d undef,ds,h,none⟩ Q):WO X n wm rd ops (⟨some d,op,ty,p,af,g⟩::l) ⟨fr,ds,h,none⟩ Q:=WO.off hg hd k
theorem WC.ZvC {c:Operand} {a b:Code} {t:Bool} (hc:ZY s.fr c=some (.bool t)) (ht:t=true) (k:WC X n wm rd a s Q):WC X n wm rd (.cond c a b) s Q:=WC.cond hc (fun _=>k) fun e=>by rw [ht] at e;cases e
theorem WC.ZvD {c:Operand} {a b:Code} {t:Bool} (hc:ZY s.fr c=some (.bool t)) (ht:t=false) (k:WC X n wm rd b s Q):WC X n wm rd (.cond c a b) s Q:=WC.cond hc (fun e=>by rw [ht] at e;cases e) fun _=>k
theorem Zwb {f:FuncId} {fn:Func} {vs:List Value} (hf:X.fns.get f=some fn):Zay X h (.func (.func f) #[] #[]) vs=some (.enter f vs.toArray,.none):=by
 unfold Zay;simp [hf]
structure Slc (h:H) (a:Option Addr) (len sz:Nat) (cells:List Value):Prop where
 ZOU:cells.length=len * sz
 mem:len=0∨∃ i o cs own z,a=some ⟨i,o,none⟩∧h.at i= .row cs own z∧o + len * sz <=cs.length∧(cs.drop o).take (len * sz)=cells
structure Grow (h h':H):Prop where
 size:h.size <=h'.size
 keep:∀ i,i < h.size ->h'.at i=h.at i
theorem Grow.refl (h:H):Grow h h:= ⟨Nat.le_refl _,fun _ _=>rfl⟩
theorem Grow.trans {a b c:H} (x:Grow a b) (y:Grow b c):Grow a c:= ⟨Nat.le_trans x.size y.size,fun i hi=>(y.keep i (Nat.lt_of_lt_of_le hi x.size)).trans (x.keep i hi)⟩
theorem Grow.push {a b:H} (x:Grow a b) (A:Xz):Grow a (b.push A):= ⟨Nat.le_succ_of_le x.size,fun i hi=>by rw [H.Qu,if_neg (by have:=x.size;omega)];exact x.keep i hi⟩
theorem Q9 {h:H} {i:Nat} {A:Xz} (e:h.at i=A) (hl:A.live=true):i < h.size:=by
 rcases Nat.lt_or_ge i h.size with z | z
 ·exact z
 ·rw [H.ZbI z] at e;subst e;cases hl
theorem Slc.load {P:Program} {h:H} {i o:Nat} {cs:List Value} {own:Bool} {z:Nat} {t:TypeId} {v:Value} (hr:h.at i= .row cs own z) (ht:Yp P t=some false) (hc:cs[o]? =some v):KE P h t (.pointer (some ⟨i,o,none⟩))=some v:=by
 unfold KE;dsimp only;rw [hr];dsimp only;rw [ht];dsimp only;exact hc
theorem Slc.addr {P:Program} {i o len cap k sz:Nat} {t e:TypeId} (hu:P.underlying t=some (.slice e)) (hs:Z8 P e=some sz) (hk:k < len):Zd2 P t (.slice (some ⟨i,o,none⟩) len cap) (.int .i64 (k:Int))=some (.pointer (some ⟨i,o + k * sz,none⟩)):=by
 have:Zd2 P t (.slice (some ⟨i,o,none⟩) len cap) (.int .i64 (Int.ofNat k))=some (.pointer (some ⟨i,o + k * sz,none⟩)):=by
  unfold Zd2;rw [hu];dsimp only;rw [hs];dsimp only;have:Nat.blt k len=true:=by rw [Nat.blt_eq];exact hk
  rw [this];rfl
 exact this
section
variable {ops:Array Oper} {l:List Oper} {fr:Fr} {ds:List Deferred} {h:H} {d:Nat} {ty:TypeId} {p:String} {af:Array Edge} {g:Option (Nat×Bool)}
end
end Go.Yy
end
end
section
noncomputable section
namespace Go.Yy
variable {X:Ctx} {n wm:Nat} {rd:Option Nat} {Q:XX ->Fs ->Prop} {ops:Array Oper} {l:List Oper} {fr:Fr} {ds:List Deferred} {h:H} {d:Nat} {ty:TypeId} {p:String} {af:Array Edge} {g:Option (Nat×Bool)}
theorem UO (h:H) (A:Xz):(h.push A).at h.size=A:=by rw [H.Qu,if_pos rfl]
theorem Zav {h:H} {i:Nat} (hi:i < h.size) (A:Xz):(h.push A).at i=h.at i:=by rw [H.Qu,if_neg (by omega)]
theorem YE {h:H} {i:Nat} (hi:i < h.size) (A:Xz):(h.put i A).at i=A:=by rw [H.XE,if_pos ⟨rfl,hi⟩]
theorem Wn {h:H} {i j:Nat} (hj:j ≠ i) (A:Xz):(h.put i A).at j=h.at j:=by rw [H.XE,if_neg fun z=>hj z.1]
def ZE (P:Program) (t:TypeId) (f off:Nat):Prop:=∃ fs x m,P.underlying t=some (.struct fs)∧fs[f]? =some x∧Z8 P x.type=some (m + 1)∧x.offset=off
theorem ZE.of {P:Program} {t:TypeId} {f off:Nat} (h:ZcE P t (.pointer (some ⟨0,0,none⟩)) f=some (.pointer (some ⟨0,off,none⟩))):ZE P t f off:=by
 unfold ZcE at h;cases e:P.underlying t with
 | none=>rw [e] at h;cases h
 | some u=>
   rw [e] at h;cases u with
   | struct fs=>
     dsimp only at h;cases ex:fs[f]? with
     | none=>rw [ex] at h;cases h
     | some x=>
       rw [ex] at h;dsimp only at h;cases em:Z8 P x.type with
       | none=>rw [em] at h;cases h
       | some m=>
         rw [em] at h;cases m with
         | zero=>cases h
         | succ m=>cases h;exact⟨fs,x,m,e,ex,em,(Nat.zero_add _).symm⟩
   | _=>cases h
theorem ZE.addr {P:Program} {t:TypeId} {f off:Nat} (h:ZE P t f off) (i o:Nat):ZcE P t (.pointer (some ⟨i,o,none⟩)) f=some (.pointer (some ⟨i,o + off,none⟩)):=by
 obtain⟨fs,x,m,h1,h2,h3,rfl⟩:=h;unfold ZcE;rw [h1];dsimp only;rw [h2];dsimp only;rw [h3]
theorem ZdX (b:Bool):(Value.bool b).cells.toList= [.bool b]:=rfl
theorem Zgg (k:IntKind) (m:Int):(Value.int k m).cells.toList= [.int k m]:=rfl
theorem ZbB (s:ByteArray):(Value.string s).cells.toList= [.string s]:=rfl
theorem Zge (a:Option Addr):(Value.pointer a).cells.toList= [.pointer a]:=rfl
theorem Zcz (a:Option Addr) (m c:Nat):(Value.slice a m c).cells.toList= [.slice a m c]:=rfl
theorem Zgf (m:Option Nat):(Value.map m).cells.toList= [.map m]:=rfl
theorem cells_func (f:Fn) (xs ys:Array Value):(Value.func f xs ys).cells.toList= [.func f xs ys]:=rfl
theorem ZaK:(Value.nilFunc).cells.toList= [.nilFunc]:=rfl
theorem Zab:(Value.nilIface).cells.toList= [.nilIface]:=rfl
theorem ZcA (t:TypeId) (v:Value):(Value.iface t v).cells.toList= [.iface t v]:=rfl
theorem Zgi (vs:List Value):(Value.agg vs.toArray).cells.toList=vs:=rfl
end Go.Yy
end
end
section
noncomputable section
namespace Go.Yy
variable {X:Ctx} {n wm:Nat} {rd:Option Nat} {Q:XX ->Fs ->Prop} {ops:Array Oper} {l:List Oper} {fr:Fr} {ds:List Deferred} {h:H} {d:Nat} {ty:TypeId} {p:String} {af:Array Edge} {g:Option (Nat×Bool)}
def Zfh (P:Program) (t:TypeId) (zs:List Value) (pl:List (Nat×Nat)):Prop:=∃ z fs,YI P t=some z∧z.cells.toList=zs∧P.underlying t=some (.struct fs)∧ZcQ P fs.toList=some pl
def Zq0 (P:Program) (t:TypeId) (zs:List Value) (m:Nat):Prop:=∃ z k e,YI P t=some z∧z.cells.toList=zs∧P.underlying t=some (.array k e)∧Z8 P e=some m
def Zcr (place:Nat ->Option (Nat×Nat)) (len:Nat):List (Nat×Value) ->Bool
 | []=>true
 | (i,v)::rest=>(match place i with
   | some (off,size)=>Nat.beq v.cells.toList.length size && Nat.ble (off + v.cells.toList.length) len
   | none=>false) && Zcr place len rest
def ZgF (off:Nat ->Nat):List Value ->List (Nat×Value) ->List Value
 | cs,[]=>cs
 | cs,(i,v)::rest=>ZgF off (splice cs (off i) v.cells.toList) rest
theorem Zfc {place:Nat ->Option (Nat×Nat)} {off:Nat ->Nat} (ho:∀ i p,place i=some p ->off i=p.1):∀ (ps:List (Nat×Value)) (cs:List Value),Zcr place cs.length ps=true ->ZcD place cs ps=some (ZgF off cs ps):=by
 intro ps
 induction ps with
 | nil=>intro cs _;rfl
 | cons q ps ih=>
   obtain⟨i,v⟩:=q;intro cs h;simp only [Zcr,Bool.and_eq_true] at h;obtain⟨h1,h2⟩:=h;unfold ZcD ZgF;cases e:place i with
   | none=>rw [e] at h1;cases h1
   | some q=>
     obtain⟨of,sz⟩:=q;rw [e] at h1;dsimp only at h1 ⊢;rw [h1,cond_true,ho i _ e]
     have hl:(splice cs of v.cells.toList).length=cs.length:=by
      rw [Bool.and_eq_true] at h1;have:=Nat.le_of_ble_eq_true h1.2;simp only [splice,List.length_append,List.length_take,List.length_drop];omega
     exact ih _ (by rw [hl];exact h2)
theorem ZG {ev:Operand ->Option Value}:evp ev []=some []:=rfl
theorem Zk {ev:Operand ->Option Value} {i:Nat} {x:Operand} {xs:List (Nat×Operand)} {v:Value} {vs:List (Nat×Value)} (h1:ev x=some v) (h2:evp ev xs=some vs):evp ev ((i,x)::xs)=some ((i,v)::vs):=by
 show(match ev x,evp ev xs with | some v,some vs=>some ((i,v)::vs) | _,_=>none)=_;rw [h1,h2]
theorem Zkv {P:Program} {h:H} {t:TypeId} {b o z sz:Nat} {cs vs:List Value} {own:Bool} (ht:Yp P t=some true) (hs:Z8 P t=some sz) (hr:h.at b= .row cs own z) (hl:o + sz <=cs.length) (hv:(cs.drop o).take sz=vs):
 KE P h t (.pointer (some ⟨b,o,none⟩))=some (.agg vs.toArray):=by
 unfold KE;dsimp only;rw [hr];dsimp only;rw [ht,hs];dsimp only;have hb:Nat.ble (o + sz) cs.length=true:=Nat.ble_eq_true_of_le hl;rw [hb,hv];rfl
end Go.Yy
end
end
section
noncomputable section
namespace Go.Yy
variable {X:Ctx} {n wm:Nat} {rd:Option Nat} {Q:XX ->Fs ->Prop} {ops:Array Oper} {l:List Oper} {fr:Fr} {ds:List Deferred} {h:H} {d:Option Tmp} {ty:TypeId} {p:String} {af:Array Edge} {g:Option (Nat×Bool)} {ev:Operand ->Option Value}
theorem YR {x:Operand} {v:Value} (hx:ev x=some v):Xy X h ev ⟨d,.move x,ty,p,af,g⟩=some (.val v,.none):=by rw [ZvZ,hx];rfl
theorem YG {x:Operand} {v:Value} (hx:ev x=some v):Xy X h ev ⟨d,.assign x,ty,p,af,g⟩=some (.val v,.none):=by rw [ZpD,hx];rfl
theorem XJ {x:Operand} {t:TypeId} {f off b o:Nat} (hf:ZE X.P t f off) (hx:ev x=some (.pointer (some ⟨b,o,none⟩))):Xy X h ev ⟨d,.fieldAddr t x f,ty,p,af,g⟩=some (.val (.pointer (some ⟨b,o + off,none⟩)),.none):=by
 rw [ZjC,hx];dsimp only;rw [hf.addr];rfl
theorem Zpy {x:Operand} {a:Addr} (hx:ev x=some (.pointer (some a))):Xy X h ev ⟨d,.nilCheck x,ty,p,af,g⟩=some (.val (.pointer (some a)),.none):=by
 show(match ev x with
  | some (.pointer (some a))=>some (AN.val (.pointer (some a)),Eff.none)
  | _=>none)=_
 rw [hx]
theorem ZvQ {x:Operand} {t:TypeId} {b o z:Nat} {cs:List Value} {own:Bool} {v:Value} (ht:Yp X.P t=some false) (hx:ev x=some (.pointer (some ⟨b,o,none⟩))) (hr:h.at b= .row cs own z) (hc:cs[o]? =some v):
 Xy X h ev ⟨d,.load t x,ty,p,af,g⟩=some (.val v,.none):=by rw [ZnW,hx];dsimp only;rw [Slc.load hr ht hc];rfl
theorem ZvP {x:Operand} {t:TypeId} {b o z sz:Nat} {cs vs:List Value} {own:Bool} (ht:Yp X.P t=some true) (hs:Z8 X.P t=some sz) (hx:ev x=some (.pointer (some ⟨b,o,none⟩))) (hr:h.at b= .row cs own z) (hl:o + sz <=cs.length) (hv:(cs.drop o).take sz=vs):
 Xy X h ev ⟨d,.load t x,ty,p,af,g⟩=some (.val (.agg vs.toArray),.none):=by rw [ZnW,hx];dsimp only;rw [Zkv ht hs hr hl hv];rfl
theorem ZCX {x:Operand} {t e:TypeId} {a:Option Addr} {m c:Nat} (hu:X.P.underlying t=some (.slice e)) (hx:ev x=some (.slice a m c)):
 Xy X h ev ⟨d,.call {callee:= .builtin .len,args:=#[x],argTypes:=#[t]},ty,p,af,g⟩=some (.val (.int .i64 m),.none):=by
 have he:evs ev [x]=some [.slice a m c]:=Zc hx Zj;rw [UR]
 show(match evs ev [x] with
  | some args=>Ws X.P h .len #[t] ty args
  | none=>none)=_
 rw [he];show vN (Zv2 X.P h t (.slice a m c))=_;unfold Zv2;rw [hu];rfl
theorem ZCY {x y:Operand} {t e:TypeId} {sz b o m c k:Nat} {iv:Int} (hu:X.P.underlying t=some (.slice e)) (hs:Z8 X.P e=some sz) (hx:ev x=some (.slice (some ⟨b,o,none⟩) m c)) (hy:ev y=some (.int .i64 iv)) (hi:iv= (k:Int)) (hk:k < m):
 Xy X h ev ⟨d,.indexAddr t x y,ty,p,af,g⟩=some (.val (.pointer (some ⟨b,o + k * sz,none⟩)),.none):=by
 subst hi;rw [ZjB,hx,hy];dsimp only;rw [Slc.addr hu hs hk];rfl
theorem ZlO {x:Operand} {t:TypeId} {b:Bool} (hx:ev x=some (.bool b)):Xy X h ev ⟨d,.unOp .not t x,ty,p,af,g⟩=some (.val (.bool (!b)),.none):=by rw [ZvY,hx];rfl
theorem Y3 {op:BinOp} {x y:Operand} {t yt:TypeId} {a b v:Value} (hx:ev x=some a) (hy:ev y=some b) (hv:J3 X.P op t x y a b=some (.val v,.none)):Xy X h ev ⟨d,.binOp op t x y yt,ty,p,af,g⟩=some (.val v,.none):=by
 rw [Zr3,hx,hy];exact hv
theorem XK {c x y:Operand} {b z:Bool} (hc:ev c=some (.bool b)) (hx:ev x=some (cond b (.bool z) undef)) (hy:ev y=some (.bool false)):Xy X h ev ⟨d,.pick c x y,ty,p,af,g⟩=some (.val (.bool (b && z)),.none):=by
 rw [Ze9,hc,hx,hy];cases b <;> rfl
theorem Zz9 {c x y:Operand} {b z:Bool} (hc:ev c=some (.bool b)) (hx:ev x=some (.bool true)) (hy:ev y=some (cond (!b) (.bool z) undef)):Xy X h ev ⟨d,.pick c x y,ty,p,af,g⟩=some (.val (.bool (b || z)),.none):=by
 rw [Ze9,hc,hx,hy];cases b <;> rfl
theorem WQ {x:Operand} {k:Nat} {vs:List Value} {v:Value} (hx:ev x=some (.tuple vs.toArray)) (hv:vs[k]? =some v):Xy X h ev ⟨d,.extract x k,ty,p,af,g⟩=some (.val v,.none):=by
 rw [ZnX,hx];dsimp only;unfold ZcF;dsimp only;rw [hv];rfl
def Zh (ops:Array Oper) (o:Oper) (fr:Fr) (c:Bool):Prop:=okG ops.toList o fr=true∧Xm ops.toList o fr=c
theorem Zh.yes {ops:Array Oper} {o:Oper} {fr:Fr} {j:Nat} {b:Bool} {og:Oper} {dd:Tmp} (h:o.guard=some (j,true)) (hj:ops.toList[j]? =some og) (hd:og.dst=some dd) (hv:fr.at dd= .bool b):Zh ops o fr b:=by
 unfold Zh okG Xm Zad;rw [h];dsimp only;rw [hj];dsimp only;rw [hd];dsimp only;rw [hv];cases b <;> exact⟨rfl,rfl⟩
theorem Zh.no {ops:Array Oper} {o:Oper} {fr:Fr} {j:Nat} {b:Bool} {og:Oper} {dd:Tmp} (h:o.guard=some (j,false)) (hj:ops.toList[j]? =some og) (hd:og.dst=some dd) (hv:fr.at dd= .bool b):Zh ops o fr (!b):=by
 unfold Zh okG Xm Zad;rw [h];dsimp only;rw [hj];dsimp only;rw [hd];dsimp only;rw [hv];cases b <;> exact⟨rfl,rfl⟩
theorem Zh.Zah {ops:Array Oper} {o:Oper} {fr:Fr} {j:Nat} {a b:Bool} {og:Oper} {dd:Tmp} (h:o.guard=some (j,true)) (hj:ops.toList[j]? =some og) (hd:og.dst=some dd) (hv:fr.at dd=cond a (.bool b) undef):Zh ops o fr (a && b):=by
 unfold Zh okG Xm Zad;rw [h];dsimp only;rw [hj];dsimp only;rw [hd];dsimp only;rw [hv];cases a <;> cases b <;> exact⟨rfl,rfl⟩
theorem Zh.no2 {ops:Array Oper} {o:Oper} {fr:Fr} {j:Nat} {a b:Bool} {og:Oper} {dd:Tmp} (h:o.guard=some (j,false)) (hj:ops.toList[j]? =some og) (hd:og.dst=some dd) (hv:fr.at dd=cond a (.bool b) undef):Zh ops o fr (a && !b):=by
 unfold Zh okG Xm Zad;rw [h];dsimp only;rw [hj];dsimp only;rw [hd];dsimp only;rw [hv];cases a <;> cases b <;> exact⟨rfl,rfl⟩
theorem WO.gv {d:Nat} {op:Op} {c:Bool} {v:Value} (hg:Zh ops ⟨some d,op,ty,p,af,g⟩ fr c) (hd:Nat.blt d n=true) (ha:c=true ->Xy X h (ZY fr) ⟨some d,op,ty,p,af,g⟩=some (.val v,.none))
 (k:WO X n wm rd ops l ⟨Tr.set fr d (cond c v undef),ds,h,none⟩ Q):WO X n wm rd ops (⟨some d,op,ty,p,af,g⟩::l) ⟨fr,ds,h,none⟩ Q:=by
 cases c
 ·exact WO.o hg hd k
 ·exact WO.v hg hd (ha rfl) rfl k
end Go.Yy
end
end
section
noncomputable section
namespace Go.Yy
variable {X:Ctx} {n wm:Nat} {rd:Option Nat} {ops:Array Oper} {l:List Oper} {fr:Fr} {ds:List Deferred} {h:H} {ty:TypeId} {p:String} {af:Array Edge} {g:Option (Nat×Bool)}
variable {Q:Fr ->Prop}
theorem Zwh (wm:Nat):MOf false wm none=fun _=>False:=by funext x;unfold MOf;simp
theorem ZcS:∀ (j:Jg) (r:YO),(fun _:Jg=>(none:Option YO)) j=some r ->Wv j r:=fun _ _ h=>by cases h
end Go.Yy
end
end
