/- Order Part 7 of the proof. -/
import Derived.ProofKit
import Derived.Test.YtekpjgmhkkjhgaaOa6
set_option linter.all false
section
noncomputable section
namespace Go.Proofs.Ytekpjgmhkkjhgaa
open Go.Yw Go.RowKit Go.WideShapes Go.ChangeShapes
def isTrue (r:Option YD):Bool:=
 match r with
 | some (.fin (.ret (.bool true)) _)=>true
 | _=>false
theorem ZmE {r:Option YD} (h:isTrue r=true):∃ h',r=some (.fin (.ret (.bool true)) h'):=by
 unfold isTrue at h;split at h
 ·exact⟨_,rfl⟩
 ·cases h
theorem mixed:Try.prog.follows .mixedOrders=true:=by kernel_rfl
def Zyw:Ren:= ⟨fun _=>none,fun _=>(0,0)⟩
theorem Znw (X:Ctx) (hX:X.P=Try.prog) {k:Nat} {f:FuncId} (h:isTrue (ev (cfg X fun _=>false) k (.call f #[] 0 ⟨.nil,0⟩))=true) (w:World):
 Calls Try.prog f #[] w fun e w'=>e= .returned (.bool true)∧Below w.heap.size w w':=by
 obtain⟨h',e⟩:=ZmE h;have hj:Yq X (.call f #[] 0 ⟨.nil,0⟩) (.fin (.ret (.bool true)) h'):=ZeQ (by rw [hX];exact mixed) k _ _ e;have hr:Rel Zyw ⟨.nil,0⟩ w:= ⟨fun _ _ _ e=>(by cases e),fun _ _ _ e=>(by cases e),fun _ _ _ _ _ e=>(by cases e)⟩
 rw [← hX];have:=callsIn_wide.1 (hj Zyw #[] w (Nat.le_refl 0) hr ⟨rfl,fun i v v' e=>by simp at e⟩);refine this.mono fun e w' ⟨ρ',he,_,st⟩=>?_
 refine⟨?_,st.below fun i b d _ e=>by cases e⟩;cases he with
 | ret hv=>cases hv;rfl
section
variable {H:Type} {enc:TypeId×Value ->H} {P:Program}
theorem ZiS {f:Func} {s:ChangeSpec} {apart fresh handsOn again:Bool} {W W':World} {args:Array Value} {v:Value} {ds gs:List (DataW H)} {before pa pv:List MemPlace}
 (hW:DataW.Whole enc P f.params.toList s.vars apart W args.toList ds gs before)
 (hres:∀ (b:Nat) (sp:Nat ->Bool) (hd:Bool),DataW.TrodAll enc P W' b sp hd f.resultTypes.toList (v.resultList f.resultTypes.size) (s.fn H (ds ++ gs)).results [])
 (hargs:∀ sp:Nat ->Bool,(∀ p ∈ before,sp p.block=true) ->DataW.TrodAll enc P W' 0 sp true f.params.toList args.toList (s.fn H (ds ++ gs)).args pa)
 (hvars:∀ sp:Nat ->Bool,(∀ p ∈ before,sp p.block=true) ->DataW.TrodVars enc P W' sp s.vars (s.fn H (ds ++ gs)).vars pv)
 (hps:before=pa ++ pv) (hb:Below W.heap.size W W')
 (hok:∀ (j:Nat) (t:TypeId) (r:Value),f.resultTypes[j]? =some t ->(v.resultList f.resultTypes.size)[j]? =some r ->Value.okWide P W' .any 0 t r):
 s.post enc P f apart fresh handsOn again W args v W':=by
 have hlt:∀ p ∈ before,p.block < W.heap.size:=fun p hp=>hW.lt p hp
 have hold:∀ p ∈ before,(fun b=>decide (b < W.heap.size)) p.block=true:=fun p hp=>by simpa using hlt p hp
 refine⟨ds,gs,before,[],pa,pv,hW,hres _ _ _,hargs _ hold,hvars _ hold,World.keptBut_mono (fun p hp=>⟨hp,?_⟩) (hb.frame (· ∈ before)),fun _=>?_⟩
 ·rw [hps,List.mem_append] at hp;exact Or.inr hp
 ·obtain⟨_,_,_,_,_,hz,hn⟩:=hW;refine⟨hok,_,_,([] ++ pa) ++ pv,⟨[] ++ pa,pv,trodAll_append (hargs _ (fun _ _=>rfl)) (hres _ _ _),hvars _ (fun _ _=>rfl),rfl,?_,?_⟩,?_⟩
  ·intro b off hp;have hin:MemPlace.cell b off ∈ before:=by rw [hps];simpa using hp
   rw [hb.frozen (hlt _ hin)];exact hz b off hin
  ·intro ha;have:=hn ha;rw [hps] at this
   simpa using this
  ·intro p hp _;rw [hps]
   simpa using hp
end
end Go.Proofs.Ytekpjgmhkkjhgaa
end
end
section
noncomputable section
namespace Go.Yw
variable {X:Ctx}
structure WC (X:Ctx) (n wm:Nat) (rd:Option Nat) (c:Code) (s:Fs) (Q:XX ->Fs ->Prop):Prop where
 out:∃ e s',Q e s'∧Yq X (.code c n wm rd s) (.code e s')
structure WL (X:Ctx) (n wm:Nat) (rd:Option Nat) (c:Code) (s:Fs) (Q:XX ->Fs ->Prop):Prop where
 out:∃ e s',Q e s'∧Yq X (.loop c n wm rd s) (.code e s')
structure WF (X:Ctx) (f:FuncId) (args:Array Value) (wm:Nat) (h:H) (Q:WZ ->H ->Prop):Prop where
 out:∃ e h',Q e h'∧Yq X (.call f args wm h) (.fin e h')
def ZFQ (X:Ctx) (n wm:Nat) (rd:Option Nat) (ops:Array Oper) (l:List Oper) (s:Fs) (e:XX) (s':Fs):Prop:=
 ∀ (Q:Exit ->Act ->World ->Prop) {ρ:Ren} {F:Fence} {a:Act} {w:World},Inv ρ n s a w ->wm <=s.h.size ->FR' ρ rd F ->(∀ e' a' w',Xx wm n ρ s.h w e s' e' a' w' ->Q e' a' w') ->wpListIn F 0 X.P ops Q l a w
structure WO (X:Ctx) (n wm:Nat) (rd:Option Nat) (ops:Array Oper) (l:List Oper) (s:Fs) (Q:XX ->Fs ->Prop):Prop where
 out:∃ e s',Q e s'∧ZFQ X n wm rd ops l s e s'
variable {n wm:Nat} {rd:Option Nat} {s:Fs} {Q:XX ->Fs ->Prop}
theorem WC.mono {c:Code} {Q':XX ->Fs ->Prop} (h:WC X n wm rd c s Q) (k:∀ e s',Q e s' ->Q' e s'):WC X n wm rd c s Q':=let⟨e,s',h1,h2⟩:=h;⟨e,s',k e s' h1,h2⟩
theorem WF.mono {f:FuncId} {args:Array Value} {h:H} {Q Q':WZ ->H ->Prop} (h1:WF X f args wm h Q) (k:∀ e s',Q e s' ->Q' e s'):WF X f args wm h Q':=let⟨e,s',h1,h2⟩:=h1;⟨e,s',k e s' h1,h2⟩
def ZFM (X:Ctx) (n wm:Nat) (rd:Option Nat) (b:Code) (Q:XX ->Fs ->Prop):XX ->Fs ->Prop:=fun e s=>
 match e with
 | .normal=>WC X n wm rd b s Q
 | e=>Q e s
def ZBV (X:Ctx) (n wm:Nat) (rd:Option Nat) (c:Code) (Q:XX ->Fs ->Prop):XX ->Fs ->Prop:=fun e s=>
 match e with
 | .normal=>WL X n wm rd c s Q
 | e=>Q e s
def ZvO (id:Nat) (Q:XX ->Fs ->Prop):XX ->Fs ->Prop:=fun e s=>
 match e with
 | .exit k=>if k=id then Q .normal s else Q (.exit k) s
 | e=>Q e s
def ZFO (Q:XX ->Fs ->Prop):XX ->Fs ->Prop:=fun e s=>
 match e with
 | .goto _=>False
 | e=>Q e s
structure QA (X:Ctx) (n wm:Nat) (rd:Option Nat) (b:Code) (Q:XX ->Fs ->Prop) (e:XX) (s:Fs):Prop where
 out:ZFM X n wm rd b Q e s
structure Yz (X:Ctx) (n wm:Nat) (rd:Option Nat) (b:Code) (Q:XX ->Fs ->Prop) (e:XX) (s:Fs):Prop where
 out:ZBV X n wm rd b Q e s
structure U5 (id:Nat) (Q:XX ->Fs ->Prop) (e:XX) (s:Fs):Prop where
 out:ZvO id Q e s
structure Zst (Q:XX ->Fs ->Prop) (e:XX) (s:Fs):Prop where
 out:ZFO Q e s
theorem ExR.Zhy {ρ:Ren} {e:XX} {e':Exit} (he:ExR ρ e e') (h:e ≠ .normal) {N:Act ->World ->Prop} {R:Exit ->Act ->World ->Prop} {a:Act} {w:World} (hr:R e' a w):Exit.then N R e' a w:=by
 cases he with
 | normal=>exact absurd rfl h
 | _=>exact hr
theorem WC.seq {a b:Code} (h:WC X n wm rd a s (QA X n wm rd b Q)):WC X n wm rd (.seq a b) s Q:=by
 obtain⟨e,s1,hq,ka⟩:=h;by_cases hn:e= .normal
 ·subst hn;obtain⟨e2,s2,hq2,kb⟩:=hq.out;refine⟨e2,s2,hq2,fun ρ a w F ZE hi hF=>wpIn_seq (wpIn_mono (ka ρ a w F ZE hi hF) ?_)⟩;rintro e' a' w' ⟨ρ',he,hi',hst⟩;cases he;exact wpIn_mono (kb ρ' a' w' F (Nat.le_trans ZE hst.size) hi' (hF.mono hst.ext)) fun _ _ _ hp=>Xx.trans hi.rel.lt hst hp
 ·refine⟨e,s1,?_,fun ρ a w F ZE hi hF=>wpIn_seq (wpIn_mono (ka ρ a w F ZE hi hF) ?_)⟩
  ·cases e with
   | normal=>exact absurd rfl hn
   | _=>exact hq.out
  ·rintro e' a' w' ⟨ρ',he,hi',hst⟩;exact he.Zhy hn ⟨ρ',he,hi',hst⟩
theorem WC.cond {c:Operand} {a b:Code} {t:Bool} (hc:ZV s.fr c=some (.bool t)) (h1:t=true ->WC X n wm rd a s Q) (h2:t=false ->WC X n wm rd b s Q):WC X n wm rd (.cond c a b) s Q:=by
 have:∃ e s',Q e s'∧∀ ρ a' w F,wm <=s.h.size ->Inv ρ n s a' w ->FR' ρ rd F ->(if t then a else b).wpIn F 0 X.P (Xx wm n ρ s.h w e s') a' w:=by
  cases t with
  | true=>obtain⟨e,s',q,k⟩:=h1 rfl;exact⟨e,s',q,k⟩
  | false=>obtain⟨e,s',q,k⟩:=h2 rfl;exact⟨e,s',q,k⟩
 obtain⟨e,s',hq,k⟩:=this;refine⟨e,s',hq,fun ρ a' w F ZE hi hF=>?_⟩;have hv:=KF hi.fr _ _ hc;generalize hx:a'.eval c=x at hv;cases hv;exact wpIn_cond hx (k ρ a' w F ZE hi hF)
theorem WC.block {id:Nat} {c:Code} (h:WC X n wm rd c s (U5 id Q)):WC X n wm rd (.block id c) s Q:=by
 obtain⟨e,s1,hq,ka⟩:=h
 have key:∃ e2,Q e2 s1∧∀ (UH n':Nat) (ρ0:Ren) (h0:H) (w0:World) (e':Exit) (a':Act) (w':World),Xx UH n' ρ0 h0 w0 e s1 e' a' w' ->Exit.inBlock id (Xx UH n' ρ0 h0 w0 e2 s1) e' a' w':=by
  cases e with
  | exit k=>
    by_cases hk:k=id
    ·subst hk;refine⟨.normal,by simpa [ZvO] using hq.out,?_⟩;rintro _ _ _ _ _ e' a' w' ⟨ρ',he,hi',hst⟩;cases he;show if _ then _ else _
     rw [if_pos rfl];exact⟨ρ',.normal,hi',hst⟩
    ·refine⟨.exit k,by simpa [ZvO,hk] using hq.out,?_⟩;rintro _ _ _ _ _ e' a' w' ⟨ρ',he,hi',hst⟩;cases he;show if _ then _ else _
     rw [if_neg hk];exact⟨ρ',.exit k,hi',hst⟩
  | normal=>exact⟨.normal,hq.out,by rintro _ _ _ _ _ e' a' w' ⟨ρ',he,hi',hst⟩;cases he;exact⟨ρ',.normal,hi',hst⟩⟩
  | goto l=>exact⟨.goto l,hq.out,by rintro _ _ _ _ _ e' a' w' ⟨ρ',he,hi',hst⟩;cases he;exact⟨ρ',.goto l,hi',hst⟩⟩
  | ret=>exact⟨.ret,hq.out,by rintro _ _ _ _ _ e' a' w' ⟨ρ',he,hi',hst⟩;cases he;exact⟨ρ',.ret,hi',hst⟩⟩
  | panic v=>exact⟨.panic v,hq.out,by rintro _ _ _ _ _ e' a' w' ⟨ρ',he,hi',hst⟩;cases he with | panic hv=>exact⟨ρ',.panic hv,hi',hst⟩⟩
 obtain⟨e2,hq2,key⟩:=key;exact⟨e2,s1,hq2,fun ρ a w F ZE hi hF=>wpIn_block (wpIn_mono (ka ρ a w F ZE hi hF) fun e' a' w' hp=>key _ _ _ _ _ e' a' w' hp)⟩
theorem WC.scope {c:Code} (h:WC X n wm rd c s (Zst Q)):WC X n wm rd (.scope c) s Q:=by
 obtain⟨e,s1,hq,ka⟩:=h;cases e with
 | goto l=>exact hq.out.elim
 | exit k=>exact⟨_,s1,hq.out,fun ρ a w F ZE hi hF=>Jv (wpIn_mono (ka ρ a w F ZE hi hF) (by rintro e' a' w' ⟨ρ',he,hi',hst⟩;cases he;exact⟨ρ',.exit k,hi',hst⟩))⟩
 | normal=>exact⟨_,s1,hq.out,fun ρ a w F ZE hi hF=>Jv (wpIn_mono (ka ρ a w F ZE hi hF) (by rintro e' a' w' ⟨ρ',he,hi',hst⟩;cases he;exact⟨ρ',.normal,hi',hst⟩))⟩
 | ret=>exact⟨_,s1,hq.out,fun ρ a w F ZE hi hF=>Jv (wpIn_mono (ka ρ a w F ZE hi hF) (by rintro e' a' w' ⟨ρ',he,hi',hst⟩;cases he;exact⟨ρ',.ret,hi',hst⟩))⟩
 | panic v=>exact⟨_,s1,hq.out,fun ρ a w F ZE hi hF=>Jv (wpIn_mono (ka ρ a w F ZE hi hF) (by rintro e' a' w' ⟨ρ',he,hi',hst⟩;cases he with | panic hv=>exact⟨ρ',.panic hv,hi',hst⟩))⟩
theorem WC.skip (h:Q .normal s):WC X n wm rd .skip s Q:= ⟨_,_,h,fun ρ _ _ _ _ hi _=>wpIn_skip ⟨ρ,.normal,hi,Stp.refl _ _ _ _⟩⟩
theorem WC.label {l:Nat} (h:Q .normal s):WC X n wm rd (.label l) s Q:= ⟨_,_,h,fun ρ _ _ _ _ hi _=>wpIn_label ⟨ρ,.normal,hi,Stp.refl _ _ _ _⟩⟩
theorem WC.ret (h:Q .ret s):WC X n wm rd .ret s Q:= ⟨_,_,h,fun ρ _ _ _ _ hi _=>wpIn_ret ⟨ρ,.ret,hi,Stp.refl _ _ _ _⟩⟩
theorem WC.exit {id:Nat} (h:Q (.exit id) s):WC X n wm rd (.exit id) s Q:= ⟨_,_,h,fun ρ _ _ _ _ hi _=>wpIn_exit ⟨ρ,.exit id,hi,Stp.refl _ _ _ _⟩⟩
theorem WC.loop {c:Code} (h:WL X n wm rd c s Q):WC X n wm rd (.loop c) s Q:=
 let⟨e,s',hq,k⟩:=h;⟨e,s',hq,fun ρ a w F ZE hi hF=>ZbF (k ρ a w F ZE hi hF)⟩
theorem WC.region {id:Nat} {ops:Array Oper} (h:WO X n wm rd ops ops.toList s Q):WC X n wm rd (.region id ops false) s Q:=by
 obtain⟨e,s',hq,k⟩:=h;exact⟨e,s',hq,fun ρ a w F ZE hi hF=>wpIn_region_list (k _ hi ZE hF fun _ _ _ hp=>hp)⟩
theorem WL.step {c:Code} (h:WC X n wm rd c s (Yz X n wm rd c Q)):WL X n wm rd c s Q:=by
 obtain⟨e,s1,hq,ka⟩:=h;by_cases hn:e= .normal
 ·subst hn;obtain⟨e2,s2,hq2,kb⟩:=hq.out;refine⟨e2,s2,hq2,fun ρ a w F ZE hi hF=>XB (wpIn_mono (ka ρ a w F ZE hi hF) ?_)⟩;rintro e' a' w' ⟨ρ',he,hi',hst⟩;cases he;have:=kb ρ' a' w' F (Nat.le_trans ZE hst.size) hi' (hF.mono hst.ext);intro b k cs h1 h2 h3;obtain⟨e3,a3,w3,hp,harr⟩:=this b k cs h1 h2 h3;exact⟨e3,a3,w3,Xx.trans hi.rel.lt hst hp,harr⟩
 ·refine⟨e,s1,?_,fun ρ a w F ZE hi hF=>XB (wpIn_mono (ka ρ a w F ZE hi hF) ?_)⟩
  ·cases e with
   | normal=>exact absurd rfl hn
   | _=>exact hq.out
  ·rintro e' a' w' ⟨ρ',he,hi',hst⟩;exact he.Zhy hn ⟨ρ',he,hi',hst⟩
def ZFP (X:Ctx) (fn:Func) (Q:WZ ->H ->Prop):XX ->Fs ->Prop:=fun e s=>s.ds= []∧
 match e with
 | .normal=>∃ v,QC X.P fn s.fr s.h=some v∧Q (.ret v) s.h
 | .ret=>∃ v,QC X.P fn s.fr s.h=some v∧Q (.ret v) s.h
 | .panic v=>Q (.Jk v) s.h
 | _=>False
structure ZR (X:Ctx) (fn:Func) (Q:WZ ->H ->Prop) (e:XX) (s:Fs):Prop where
 out:ZFP X fn Q e s
theorem WF.enter {f:FuncId} {fn:Func} {c:Code} {args:Array Value} {h:H} {Q:WZ ->H ->Prop} (hf:X.fns.get f=some fn) (hb:fn.body=some c) (hn:args.toList.length <=fn.ntmps)
 (k:WC X fn.ntmps wm none c {fr:=XI args.toList 0 .nil,ds:= [],h:=h} (ZR X fn Q)):WF X f args wm h Q:=by
 obtain⟨e,s',⟨hds,hq⟩,ka⟩:=k
 have main:∀ (E:WZ) (pm:PM),xPM e=some pm ->Ul (cfg X fun _=>false) (fun _=>none) fn wm pm s'=some (.fin E s'.h) ->Yq X (.call f args wm h) (.fin E s'.h):=by
  intro E pm hpm hl;have hj:=Jh (C:=cfg X fun _=>false) (ih:=fun _=>none) (fun _ _ h=>by cases h) hl;intro ρ args' w ZE hr hv
  have hi:Inv ρ fn.ntmps {fr:=XI args.toList 0 .nil,ds:= [],h:=h} {tmps:=args' ++ Array.replicate (fn.ntmps - args'.size) undef,defers:= []} w:=
   ⟨hr,Wz hv hn,.nil⟩
  refine callsIn_of_wp_marks (X.ok f fn hf).1 hb trivial (wpIn_mono (ka ρ _ w Fence.wide ZE hi rfl) ?_);rintro e' a' w' ⟨ρ',he,hi',hst⟩;cases he with
  | normal=>cases hpm;exact hj ρ' _ a' .returning w' _ (Nat.le_trans ZE hst.size) hi' .ret (fun _ _ hp=>Wi.trans hr.lt hst hp)
  | ret=>cases hpm;exact hj ρ' _ a' .returning w' _ (Nat.le_trans ZE hst.size) hi' .ret (fun _ _ hp=>Wi.trans hr.lt hst hp)
  | panic hv'=>cases hpm;exact hj ρ' _ a' _ w' _ (Nat.le_trans ZE hst.size) hi' (.Jk hv') (fun _ _ hp=>Wi.trans hr.lt hst hp)
  | exit id=>cases hpm
  | goto l=>cases hpm
 cases e with
 | normal=>
   obtain⟨v,hv,hq⟩:=hq
   exact⟨_,_,hq,main _ .ret rfl (by
    have hv':QC (cfg X fun _=>false).X.P fn s'.fr s'.h=some v:=hv;unfold Ul;rw [hds];simp only [hv'])⟩
 | ret=>
   obtain⟨v,hv,hq⟩:=hq
   exact⟨_,_,hq,main _ .ret rfl (by
    have hv':QC (cfg X fun _=>false).X.P fn s'.fr s'.h=some v:=hv;unfold Ul;rw [hds];simp only [hv'])⟩
 | panic v=>exact⟨_,_,hq,main _ (.Jk v) rfl (by unfold Ul;rw [hds])⟩
 | exit _=>exact hq.elim
 | goto _=>exact hq.elim
abbrev Pure (X:Ctx) (f:FuncId) (args:Array Value) (h:H) (v:Value):Prop:=∀ wm,Yq X (.call f args wm h) (.fin (.ret v) h)
theorem WF.pure {f:FuncId} {args:Array Value} {h:H} {v:Value} (hp:plain v=true) (k:WF X f args h.size h (fun e _=>e= .ret v)):Pure X f args h v:=by
 obtain⟨e,h',rfl,hj⟩:=k;intro wm ρ args' w ZE hr hv;refine(hj ρ args' w (Nat.le_refl _) hr hv).mono ?_;rintro e' w' ⟨ρ',he,hr',hst⟩;cases he with
 | ret hv'=>
   rw [VR.YE hp hv'];obtain⟨q1,q2⟩:=ZaU hr hst;exact⟨ρ,.ret (VR.ZI hp),q1,q2 wm⟩
variable {ops:Array Oper} {l:List Oper} {o:Oper}
theorem WO.nil (h:Q .normal s):WO X n wm rd ops [] s Q:= ⟨_,_,h,fun _ ρ _ a w hi _ _ hq=>hq .normal a w ⟨ρ,.normal,hi,Stp.refl _ _ _ _⟩⟩
theorem WO.cons {ih:Q9 ->Option YD} (HI:∀ j r,ih j=some r ->Yq X j r) {s1:Fs} (h:WW X (fun _=>false) ih n wm rd ops.toList o s=some (.normal,s1)) (k:WO X n wm rd ops l s1 Q):WO X n wm rd ops (o::l) s Q:=by
 obtain⟨e,s',hq,hk⟩:=k;refine⟨e,s',hq,fun Q' ρ F a w hi ZE hF hq'=>?_⟩;refine Zar HI h hi ZE hF (fun _ ρ' a' w' hi' st'=>?_) (fun v he=>by cases he);refine hk Q' hi' (Nat.le_trans ZE st'.size) (hF.mono st'.ext) fun e' a2 w2 hp=>?_
 obtain⟨ρ2,q1,q2,q3⟩:=hp;exact hq' e' a2 w2 ⟨ρ2,q1,q2,st'.trans hi.rel.lt q3⟩
theorem WO.panics {ih:Q9 ->Option YD} (HI:∀ j r,ih j=some r ->Yq X j r) {s1:Fs} {v:Value} (h:WW X (fun _=>false) ih n wm rd ops.toList o s=some (.panic v,s1)) (k:Q (.panic v) s1):WO X n wm rd ops (o::l) s Q:=by
 refine⟨.panic v,s1,k,fun Q' ρ F a w hi ZE hF hq'=>?_⟩;refine Zar HI h hi ZE hF (fun he=>by cases he) (fun v' he ρ' v2 a' w' hv hi' st'=>?_);cases he;exact hq' _ a' w' ⟨ρ',.panic hv,hi',st'⟩
theorem Zbh (X:Ctx):∀ (j:Q9) (r:YD),(fun _:Q9=>(none:Option YD)) j=some r ->Yq X j r:=fun _ _ h=>by cases h
def ZO (ops:Array Oper) (o:Oper) (fr:Fr):Prop:=okG ops.toList o fr=true∧Y6 ops.toList o fr=true
def ZeH (ops:Array Oper) (o:Oper) (fr:Fr):Prop:=okG ops.toList o fr=true∧Y6 ops.toList o fr=false
theorem ZO.none {ops:Array Oper} {o:Oper} {fr:Fr} (h:o.guard=none):ZO ops o fr:=by unfold ZO okG Y6;rw [h];exact⟨rfl,rfl⟩
theorem gN {ops:Array Oper} {d:Option Tmp} {op:Op} {ty:TypeId} {p:String} {af:Array Edge} {fr:Fr}:ZO ops ⟨d,op,ty,p,af,Option.none⟩ fr:=ZO.none rfl
def Zil (n:Nat) (d:Option Tmp):Bool:=
 match d with
 | none=>true
 | some d=>Nat.blt d n
theorem Zey {fr:Fr} {ds:List Deferred} {h:H} {d:Option Tmp} {v:Value} (hd:Zil n d=true):ZgA n ⟨fr,ds,h,none⟩ d v=some ⟨J4 fr d v,ds,h,none⟩:=by
 rw [Zg3];cases d with
 | none=>rfl
 | some d=>
   unfold Zil at hd;dsimp only at hd ⊢;rw [hd];rfl
variable {fr:Fr} {ds:List Deferred} {h h1:H}
theorem WO.val {v:Value} {E:Eff} (hg:ZO ops o fr) (hd:Zil n o.dst=true) (ha:Xi X h (ZV fr) o=some (.val v,E)) (hE:E.apply wm h=some h1)
 (k:WO X n wm rd ops l ⟨J4 fr o.dst v,ds,h1,none⟩ Q):WO X n wm rd ops (o::l) ⟨fr,ds,h,none⟩ Q:=by
 refine WO.cons (Zbh X) ?_ k;unfold WW;rw [hg.1,hg.2];dsimp only [Bool.not_true,cond_false,cond_true];rw [ha];dsimp only [Bool.not_true,cond_false,cond_true];rw [hE];unfold ZaY;dsimp only [WI];rw [Zey hd]
 rfl
theorem WO.unit {E:Eff} (hg:ZO ops o fr) (hd:Zil n o.dst=true) (ha:Xi X h (ZV fr) o=some (.skip,E)) (hE:E.apply wm h=some h1)
 (k:WO X n wm rd ops l ⟨J4 fr o.dst undef,ds,h1,none⟩ Q):WO X n wm rd ops (o::l) ⟨fr,ds,h,none⟩ Q:=by
 refine WO.cons (Zbh X) ?_ k;unfold WW;rw [hg.1,hg.2];dsimp only [Bool.not_true,cond_false,cond_true];rw [ha];dsimp only [Bool.not_true,cond_false,cond_true];rw [hE];unfold ZaY;dsimp only [WI];rw [Zey hd]
 rfl
theorem WO.panic {v:Value} {E:Eff} (hg:ZO ops o fr) (ha:Xi X h (ZV fr) o=some (.panic v,E)) (hE:E.apply wm h=some h1)
 (k:Q (.panic v) ⟨fr,ds,h1,none⟩):WO X n wm rd ops (o::l) ⟨fr,ds,h,none⟩ Q:=by
 refine WO.panics (Zbh X) ?_ k;unfold WW;rw [hg.1,hg.2];dsimp only [Bool.not_true,cond_false,cond_true];rw [ha];dsimp only [Bool.not_true,cond_false,cond_true];rw [hE]
 rfl
theorem WO.off (hg:ZeH ops o fr) (hd:Zil n o.dst=true) (k:WO X n wm rd ops l ⟨J4 fr o.dst undef,ds,h,none⟩ Q):WO X n wm rd ops (o::l) ⟨fr,ds,h,none⟩ Q:=by
 refine WO.cons (Zbh X) ?_ k;unfold WW;rw [hg.1,hg.2];dsimp only [Bool.not_true,cond_false,cond_true];rw [Zey hd]
 rfl
open Classical in
def Kb (j:Q9) (r:YD):Q9 ->Option YD:=fun j'=>if j'=j then some r else none
theorem QF {j:Q9} {r:YD} (h:Yq X j r):∀ j' r',Kb j r j'=some r' ->Yq X j' r':=by
 intro j' r' e;unfold Kb at e;split at e
 ·rename_i hj;cases e;rw [hj];exact h
 ·cases e
theorem QG (j:Q9) (r:YD):Kb j r j=some r:=by unfold Kb;rw [if_pos rfl]
theorem WO.call {f:FuncId} {args:Array Value} {E:Eff} {v:Value} {h2:H} (hg:ZO ops o fr) (hd:Zil n o.dst=true) (ha:Xi X h (ZV fr) o=some (.enter f args,E)) (hE:E.apply wm h=some h1)
 (hc:Yq X (.call f args wm h1) (.fin (.ret v) h2)) (k:WO X n wm rd ops l ⟨J4 fr o.dst v,ds,h2,none⟩ Q):WO X n wm rd ops (o::l) ⟨fr,ds,h,none⟩ Q:=by
 refine WO.cons (QF hc) ?_ k;unfold WW;rw [hg.1,hg.2];dsimp only [Bool.not_true,cond_false,cond_true];rw [ha];dsimp only [Bool.not_true,cond_false,cond_true];rw [hE];unfold ZaY;dsimp only [WI,cond_false];rw [QG];dsimp only;rw [Zey hd]
 rfl
theorem WO.Zit {f:FuncId} {args:Array Value} {E:Eff} {v:Value} {h2:H} (hg:ZO ops o fr) (ha:Xi X h (ZV fr) o=some (.enter f args,E)) (hE:E.apply wm h=some h1)
 (hc:Yq X (.call f args wm h1) (.fin (.Jk v) h2)) (k:Q (.panic v) ⟨fr,ds,h2,none⟩):WO X n wm rd ops (o::l) ⟨fr,ds,h,none⟩ Q:=by
 refine WO.panics (QF hc) ?_ k;unfold WW;rw [hg.1,hg.2];dsimp only [Bool.not_true,cond_false,cond_true];rw [ha];dsimp only [Bool.not_true,cond_false,cond_true];rw [hE];unfold ZaY;dsimp only [WI,cond_false];rw [QG]
 rfl
end Go.Yw
end
end
section
noncomputable section
namespace Go.Yw
variable {X:Ctx} {P:Program} {h:H} {fr:Fr} {ev:Operand ->Option Value} {d:Option Tmp} {ty:TypeId} {p:String} {af:Array Edge} {g:Option (Nat×Bool)}
theorem at_set (fr:Fr) (d t:Nat) (v:Value):Fr.at (Tr.set fr d v) t=if t=d then v else Fr.at fr t:=by
 unfold Fr.at;rw [Tr.JS];by_cases h:t=d <;> simp [h]
theorem ZN (i:Nat) (fr:Fr):XI [] i fr=fr:=rfl
theorem ZG (v:Value) (vs:List Value) (i:Nat) (fr:Fr):XI (v::vs) i fr=XI vs (i + 1) (Tr.set fr i v):=rfl
theorem Zg4 (fr:Fr) (t:Nat):ZV fr (.tmp t)=bif QH (fr.at t) then none else some (fr.at t):=rfl
theorem Zsk (fr:Fr) (v:Value):ZV fr (.const v)=bif plain v then some v else none:=rfl
theorem ZvC (fr:Fr) (f:FuncId):ZV fr (.func f)=some (.func (.func f) #[] #[]):=rfl
theorem Zvu (x:Operand):Xi X h ev ⟨d,.move x,ty,p,af,g⟩=vN (ev x):=rfl
theorem Zpp (x:Operand):Xi X h ev ⟨d,.assign x,ty,p,af,g⟩=vN (ev x):=rfl
theorem Zsi (op:BinOp) (t:TypeId) (x y:Operand) (yt:TypeId):Xi X h ev ⟨d,.binOp op t x y yt,ty,p,af,g⟩=match ev x,ev y with
 | some a,some b=>Jl X.P op t x y a b
 | _,_=>none:=rfl
theorem ZeA (c a b:Operand):Xi X h ev ⟨d,.pick c a b,ty,p,af,g⟩=match ev c with
 | some (.bool true)=>vN (ev a)
 | some (.bool false)=>vN (ev b)
 | _=>none:=rfl
theorem Zvt (op:UnOp) (t:TypeId) (x:Operand):Xi X h ev ⟨d,.unOp op t x,ty,p,af,g⟩=match ev x with
 | some a=>bif plain a then pN (Zax X.P (Op.unary op a)) else none
 | none=>none:=rfl
theorem ZnK (t:TypeId) (x:Operand):Xi X h ev ⟨d,.load t x,ty,p,af,g⟩=match ev x with
 | some v=>vN (Ki X.P h t v)
 | none=>none:=rfl
theorem Zsf (t:TypeId) (a x:Operand):Xi X h ev ⟨d,.store t a x,ty,p,af,g⟩=match ev a,ev x with
 | some a,some x=>sE (ZfN X.P h t a x)
 | _,_=>none:=rfl
theorem ZxZ (t:TypeId) (x:Operand):Xi X h ev ⟨d,.box t x,ty,p,af,g⟩=match ev x with
 | some v=>some (.val (Je h),.new (.row v.cells.toList true 0))
 | none=>none:=rfl
theorem Zsj (t:TypeId):Xi X h ev ⟨d,.alloc t,ty,p,af,g⟩=match YA X.P t with
 | some z=>some (.val (Je h),.new (.row z.cells.toList true 0))
 | none=>none:=rfl
theorem Zje (t:TypeId) (x:Operand) (f:Nat):Xi X h ev ⟨d,.fieldAddr t x f,ty,p,af,g⟩=match ev x with
 | some v=>vN (Zcq X.P t v f)
 | none=>none:=rfl
theorem Zjd (t:TypeId) (x i:Operand):Xi X h ev ⟨d,.indexAddr t x i,ty,p,af,g⟩=match ev x,ev i with
 | some x,some i=>vN (ZdS X.P t x i)
 | _,_=>none:=rfl
theorem ZnL (x:Operand) (k:Nat):Xi X h ev ⟨d,.extract x k,ty,p,af,g⟩=match ev x with
 | some x=>vN (Zcr x k)
 | none=>none:=rfl
theorem QT (b:Builtin) (xs:Array Operand) (ts:Array TypeId):Xi X h ev ⟨d,.call {callee:= .builtin b,args:=xs,argTypes:=ts},ty,p,af,g⟩=match evs ev xs.toList with
 | some args=>U0 X.P h b ts ty args
 | none=>none:=by
 show(match Callee.builtin b,evs ev xs.toList with
  | .builtin b,some args=>U0 X.P h b ts ty args
  | .value f,some args=>match ev f with
    | some f=>Zas X h f args
    | none=>none
  | _,_=>none)=_
 cases evs ev xs.toList <;> rfl
theorem ZfQ (f:Operand) (xs:Array Operand) (ts:Array TypeId):Xi X h ev ⟨d,.call {callee:= .value f,args:=xs,argTypes:=ts},ty,p,af,g⟩=match evs ev xs.toList with
 | some args=>match ev f with
   | some f=>Zas X h f args
   | none=>none
 | none=>none:=by
 show(match Callee.value f,evs ev xs.toList with
  | .builtin b,some args=>U0 X.P h b ts ty args
  | .value f,some args=>match ev f with
    | some f=>Zas X h f args
    | none=>none
  | _,_=>none)=_
 cases evs ev xs.toList <;> rfl
theorem Zk:evs ev []=some []:=rfl
theorem Zc {x:Operand} {xs:List Operand} {v:Value} {vs:List Value} (h1:ev x=some v) (h2:evs ev xs=some vs):evs ev (x::xs)=some (v::vs):=by
 show(match ev x,evs ev xs with | some v,some vs=>some (v::vs) | _,_=>none)=_;rw [h1,h2]
theorem Za1 {op:BinOp} {t:TypeId} {x y:Operand} {k:IntKind} {a b:Int} {c:Bool} (ho:Op.intCmp op a b=pure (.bool c)) (h1:op= .eql∨op= .neq∨op= .lss∨op= .leq∨op= .gtr∨op= .geq):Jl P op t x y (.int k a) (.int k b)=some (.val (.bool c),.none):=by
 have hp:(plain (.int k a) && plain (.int k b))=true:=rfl;unfold Jl;rw [hp,cond_true]
 have hb:binOp op t (.int k a) (.int k b)=pure (.bool c):=by
  rcases h1 with rfl | rfl | rfl | rfl | rfl | rfl <;> simp [binOp,ho]
 have hg:(do eqGuard op t x y (.int k a) (.int k b);binOp op t (.int k a) (.int k b):Sem Value)=pure (.bool c):=by
  rw [hb];rcases h1 with rfl | rfl | rfl | rfl | rfl | rfl <;> rfl
 rw [hg];rfl
theorem JL {t:TypeId} {x y:Operand} {k:IntKind} {a b:Int}:Jl P .eql t x y (.int k a) (.int k b)=some (.val (.bool (a==b)),.none):=Za1 rfl (by simp)
theorem ZiF {t:TypeId} {x y:Operand} {k:IntKind} {a b:Int}:Jl P .neq t x y (.int k a) (.int k b)=some (.val (.bool (a !=b)),.none):=Za1 rfl (by simp)
theorem Zct {t:TypeId} {x y:Operand} {k:IntKind} {a b:Int}:Jl P .lss t x y (.int k a) (.int k b)=some (.val (.bool (decide (a < b))),.none):=Za1 rfl (by simp)
theorem ZvG {t:TypeId} {x y:Operand} {k:IntKind} {a b:Int}:Jl P .leq t x y (.int k a) (.int k b)=some (.val (.bool (decide (a <=b))),.none):=Za1 rfl (by simp)
theorem ZvH {t:TypeId} {x y:Operand} {k:IntKind} {a b:Int}:Jl P .gtr t x y (.int k a) (.int k b)=some (.val (.bool (decide (a > b))),.none):=Za1 rfl (by simp)
theorem U1 {t:TypeId} {x y:Operand} {k:IntKind} {a b:Int}:Jl P .geq t x y (.int k a) (.int k b)=some (.val (.bool (decide (a >=b))),.none):=Za1 rfl (by simp)
theorem Zpy {op:BinOp} {t:TypeId} {x y:Operand} {k:IntKind} {a b c:Int} (h1:op= .add∧c=a + b∨op= .sub∧c=a - b∨op= .mul∧c=a * b):Jl P op t x y (.int k a) (.int k b)=some (.val (.int k (k.wrap c)),.none):=by
 have hp:(plain (.int k a) && plain (.int k b))=true:=rfl;unfold Jl;rw [hp,cond_true]
 have hb:binOp op t (.int k a) (.int k b)=pure (.int k (k.wrap c)):=by
  rcases h1 with⟨rfl,rfl⟩ | ⟨rfl,rfl⟩ | ⟨rfl,rfl⟩ <;> simp [binOp,Op.intArith]
 have hg:(do eqGuard op t x y (.int k a) (.int k b);binOp op t (.int k a) (.int k b):Sem Value)=pure (.int k (k.wrap c)):=by
  rw [hb];rcases h1 with⟨rfl,rfl⟩ | ⟨rfl,rfl⟩ | ⟨rfl,rfl⟩ <;> rfl
 rw [hg];rfl
end Go.Yw
end
end
section
noncomputable section
namespace Go.Yw
variable {X:Ctx} {n wm:Nat} {rd:Option Nat} {s:Fs} {Q:XX ->Fs ->Prop}
theorem QA.Yy {b:Code} (h:WC X n wm rd b s Q):QA X n wm rd b Q .normal s:= ⟨h⟩
theorem QA.ret {b:Code} (h:Q .ret s):QA X n wm rd b Q .ret s:= ⟨h⟩
theorem QA.exit {b:Code} {id:Nat} (h:Q (.exit id) s):QA X n wm rd b Q (.exit id) s:= ⟨h⟩
theorem QA.panic {b:Code} {v:Value} (h:Q (.panic v) s):QA X n wm rd b Q (.panic v) s:= ⟨h⟩
theorem Yz.Yy {b:Code} (h:WL X n wm rd b s Q):Yz X n wm rd b Q .normal s:= ⟨h⟩
theorem Yz.ret {b:Code} (h:Q .ret s):Yz X n wm rd b Q .ret s:= ⟨h⟩
theorem Yz.exit {b:Code} {id:Nat} (h:Q (.exit id) s):Yz X n wm rd b Q (.exit id) s:= ⟨h⟩
theorem U5.Yy {id:Nat} (h:Q .normal s):U5 id Q .normal s:= ⟨h⟩
theorem U5.ret {id:Nat} (h:Q .ret s):U5 id Q .ret s:= ⟨h⟩
theorem U5.panic {id:Nat} {v:Value} (h:Q (.panic v) s):U5 id Q (.panic v) s:= ⟨h⟩
theorem U5.here {id:Nat} (h:Q .normal s):U5 id Q (.exit id) s:= ⟨by show if _ then _ else _;rw [if_pos rfl];exact h⟩
theorem U5.other {id k:Nat} (hk:Nat.beq k id=false) (h:Q (.exit k) s):U5 id Q (.exit k) s:= ⟨by
 show if _ then _ else _
 rw [if_neg fun e=>by rw [e,Nat.beq_refl] at hk;cases hk];exact h⟩
theorem Zst.ret (h:Q .ret s):Zst Q .ret s:= ⟨h⟩
theorem WF.begin {f:FuncId} {fn:Func} {c:Code} {args:List Value} {h:H} {n:Nat} {R:WZ ->H ->Prop} (hf:X.fns.get f=some fn) (hb:fn.body=some c) (hnt:fn.ntmps=n) (hn:args.length <=n)
 (k:WC X n wm none c ⟨XI args 0 .nil,[],h,none⟩ (ZR X fn R)):WF X f args.toArray wm h R:=by
 subst hnt;exact WF.enter hf hb hn k
variable {ops:Array Oper} {l:List Oper} {fr:Fr} {ds:List Deferred} {h h1:H} {d:Nat} {op:Op} {ty:TypeId} {p:String} {af:Array Edge} {g:Option (Nat×Bool)}
theorem WO.v {v:Value} {E:Eff} (hg:ZO ops ⟨some d,op,ty,p,af,g⟩ fr) (hd:Nat.blt d n=true) (ha:Xi X h (ZV fr) ⟨some d,op,ty,p,af,g⟩=some (.val v,E)) (hE:E.apply wm h=some h1)
 (k:WO X n wm rd ops l ⟨Tr.set fr d v,ds,h1,none⟩ Q):WO X n wm rd ops (⟨some d,op,ty,p,af,g⟩::l) ⟨fr,ds,h,none⟩ Q:=WO.val hg hd ha hE k
theorem WO.u {E:Eff} (hg:ZO ops ⟨none,op,ty,p,af,g⟩ fr) (ha:Xi X h (ZV fr) ⟨none,op,ty,p,af,g⟩=some (.skip,E)) (hE:E.apply wm h=some h1)
 (k:WO X n wm rd ops l ⟨fr,ds,h1,none⟩ Q):WO X n wm rd ops (⟨none,op,ty,p,af,g⟩::l) ⟨fr,ds,h,none⟩ Q:=WO.unit hg rfl ha hE k
theorem WO.o (hg:ZeH ops ⟨some d,op,ty,p,af,g⟩ fr) (hd:Nat.blt d n=true) (k:WO X n wm rd ops l ⟨Tr.set fr d undef,ds,h,none⟩ Q):WO X n wm rd ops (⟨some d,op,ty,p,af,g⟩::l) ⟨fr,ds,h,none⟩ Q:=WO.off hg hd k
theorem WC.Zu7 {c:Operand} {a b:Code} {t:Bool} (hc:ZV s.fr c=some (.bool t)) (ht:t=true) (k:WC X n wm rd a s Q):WC X n wm rd (.cond c a b) s Q:=WC.cond hc (fun _=>k) fun e=>by rw [ht] at e;cases e
theorem WC.Zu8 {c:Operand} {a b:Code} {t:Bool} (hc:ZV s.fr c=some (.bool t)) (ht:t=false) (k:WC X n wm rd b s Q):WC X n wm rd (.cond c a b) s Q:=WC.cond hc (fun e=>by rw [ht] at e;cases e) fun _=>k
theorem ZvF {f:FuncId} {fn:Func} {vs:List Value} (hf:X.fns.get f=some fn):Zas X h (.func (.func f) #[] #[]) vs=some (.enter f vs.toArray,.none):=by
 unfold Zas;simp [hf]
structure Slc (h:H) (a:Option Addr) (len sz:Nat) (cells:List Value):Prop where
 ZNr:cells.length=len * sz
 mem:len=0∨∃ i o cs own z,a=some ⟨i,o,none⟩∧h.at i= .row cs own z∧o + len * sz <=cs.length∧(cs.drop o).take (len * sz)=cells
structure Grow (h h':H):Prop where
 size:h.size <=h'.size
 keep:∀ i,i < h.size ->h'.at i=h.at i
theorem Grow.refl (h:H):Grow h h:= ⟨Nat.le_refl _,fun _ _=>rfl⟩
theorem Grow.trans {a b c:H} (x:Grow a b) (y:Grow b c):Grow a c:= ⟨Nat.le_trans x.size y.size,fun i hi=>(y.keep i (Nat.lt_of_lt_of_le hi x.size)).trans (x.keep i hi)⟩
theorem Grow.push {a b:H} (x:Grow a b) (A:Xn):Grow a (b.push A):= ⟨Nat.le_succ_of_le x.size,fun i hi=>by rw [H.Qu,if_neg (by have:=x.size;omega)];exact x.keep i hi⟩
theorem XH {h:H} {i:Nat} {A:Xn} (e:h.at i=A) (hl:A.live=true):i < h.size:=by
 rcases Nat.lt_or_ge i h.size with z | z
 ·exact z
 ·rw [H.Zbz z] at e;subst e;cases hl
theorem Slc.load {P:Program} {h:H} {i o:Nat} {cs:List Value} {own:Bool} {z:Nat} {t:TypeId} {v:Value} (hr:h.at i= .row cs own z) (ht:Yn P t=some false) (hc:cs[o]? =some v):Ki P h t (.pointer (some ⟨i,o,none⟩))=some v:=by
 unfold Ki;dsimp only;rw [hr];dsimp only;rw [ht];dsimp only;exact hc
theorem Slc.addr {P:Program} {i o len cap k sz:Nat} {t e:TypeId} (hu:P.underlying t=some (.slice e)) (hs:ZY P e=some sz) (hk:k < len):ZdS P t (.slice (some ⟨i,o,none⟩) len cap) (.int .i64 (k:Int))=some (.pointer (some ⟨i,o + k * sz,none⟩)):=by
 have:ZdS P t (.slice (some ⟨i,o,none⟩) len cap) (.int .i64 (Int.ofNat k))=some (.pointer (some ⟨i,o + k * sz,none⟩)):=by
  unfold ZdS;rw [hu];dsimp only;rw [hs];dsimp only;have:Nat.blt k len=true:=by rw [Nat.blt_eq];exact hk
  rw [this];rfl
 exact this
section
variable {ops:Array Oper} {l:List Oper} {fr:Fr} {ds:List Deferred} {h:H} {d:Nat} {ty:TypeId} {p:String} {af:Array Edge} {g:Option (Nat×Bool)}
end
end Go.Yw
end
end
section
noncomputable section
namespace Go.Yw
variable {X:Ctx} {n wm:Nat} {rd:Option Nat} {Q:XX ->Fs ->Prop} {ops:Array Oper} {l:List Oper} {fr:Fr} {ds:List Deferred} {h:H} {d:Nat} {ty:TypeId} {p:String} {af:Array Edge} {g:Option (Nat×Bool)}
theorem UG (h:H) (A:Xn):(h.push A).at h.size=A:=by rw [H.Qu,if_pos rfl]
theorem Zaq {h:H} {i:Nat} (hi:i < h.size) (A:Xn):(h.push A).at i=h.at i:=by rw [H.Qu,if_neg (by omega)]
theorem Z8 {h:H} {i:Nat} (hi:i < h.size) (A:Xn):(h.put i A).at i=A:=by rw [H.Xv,if_pos ⟨rfl,hi⟩]
theorem XU {h:H} {i j:Nat} (hj:j ≠ i) (A:Xn):(h.put i A).at j=h.at j:=by rw [H.Xv,if_neg fun z=>hj z.1]
def Zv (P:Program) (t:TypeId) (f off:Nat):Prop:=∃ fs x m,P.underlying t=some (.struct fs)∧fs[f]? =some x∧ZY P x.type=some (m + 1)∧x.offset=off
theorem Zv.of {P:Program} {t:TypeId} {f off:Nat} (h:Zcq P t (.pointer (some ⟨0,0,none⟩)) f=some (.pointer (some ⟨0,off,none⟩))):Zv P t f off:=by
 unfold Zcq at h;cases e:P.underlying t with
 | none=>rw [e] at h;cases h
 | some u=>
   rw [e] at h;cases u with
   | struct fs=>
     dsimp only at h;cases ex:fs[f]? with
     | none=>rw [ex] at h;cases h
     | some x=>
       rw [ex] at h;dsimp only at h;cases em:ZY P x.type with
       | none=>rw [em] at h;cases h
       | some m=>
         rw [em] at h;cases m with
         | zero=>cases h
         | succ m=>cases h;exact⟨fs,x,m,e,ex,em,(Nat.zero_add _).symm⟩
   | _=>cases h
theorem Zv.addr {P:Program} {t:TypeId} {f off:Nat} (h:Zv P t f off) (i o:Nat):Zcq P t (.pointer (some ⟨i,o,none⟩)) f=some (.pointer (some ⟨i,o + off,none⟩)):=by
 obtain⟨fs,x,m,h1,h2,h3,rfl⟩:=h;unfold Zcq;rw [h1];dsimp only;rw [h2];dsimp only;rw [h3]
theorem ZdN (b:Bool):(Value.bool b).cells.toList= [.bool b]:=rfl
theorem ZfH (k:IntKind) (m:Int):(Value.int k m).cells.toList= [.int k m]:=rfl
theorem Zbv (s:ByteArray):(Value.string s).cells.toList= [.string s]:=rfl
theorem ZfF (a:Option Addr):(Value.pointer a).cells.toList= [.pointer a]:=rfl
theorem Zci (a:Option Addr) (m c:Nat):(Value.slice a m c).cells.toList= [.slice a m c]:=rfl
theorem ZfG (m:Option Nat):(Value.map m).cells.toList= [.map m]:=rfl
theorem cells_func (f:Fn) (xs ys:Array Value):(Value.func f xs ys).cells.toList= [.func f xs ys]:=rfl
theorem ZaD:(Value.nilFunc).cells.toList= [.nilFunc]:=rfl
theorem KY:(Value.nilIface).cells.toList= [.nilIface]:=rfl
theorem Zcj (t:TypeId) (v:Value):(Value.iface t v).cells.toList= [.iface t v]:=rfl
theorem ZfJ (vs:List Value):(Value.agg vs.toArray).cells.toList=vs:=rfl
def Zau (P:Program) (t:TypeId) (zs:List Value) (pl:List (Nat×Nat)):Prop:=∃ z fs,YA P t=some z∧z.cells.toList=zs∧P.underlying t=some (.struct fs)∧ZcD P fs.toList=some pl
def ZqY (P:Program) (t:TypeId) (zs:List Value) (m:Nat):Prop:=∃ z k e,YA P t=some z∧z.cells.toList=zs∧P.underlying t=some (.array k e)∧ZY P e=some m
def Zfh (place:Nat ->Option (Nat×Nat)) (len:Nat):List (Nat×Value) ->Bool
 | []=>true
 | (i,v)::rest=>(match place i with
   | some (off,size)=>Nat.beq v.cells.toList.length size && Nat.ble (off + v.cells.toList.length) len
   | none=>false) && Zfh place len rest
def ZjN (off:Nat ->Nat):List Value ->List (Nat×Value) ->List Value
 | cs,[]=>cs
 | cs,(i,v)::rest=>ZjN off (splice cs (off i) v.cells.toList) rest
theorem ZiE {place:Nat ->Option (Nat×Nat)} {off:Nat ->Nat} (ho:∀ i p,place i=some p ->off i=p.1):∀ (ps:List (Nat×Value)) (cs:List Value),Zfh place cs.length ps=true ->Zcp place cs ps=some (ZjN off cs ps):=by
 intro ps
 induction ps with
 | nil=>intro cs _;rfl
 | cons q ps ih=>
   obtain⟨i,v⟩:=q;intro cs h;simp only [Zfh,Bool.and_eq_true] at h;obtain⟨h1,h2⟩:=h;unfold Zcp ZjN;cases e:place i with
   | none=>rw [e] at h1;cases h1
   | some q=>
     obtain⟨of,sz⟩:=q;rw [e] at h1;dsimp only at h1 ⊢;rw [h1,cond_true,ho i _ e]
     have hl:(splice cs of v.cells.toList).length=cs.length:=by
      rw [Bool.and_eq_true] at h1;have:=Nat.le_of_ble_eq_true h1.2;simp only [splice,List.length_append,List.length_take,List.length_drop];omega
     exact ih _ (by rw [hl];exact h2)
theorem ZC {ev:Operand ->Option Value}:evp ev []=some []:=rfl
theorem Zh {ev:Operand ->Option Value} {i:Nat} {x:Operand} {xs:List (Nat×Operand)} {v:Value} {vs:List (Nat×Value)} (h1:ev x=some v) (h2:evp ev xs=some vs):evp ev ((i,x)::xs)=some ((i,v)::vs):=by
 show(match ev x,evp ev xs with | some v,some vs=>some ((i,v)::vs) | _,_=>none)=_;rw [h1,h2]
theorem Zj4 {P:Program} {h:H} {t:TypeId} {b o z sz:Nat} {cs vs:List Value} {own:Bool} (ht:Yn P t=some true) (hs:ZY P t=some sz) (hr:h.at b= .row cs own z) (hl:o + sz <=cs.length) (hv:(cs.drop o).take sz=vs):
 Ki P h t (.pointer (some ⟨b,o,none⟩))=some (.agg vs.toArray):=by
 unfold Ki;dsimp only;rw [hr];dsimp only;rw [ht,hs];dsimp only;have hb:Nat.ble (o + sz) cs.length=true:=Nat.ble_eq_true_of_le hl;rw [hb,hv];rfl
end Go.Yw
end
end
section
noncomputable section
namespace Go.Yw
variable {X:Ctx} {n wm:Nat} {rd:Option Nat} {Q:XX ->Fs ->Prop} {ops:Array Oper} {l:List Oper} {fr:Fr} {ds:List Deferred} {h:H} {d:Option Tmp} {ty:TypeId} {p:String} {af:Array Edge} {g:Option (Nat×Bool)} {ev:Operand ->Option Value}
theorem YC {x:Operand} {v:Value} (hx:ev x=some v):Xi X h ev ⟨d,.move x,ty,p,af,g⟩=some (.val v,.none):=by rw [Zvu,hx];rfl
theorem Z5 {x:Operand} {v:Value} (hx:ev x=some v):Xi X h ev ⟨d,.assign x,ty,p,af,g⟩=some (.val v,.none):=by rw [Zpp,hx];rfl
theorem Xu {x:Operand} {t:TypeId} {f off b o:Nat} (hf:Zv X.P t f off) (hx:ev x=some (.pointer (some ⟨b,o,none⟩))):Xi X h ev ⟨d,.fieldAddr t x f,ty,p,af,g⟩=some (.val (.pointer (some ⟨b,o + off,none⟩)),.none):=by
 rw [Zje,hx];dsimp only;rw [hf.addr];rfl
theorem Zpj {x:Operand} {a:Addr} (hx:ev x=some (.pointer (some a))):Xi X h ev ⟨d,.nilCheck x,ty,p,af,g⟩=some (.val (.pointer (some a)),.none):=by
 show(match ev x with
  | some (.pointer (some a))=>some (AN.val (.pointer (some a)),Eff.none)
  | _=>none)=_
 rw [hx]
theorem Zvo {x:Operand} {t:TypeId} {b o z:Nat} {cs:List Value} {own:Bool} {v:Value} (ht:Yn X.P t=some false) (hx:ev x=some (.pointer (some ⟨b,o,none⟩))) (hr:h.at b= .row cs own z) (hc:cs[o]? =some v):
 Xi X h ev ⟨d,.load t x,ty,p,af,g⟩=some (.val v,.none):=by rw [ZnK,hx];dsimp only;rw [Slc.load hr ht hc];rfl
theorem Zvn {x:Operand} {t:TypeId} {b o z sz:Nat} {cs vs:List Value} {own:Bool} (ht:Yn X.P t=some true) (hs:ZY X.P t=some sz) (hx:ev x=some (.pointer (some ⟨b,o,none⟩))) (hr:h.at b= .row cs own z) (hl:o + sz <=cs.length) (hv:(cs.drop o).take sz=vs):
 Xi X h ev ⟨d,.load t x,ty,p,af,g⟩=some (.val (.agg vs.toArray),.none):=by rw [ZnK,hx];dsimp only;rw [Zj4 ht hs hr hl hv];rfl
theorem ZBM {x:Operand} {t e:TypeId} {a:Option Addr} {m c:Nat} (hu:X.P.underlying t=some (.slice e)) (hx:ev x=some (.slice a m c)):
 Xi X h ev ⟨d,.call {callee:= .builtin .len,args:=#[x],argTypes:=#[t]},ty,p,af,g⟩=some (.val (.int .i64 m),.none):=by
 have he:evs ev [x]=some [.slice a m c]:=Zc hx Zk;rw [QT]
 show(match evs ev [x] with
  | some args=>U0 X.P h .len #[t] ty args
  | none=>none)=_
 rw [he];show vN (Zvx X.P h t (.slice a m c))=_;unfold Zvx;rw [hu];rfl
theorem ZBN {x y:Operand} {t e:TypeId} {sz b o m c k:Nat} {iv:Int} (hu:X.P.underlying t=some (.slice e)) (hs:ZY X.P e=some sz) (hx:ev x=some (.slice (some ⟨b,o,none⟩) m c)) (hy:ev y=some (.int .i64 iv)) (hi:iv= (k:Int)) (hk:k < m):
 Xi X h ev ⟨d,.indexAddr t x y,ty,p,af,g⟩=some (.val (.pointer (some ⟨b,o + k * sz,none⟩)),.none):=by
 subst hi;rw [Zjd,hx,hy];dsimp only;rw [Slc.addr hu hs hk];rfl
theorem ZlH {x:Operand} {t:TypeId} {b:Bool} (hx:ev x=some (.bool b)):Xi X h ev ⟨d,.unOp .not t x,ty,p,af,g⟩=some (.val (.bool (!b)),.none):=by rw [Zvt,hx];rfl
theorem Yb {op:BinOp} {x y:Operand} {t yt:TypeId} {a b v:Value} (hx:ev x=some a) (hy:ev y=some b) (hv:Jl X.P op t x y a b=some (.val v,.none)):Xi X h ev ⟨d,.binOp op t x y yt,ty,p,af,g⟩=some (.val v,.none):=by
 rw [Zsi,hx,hy];exact hv
theorem QK {c x y:Operand} {b z:Bool} (hc:ev c=some (.bool b)) (hx:ev x=some (cond b (.bool z) undef)) (hy:ev y=some (.bool false)):Xi X h ev ⟨d,.pick c x y,ty,p,af,g⟩=some (.val (.bool (b && z)),.none):=by
 rw [ZeA,hc,hx,hy];cases b <;> rfl
theorem Zzi {c x y:Operand} {b z:Bool} (hc:ev c=some (.bool b)) (hx:ev x=some (.bool true)) (hy:ev y=some (cond (!b) (.bool z) undef)):Xi X h ev ⟨d,.pick c x y,ty,p,af,g⟩=some (.val (.bool (b || z)),.none):=by
 rw [ZeA,hc,hx,hy];cases b <;> rfl
theorem Ws {x:Operand} {k:Nat} {vs:List Value} {v:Value} (hx:ev x=some (.tuple vs.toArray)) (hv:vs[k]? =some v):Xi X h ev ⟨d,.extract x k,ty,p,af,g⟩=some (.val v,.none):=by
 rw [ZnL,hx];dsimp only;unfold Zcr;dsimp only;rw [hv];rfl
def Zi (ops:Array Oper) (o:Oper) (fr:Fr) (c:Bool):Prop:=okG ops.toList o fr=true∧Y6 ops.toList o fr=c
theorem Zi.yes {ops:Array Oper} {o:Oper} {fr:Fr} {j:Nat} {b:Bool} {og:Oper} {dd:Tmp} (h:o.guard=some (j,true)) (hj:ops.toList[j]? =some og) (hd:og.dst=some dd) (hv:fr.at dd= .bool b):Zi ops o fr b:=by
 unfold Zi okG Y6 K4;rw [h];dsimp only;rw [hj];dsimp only;rw [hd];dsimp only;rw [hv];cases b <;> exact⟨rfl,rfl⟩
theorem Zi.no {ops:Array Oper} {o:Oper} {fr:Fr} {j:Nat} {b:Bool} {og:Oper} {dd:Tmp} (h:o.guard=some (j,false)) (hj:ops.toList[j]? =some og) (hd:og.dst=some dd) (hv:fr.at dd= .bool b):Zi ops o fr (!b):=by
 unfold Zi okG Y6 K4;rw [h];dsimp only;rw [hj];dsimp only;rw [hd];dsimp only;rw [hv];cases b <;> exact⟨rfl,rfl⟩
theorem Zi.Zq0 {ops:Array Oper} {o:Oper} {fr:Fr} {j:Nat} {a b:Bool} {og:Oper} {dd:Tmp} (h:o.guard=some (j,true)) (hj:ops.toList[j]? =some og) (hd:og.dst=some dd) (hv:fr.at dd=cond a (.bool b) undef):Zi ops o fr (a && b):=by
 unfold Zi okG Y6 K4;rw [h];dsimp only;rw [hj];dsimp only;rw [hd];dsimp only;rw [hv];cases a <;> cases b <;> exact⟨rfl,rfl⟩
theorem Zi.no2 {ops:Array Oper} {o:Oper} {fr:Fr} {j:Nat} {a b:Bool} {og:Oper} {dd:Tmp} (h:o.guard=some (j,false)) (hj:ops.toList[j]? =some og) (hd:og.dst=some dd) (hv:fr.at dd=cond a (.bool b) undef):Zi ops o fr (a && !b):=by
 unfold Zi okG Y6 K4;rw [h];dsimp only;rw [hj];dsimp only;rw [hd];dsimp only;rw [hv];cases a <;> cases b <;> exact⟨rfl,rfl⟩
theorem WO.gv {d:Nat} {op:Op} {c:Bool} {v:Value} (hg:Zi ops ⟨some d,op,ty,p,af,g⟩ fr c) (hd:Nat.blt d n=true) (ha:c=true ->Xi X h (ZV fr) ⟨some d,op,ty,p,af,g⟩=some (.val v,.none))
 (k:WO X n wm rd ops l ⟨Tr.set fr d (cond c v undef),ds,h,none⟩ Q):WO X n wm rd ops (⟨some d,op,ty,p,af,g⟩::l) ⟨fr,ds,h,none⟩ Q:=by
 cases c
 ·exact WO.o hg hd k
 ·exact WO.v hg hd (ha rfl) rfl k
end Go.Yw
end
end
section
noncomputable section
namespace Go.Yw
variable {X:Ctx} {n wm:Nat} {rd:Option Nat} {ops:Array Oper} {l:List Oper} {fr:Fr} {ds:List Deferred} {h:H} {ty:TypeId} {p:String} {af:Array Edge} {g:Option (Nat×Bool)}
variable {Q:Fr ->Prop}
theorem ZvI (wm:Nat):MOf false wm none=fun _=>False:=by funext x;unfold MOf;simp
theorem ZcF:∀ (j:Q9) (r:YD),(fun _:Q9=>(none:Option YD)) j=some r ->U3 j r:=fun _ _ h=>by cases h
end Go.Yw
end
end
