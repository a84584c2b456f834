/- Part 7. -/
import Derived.ProofKit
import Derived.Test.YtcnahmgekicbdaaGreatNa6
set_option linter.all false
set_option maxHeartbeats 2000000
section
noncomputable section
namespace Go.Proofs.YtcnahmgekicbdaaGreat
open Go.YD Go.RowKit Go.WideShapes Go.ChangeShapes
def isTrue (r:Option Y6):Bool:=
 match r with
 | some (.fin (.ret (.bool true)) _)=>true
 | _=>false
theorem Zn1 {r:Option Y6} (h:isTrue r=true):∃ h',r=some (.fin (.ret (.bool true)) h'):=by
 unfold isTrue at h;split at h
 ·exact⟨_,rfl⟩
 ·cases h
theorem mixed:Tryz.prog.follows .mixedOrders=true:=Kq0
def ZDu:Ren:= ⟨fun _=>none,fun _=>(0,0)⟩
theorem ZoP (X:Ctx) (hX:X.P=Tryz.prog) {k:Nat} {f:FuncId} (h:isTrue (ev (cfg X fun _=>false) k (.call f #[] 0 ⟨.nil,0⟩))=true) (w:World):
 Calls Tryz.prog f #[] w fun e w'=>e= .returned (.bool true)∧Below w.heap.size w w':=by
 obtain⟨h',e⟩:=Zn1 h;have hj:Y3 X (.call f #[] 0 ⟨.nil,0⟩) (.fin (.ret (.bool true)) h'):=Zkq (by rw [hX];exact mixed) k _ _ e;have hr:Rel ZDu ⟨.nil,0⟩ w:= ⟨fun _ _ _ e=>(by cases e),fun _ _ _ e=>(by cases e),fun _ _ _ _ _ e=>(by cases e)⟩
 rw [← hX];have:=callsIn_wide.1 (hj ZDu #[] w (Nat.le_refl 0) hr ⟨rfl,fun i v v' e=>by simp at e⟩);refine this.mono fun e w' ⟨ρ',he,_,st⟩=>?_
 refine⟨?_,st.below fun i b d _ e=>by cases e⟩;cases he with
 | ret hv=>cases hv;rfl
section
variable {H:Type} {enc:TypeId×Value ->H} {P:Program}
theorem ZjI {f:Func} {s:ChangeSpec} {apart fresh handsOn again:Bool} {W W':World} {args:Array Value} {v:Value} {ds gs:List (DataW H)} {before pa pv:List MemPlace}
 (hW:DataW.Whole enc P f.params.toList s.vars apart W args.toList ds gs before)
 (hres:∀ (b:Nat) (sp:Nat ->Bool) (hd:Bool),DataW.TrodAll enc P W' b sp hd f.resultTypes.toList (v.resultList f.resultTypes.size) (s.fn H (ds ++ gs)).results [])
 (hargs:∀ sp:Nat ->Bool,(∀ p ∈ before,sp p.block=true) ->DataW.TrodAll enc P W' 0 sp true f.params.toList args.toList (s.fn H (ds ++ gs)).args pa)
 (hvars:∀ sp:Nat ->Bool,(∀ p ∈ before,sp p.block=true) ->DataW.TrodVars enc P W' sp s.vars (s.fn H (ds ++ gs)).vars pv)
 (hps:before=pa ++ pv) (hb:Below W.heap.size W W')
 (hok:∀ (j:Nat) (t:TypeId) (r:Value),f.resultTypes[j]? =some t ->(v.resultList f.resultTypes.size)[j]? =some r ->Value.okWide P W' .any 0 t r):
 s.post enc P f apart fresh handsOn again W args v W':=by
 have hlt:∀ p ∈ before,p.block < W.heap.size:=fun p hp=>hW.lt p hp
 have hold:∀ p ∈ before,(fun b=>decide (b < W.heap.size)) p.block=true:=fun p hp=>by simpa using hlt p hp
 refine⟨ds,gs,before,[],pa,pv,hW,hres _ _ _,hargs _ hold,hvars _ hold,World.keptBut_mono (fun p hp=>⟨hp,?_⟩) (hb.frame (· ∈ before)),fun _=>?_⟩
 ·rw [hps,List.mem_append] at hp;exact Or.inr hp
 ·obtain⟨_,_,_,_,_,hz,hn⟩:=hW;refine⟨hok,_,_,([] ++ pa) ++ pv,⟨[] ++ pa,pv,trodAll_append (hargs _ (fun _ _=>rfl)) (hres _ _ _),hvars _ (fun _ _=>rfl),rfl,?_,?_⟩,?_⟩
  ·intro b off hp;have hin:MemPlace.cell b off ∈ before:=by rw [hps];simpa using hp
   rw [hb.frozen (hlt _ hin)];exact hz b off hin
  ·intro ha;have:=hn ha;rw [hps] at this
   simpa using this
  ·intro p hp _;rw [hps]
   simpa using hp
end
end Go.Proofs.YtcnahmgekicbdaaGreat
end
end
section
noncomputable section
namespace Go.YD
section
variable {X:Ctx}
structure WC (X:Ctx) (n wm:Nat) (rd:Option Nat) (c:Code) (s:Fs) (Q:XX ->Fs ->Prop):Prop where
 out:∃ e s',Q e s'∧Y3 X (.code c n wm rd s) (.code e s')
structure WL (X:Ctx) (n wm:Nat) (rd:Option Nat) (c:Code) (s:Fs) (Q:XX ->Fs ->Prop):Prop where
 out:∃ e s',Q e s'∧Y3 X (.loop c n wm rd s) (.code e s')
structure WF (X:Ctx) (f:FuncId) (args:Array Value) (wm:Nat) (h:H) (Q:Kj ->H ->Prop):Prop where
 out:∃ e h',Q e h'∧Y3 X (.call f args wm h) (.fin e h')
def ZPB (X:Ctx) (n wm:Nat) (rd:Option Nat) (ops:Array Oper) (l:List Oper) (s:Fs) (e:XX) (s':Fs):Prop:=
 ∀ (Q:Exit ->Act ->World ->Prop) {ρ:Ren} {F:Fence} {a:Act} {w:World},Inv ρ n s a w ->wm <=s.h.size ->FR' ρ rd F ->(∀ e' a' w',Jc wm n ρ s.h w e s' e' a' w' ->Q e' a' w') ->wpListIn F 0 X.P ops Q l a w
structure WO (X:Ctx) (n wm:Nat) (rd:Option Nat) (ops:Array Oper) (l:List Oper) (s:Fs) (Q:XX ->Fs ->Prop):Prop where
 out:∃ e s',Q e s'∧ZPB X n wm rd ops l s e s'
variable {n wm:Nat} {rd:Option Nat} {s:Fs} {Q:XX ->Fs ->Prop}
theorem WC.mono {c:Code} {Q':XX ->Fs ->Prop} (h:WC X n wm rd c s Q) (k:∀ e s',Q e s' ->Q' e s'):WC X n wm rd c s Q':=let⟨e,s',h1,h2⟩:=h;⟨e,s',k e s' h1,h2⟩
theorem WF.mono {f:FuncId} {args:Array Value} {h:H} {Q Q':Kj ->H ->Prop} (h1:WF X f args wm h Q) (k:∀ e s',Q e s' ->Q' e s'):WF X f args wm h Q':=let⟨e,s',h1,h2⟩:=h1;⟨e,s',k e s' h1,h2⟩
def ZPy (X:Ctx) (n wm:Nat) (rd:Option Nat) (b:Code) (Q:XX ->Fs ->Prop):XX ->Fs ->Prop:=fun e s=>
 match e with
 | .normal=>WC X n wm rd b s Q
 | e=>Q e s
def ZJx (X:Ctx) (n wm:Nat) (rd:Option Nat) (c:Code) (Q:XX ->Fs ->Prop):XX ->Fs ->Prop:=fun e s=>
 match e with
 | .normal=>WL X n wm rd c s Q
 | e=>Q e s
def Zz0 (id:Nat) (Q:XX ->Fs ->Prop):XX ->Fs ->Prop:=fun e s=>
 match e with
 | .exit k=>if k=id then Q .normal s else Q (.exit k) s
 | e=>Q e s
structure Zg6 (X:Ctx) (n wm:Nat) (rd:Option Nat) (b:Code) (Q:XX ->Fs ->Prop) (e:XX) (s:Fs):Prop where
 out:ZPy X n wm rd b Q e s
structure YT (X:Ctx) (n wm:Nat) (rd:Option Nat) (b:Code) (Q:XX ->Fs ->Prop) (e:XX) (s:Fs):Prop where
 out:ZJx X n wm rd b Q e s
structure Zgy (id:Nat) (Q:XX ->Fs ->Prop) (e:XX) (s:Fs):Prop where
 out:Zz0 id Q e s
theorem ExR.Zio {ρ:Ren} {e:XX} {e':Exit} (he:ExR ρ e e') (h:e ≠ .normal) {N:Act ->World ->Prop} {R:Exit ->Act ->World ->Prop} {a:Act} {w:World} (hr:R e' a w):Exit.then N R e' a w:=by
 cases he with
 | normal=>exact absurd rfl h
 | _=>exact hr
theorem WC.seq {a b:Code} (h:WC X n wm rd a s (Zg6 X n wm rd b Q)):WC X n wm rd (.seq a b) s Q:=by
 obtain⟨e,s1,hq,ka⟩:=h;by_cases hn:e= .normal
 ·subst hn;obtain⟨e2,s2,hq2,kb⟩:=hq.out;refine⟨e2,s2,hq2,fun ρ a w F ZP hi hF=>wpIn_seq (wpIn_mono (ka ρ a w F ZP hi hF) ?_)⟩;rintro e' a' w' ⟨ρ',he,hi',hst⟩;cases he;exact wpIn_mono (kb ρ' a' w' F (Nat.le_trans ZP hst.size) hi' (hF.mono hst.ext)) fun _ _ _ hp=>Jc.trans hi.rel.lt hst hp
 ·refine⟨e,s1,?_,fun ρ a w F ZP hi hF=>wpIn_seq (wpIn_mono (ka ρ a w F ZP hi hF) ?_)⟩
  ·cases e with
   | normal=>exact absurd rfl hn
   | _=>exact hq.out
  ·rintro e' a' w' ⟨ρ',he,hi',hst⟩;exact he.Zio hn ⟨ρ',he,hi',hst⟩
theorem WC.cond {c:Operand} {a b:Code} {t:Bool} (hc:Yz s.fr c=some (.bool t)) (h1:t=true ->WC X n wm rd a s Q) (h2:t=false ->WC X n wm rd b s Q):WC X n wm rd (.cond c a b) s Q:=by
 have:∃ e s',Q e s'∧∀ ρ a' w F,wm <=s.h.size ->Inv ρ n s a' w ->FR' ρ rd F ->(if t then a else b).wpIn F 0 X.P (Jc wm n ρ s.h w e s') a' w:=by
  cases t with
  | true=>obtain⟨e,s',q,k⟩:=h1 rfl;exact⟨e,s',q,k⟩
  | false=>obtain⟨e,s',q,k⟩:=h2 rfl;exact⟨e,s',q,k⟩
 obtain⟨e,s',hq,k⟩:=this;refine⟨e,s',hq,fun ρ a' w F ZP hi hF=>?_⟩;have hv:=Kw hi.fr _ _ hc;generalize hx:a'.eval c=x at hv;cases hv;exact wpIn_cond hx (k ρ a' w F ZP hi hF)
theorem WC.block {id:Nat} {c:Code} (h:WC X n wm rd c s (Zgy id Q)):WC X n wm rd (.block id c) s Q:=by
 obtain⟨e,s1,hq,ka⟩:=h
 have key:∃ e2,Q e2 s1∧∀ (wm' n':Nat) (ρ0:Ren) (h0:H) (w0:World) (e':Exit) (a':Act) (w':World),Jc wm' n' ρ0 h0 w0 e s1 e' a' w' ->Exit.inBlock id (Jc wm' n' ρ0 h0 w0 e2 s1) e' a' w':=by
  cases e with
  | exit k=>
    by_cases hk:k=id
    ·subst hk;refine⟨.normal,by simpa [Zz0] using hq.out,?_⟩;rintro _ _ _ _ _ e' a' w' ⟨ρ',he,hi',hst⟩;cases he;show if _ then _ else _
     rw [if_pos rfl];exact⟨ρ',.normal,hi',hst⟩
    ·refine⟨.exit k,by simpa [Zz0,hk] using hq.out,?_⟩;rintro _ _ _ _ _ e' a' w' ⟨ρ',he,hi',hst⟩;cases he;show if _ then _ else _
     rw [if_neg hk];exact⟨ρ',.exit k,hi',hst⟩
  | normal=>exact⟨.normal,hq.out,by rintro _ _ _ _ _ e' a' w' ⟨ρ',he,hi',hst⟩;cases he;exact⟨ρ',.normal,hi',hst⟩⟩
  | goto l=>exact⟨.goto l,hq.out,by rintro _ _ _ _ _ e' a' w' ⟨ρ',he,hi',hst⟩;cases he;exact⟨ρ',.goto l,hi',hst⟩⟩
  | ret=>exact⟨.ret,hq.out,by rintro _ _ _ _ _ e' a' w' ⟨ρ',he,hi',hst⟩;cases he;exact⟨ρ',.ret,hi',hst⟩⟩
  | panic v=>exact⟨.panic v,hq.out,by rintro _ _ _ _ _ e' a' w' ⟨ρ',he,hi',hst⟩;cases he with | panic hv=>exact⟨ρ',.panic hv,hi',hst⟩⟩
 obtain⟨e2,hq2,key⟩:=key;exact⟨e2,s1,hq2,fun ρ a w F ZP hi hF=>wpIn_block (wpIn_mono (ka ρ a w F ZP hi hF) fun e' a' w' hp=>key _ _ _ _ _ e' a' w' hp)⟩
theorem WC.skip (h:Q .normal s):WC X n wm rd .skip s Q:= ⟨_,_,h,fun ρ _ _ _ _ hi _=>wpIn_skip ⟨ρ,.normal,hi,Stp.refl _ _ _ _⟩⟩
theorem WC.ret (h:Q .ret s):WC X n wm rd .ret s Q:= ⟨_,_,h,fun ρ _ _ _ _ hi _=>wpIn_ret ⟨ρ,.ret,hi,Stp.refl _ _ _ _⟩⟩
theorem WC.exit {id:Nat} (h:Q (.exit id) s):WC X n wm rd (.exit id) s Q:= ⟨_,_,h,fun ρ _ _ _ _ hi _=>wpIn_exit ⟨ρ,.exit id,hi,Stp.refl _ _ _ _⟩⟩
theorem WC.loop {c:Code} (h:WL X n wm rd c s Q):WC X n wm rd (.loop c) s Q:=
 let⟨e,s',hq,k⟩:=h;⟨e,s',hq,fun ρ a w F ZP hi hF=>ZbV (k ρ a w F ZP hi hF)⟩
theorem WC.region {id:Nat} {ops:Array Oper} (h:WO X n wm rd ops ops.toList s Q):WC X n wm rd (.region id ops false) s Q:=by
 obtain⟨e,s',hq,k⟩:=h;exact⟨e,s',hq,fun ρ a w F ZP hi hF=>wpIn_region_list (k _ hi ZP hF fun _ _ _ hp=>hp)⟩
theorem WL.step {c:Code} (h:WC X n wm rd c s (YT X n wm rd c Q)):WL X n wm rd c s Q:=by
 obtain⟨e,s1,hq,ka⟩:=h;by_cases hn:e= .normal
 ·subst hn;obtain⟨e2,s2,hq2,kb⟩:=hq.out;refine⟨e2,s2,hq2,fun ρ a w F ZP hi hF=>QL (wpIn_mono (ka ρ a w F ZP hi hF) ?_)⟩;rintro e' a' w' ⟨ρ',he,hi',hst⟩;cases he;have:=kb ρ' a' w' F (Nat.le_trans ZP hst.size) hi' (hF.mono hst.ext);intro b k cs h1 h2 h3;obtain⟨e3,a3,w3,hp,harr⟩:=this b k cs h1 h2 h3;exact⟨e3,a3,w3,Jc.trans hi.rel.lt hst hp,harr⟩
 ·refine⟨e,s1,?_,fun ρ a w F ZP hi hF=>QL (wpIn_mono (ka ρ a w F ZP hi hF) ?_)⟩
  ·cases e with
   | normal=>exact absurd rfl hn
   | _=>exact hq.out
  ·rintro e' a' w' ⟨ρ',he,hi',hst⟩;exact he.Zio hn ⟨ρ',he,hi',hst⟩
def ZPA (X:Ctx) (fn:Func) (Q:Kj ->H ->Prop):XX ->Fs ->Prop:=fun e s=>s.ds= []∧
 match e with
 | .normal=>∃ v,JG X.P fn s.fr s.h=some v∧Q (.ret v) s.h
 | .ret=>∃ v,JG X.P fn s.fr s.h=some v∧Q (.ret v) s.h
 | .panic v=>Q (.pan v) s.h
 | _=>False
structure Yd (X:Ctx) (fn:Func) (Q:Kj ->H ->Prop) (e:XX) (s:Fs):Prop where
 out:ZPA X fn Q e s
theorem WF.enter {f:FuncId} {fn:Func} {c:Code} {args:Array Value} {h:H} {Q:Kj ->H ->Prop} (hf:X.fns.get f=some fn) (hb:fn.body=some c) (hn:args.toList.length <=fn.ntmps)
 (k:WC X fn.ntmps wm none c {fr:=QD args.toList 0 .nil,ds:= [],h:=h} (Yd X fn Q)):WF X f args wm h Q:=by
 obtain⟨e,s',⟨hds,hq⟩,ka⟩:=k
 have main:∀ (E:Kj) (pm:PM),xPM e=some pm ->Wo (cfg X fun _=>false) (fun _=>none) fn wm pm s'=some (.fin E s'.h) ->Y3 X (.call f args wm h) (.fin E s'.h):=by
  intro E pm hpm hl;have hj:=Wn (C:=cfg X fun _=>false) (ih:=fun _=>none) (fun _ _ h=>by cases h) hl;intro ρ args' w ZP hr hv
  have hi:Inv ρ fn.ntmps {fr:=QD args.toList 0 .nil,ds:= [],h:=h} {tmps:=args' ++ Array.replicate (fn.ntmps - args'.size) undef,defers:= []} w:=
   ⟨hr,Wl hv hn,.nil⟩
  refine callsIn_of_wp_marks (X.ok f fn hf).1 hb trivial (wpIn_mono (ka ρ _ w Fence.wide ZP hi rfl) ?_);rintro e' a' w' ⟨ρ',he,hi',hst⟩;cases he with
  | normal=>cases hpm;exact hj ρ' _ a' .returning w' _ (Nat.le_trans ZP hst.size) hi' .ret (fun _ _ hp=>UA.trans hr.lt hst hp)
  | ret=>cases hpm;exact hj ρ' _ a' .returning w' _ (Nat.le_trans ZP hst.size) hi' .ret (fun _ _ hp=>UA.trans hr.lt hst hp)
  | panic hv'=>cases hpm;exact hj ρ' _ a' _ w' _ (Nat.le_trans ZP hst.size) hi' (.pan hv') (fun _ _ hp=>UA.trans hr.lt hst hp)
  | exit id=>cases hpm
  | goto l=>cases hpm
 cases e with
 | normal=>
   obtain⟨v,hv,hq⟩:=hq
   exact⟨_,_,hq,main _ .ret rfl (by
    have hv':JG (cfg X fun _=>false).X.P fn s'.fr s'.h=some v:=hv;unfold Wo;rw [hds];simp only [hv'])⟩
 | ret=>
   obtain⟨v,hv,hq⟩:=hq
   exact⟨_,_,hq,main _ .ret rfl (by
    have hv':JG (cfg X fun _=>false).X.P fn s'.fr s'.h=some v:=hv;unfold Wo;rw [hds];simp only [hv'])⟩
 | panic v=>exact⟨_,_,hq,main _ (.pan v) rfl (by unfold Wo;rw [hds])⟩
 | exit _=>exact hq.elim
 | goto _=>exact hq.elim
abbrev Pure (X:Ctx) (f:FuncId) (args:Array Value) (h:H) (v:Value):Prop:=∀ wm,Y3 X (.call f args wm h) (.fin (.ret v) h)
theorem WF.pure {f:FuncId} {args:Array Value} {h:H} {v:Value} (hp:plain v=true) (k:WF X f args h.size h (fun e _=>e= .ret v)):Pure X f args h v:=by
 obtain⟨e,h',rfl,hj⟩:=k;intro wm ρ args' w ZP hr hv;refine(hj ρ args' w (Nat.le_refl _) hr hv).mono ?_;rintro e' w' ⟨ρ',he,hr',hst⟩;cases he with
 | ret hv'=>
   rw [VR.Xd hp hv'];obtain⟨q1,q2⟩:=Zc5 hr hst;exact⟨ρ,.ret (VR.Yc hp),q1,q2 wm⟩
variable {ops:Array Oper} {l:List Oper} {o:Oper}
theorem WO.nil (h:Q .normal s):WO X n wm rd ops [] s Q:= ⟨_,_,h,fun _ ρ _ a w hi _ _ hq=>hq .normal a w ⟨ρ,.normal,hi,Stp.refl _ _ _ _⟩⟩
theorem WO.cons {ih:Jp ->Option Y6} (HI:∀ j r,ih j=some r ->Y3 X j r) {s1:Fs} (h:ZaH X (fun _=>false) ih n wm rd ops.toList o s=some (.normal,s1)) (k:WO X n wm rd ops l s1 Q):WO X n wm rd ops (o::l) s Q:=by
 obtain⟨e,s',hq,hk⟩:=k;refine⟨e,s',hq,fun Q' ρ F a w hi ZP hF hq'=>?_⟩;refine Zcy HI h hi ZP hF (fun _ ρ' a' w' hi' st'=>?_) (fun v he=>by cases he);refine hk Q' hi' (Nat.le_trans ZP st'.size) (hF.mono st'.ext) fun e' a2 w2 hp=>?_
 obtain⟨ρ2,q1,q2,q3⟩:=hp;exact hq' e' a2 w2 ⟨ρ2,q1,q2,st'.trans hi.rel.lt q3⟩
theorem Zel (X:Ctx):∀ (j:Jp) (r:Y6),(fun _:Jp=>(none:Option Y6)) j=some r ->Y3 X j r:=fun _ _ h=>by cases h
def Yw (ops:Array Oper) (o:Oper) (fr:Fr):Prop:=okG ops.toList o fr=true∧XR ops.toList o fr=true
def Ze9 (ops:Array Oper) (o:Oper) (fr:Fr):Prop:=okG ops.toList o fr=true∧XR ops.toList o fr=false
theorem Yw.none {ops:Array Oper} {o:Oper} {fr:Fr} (h:o.guard=none):Yw ops o fr:=by unfold Yw okG XR;rw [h];exact⟨rfl,rfl⟩
theorem gN {ops:Array Oper} {d:Option Tmp} {op:Op} {ty:TypeId} {p:String} {af:Array Edge} {fr:Fr}:Yw ops ⟨d,op,ty,p,af,Option.none⟩ fr:=Yw.none rfl
def Zjc (n:Nat) (d:Option Tmp):Bool:=
 match d with
 | none=>true
 | some d=>Nat.blt d n
theorem ZeZ {fr:Fr} {ds:List Deferred} {h:H} {d:Option Tmp} {v:Value} (hd:Zjc n d=true):Zg2 n ⟨fr,ds,h,none⟩ d v=some ⟨U4 fr d v,ds,h,none⟩:=by
 rw [Zhy];cases d with
 | none=>rfl
 | some d=>
   unfold Zjc at hd;dsimp only at hd ⊢;rw [hd];rfl
variable {fr:Fr} {ds:List Deferred} {h h1:H}
theorem WO.val {v:Value} {E:Eff} (hg:Yw ops o fr) (hd:Zjc n o.dst=true) (ha:X8 X h (Yz fr) o=some (.val v,E)) (hE:E.apply wm h=some h1)
 (k:WO X n wm rd ops l ⟨U4 fr o.dst v,ds,h1,none⟩ Q):WO X n wm rd ops (o::l) ⟨fr,ds,h,none⟩ Q:=by
 refine WO.cons (Zel X) ?_ k;unfold ZaH;rw [hg.1,hg.2];dsimp only [Bool.not_true,Cq0,Cq1];rw [ha];dsimp only [Bool.not_true,Cq0,Cq1];rw [hE];unfold Zbu;dsimp only [Kz];rw [ZeZ hd]
 rfl
theorem WO.unit {E:Eff} (hg:Yw ops o fr) (hd:Zjc n o.dst=true) (ha:X8 X h (Yz fr) o=some (.skip,E)) (hE:E.apply wm h=some h1)
 (k:WO X n wm rd ops l ⟨U4 fr o.dst undef,ds,h1,none⟩ Q):WO X n wm rd ops (o::l) ⟨fr,ds,h,none⟩ Q:=by
 refine WO.cons (Zel X) ?_ k;unfold ZaH;rw [hg.1,hg.2];dsimp only [Bool.not_true,Cq0,Cq1];rw [ha];dsimp only [Bool.not_true,Cq0,Cq1];rw [hE];unfold Zbu;dsimp only [Kz];rw [ZeZ hd]
 rfl
theorem WO.off (hg:Ze9 ops o fr) (hd:Zjc n o.dst=true) (k:WO X n wm rd ops l ⟨U4 fr o.dst undef,ds,h,none⟩ Q):WO X n wm rd ops (o::l) ⟨fr,ds,h,none⟩ Q:=by
 refine WO.cons (Zel X) ?_ k;unfold ZaH;rw [hg.1,hg.2];dsimp only [Bool.not_true,Cq0,Cq1];rw [ZeZ hd]
 rfl
open Classical in
def Zag (j:Jp) (r:Y6):Jp ->Option Y6:=fun j'=>if j'=j then some r else none
theorem Ur {j:Jp} {r:Y6} (h:Y3 X j r):∀ j' r',Zag j r j'=some r' ->Y3 X j' r':=by
 intro j' r' e;unfold Zag at e;split at e
 ·rename_i hj;cases e;rw [hj];exact h
 ·cases e
theorem Us (j:Jp) (r:Y6):Zag j r j=some r:=by unfold Zag;rw [if_pos rfl]
theorem WO.call {f:FuncId} {args:Array Value} {E:Eff} {v:Value} {h2:H} (hg:Yw ops o fr) (hd:Zjc n o.dst=true) (ha:X8 X h (Yz fr) o=some (.enter f args,E)) (hE:E.apply wm h=some h1)
 (hc:Y3 X (.call f args wm h1) (.fin (.ret v) h2)) (k:WO X n wm rd ops l ⟨U4 fr o.dst v,ds,h2,none⟩ Q):WO X n wm rd ops (o::l) ⟨fr,ds,h,none⟩ Q:=by
 refine WO.cons (Ur hc) ?_ k;unfold ZaH;rw [hg.1,hg.2];dsimp only [Bool.not_true,Cq0,Cq1];rw [ha];dsimp only [Bool.not_true,Cq0,Cq1];rw [hE];unfold Zbu;dsimp only [Kz,Cq0];rw [Us];dsimp only;rw [ZeZ hd]
 rfl
end
section
variable {X:Ctx} {P:Program} {h:H} {fr:Fr} {ev:Operand ->Option Value} {d:Option Tmp} {ty:TypeId} {p:String} {af:Array Edge} {g:Option (Nat×Bool)}
theorem at_set (fr:Fr) (d t:Nat) (v:Value):Fr.at (Tr.set fr d v) t=if t=d then v else Fr.at fr t:=by
 unfold Fr.at;rw [Tr.JV];by_cases h:t=d <;> simp [h]
theorem Z4 (i:Nat) (fr:Fr):QD [] i fr=fr:=rfl
theorem ZN (v:Value) (vs:List Value) (i:Nat) (fr:Fr):QD (v::vs) i fr=QD vs (i + 1) (Tr.set fr i v):=rfl
theorem Zhz (fr:Fr) (t:Nat):Yz fr (.tmp t)=bif JM (fr.at t) then none else some (fr.at t):=rfl
theorem ZuD (fr:Fr) (v:Value):Yz fr (.const v)=bif plain v then some v else none:=rfl
theorem Zpc (fr:Fr) (f:FuncId):Yz fr (.func f)=some (.func (.func f) #[] #[]):=rfl
theorem Zzz (x:Operand):X8 X h ev ⟨d,.move x,ty,p,af,g⟩=vN (ev x):=rfl
theorem Zrg (x:Operand):X8 X h ev ⟨d,.assign x,ty,p,af,g⟩=vN (ev x):=rfl
theorem ZuA (op:BinOp) (t:TypeId) (x y:Operand) (yt:TypeId):X8 X h ev ⟨d,.binOp op t x y yt,ty,p,af,g⟩=match ev x,ev y with
 | some a,some b=>JH X.P op t x y a b
 | _,_=>none:=rfl
theorem Ze2 (c a b:Operand):X8 X h ev ⟨d,.pick c a b,ty,p,af,g⟩=match ev c with
 | some (.bool true)=>vN (ev a)
 | some (.bool false)=>vN (ev b)
 | _=>none:=rfl
theorem Zzy (op:UnOp) (t:TypeId) (x:Operand):X8 X h ev ⟨d,.unOp op t x,ty,p,af,g⟩=match ev x with
 | some a=>bif plain a then pN (Zat X.P (Op.unary op a)) else none
 | none=>none:=rfl
theorem Zo4 (t:TypeId) (x:Operand):X8 X h ev ⟨d,.load t x,ty,p,af,g⟩=match ev x with
 | some v=>vN (WS X.P h t v)
 | none=>none:=rfl
theorem Zux (t:TypeId) (a x:Operand):X8 X h ev ⟨d,.store t a x,ty,p,af,g⟩=match ev a,ev x with
 | some a,some x=>sE (Zgm X.P h t a x)
 | _,_=>none:=rfl
theorem ZCO (t:TypeId) (x:Operand):X8 X h ev ⟨d,.box t x,ty,p,af,g⟩=match ev x with
 | some v=>some (.val (JN h),.new (.row v.cells.toList true 0))
 | none=>none:=rfl
theorem ZuB (t:TypeId):X8 X h ev ⟨d,.alloc t,ty,p,af,g⟩=match Y7 X.P t with
 | some z=>some (.val (JN h),.new (.row z.cells.toList true 0))
 | none=>none:=rfl
theorem Zj9 (t:TypeId) (x:Operand) (f:Nat):X8 X h ev ⟨d,.fieldAddr t x f,ty,p,af,g⟩=match ev x with
 | some v=>vN (ZcC X.P t v f)
 | none=>none:=rfl
theorem Zdy (t:TypeId) (x i:Operand):X8 X h ev ⟨d,.indexAddr t x i,ty,p,af,g⟩=match ev x,ev i with
 | some x,some i=>vN (Zan X.P t x i)
 | _,_=>none:=rfl
theorem Zo5 (x:Operand) (k:Nat):X8 X h ev ⟨d,.extract x k,ty,p,af,g⟩=match ev x with
 | some x=>vN (ZcD x k)
 | none=>none:=rfl
theorem JQ (b:Builtin) (xs:Array Operand) (ts:Array TypeId):X8 X h ev ⟨d,.call {callee:= .builtin b,args:=xs,argTypes:=ts},ty,p,af,g⟩=match evs ev xs.toList with
 | some args=>KQ X.P h b ts ty args
 | none=>none:=by
 show(match Callee.builtin b,evs ev xs.toList with
  | .builtin b,some args=>KQ X.P h b ts ty args
  | .value f,some args=>match ev f with
    | some f=>WT X h f args
    | none=>none
  | _,_=>none)=_
 cases evs ev xs.toList <;> rfl
theorem Zgq (f:Operand) (xs:Array Operand) (ts:Array TypeId):X8 X h ev ⟨d,.call {callee:= .value f,args:=xs,argTypes:=ts},ty,p,af,g⟩=match evs ev xs.toList with
 | some args=>match ev f with
   | some f=>WT X h f args
   | none=>none
 | none=>none:=by
 show(match Callee.value f,evs ev xs.toList with
  | .builtin b,some args=>KQ X.P h b ts ty args
  | .value f,some args=>match ev f with
    | some f=>WT X h f args
    | none=>none
  | _,_=>none)=_
 cases evs ev xs.toList <;> rfl
theorem Zo:evs ev []=some []:=rfl
theorem Zc {x:Operand} {xs:List Operand} {v:Value} {vs:List Value} (h1:ev x=some v) (h2:evs ev xs=some vs):evs ev (x::xs)=some (v::vs):=by
 show(match ev x,evs ev xs with | some v,some vs=>some (v::vs) | _,_=>none)=_;rw [h1,h2]
theorem ZaI {op:BinOp} {t:TypeId} {x y:Operand} {k:IntKind} {a b:Int} {c:Bool} (ho:Op.intCmp op a b=pure (.bool c)) (h1:op= .eql∨op= .neq∨op= .lss∨op= .leq∨op= .gtr∨op= .geq):JH P op t x y (.int k a) (.int k b)=some (.val (.bool c),.none):=by
 have hp:(plain (.int k a) && plain (.int k b))=true:=rfl;unfold JH;rw [hp,Cq1]
 have hb:binOp op t (.int k a) (.int k b)=pure (.bool c):=by
  rcases h1 with rfl | rfl | rfl | rfl | rfl | rfl <;> simp [binOp,ho]
 have hg:(do eqGuard op t x y (.int k a) (.int k b);binOp op t (.int k a) (.int k b):Sem Value)=pure (.bool c):=by
  rw [hb];rcases h1 with rfl | rfl | rfl | rfl | rfl | rfl <;> rfl
 rw [hg];rfl
theorem ZzM {t:TypeId} {x y:Operand} {k:IntKind} {a b:Int}:JH P .eql t x y (.int k a) (.int k b)=some (.val (.bool (a==b)),.none):=ZaI rfl (by simp)
theorem ZzJ {t:TypeId} {x y:Operand} {k:IntKind} {a b:Int}:JH P .neq t x y (.int k a) (.int k b)=some (.val (.bool (a !=b)),.none):=ZaI rfl (by simp)
theorem Zpe {t:TypeId} {x y:Operand} {k:IntKind} {a b:Int}:JH P .lss t x y (.int k a) (.int k b)=some (.val (.bool (decide (a < b))),.none):=ZaI rfl (by simp)
theorem ZzK {t:TypeId} {x y:Operand} {k:IntKind} {a b:Int}:JH P .leq t x y (.int k a) (.int k b)=some (.val (.bool (decide (a <=b))),.none):=ZaI rfl (by simp)
theorem Zjv {t:TypeId} {x y:Operand} {k:IntKind} {a b:Int}:JH P .gtr t x y (.int k a) (.int k b)=some (.val (.bool (decide (a > b))),.none):=ZaI rfl (by simp)
theorem ZzL {t:TypeId} {x y:Operand} {k:IntKind} {a b:Int}:JH P .geq t x y (.int k a) (.int k b)=some (.val (.bool (decide (a >=b))),.none):=ZaI rfl (by simp)
theorem Zrl {op:BinOp} {t:TypeId} {x y:Operand} {k:IntKind} {a b c:Int} (h1:op= .add∧c=a + b∨op= .sub∧c=a - b∨op= .mul∧c=a * b):JH P op t x y (.int k a) (.int k b)=some (.val (.int k (k.wrap c)),.none):=by
 have hp:(plain (.int k a) && plain (.int k b))=true:=rfl;unfold JH;rw [hp,Cq1]
 have hb:binOp op t (.int k a) (.int k b)=pure (.int k (k.wrap c)):=by
  rcases h1 with⟨rfl,rfl⟩ | ⟨rfl,rfl⟩ | ⟨rfl,rfl⟩ <;> simp [binOp,Op.intArith]
 have hg:(do eqGuard op t x y (.int k a) (.int k b);binOp op t (.int k a) (.int k b):Sem Value)=pure (.int k (k.wrap c)):=by
  rw [hb];rcases h1 with⟨rfl,rfl⟩ | ⟨rfl,rfl⟩ | ⟨rfl,rfl⟩ <;> rfl
 rw [hg];rfl
end
section
variable {X:Ctx} {n wm:Nat} {rd:Option Nat} {s:Fs} {Q:XX ->Fs ->Prop}
theorem Zg6.XM {b:Code} (h:WC X n wm rd b s Q):Zg6 X n wm rd b Q .normal s:= ⟨h⟩
theorem Zg6.ret {b:Code} (h:Q .ret s):Zg6 X n wm rd b Q .ret s:= ⟨h⟩
theorem Zg6.exit {b:Code} {id:Nat} (h:Q (.exit id) s):Zg6 X n wm rd b Q (.exit id) s:= ⟨h⟩
theorem YT.XM {b:Code} (h:WL X n wm rd b s Q):YT X n wm rd b Q .normal s:= ⟨h⟩
theorem YT.ret {b:Code} (h:Q .ret s):YT X n wm rd b Q .ret s:= ⟨h⟩
theorem YT.exit {b:Code} {id:Nat} (h:Q (.exit id) s):YT X n wm rd b Q (.exit id) s:= ⟨h⟩
theorem Zgy.XM {id:Nat} (h:Q .normal s):Zgy id Q .normal s:= ⟨h⟩
theorem Zgy.ret {id:Nat} (h:Q .ret s):Zgy id Q .ret s:= ⟨h⟩
theorem Zgy.here {id:Nat} (h:Q .normal s):Zgy id Q (.exit id) s:= ⟨by show if _ then _ else _;rw [if_pos rfl];exact h⟩
theorem Zgy.kX {id k:Nat} (hk:Nat.beq k id=false) (h:Q (.exit k) s):Zgy id Q (.exit k) s:= ⟨by
 show if _ then _ else _
 rw [if_neg fun e=>by rw [e,Nat.beq_refl] at hk;cases hk];exact h⟩
theorem WF.begin {f:FuncId} {fn:Func} {c:Code} {args:List Value} {h:H} {n:Nat} {R:Kj ->H ->Prop} (hf:X.fns.get f=some fn) (hb:fn.body=some c) (hnt:fn.ntmps=n) (hn:args.length <=n)
 (k:WC X n wm none c ⟨QD args 0 .nil,[],h,none⟩ (Yd X fn R)):WF X f args.toArray wm h R:=by
 subst hnt;exact WF.enter hf hb hn k
variable {ops:Array Oper} {l:List Oper} {fr:Fr} {ds:List Deferred} {h h1:H} {d:Nat} {op:Op} {ty:TypeId} {p:String} {af:Array Edge} {g:Option (Nat×Bool)}
theorem WO.v {v:Value} {E:Eff} (hg:Yw ops ⟨some d,op,ty,p,af,g⟩ fr) (hd:Nat.blt d n=true) (ha:X8 X h (Yz fr) ⟨some d,op,ty,p,af,g⟩=some (.val v,E)) (hE:E.apply wm h=some h1)
 (k:WO X n wm rd ops l ⟨Tr.set fr d v,ds,h1,none⟩ Q):WO X n wm rd ops (⟨some d,op,ty,p,af,g⟩::l) ⟨fr,ds,h,none⟩ Q:=WO.val hg hd ha hE k
theorem WO.u {E:Eff} (hg:Yw ops ⟨none,op,ty,p,af,g⟩ fr) (ha:X8 X h (Yz fr) ⟨none,op,ty,p,af,g⟩=some (.skip,E)) (hE:E.apply wm h=some h1)
 (k:WO X n wm rd ops l ⟨fr,ds,h1,none⟩ Q):WO X n wm rd ops (⟨none,op,ty,p,af,g⟩::l) ⟨fr,ds,h,none⟩ Q:=WO.unit hg rfl ha hE k
theorem WO.o (hg:Ze9 ops ⟨some d,op,ty,p,af,g⟩ fr) (hd:Nat.blt d n=true) (k:WO X n wm rd ops l ⟨Tr.set fr d undef,ds,h,none⟩ Q):WO X n wm rd ops (⟨some d,op,ty,p,af,g⟩::l) ⟨fr,ds,h,none⟩ Q:=WO.off hg hd k
theorem WC.ZOQ {c:Operand} {a b:Code} {t:Bool} (hc:Yz s.fr c=some (.bool t)) (ht:t=true) (k:WC X n wm rd a s Q):WC X n wm rd (.cond c a b) s Q:=WC.cond hc (fun _=>k) fun e=>by rw [ht] at e;cases e
theorem WC.ZOS {c:Operand} {a b:Code} {t:Bool} (hc:Yz s.fr c=some (.bool t)) (ht:t=false) (k:WC X n wm rd b s Q):WC X n wm rd (.cond c a b) s Q:=WC.cond hc (fun e=>by rw [ht] at e;cases e) fun _=>k
theorem ZzI {f:FuncId} {fn:Func} {vs:List Value} (hf:X.fns.get f=some fn):WT X h (.func (.func f) #[] #[]) vs=some (.enter f vs.toArray,.none):=by
 unfold WT;simp [hf]
structure Slc (h:H) (a:Option Addr) (len sz:Nat) (cells:List Value):Prop where
 Z2v:cells.length=len * sz
 mem:len=0∨∃ i o cs own z,a=some ⟨i,o,none⟩∧h.at i= .row cs own z∧o + len * sz <=cs.length∧(cs.drop o).take (len * sz)=cells
structure Grow (h h':H):Prop where
 size:h.size <=h'.size
 keep:∀ i,i < h.size ->h'.at i=h.at i
theorem Grow.refl (h:H):Grow h h:= ⟨Nat.le_refl _,fun _ _=>rfl⟩
theorem Grow.trans {a b c:H} (x:Grow a b) (y:Grow b c):Grow a c:= ⟨Nat.le_trans x.size y.size,fun i hi=>(y.keep i (Nat.lt_of_lt_of_le hi x.size)).trans (x.keep i hi)⟩
theorem Grow.push {a b:H} (x:Grow a b) (A:XQ):Grow a (b.push A):= ⟨Nat.le_succ_of_le x.size,fun i hi=>by rw [H.QS,if_neg (by have:=x.size;omega)];exact x.keep i hi⟩
theorem X9 {h:H} {i:Nat} {A:XQ} (e:h.at i=A) (hl:A.live=true):i < h.size:=by
 rcases Nat.lt_or_ge i h.size with z | z
 ·exact z
 ·rw [H.Zbv z] at e;subst e;cases hl
theorem Slc.load {P:Program} {h:H} {i o:Nat} {cs:List Value} {own:Bool} {z:Nat} {t:TypeId} {v:Value} (hr:h.at i= .row cs own z) (ht:YK P t=some false) (hc:cs[o]? =some v):WS P h t (.pointer (some ⟨i,o,none⟩))=some v:=by
 unfold WS;dsimp only;rw [hr];dsimp only;rw [ht];dsimp only;exact hc
theorem Slc.addr {P:Program} {i o len cap k sz:Nat} {t e:TypeId} (hu:P.underlying t=some (.slice e)) (hs:Yl P e=some sz) (hk:k < len):Zan P t (.slice (some ⟨i,o,none⟩) len cap) (.int .i64 (k:Int))=some (.pointer (some ⟨i,o + k * sz,none⟩)):=by
 have:Zan P t (.slice (some ⟨i,o,none⟩) len cap) (.int .i64 (Int.ofNat k))=some (.pointer (some ⟨i,o + k * sz,none⟩)):=by
  unfold Zan;rw [hu];dsimp only;rw [hs];dsimp only;have:Nat.blt k len=true:=by rw [Nat.blt_eq];exact hk
  rw [this];rfl
 exact this
section
variable {ops:Array Oper} {l:List Oper} {fr:Fr} {ds:List Deferred} {h:H} {d:Nat} {ty:TypeId} {p:String} {af:Array Edge} {g:Option (Nat×Bool)}
end
end
section
variable {X:Ctx} {n wm:Nat} {rd:Option Nat} {Q:XX ->Fs ->Prop} {ops:Array Oper} {l:List Oper} {fr:Fr} {ds:List Deferred} {h:H} {d:Nat} {ty:TypeId} {p:String} {af:Array Edge} {g:Option (Nat×Bool)}
theorem Jf (h:H) (A:XQ):(h.push A).at h.size=A:=by rw [H.QS,if_pos rfl]
theorem K8 {h:H} {i:Nat} (hi:i < h.size) (A:XQ):(h.push A).at i=h.at i:=by rw [H.QS,if_neg (by omega)]
theorem YQ {h:H} {i:Nat} (hi:i < h.size) (A:XQ):(h.put i A).at i=A:=by rw [H.Qu,if_pos ⟨rfl,hi⟩]
theorem Qt {h:H} {i j:Nat} (hj:j ≠ i) (A:XQ):(h.put i A).at j=h.at j:=by rw [H.Qu,if_neg fun z=>hj z.1]
def ZG (P:Program) (t:TypeId) (f off:Nat):Prop:=∃ fs x m,P.underlying t=some (.struct fs)∧fs[f]? =some x∧Yl P x.type=some (m + 1)∧x.offset=off
theorem ZG.of {P:Program} {t:TypeId} {f off:Nat} (h:ZcC P t (.pointer (some ⟨0,0,none⟩)) f=some (.pointer (some ⟨0,off,none⟩))):ZG P t f off:=by
 unfold ZcC at h;cases e:P.underlying t with
 | none=>rw [e] at h;cases h
 | some u=>
   rw [e] at h;cases u with
   | struct fs=>
     dsimp only at h;cases ex:fs[f]? with
     | none=>rw [ex] at h;cases h
     | some x=>
       rw [ex] at h;dsimp only at h;cases em:Yl P x.type with
       | none=>rw [em] at h;cases h
       | some m=>
         rw [em] at h;cases m with
         | zero=>cases h
         | succ m=>cases h;exact⟨fs,x,m,e,ex,em,(Nat.zero_add _).symm⟩
   | _=>cases h
theorem ZG.addr {P:Program} {t:TypeId} {f off:Nat} (h:ZG P t f off) (i o:Nat):ZcC P t (.pointer (some ⟨i,o,none⟩)) f=some (.pointer (some ⟨i,o + off,none⟩)):=by
 obtain⟨fs,x,m,h1,h2,h3,rfl⟩:=h;unfold ZcC;rw [h1];dsimp only;rw [h2];dsimp only;rw [h3]
theorem ZdS (b:Bool):(Value.bool b).cells.toList= [.bool b]:=rfl
theorem Zgg (k:IntKind) (m:Int):(Value.int k m).cells.toList= [.int k m]:=rfl
theorem Zbg (s:ByteArray):(Value.string s).cells.toList= [.string s]:=rfl
theorem Zge (a:Option Addr):(Value.pointer a).cells.toList= [.pointer a]:=rfl
theorem Zct (a:Option Addr) (m c:Nat):(Value.slice a m c).cells.toList= [.slice a m c]:=rfl
theorem Zgf (m:Option Nat):(Value.map m).cells.toList= [.map m]:=rfl
theorem cells_func (f:Fn) (xs ys:Array Value):(Value.func f xs ys).cells.toList= [.func f xs ys]:=rfl
theorem Zal:(Value.nilFunc).cells.toList= [.nilFunc]:=rfl
theorem KO:(Value.nilIface).cells.toList= [.nilIface]:=rfl
theorem Zcu (t:TypeId) (v:Value):(Value.iface t v).cells.toList= [.iface t v]:=rfl
theorem Zgi (vs:List Value):(Value.agg vs.toArray).cells.toList=vs:=rfl
def Zdf (P:Program) (t:TypeId) (zs:List Value) (pl:List (Nat×Nat)):Prop:=∃ z fs,Y7 P t=some z∧z.cells.toList=zs∧P.underlying t=some (.struct fs)∧ZcQ P fs.toList=some pl
def Zta (P:Program) (t:TypeId) (zs:List Value) (m:Nat):Prop:=∃ z k e,Y7 P t=some z∧z.cells.toList=zs∧P.underlying t=some (.array k e)∧Yl P e=some m
def Zco (kV:Nat ->Option (Nat×Nat)) (len:Nat):List (Nat×Value) ->Bool
 | []=>true
 | (i,v)::rest=>(match kV i with
   | some (off,size)=>Nat.beq v.cells.toList.length size && Nat.ble (off + v.cells.toList.length) len
   | none=>false) && Zco kV len rest
def ZgJ (off:Nat ->Nat):List Value ->List (Nat×Value) ->List Value
 | cs,[]=>cs
 | cs,(i,v)::rest=>ZgJ off (splice cs (off i) v.cells.toList) rest
theorem Ze5 {kV:Nat ->Option (Nat×Nat)} {off:Nat ->Nat} (ho:∀ i p,kV i=some p ->off i=p.1):∀ (ps:List (Nat×Value)) (cs:List Value),Zco kV cs.length ps=true ->ZcB kV cs ps=some (ZgJ off cs ps):=by
 intro ps
 induction ps with
 | nil=>intro cs _;rfl
 | cons q ps ih=>
   obtain⟨i,v⟩:=q;intro cs h;simp only [Zco,Ba0] at h;obtain⟨h1,h2⟩:=h;unfold ZcB ZgJ;cases e:kV i with
   | none=>rw [e] at h1;cases h1
   | some q=>
     obtain⟨of,sz⟩:=q;rw [e] at h1;dsimp only at h1 ⊢;rw [h1,Cq1,ho i _ e]
     have hl:(splice cs of v.cells.toList).length=cs.length:=by
      rw [Ba0] at h1;have:=Nl0 h1.2;simp only [splice,List.length_append,List.length_take,List.length_drop];omega
     exact ih _ (by rw [hl];exact h2)
theorem YO {ev:Operand ->Option Value}:evp ev []=some []:=rfl
theorem ZL {ev:Operand ->Option Value} {i:Nat} {x:Operand} {xs:List (Nat×Operand)} {v:Value} {vs:List (Nat×Value)} (h1:ev x=some v) (h2:evp ev xs=some vs):evp ev ((i,x)::xs)=some ((i,v)::vs):=by
 show(match ev x,evp ev xs with | some v,some vs=>some ((i,v)::vs) | _,_=>none)=_;rw [h1,h2]
theorem Zk1 {P:Program} {h:H} {t:TypeId} {b o z sz:Nat} {cs vs:List Value} {own:Bool} (ht:YK P t=some true) (hs:Yl P t=some sz) (hr:h.at b= .row cs own z) (hl:o + sz <=cs.length) (hv:(cs.drop o).take sz=vs):
 WS P h t (.pointer (some ⟨b,o,none⟩))=some (.agg vs.toArray):=by
 unfold WS;dsimp only;rw [hr];dsimp only;rw [ht,hs];dsimp only;have hb:Nat.ble (o + sz) cs.length=true:=Nm0 hl;rw [hb,hv];rfl
end
section
variable {X:Ctx} {n wm:Nat} {rd:Option Nat} {Q:XX ->Fs ->Prop} {ops:Array Oper} {l:List Oper} {fr:Fr} {ds:List Deferred} {h:H} {d:Option Tmp} {ty:TypeId} {p:String} {af:Array Edge} {g:Option (Nat×Bool)} {ev:Operand ->Option Value}
theorem Ke {x:Operand} {v:Value} (hx:ev x=some v):X8 X h ev ⟨d,.move x,ty,p,af,g⟩=some (.val v,.none):=by rw [Zzz,hx];rfl
theorem Uy {x:Operand} {v:Value} (hx:ev x=some v):X8 X h ev ⟨d,.assign x,ty,p,af,g⟩=some (.val v,.none):=by rw [Zrg,hx];rfl
theorem Wd {x:Operand} {t:TypeId} {f off b o:Nat} (hf:ZG X.P t f off) (hx:ev x=some (.pointer (some ⟨b,o,none⟩))):X8 X h ev ⟨d,.fieldAddr t x f,ty,p,af,g⟩=some (.val (.pointer (some ⟨b,o + off,none⟩)),.none):=by
 rw [Zj9,hx];dsimp only;rw [hf.addr];rfl
theorem Zcw {x:Operand} {a:Addr} (hx:ev x=some (.pointer (some a))):X8 X h ev ⟨d,.nilCheck x,ty,p,af,g⟩=some (.val (.pointer (some a)),.none):=by
 show(match ev x with
  | some (.pointer (some a))=>some (AN.val (.pointer (some a)),Eff.none)
  | _=>none)=_
 rw [hx]
theorem Zzo {x:Operand} {t:TypeId} {b o z:Nat} {cs:List Value} {own:Bool} {v:Value} (ht:YK X.P t=some false) (hx:ev x=some (.pointer (some ⟨b,o,none⟩))) (hr:h.at b= .row cs own z) (hc:cs[o]? =some v):
 X8 X h ev ⟨d,.load t x,ty,p,af,g⟩=some (.val v,.none):=by rw [Zo4,hx];dsimp only;rw [Slc.load hr ht hc];rfl
theorem Zzn {x:Operand} {t:TypeId} {b o z sz:Nat} {cs vs:List Value} {own:Bool} (ht:YK X.P t=some true) (hs:Yl X.P t=some sz) (hx:ev x=some (.pointer (some ⟨b,o,none⟩))) (hr:h.at b= .row cs own z) (hl:o + sz <=cs.length) (hv:(cs.drop o).take sz=vs):
 X8 X h ev ⟨d,.load t x,ty,p,af,g⟩=some (.val (.agg vs.toArray),.none):=by rw [Zo4,hx];dsimp only;rw [Zk1 ht hs hr hl hv];rfl
theorem ZI6 {x:Operand} {t e:TypeId} {a:Option Addr} {m c:Nat} (hu:X.P.underlying t=some (.slice e)) (hx:ev x=some (.slice a m c)):
 X8 X h ev ⟨d,.call {callee:= .builtin .len,args:=#[x],argTypes:=#[t]},ty,p,af,g⟩=some (.val (.int .i64 m),.none):=by
 have he:evs ev [x]=some [.slice a m c]:=Zc hx Zo;rw [JQ]
 show(match evs ev [x] with
  | some args=>KQ X.P h .len #[t] ty args
  | none=>none)=_
 rw [he];show vN (ZzC X.P h t (.slice a m c))=_;unfold ZzC;rw [hu];rfl
theorem ZI7 {x y:Operand} {t e:TypeId} {sz b o m c k:Nat} {iv:Int} (hu:X.P.underlying t=some (.slice e)) (hs:Yl X.P e=some sz) (hx:ev x=some (.slice (some ⟨b,o,none⟩) m c)) (hy:ev y=some (.int .i64 iv)) (hi:iv= (k:Int)) (hk:k < m):
 X8 X h ev ⟨d,.indexAddr t x y,ty,p,af,g⟩=some (.val (.pointer (some ⟨b,o + k * sz,none⟩)),.none):=by
 subst hi;rw [Zdy,hx,hy];dsimp only;rw [Slc.addr hu hs hk];rfl
theorem ZmQ {x:Operand} {t:TypeId} {b:Bool} (hx:ev x=some (.bool b)):X8 X h ev ⟨d,.unOp .not t x,ty,p,af,g⟩=some (.val (.bool (!b)),.none):=by rw [Zzy,hx];rfl
theorem JZ {op:BinOp} {x y:Operand} {t yt:TypeId} {a b v:Value} (hx:ev x=some a) (hy:ev y=some b) (hv:JH X.P op t x y a b=some (.val v,.none)):X8 X h ev ⟨d,.binOp op t x y yt,ty,p,af,g⟩=some (.val v,.none):=by
 rw [ZuA,hx,hy];exact hv
theorem Zra {c x y:Operand} {b z:Bool} (hc:ev c=some (.bool b)) (hx:ev x=some (cond b (.bool z) undef)) (hy:ev y=some (.bool false)):X8 X h ev ⟨d,.pick c x y,ty,p,af,g⟩=some (.val (.bool (b && z)),.none):=by
 rw [Ze2,hc,hx,hy];cases b <;> rfl
theorem ZEq {c x y:Operand} {b z:Bool} (hc:ev c=some (.bool b)) (hx:ev x=some (.bool true)) (hy:ev y=some (cond (!b) (.bool z) undef)):X8 X h ev ⟨d,.pick c x y,ty,p,af,g⟩=some (.val (.bool (b || z)),.none):=by
 rw [Ze2,hc,hx,hy];cases b <;> rfl
theorem Zq9 {x:Operand} {k:Nat} {vs:List Value} {v:Value} (hx:ev x=some (.tuple vs.toArray)) (hv:vs[k]? =some v):X8 X h ev ⟨d,.extract x k,ty,p,af,g⟩=some (.val v,.none):=by
 rw [Zo5,hx];dsimp only;unfold ZcD;dsimp only;rw [hv];rfl
def Zh (ops:Array Oper) (o:Oper) (fr:Fr) (c:Bool):Prop:=okG ops.toList o fr=true∧XR ops.toList o fr=c
theorem Zh.yes {ops:Array Oper} {o:Oper} {fr:Fr} {j:Nat} {b:Bool} {og:Oper} {dd:Tmp} (h:o.guard=some (j,true)) (hj:ops.toList[j]? =some og) (hd:og.dst=some dd) (hv:fr.at dd= .bool b):Zh ops o fr b:=by
 unfold Zh okG XR KP;rw [h];dsimp only;rw [hj];dsimp only;rw [hd];dsimp only;rw [hv];cases b <;> exact⟨rfl,rfl⟩
theorem Zh.no {ops:Array Oper} {o:Oper} {fr:Fr} {j:Nat} {b:Bool} {og:Oper} {dd:Tmp} (h:o.guard=some (j,false)) (hj:ops.toList[j]? =some og) (hd:og.dst=some dd) (hv:fr.at dd= .bool b):Zh ops o fr (!b):=by
 unfold Zh okG XR KP;rw [h];dsimp only;rw [hj];dsimp only;rw [hd];dsimp only;rw [hv];cases b <;> exact⟨rfl,rfl⟩
theorem Zh.ZAf {ops:Array Oper} {o:Oper} {fr:Fr} {j:Nat} {a b:Bool} {og:Oper} {dd:Tmp} (h:o.guard=some (j,true)) (hj:ops.toList[j]? =some og) (hd:og.dst=some dd) (hv:fr.at dd=cond a (.bool b) undef):Zh ops o fr (a && b):=by
 unfold Zh okG XR KP;rw [h];dsimp only;rw [hj];dsimp only;rw [hd];dsimp only;rw [hv];cases a <;> cases b <;> exact⟨rfl,rfl⟩
theorem Zh.no2 {ops:Array Oper} {o:Oper} {fr:Fr} {j:Nat} {a b:Bool} {og:Oper} {dd:Tmp} (h:o.guard=some (j,false)) (hj:ops.toList[j]? =some og) (hd:og.dst=some dd) (hv:fr.at dd=cond a (.bool b) undef):Zh ops o fr (a && !b):=by
 unfold Zh okG XR KP;rw [h];dsimp only;rw [hj];dsimp only;rw [hd];dsimp only;rw [hv];cases a <;> cases b <;> exact⟨rfl,rfl⟩
theorem WO.gv {d:Nat} {op:Op} {c:Bool} {v:Value} (hg:Zh ops ⟨some d,op,ty,p,af,g⟩ fr c) (hd:Nat.blt d n=true) (ha:c=true ->X8 X h (Yz fr) ⟨some d,op,ty,p,af,g⟩=some (.val v,.none))
 (k:WO X n wm rd ops l ⟨Tr.set fr d (cond c v undef),ds,h,none⟩ Q):WO X n wm rd ops (⟨some d,op,ty,p,af,g⟩::l) ⟨fr,ds,h,none⟩ Q:=by
 cases c
 ·exact WO.o hg hd k
 ·exact WO.v hg hd (ha rfl) rfl k
end
section
variable {X:Ctx} {n wm:Nat} {rd:Option Nat} {ops:Array Oper} {l:List Oper} {fr:Fr} {ds:List Deferred} {h:H} {ty:TypeId} {p:String} {af:Array Edge} {g:Option (Nat×Bool)}
variable {Q:Fr ->Prop}
theorem ZzT (wm:Nat):MOf false wm none=fun _=>False:=by funext x;unfold MOf;simp
theorem ZcU:∀ (j:Jp) (r:Y6),(fun _:Jp=>(none:Option Y6)) j=some r ->UU j r:=fun _ _ h=>by cases h
end
end Go.YD
end
end
