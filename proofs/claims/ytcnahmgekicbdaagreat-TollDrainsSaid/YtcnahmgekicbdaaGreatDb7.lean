/- Part 7. -/
import Derived.ProofKit
import Derived.Test.YtcnahmgekicbdaaGreatDb6
set_option linter.all false
set_option maxHeartbeats 2000000
section
noncomputable section
namespace Go.Proofs.YtcnahmgekicbdaaGreat
open Go.Xv Go.RowKit Go.WideShapes Go.ChangeShapes
def isTrue (r:Option XU):Bool:=
 match r with
 | some (.fin (.ret (.bool true)) _)=>true
 | _=>false
theorem Zqo {r:Option XU} (h:isTrue r=true):∃ h',r=some (.fin (.ret (.bool true)) h'):=by
 unfold isTrue at h;split at h
 ·exact⟨_,rfl⟩
 ·cases h
theorem mixed:Tryz.prog.follows .mixedOrders=true:=Kq0
def ZIz:Ren:= ⟨fun _=>none,fun _=>(0,0)⟩
theorem ZrF (X:Ctx) (hX:X.P=Tryz.prog) {k:Nat} {f:FuncId} (h:isTrue (ev (cfg X fun _=>false) k (.call f #[] 0 ⟨.nil,0⟩))=true) (w:World):
 Calls Tryz.prog f #[] w fun e w'=>e= .returned (.bool true)/\Below w.heap.size w w':=by
 obtain⟨h',e⟩:=Zqo h;have hj:XK X (.call f #[] 0 ⟨.nil,0⟩) (.fin (.ret (.bool true)) h'):=ZlF (by rw [hX];exact mixed) k _ _ e;have hr:Rel ZIz ⟨.nil,0⟩ w:= ⟨fun _ _ _ e=>(by cases e),fun _ _ _ e=>(by cases e),fun _ _ _ _ _ e=>(by cases e)⟩
 rw [<- hX];have:=callsIn_wide.1 (hj ZIz #[] w (Nat.le_refl 0) hr ⟨rfl,fun i v v' e=>by simp at e⟩);refine this.mono fun e w' ⟨ρ',he,_,st⟩=>?_
 refine⟨?_,st.below fun i b d _ e=>by cases e⟩;cases he with
 | ret hv=>cases hv;rfl
section
variable {H:Type} {enc:TypeId×Value ->H} {P:Program}
theorem Zk2 {f:Func} {s:ChangeSpec} {apart fresh handsOn again:Bool} {W W':World} {args:Array Value} {v:Value} {ds gs:List (DataW H)} {before pa pv:List MemPlace}
 (hW:DataW.Whole enc P f.params.toList s.vars apart W args.toList ds gs before)
 (hres:∀ (b:Nat) (sp:Nat ->Bool) (hd:Bool),DataW.TrodAll enc P W' b sp hd f.resultTypes.toList (v.resultList f.resultTypes.size) (s.fn H (ds ++ gs)).results [])
 (hargs:∀ sp:Nat ->Bool,(∀ p ∈ before,sp p.block=true) ->DataW.TrodAll enc P W' 0 sp true f.params.toList args.toList (s.fn H (ds ++ gs)).args pa)
 (hvars:∀ sp:Nat ->Bool,(∀ p ∈ before,sp p.block=true) ->DataW.TrodVars enc P W' sp s.vars (s.fn H (ds ++ gs)).vars pv)
 (hps:before=pa ++ pv) (hb:Below W.heap.size W W')
 (hok:∀ (j:Nat) (t:TypeId) (r:Value),f.resultTypes[j]? =some t ->(v.resultList f.resultTypes.size)[j]? =some r ->Value.okWide P W' .any 0 t r):
 s.post enc P f apart fresh handsOn again W args v W':=by
 have hlt:∀ p ∈ before,p.block < W.heap.size:=fun p hp=>hW.lt p hp
 have hold:∀ p ∈ before,(fun b=>decide (b < W.heap.size)) p.block=true:=fun p hp=>by simpa using hlt p hp
 refine⟨ds,gs,before,[],pa,pv,hW,hres _ _ _,hargs _ hold,hvars _ hold,World.keptBut_mono (fun p hp=>⟨hp,?_⟩) (hb.frame (· ∈ before)),fun _=>?_⟩
 ·rw [hps,List.mem_append] at hp;exact Or.inr hp
 ·obtain⟨_,_,_,_,_,hz,hn⟩:=hW;refine⟨hok,_,_,([] ++ pa) ++ pv,⟨[] ++ pa,pv,trodAll_append (hargs _ (fun _ _=>rfl)) (hres _ _ _),hvars _ (fun _ _=>rfl),rfl,?_,?_⟩,?_⟩
  ·intro b off hp;have hin:MemPlace.cell b off ∈ before:=by rw [hps];simpa using hp
   rw [hb.frozen (hlt _ hin)];exact hz b off hin
  ·intro ha;have:=hn ha;rw [hps] at this
   simpa using this
  ·intro p hp _;rw [hps]
   simpa using hp
end
end Go.Proofs.YtcnahmgekicbdaaGreat
end
end
section
noncomputable section
namespace Go.Xv
section
variable {X:Ctx}
structure WC (X:Ctx) (n wm:Nat) (rd:Option Nat) (c:Code) (s:Fs) (Q:XX ->Fs ->Prop):Prop where
 out:∃ e s',Q e s'/\XK X (.code c n wm rd s) (.code e s')
structure WL (X:Ctx) (n wm:Nat) (rd:Option Nat) (c:Code) (s:Fs) (Q:XX ->Fs ->Prop):Prop where
 out:∃ e s',Q e s'/\XK X (.loop c n wm rd s) (.code e s')
structure WF (X:Ctx) (f:FuncId) (args:Array Value) (wm:Nat) (h:H) (Q:Zad ->H ->Prop):Prop where
 out:∃ e h',Q e h'/\XK X (.call f args wm h) (.fin e h')
def ZWT (X:Ctx) (n wm:Nat) (rd:Option Nat) (ops:Array Oper) (l:List Oper) (s:Fs) (e:XX) (s':Fs):Prop:=
 ∀ (Q:Exit ->Act ->World ->Prop) {ρ:Ren} {F:Fence} {a:Act} {w:World},Inv ρ n s a w ->wm <=s.h.size ->FR' ρ rd F ->(∀ e' a' w',UD wm n ρ s.h w e s' e' a' w' ->Q e' a' w') ->wpListIn F 0 X.P ops Q l a w
structure WO (X:Ctx) (n wm:Nat) (rd:Option Nat) (ops:Array Oper) (l:List Oper) (s:Fs) (Q:XX ->Fs ->Prop):Prop where
 out:∃ e s',Q e s'/\ZWT X n wm rd ops l s e s'
variable {n wm:Nat} {rd:Option Nat} {s:Fs} {Q:XX ->Fs ->Prop}
theorem WC.mono {c:Code} {Q':XX ->Fs ->Prop} (h:WC X n wm rd c s Q) (k:∀ e s',Q e s' ->Q' e s'):WC X n wm rd c s Q':=let⟨e,s',h1,h2⟩:=h;⟨e,s',k e s' h1,h2⟩
theorem WF.mono {f:FuncId} {args:Array Value} {h:H} {Q Q':Zad ->H ->Prop} (h1:WF X f args wm h Q) (k:∀ e s',Q e s' ->Q' e s'):WF X f args wm h Q':=let⟨e,s',h1,h2⟩:=h1;⟨e,s',k e s' h1,h2⟩
def ZWQ (X:Ctx) (n wm:Nat) (rd:Option Nat) (b:Code) (Q:XX ->Fs ->Prop):XX ->Fs ->Prop:=fun e s=>
 match e with
 | .normal=>WC X n wm rd b s Q
 | e=>Q e s
def ZO0 (X:Ctx) (n wm:Nat) (rd:Option Nat) (c:Code) (Q:XX ->Fs ->Prop):XX ->Fs ->Prop:=fun e s=>
 match e with
 | .normal=>WL X n wm rd c s Q
 | e=>Q e s
def ZEP (id:Nat) (Q:XX ->Fs ->Prop):XX ->Fs ->Prop:=fun e s=>
 match e with
 | .exit k=>if k=id then Q .normal s else Q (.exit k) s
 | e=>Q e s
structure Zh9 (X:Ctx) (n wm:Nat) (rd:Option Nat) (b:Code) (Q:XX ->Fs ->Prop) (e:XX) (s:Fs):Prop where
 out:ZWQ X n wm rd b Q e s
structure Xh (X:Ctx) (n wm:Nat) (rd:Option Nat) (b:Code) (Q:XX ->Fs ->Prop) (e:XX) (s:Fs):Prop where
 out:ZO0 X n wm rd b Q e s
structure Zgk (id:Nat) (Q:XX ->Fs ->Prop) (e:XX) (s:Fs):Prop where
 out:ZEP id Q e s
theorem ExR.Zjk {ρ:Ren} {e:XX} {e':Exit} (he:ExR ρ e e') (h:e ≠ .normal) {N:Act ->World ->Prop} {R:Exit ->Act ->World ->Prop} {a:Act} {w:World} (hr:R e' a w):Exit.then N R e' a w:=by
 cases he with
 | normal=>exact absurd rfl h
 | _=>exact hr
theorem WC.seq {a b:Code} (h:WC X n wm rd a s (Zh9 X n wm rd b Q)):WC X n wm rd (.seq a b) s Q:=by
 obtain⟨e,s1,hq,ka⟩:=h;by_cases hn:e= .normal
 ·subst hn;obtain⟨e2,s2,hq2,kb⟩:=hq.out;refine⟨e2,s2,hq2,fun ρ a w F Ye hi hF=>wpIn_seq (wpIn_mono (ka ρ a w F Ye hi hF) ?_)⟩;rintro e' a' w' ⟨ρ',he,hi',hst⟩;cases he;exact wpIn_mono (kb ρ' a' w' F (Nat.le_trans Ye hst.size) hi' (hF.mono hst.ext)) fun _ _ _ hp=>UD.trans hi.rel.lt hst hp
 ·refine⟨e,s1,?_,fun ρ a w F Ye hi hF=>wpIn_seq (wpIn_mono (ka ρ a w F Ye hi hF) ?_)⟩
  ·cases e with
   | normal=>exact absurd rfl hn
   | _=>exact hq.out
  ·rintro e' a' w' ⟨ρ',he,hi',hst⟩;exact he.Zjk hn ⟨ρ',he,hi',hst⟩
theorem WC.cond {c:Operand} {a b:Code} {t:Bool} (hc:Xf s.fr c=some (.bool t)) (h1:t=true ->WC X n wm rd a s Q) (h2:t=false ->WC X n wm rd b s Q):WC X n wm rd (.cond c a b) s Q:=by
 have:∃ e s',Q e s'/\∀ ρ a' w F,wm <=s.h.size ->Inv ρ n s a' w ->FR' ρ rd F ->(if t then a else b).wpIn F 0 X.P (UD wm n ρ s.h w e s') a' w:=by
  cases t with
  | true=>obtain⟨e,s',q,k⟩:=h1 rfl;exact⟨e,s',q,k⟩
  | false=>obtain⟨e,s',q,k⟩:=h2 rfl;exact⟨e,s',q,k⟩
 obtain⟨e,s',hq,k⟩:=this;refine⟨e,s',hq,fun ρ a' w F Ye hi hF=>?_⟩;have hv:=Zak hi.fr _ _ hc;generalize hx:a'.eval c=x at hv;cases hv;exact wpIn_cond hx (k ρ a' w F Ye hi hF)
theorem WC.block {id:Nat} {c:Code} (h:WC X n wm rd c s (Zgk id Q)):WC X n wm rd (.block id c) s Q:=by
 obtain⟨e,s1,hq,ka⟩:=h
 have key:∃ e2,Q e2 s1/\∀ (wm' n':Nat) (ρ0:Ren) (h0:H) (w0:World) (e':Exit) (a':Act) (w':World),UD wm' n' ρ0 h0 w0 e s1 e' a' w' ->Exit.inBlock id (UD wm' n' ρ0 h0 w0 e2 s1) e' a' w':=by
  cases e with
  | exit k=>
    by_cases hk:k=id
    ·subst hk;refine⟨.normal,by simpa [ZEP] using hq.out,?_⟩;rintro _ _ _ _ _ e' a' w' ⟨ρ',he,hi',hst⟩;cases he;show if _ then _ else _
     rw [if_pos rfl];exact⟨ρ',.normal,hi',hst⟩
    ·refine⟨.exit k,by simpa [ZEP,hk] using hq.out,?_⟩;rintro _ _ _ _ _ e' a' w' ⟨ρ',he,hi',hst⟩;cases he;show if _ then _ else _
     rw [if_neg hk];exact⟨ρ',.exit k,hi',hst⟩
  | normal=>exact⟨.normal,hq.out,by rintro _ _ _ _ _ e' a' w' ⟨ρ',he,hi',hst⟩;cases he;exact⟨ρ',.normal,hi',hst⟩⟩
  | goto l=>exact⟨.goto l,hq.out,by rintro _ _ _ _ _ e' a' w' ⟨ρ',he,hi',hst⟩;cases he;exact⟨ρ',.goto l,hi',hst⟩⟩
  | ret=>exact⟨.ret,hq.out,by rintro _ _ _ _ _ e' a' w' ⟨ρ',he,hi',hst⟩;cases he;exact⟨ρ',.ret,hi',hst⟩⟩
  | panic v=>exact⟨.panic v,hq.out,by rintro _ _ _ _ _ e' a' w' ⟨ρ',he,hi',hst⟩;cases he with | panic hv=>exact⟨ρ',.panic hv,hi',hst⟩⟩
 obtain⟨e2,hq2,key⟩:=key;exact⟨e2,s1,hq2,fun ρ a w F Ye hi hF=>wpIn_block (wpIn_mono (ka ρ a w F Ye hi hF) fun e' a' w' hp=>key _ _ _ _ _ e' a' w' hp)⟩
theorem WC.skip (h:Q .normal s):WC X n wm rd .skip s Q:= ⟨_,_,h,fun ρ _ _ _ _ hi _=>wpIn_skip ⟨ρ,.normal,hi,Stp.refl _ _ _ _⟩⟩
theorem WC.ret (h:Q .ret s):WC X n wm rd .ret s Q:= ⟨_,_,h,fun ρ _ _ _ _ hi _=>wpIn_ret ⟨ρ,.ret,hi,Stp.refl _ _ _ _⟩⟩
theorem WC.exit {id:Nat} (h:Q (.exit id) s):WC X n wm rd (.exit id) s Q:= ⟨_,_,h,fun ρ _ _ _ _ hi _=>wpIn_exit ⟨ρ,.exit id,hi,Stp.refl _ _ _ _⟩⟩
theorem WC.loop {c:Code} (h:WL X n wm rd c s Q):WC X n wm rd (.loop c) s Q:=
 let⟨e,s',hq,k⟩:=h;⟨e,s',hq,fun ρ a w F Ye hi hF=>ZcL (k ρ a w F Ye hi hF)⟩
theorem WC.region {id:Nat} {ops:Array Oper} (h:WO X n wm rd ops ops.toList s Q):WC X n wm rd (.region id ops false) s Q:=by
 obtain⟨e,s',hq,k⟩:=h;exact⟨e,s',hq,fun ρ a w F Ye hi hF=>wpIn_region_list (k _ hi Ye hF fun _ _ _ hp=>hp)⟩
theorem WL.step {c:Code} (h:WC X n wm rd c s (Xh X n wm rd c Q)):WL X n wm rd c s Q:=by
 obtain⟨e,s1,hq,ka⟩:=h;by_cases hn:e= .normal
 ·subst hn;obtain⟨e2,s2,hq2,kb⟩:=hq.out;refine⟨e2,s2,hq2,fun ρ a w F Ye hi hF=>Ui (wpIn_mono (ka ρ a w F Ye hi hF) ?_)⟩;rintro e' a' w' ⟨ρ',he,hi',hst⟩;cases he;have:=kb ρ' a' w' F (Nat.le_trans Ye hst.size) hi' (hF.mono hst.ext);intro b k cs h1 h2 h3;obtain⟨e3,a3,w3,hp,harr⟩:=this b k cs h1 h2 h3;exact⟨e3,a3,w3,UD.trans hi.rel.lt hst hp,harr⟩
 ·refine⟨e,s1,?_,fun ρ a w F Ye hi hF=>Ui (wpIn_mono (ka ρ a w F Ye hi hF) ?_)⟩
  ·cases e with
   | normal=>exact absurd rfl hn
   | _=>exact hq.out
  ·rintro e' a' w' ⟨ρ',he,hi',hst⟩;exact he.Zjk hn ⟨ρ',he,hi',hst⟩
def ZWS (X:Ctx) (fn:Func) (Q:Zad ->H ->Prop):XX ->Fs ->Prop:=fun e s=>s.ds= []/\
 match e with
 | .normal=>∃ v,Ua X.P fn s.fr s.h=some v/\Q (.ret v) s.h
 | .ret=>∃ v,Ua X.P fn s.fr s.h=some v/\Q (.ret v) s.h
 | .panic v=>Q (.pan v) s.h
 | _=>False
structure Z8 (X:Ctx) (fn:Func) (Q:Zad ->H ->Prop) (e:XX) (s:Fs):Prop where
 out:ZWS X fn Q e s
theorem WF.enter {f:FuncId} {fn:Func} {c:Code} {args:Array Value} {h:H} {Q:Zad ->H ->Prop} (hf:X.fns.get f=some fn) (hb:fn.body=some c) (hn:args.toList.length <=fn.ntmps)
 (k:WC X fn.ntmps wm none c {fr:=Q7 args.toList 0 .nil,ds:= [],h:=h} (Z8 X fn Q)):WF X f args wm h Q:=by
 obtain⟨e,s',⟨hds,hq⟩,ka⟩:=k
 have main:∀ (E:Zad) (pm:PM),xPM e=some pm ->Km (cfg X fun _=>false) (fun _=>none) fn wm pm s'=some (.fin E s'.h) ->XK X (.call f args wm h) (.fin E s'.h):=by
  intro E pm hpm hl;have hj:=Kl (C:=cfg X fun _=>false) (ih:=fun _=>none) (fun _ _ h=>by cases h) hl;intro ρ args' w Ye hr hv
  have hi:Inv ρ fn.ntmps {fr:=Q7 args.toList 0 .nil,ds:= [],h:=h} {tmps:=args' ++ Array.replicate (fn.ntmps - args'.size) undef,defers:= []} w:=
   ⟨hr,Kj hv hn,.nil⟩
  refine callsIn_of_wp_marks (X.ok f fn hf).1 hb trivial (wpIn_mono (ka ρ _ w Fence.wide Ye hi rfl) ?_);rintro e' a' w' ⟨ρ',he,hi',hst⟩;cases he with
  | normal=>cases hpm;exact hj ρ' _ a' .returning w' _ (Nat.le_trans Ye hst.size) hi' .ret (fun _ _ hp=>Wh.trans hr.lt hst hp)
  | ret=>cases hpm;exact hj ρ' _ a' .returning w' _ (Nat.le_trans Ye hst.size) hi' .ret (fun _ _ hp=>Wh.trans hr.lt hst hp)
  | panic hv'=>cases hpm;exact hj ρ' _ a' _ w' _ (Nat.le_trans Ye hst.size) hi' (.pan hv') (fun _ _ hp=>Wh.trans hr.lt hst hp)
  | exit id=>cases hpm
  | goto l=>cases hpm
 cases e with
 | normal=>
   obtain⟨v,hv,hq⟩:=hq
   exact⟨_,_,hq,main _ .ret rfl (by
    have hv':Ua (cfg X fun _=>false).X.P fn s'.fr s'.h=some v:=hv;unfold Km;rw [hds];simp only [hv'])⟩
 | ret=>
   obtain⟨v,hv,hq⟩:=hq
   exact⟨_,_,hq,main _ .ret rfl (by
    have hv':Ua (cfg X fun _=>false).X.P fn s'.fr s'.h=some v:=hv;unfold Km;rw [hds];simp only [hv'])⟩
 | panic v=>exact⟨_,_,hq,main _ (.pan v) rfl (by unfold Km;rw [hds])⟩
 | exit _=>exact hq.elim
 | goto _=>exact hq.elim
abbrev Pure (X:Ctx) (f:FuncId) (args:Array Value) (h:H) (v:Value):Prop:=∀ wm,XK X (.call f args wm h) (.fin (.ret v) h)
theorem WF.pure {f:FuncId} {args:Array Value} {h:H} {v:Value} (hp:plain v=true) (k:WF X f args h.size h (fun e _=>e= .ret v)):Pure X f args h v:=by
 obtain⟨e,h',rfl,hj⟩:=k;intro wm ρ args' w Ye hr hv;refine(hj ρ args' w (Nat.le_refl _) hr hv).mono ?_;rintro e' w' ⟨ρ',he,hr',hst⟩;cases he with
 | ret hv'=>
   rw [VR.X3 hp hv'];obtain⟨q1,q2⟩:=Zha hr hst;exact⟨ρ,.ret (VR.YK hp),q1,q2 wm⟩
variable {ops:Array Oper} {l:List Oper} {o:Oper}
theorem WO.nil (h:Q .normal s):WO X n wm rd ops [] s Q:= ⟨_,_,h,fun _ ρ _ a w hi _ _ hq=>hq .normal a w ⟨ρ,.normal,hi,Stp.refl _ _ _ _⟩⟩
theorem WO.cons {ih:J7 ->Option XU} (HI:∀ j r,ih j=some r ->XK X j r) {s1:Fs} (h:ZbG X (fun _=>false) ih n wm rd ops.toList o s=some (.normal,s1)) (k:WO X n wm rd ops l s1 Q):WO X n wm rd ops (o::l) s Q:=by
 obtain⟨e,s',hq,hk⟩:=k;refine⟨e,s',hq,fun Q' ρ F a w hi Ye hF hq'=>?_⟩;refine Zdx HI h hi Ye hF (fun _ ρ' a' w' hi' st'=>?_) (fun v he=>by cases he);refine hk Q' hi' (Nat.le_trans Ye st'.size) (hF.mono st'.ext) fun e' a2 w2 hp=>?_
 obtain⟨ρ2,q1,q2,q3⟩:=hp;exact hq' e' a2 w2 ⟨ρ2,q1,q2,st'.trans hi.rel.lt q3⟩
theorem ZfF (X:Ctx):∀ (j:J7) (r:XU),(fun _:J7=>(none:Option XU)) j=some r ->XK X j r:=fun _ _ h=>by cases h
def YO (ops:Array Oper) (o:Oper) (fr:Fr):Prop:=okG ops.toList o fr=true/\Qh ops.toList o fr=true
def Zgj (ops:Array Oper) (o:Oper) (fr:Fr):Prop:=okG ops.toList o fr=true/\Qh ops.toList o fr=false
theorem YO.none {ops:Array Oper} {o:Oper} {fr:Fr} (h:o.guard=none):YO ops o fr:=by unfold YO okG Qh;rw [h];exact⟨rfl,rfl⟩
theorem gN {ops:Array Oper} {d:Option Tmp} {op:Op} {ty:TypeId} {p:String} {af:Array Edge} {fr:Fr}:YO ops ⟨d,op,ty,p,af,Option.none⟩ fr:=YO.none rfl
def Zkc (n:Nat) (d:Option Tmp):Bool:=
 match d with
 | none=>true
 | some d=>Nat.blt d n
theorem Zgb {fr:Fr} {ds:List Deferred} {h:H} {d:Option Tmp} {v:Value} (hd:Zkc n d=true):Zh1 n ⟨fr,ds,h,none⟩ d v=some ⟨ZcP fr d v,ds,h,none⟩:=by
 rw [ZiD];cases d with
 | none=>rfl
 | some d=>
   unfold Zkc at hd;dsimp only at hd |-;rw [hd];rfl
variable {fr:Fr} {ds:List Deferred} {h h1:H}
theorem WO.val {v:Value} {E:Eff} (hg:YO ops o fr) (hd:Zkc n o.dst=true) (ha:Qw X h (Xf fr) o=some (.val v,E)) (hE:E.apply wm h=some h1)
 (k:WO X n wm rd ops l ⟨ZcP fr o.dst v,ds,h1,none⟩ Q):WO X n wm rd ops (o::l) ⟨fr,ds,h,none⟩ Q:=by
 refine WO.cons (ZfF X) ?_ k;unfold ZbG;rw [hg.1,hg.2];dsimp only [Bool.not_true,Cq0,Cq1];rw [ha];dsimp only [Bool.not_true,Cq0,Cq1];rw [hE];unfold ZcA;dsimp only [Zal];rw [Zgb hd]
 rfl
theorem WO.unit {E:Eff} (hg:YO ops o fr) (hd:Zkc n o.dst=true) (ha:Qw X h (Xf fr) o=some (.skip,E)) (hE:E.apply wm h=some h1)
 (k:WO X n wm rd ops l ⟨ZcP fr o.dst undef,ds,h1,none⟩ Q):WO X n wm rd ops (o::l) ⟨fr,ds,h,none⟩ Q:=by
 refine WO.cons (ZfF X) ?_ k;unfold ZbG;rw [hg.1,hg.2];dsimp only [Bool.not_true,Cq0,Cq1];rw [ha];dsimp only [Bool.not_true,Cq0,Cq1];rw [hE];unfold ZcA;dsimp only [Zal];rw [Zgb hd]
 rfl
theorem WO.off (hg:Zgj ops o fr) (hd:Zkc n o.dst=true) (k:WO X n wm rd ops l ⟨ZcP fr o.dst undef,ds,h,none⟩ Q):WO X n wm rd ops (o::l) ⟨fr,ds,h,none⟩ Q:=by
 refine WO.cons (ZfF X) ?_ k;unfold ZbG;rw [hg.1,hg.2];dsimp only [Bool.not_true,Cq0,Cq1];rw [Zgb hd]
 rfl
open Classical in
def ZaY (j:J7) (r:XU):J7 ->Option XU:=fun j'=>if j'=j then some r else none
theorem U7 {j:J7} {r:XU} (h:XK X j r):∀ j' r',ZaY j r j'=some r' ->XK X j' r':=by
 intro j' r' e;unfold ZaY at e;split at e
 ·rename_i hj;cases e;rw [hj];exact h
 ·cases e
theorem U8 (j:J7) (r:XU):ZaY j r j=some r:=by unfold ZaY;rw [if_pos rfl]
theorem WO.call {f:FuncId} {args:Array Value} {E:Eff} {v:Value} {h2:H} (hg:YO ops o fr) (hd:Zkc n o.dst=true) (ha:Qw X h (Xf fr) o=some (.enter f args,E)) (hE:E.apply wm h=some h1)
 (hc:XK X (.call f args wm h1) (.fin (.ret v) h2)) (k:WO X n wm rd ops l ⟨ZcP fr o.dst v,ds,h2,none⟩ Q):WO X n wm rd ops (o::l) ⟨fr,ds,h,none⟩ Q:=by
 refine WO.cons (U7 hc) ?_ k;unfold ZbG;rw [hg.1,hg.2];dsimp only [Bool.not_true,Cq0,Cq1];rw [ha];dsimp only [Bool.not_true,Cq0,Cq1];rw [hE];unfold ZcA;dsimp only [Zal,Cq0];rw [U8];dsimp only;rw [Zgb hd]
 rfl
end
section
variable {X:Ctx} {P:Program} {h:H} {fr:Fr} {ev:Operand ->Option Value} {d:Option Tmp} {ty:TypeId} {p:String} {af:Array Edge} {g:Option (Nat×Bool)}
theorem at_set (fr:Fr) (d t:Nat) (v:Value):Fr.at (Tr.set fr d v) t=if t=d then v else Fr.at fr t:=by
 unfold Fr.at;rw [Tr.Wz];by_cases h:t=d <;> simp [h]
theorem Yo (i:Nat) (fr:Fr):Q7 [] i fr=fr:=rfl
theorem Yh (v:Value) (vs:List Value) (i:Nat) (fr:Fr):Q7 (v::vs) i fr=Q7 vs (i + 1) (Tr.set fr i v):=rfl
theorem ZiE (fr:Fr) (t:Nat):Xf fr (.tmp t)=bif Wx (fr.at t) then none else some (fr.at t):=rfl
theorem ZxZ (fr:Fr) (v:Value):Xf fr (.const v)=bif plain v then some v else none:=rfl
theorem Zr5 (fr:Fr) (f:FuncId):Xf fr (.func f)=some (.func (.func f) #[] #[]):=rfl
theorem ZEl (x:Operand):Qw X h ev ⟨d,.move x,ty,p,af,g⟩=vN (ev x):=rfl
theorem Zud (x:Operand):Qw X h ev ⟨d,.assign x,ty,p,af,g⟩=vN (ev x):=rfl
theorem ZxX (op:BinOp) (t:TypeId) (x y:Operand) (yt:TypeId):Qw X h ev ⟨d,.binOp op t x y yt,ty,p,af,g⟩=match ev x,ev y with
 | some a,some b=>J2 X.P op t x y a b
 | _,_=>none:=rfl
theorem Zgd (c a b:Operand):Qw X h ev ⟨d,.pick c a b,ty,p,af,g⟩=match ev c with
 | some (.bool true)=>vN (ev a)
 | some (.bool false)=>vN (ev b)
 | _=>none:=rfl
theorem ZEj (op:UnOp) (t:TypeId) (x:Operand):Qw X h ev ⟨d,.unOp op t x,ty,p,af,g⟩=match ev x with
 | some a=>bif plain a then pN (ZaH X.P (Op.unary op a)) else none
 | none=>none:=rfl
theorem ZrZ (t:TypeId) (x:Operand):Qw X h ev ⟨d,.load t x,ty,p,af,g⟩=match ev x with
 | some v=>vN (KX X.P h t v)
 | none=>none:=rfl
theorem ZxU (t:TypeId) (a x:Operand):Qw X h ev ⟨d,.store t a x,ty,p,af,g⟩=match ev a,ev x with
 | some a,some x=>sE (Zhk X.P h t a x)
 | _,_=>none:=rfl
theorem ZHK (t:TypeId) (x:Operand):Qw X h ev ⟨d,.box t x,ty,p,af,g⟩=match ev x with
 | some v=>some (.val (Uk h),.new (.row v.cells.toList true 0))
 | none=>none:=rfl
theorem ZxY (t:TypeId):Qw X h ev ⟨d,.alloc t,ty,p,af,g⟩=match X0 X.P t with
 | some z=>some (.val (Uk h),.new (.row z.cells.toList true 0))
 | none=>none:=rfl
theorem Zlq (t:TypeId) (x:Operand) (f:Nat):Qw X h ev ⟨d,.fieldAddr t x f,ty,p,af,g⟩=match ev x with
 | some v=>vN (ZdA X.P t v f)
 | none=>none:=rfl
theorem Zlp (t:TypeId) (x i:Operand):Qw X h ev ⟨d,.indexAddr t x i,ty,p,af,g⟩=match ev x,ev i with
 | some x,some i=>vN (ZeV X.P t x i)
 | _,_=>none:=rfl
theorem Zr0 (x:Operand) (k:Nat):Qw X h ev ⟨d,.extract x k,ty,p,af,g⟩=match ev x with
 | some x=>vN (ZdB x k)
 | none=>none:=rfl
theorem Uo (b:Builtin) (xs:Array Operand) (ts:Array TypeId):Qw X h ev ⟨d,.call {callee:= .builtin b,args:=xs,argTypes:=ts},ty,p,af,g⟩=match evs ev xs.toList with
 | some args=>ZaF X.P h b ts ty args
 | none=>none:=by
 show(match Callee.builtin b,evs ev xs.toList with
  | .builtin b,some args=>ZaF X.P h b ts ty args
  | .value f,some args=>match ev f with
    | some f=>KY X h f args
    | none=>none
  | _,_=>none)=_
 cases evs ev xs.toList <;> rfl
theorem Zhm (f:Operand) (xs:Array Operand) (ts:Array TypeId):Qw X h ev ⟨d,.call {callee:= .value f,args:=xs,argTypes:=ts},ty,p,af,g⟩=match evs ev xs.toList with
 | some args=>match ev f with
   | some f=>KY X h f args
   | none=>none
 | none=>none:=by
 show(match Callee.value f,evs ev xs.toList with
  | .builtin b,some args=>ZaF X.P h b ts ty args
  | .value f,some args=>match ev f with
    | some f=>KY X h f args
    | none=>none
  | _,_=>none)=_
 cases evs ev xs.toList <;> rfl
theorem Zm:evs ev []=some []:=rfl
theorem Zb {x:Operand} {xs:List Operand} {v:Value} {vs:List Value} (h1:ev x=some v) (h2:evs ev xs=some vs):evs ev (x::xs)=some (v::vs):=by
 show(match ev x,evs ev xs with | some v,some vs=>some (v::vs) | _,_=>none)=_;rw [h1,h2]
theorem ZbI {op:BinOp} {t:TypeId} {x y:Operand} {k:IntKind} {a b:Int} {c:Bool} (ho:Op.intCmp op a b=pure (.bool c)) (h1:op= .eql\/op= .neq\/op= .lss\/op= .leq\/op= .gtr\/op= .geq):J2 P op t x y (.int k a) (.int k b)=some (.val (.bool c),.none):=by
 have hp:(plain (.int k a) && plain (.int k b))=true:=rfl;unfold J2;rw [hp,Cq1]
 have hb:binOp op t (.int k a) (.int k b)=pure (.bool c):=by
  rcases h1 with rfl | rfl | rfl | rfl | rfl | rfl <;> simp [binOp,ho]
 have hg:(do eqGuard op t x y (.int k a) (.int k b);binOp op t (.int k a) (.int k b):Sem Value)=pure (.bool c):=by
  rw [hb];rcases h1 with rfl | rfl | rfl | rfl | rfl | rfl <;> rfl
 rw [hg];rfl
theorem Zr7 {t:TypeId} {x y:Operand} {k:IntKind} {a b:Int}:J2 P .eql t x y (.int k a) (.int k b)=some (.val (.bool (a==b)),.none):=ZbI rfl (by simp)
theorem ZEv {t:TypeId} {x y:Operand} {k:IntKind} {a b:Int}:J2 P .neq t x y (.int k a) (.int k b)=some (.val (.bool (a !=b)),.none):=ZbI rfl (by simp)
theorem Zgf {t:TypeId} {x y:Operand} {k:IntKind} {a b:Int}:J2 P .lss t x y (.int k a) (.int k b)=some (.val (.bool (decide (a < b))),.none):=ZbI rfl (by simp)
theorem ZEx {t:TypeId} {x y:Operand} {k:IntKind} {a b:Int}:J2 P .leq t x y (.int k a) (.int k b)=some (.val (.bool (decide (a <=b))),.none):=ZbI rfl (by simp)
theorem Zgg {t:TypeId} {x y:Operand} {k:IntKind} {a b:Int}:J2 P .gtr t x y (.int k a) (.int k b)=some (.val (.bool (decide (a > b))),.none):=ZbI rfl (by simp)
theorem ZEy {t:TypeId} {x y:Operand} {k:IntKind} {a b:Int}:J2 P .geq t x y (.int k a) (.int k b)=some (.val (.bool (decide (a >=b))),.none):=ZbI rfl (by simp)
theorem Zui {op:BinOp} {t:TypeId} {x y:Operand} {k:IntKind} {a b c:Int} (h1:op= .add/\c=a + b\/op= .sub/\c=a - b\/op= .mul/\c=a * b):J2 P op t x y (.int k a) (.int k b)=some (.val (.int k (k.wrap c)),.none):=by
 have hp:(plain (.int k a) && plain (.int k b))=true:=rfl;unfold J2;rw [hp,Cq1]
 have hb:binOp op t (.int k a) (.int k b)=pure (.int k (k.wrap c)):=by
  rcases h1 with⟨rfl,rfl⟩ | ⟨rfl,rfl⟩ | ⟨rfl,rfl⟩ <;> simp [binOp,Op.intArith]
 have hg:(do eqGuard op t x y (.int k a) (.int k b);binOp op t (.int k a) (.int k b):Sem Value)=pure (.int k (k.wrap c)):=by
  rw [hb];rcases h1 with⟨rfl,rfl⟩ | ⟨rfl,rfl⟩ | ⟨rfl,rfl⟩ <;> rfl
 rw [hg];rfl
end
section
variable {X:Ctx} {n wm:Nat} {rd:Option Nat} {s:Fs} {Q:XX ->Fs ->Prop}
theorem Zh9.Xx {b:Code} (h:WC X n wm rd b s Q):Zh9 X n wm rd b Q .normal s:= ⟨h⟩
theorem Zh9.ret {b:Code} (h:Q .ret s):Zh9 X n wm rd b Q .ret s:= ⟨h⟩
theorem Zh9.exit {b:Code} {id:Nat} (h:Q (.exit id) s):Zh9 X n wm rd b Q (.exit id) s:= ⟨h⟩
theorem Xh.Xx {b:Code} (h:WL X n wm rd b s Q):Xh X n wm rd b Q .normal s:= ⟨h⟩
theorem Xh.ret {b:Code} (h:Q .ret s):Xh X n wm rd b Q .ret s:= ⟨h⟩
theorem Xh.exit {b:Code} {id:Nat} (h:Q (.exit id) s):Xh X n wm rd b Q (.exit id) s:= ⟨h⟩
theorem Zgk.Xx {id:Nat} (h:Q .normal s):Zgk id Q .normal s:= ⟨h⟩
theorem Zgk.ret {id:Nat} (h:Q .ret s):Zgk id Q .ret s:= ⟨h⟩
theorem Zgk.here {id:Nat} (h:Q .normal s):Zgk id Q (.exit id) s:= ⟨by show if _ then _ else _;rw [if_pos rfl];exact h⟩
theorem Zgk.kX {id k:Nat} (hk:Nat.beq k id=false) (h:Q (.exit k) s):Zgk id Q (.exit k) s:= ⟨by
 show if _ then _ else _
 rw [if_neg fun e=>by rw [e,Nat.beq_refl] at hk;cases hk];exact h⟩
theorem WF.begin {f:FuncId} {fn:Func} {c:Code} {args:List Value} {h:H} {n:Nat} {R:Zad ->H ->Prop} (hf:X.fns.get f=some fn) (hb:fn.body=some c) (hnt:fn.ntmps=n) (hn:args.length <=n)
 (k:WC X n wm none c ⟨Q7 args 0 .nil,[],h,none⟩ (Z8 X fn R)):WF X f args.toArray wm h R:=by
 subst hnt;exact WF.enter hf hb hn k
variable {ops:Array Oper} {l:List Oper} {fr:Fr} {ds:List Deferred} {h h1:H} {d:Nat} {op:Op} {ty:TypeId} {p:String} {af:Array Edge} {g:Option (Nat×Bool)}
theorem WO.v {v:Value} {E:Eff} (hg:YO ops ⟨some d,op,ty,p,af,g⟩ fr) (hd:Nat.blt d n=true) (ha:Qw X h (Xf fr) ⟨some d,op,ty,p,af,g⟩=some (.val v,E)) (hE:E.apply wm h=some h1)
 (k:WO X n wm rd ops l ⟨Tr.set fr d v,ds,h1,none⟩ Q):WO X n wm rd ops (⟨some d,op,ty,p,af,g⟩::l) ⟨fr,ds,h,none⟩ Q:=WO.val hg hd ha hE k
theorem WO.u {E:Eff} (hg:YO ops ⟨none,op,ty,p,af,g⟩ fr) (ha:Qw X h (Xf fr) ⟨none,op,ty,p,af,g⟩=some (.skip,E)) (hE:E.apply wm h=some h1)
 (k:WO X n wm rd ops l ⟨fr,ds,h1,none⟩ Q):WO X n wm rd ops (⟨none,op,ty,p,af,g⟩::l) ⟨fr,ds,h,none⟩ Q:=WO.unit hg rfl ha hE k
theorem WO.o (hg:Zgj ops ⟨some d,op,ty,p,af,g⟩ fr) (hd:Nat.blt d n=true) (k:WO X n wm rd ops l ⟨Tr.set fr d undef,ds,h,none⟩ Q):WO X n wm rd ops (⟨some d,op,ty,p,af,g⟩::l) ⟨fr,ds,h,none⟩ Q:=WO.off hg hd k
theorem WC.ZVC {c:Operand} {a b:Code} {t:Bool} (hc:Xf s.fr c=some (.bool t)) (ht:t=true) (k:WC X n wm rd a s Q):WC X n wm rd (.cond c a b) s Q:=WC.cond hc (fun _=>k) fun e=>by rw [ht] at e;cases e
theorem WC.ZVE {c:Operand} {a b:Code} {t:Bool} (hc:Xf s.fr c=some (.bool t)) (ht:t=false) (k:WC X n wm rd b s Q):WC X n wm rd (.cond c a b) s Q:=WC.cond hc (fun e=>by rw [ht] at e;cases e) fun _=>k
theorem ZEu {f:FuncId} {fn:Func} {vs:List Value} (hf:X.fns.get f=some fn):KY X h (.func (.func f) #[] #[]) vs=some (.enter f vs.toArray,.none):=by
 unfold KY;simp [hf]
structure Slc (h:H) (a:Option Addr) (len sz:Nat) (cells:List Value):Prop where
 YdT:cells.length=len * sz
 mem:len=0\/∃ i o cs own z,a=some ⟨i,o,none⟩/\h.at i= .row cs own z/\o + len * sz <=cs.length/\(cs.drop o).take (len * sz)=cells
structure Grow (h h':H):Prop where
 size:h.size <=h'.size
 keep:∀ i,i < h.size ->h'.at i=h.at i
theorem Grow.refl (h:H):Grow h h:= ⟨Nat.le_refl _,fun _ _=>rfl⟩
theorem Grow.trans {a b c:H} (x:Grow a b) (y:Grow b c):Grow a c:= ⟨Nat.le_trans x.size y.size,fun i hi=>(y.keep i (Nat.lt_of_lt_of_le hi x.size)).trans (x.keep i hi)⟩
theorem Grow.push {a b:H} (x:Grow a b) (A:Qj):Grow a (b.push A):= ⟨Nat.le_succ_of_le x.size,fun i hi=>by rw [H.Jz,if_neg (by have:=x.size;omega)];exact x.keep i hi⟩
theorem QE {h:H} {i:Nat} {A:Qj} (e:h.at i=A) (hl:A.live=true):i < h.size:=by
 rcases Nat.lt_or_ge i h.size with z | z
 ·exact z
 ·rw [H.ZcB z] at e;subst e;cases hl
theorem Slc.load {P:Program} {h:H} {i o:Nat} {cs:List Value} {own:Bool} {z:Nat} {t:TypeId} {v:Value} (hr:h.at i= .row cs own z) (ht:XE P t=some false) (hc:cs[o]? =some v):KX P h t (.pointer (some ⟨i,o,none⟩))=some v:=by
 unfold KX;dsimp only;rw [hr];dsimp only;rw [ht];dsimp only;exact hc
theorem Slc.addr {P:Program} {i o len cap k sz:Nat} {t e:TypeId} (hu:P.underlying t=some (.slice e)) (hs:Xo P e=some sz) (hk:k < len):ZeV P t (.slice (some ⟨i,o,none⟩) len cap) (.int .i64 (k:Int))=some (.pointer (some ⟨i,o + k * sz,none⟩)):=by
 have:ZeV P t (.slice (some ⟨i,o,none⟩) len cap) (.int .i64 (Int.ofNat k))=some (.pointer (some ⟨i,o + k * sz,none⟩)):=by
  unfold ZeV;rw [hu];dsimp only;rw [hs];dsimp only;have:Nat.blt k len=true:=by rw [Nat.blt_eq];exact hk
  rw [this];rfl
 exact this
section
variable {ops:Array Oper} {l:List Oper} {fr:Fr} {ds:List Deferred} {h:H} {d:Nat} {ty:TypeId} {p:String} {af:Array Edge} {g:Option (Nat×Bool)}
end
end
section
variable {X:Ctx} {n wm:Nat} {rd:Option Nat} {Q:XX ->Fs ->Prop} {ops:Array Oper} {l:List Oper} {fr:Fr} {ds:List Deferred} {h:H} {d:Nat} {ty:TypeId} {p:String} {af:Array Edge} {g:Option (Nat×Bool)}
theorem JP (h:H) (A:Qj):(h.push A).at h.size=A:=by rw [H.Jz,if_pos rfl]
theorem ZaS {h:H} {i:Nat} (hi:i < h.size) (A:Qj):(h.push A).at i=h.at i:=by rw [H.Jz,if_neg (by omega)]
theorem XG {h:H} {i:Nat} (hi:i < h.size) (A:Qj):(h.put i A).at i=A:=by rw [H.JU,if_pos ⟨rfl,hi⟩]
theorem Jy {h:H} {i j:Nat} (hj:j ≠ i) (A:Qj):(h.put i A).at j=h.at j:=by rw [H.JU,if_neg fun z=>hj z.1]
def Yf (P:Program) (t:TypeId) (f off:Nat):Prop:=∃ fs x m,P.underlying t=some (.struct fs)/\fs[f]? =some x/\Xo P x.type=some (m + 1)/\x.offset=off
theorem Yf.of {P:Program} {t:TypeId} {f off:Nat} (h:ZdA P t (.pointer (some ⟨0,0,none⟩)) f=some (.pointer (some ⟨0,off,none⟩))):Yf P t f off:=by
 unfold ZdA at h;cases e:P.underlying t with
 | none=>rw [e] at h;cases h
 | some u=>
   rw [e] at h;cases u with
   | struct fs=>
     dsimp only at h;cases ex:fs[f]? with
     | none=>rw [ex] at h;cases h
     | some x=>
       rw [ex] at h;dsimp only at h;cases em:Xo P x.type with
       | none=>rw [em] at h;cases h
       | some m=>
         rw [em] at h;cases m with
         | zero=>cases h
         | succ m=>cases h;exact⟨fs,x,m,e,ex,em,(Nat.zero_add _).symm⟩
   | _=>cases h
theorem Yf.addr {P:Program} {t:TypeId} {f off:Nat} (h:Yf P t f off) (i o:Nat):ZdA P t (.pointer (some ⟨i,o,none⟩)) f=some (.pointer (some ⟨i,o + off,none⟩)):=by
 obtain⟨fs,x,m,h1,h2,h3,rfl⟩:=h;unfold ZdA;rw [h1];dsimp only;rw [h2];dsimp only;rw [h3]
theorem ZtV (b:Bool):(Value.bool b).cells.toList= [.bool b]:=rfl
theorem ZxE (k:IntKind) (m:Int):(Value.int k m).cells.toList= [.int k m]:=rfl
theorem ZoJ (s:ByteArray):(Value.string s).cells.toList= [.string s]:=rfl
theorem ZxC (a:Option Addr):(Value.pointer a).cells.toList= [.pointer a]:=rfl
theorem ZrI (a:Option Addr) (m c:Nat):(Value.slice a m c).cells.toList= [.slice a m c]:=rfl
theorem ZxD (m:Option Nat):(Value.map m).cells.toList= [.map m]:=rfl
theorem cells_func (f:Fn) (xs ys:Array Value):(Value.func f xs ys).cells.toList= [.func f xs ys]:=rfl
theorem Zlm:(Value.nilFunc).cells.toList= [.nilFunc]:=rfl
theorem Zkj:(Value.nilIface).cells.toList= [.nilIface]:=rfl
theorem ZrJ (t:TypeId) (v:Value):(Value.iface t v).cells.toList= [.iface t v]:=rfl
theorem ZxF (vs:List Value):(Value.agg vs.toArray).cells.toList=vs:=rfl
def Zcr (P:Program) (t:TypeId) (zs:List Value) (pl:List (Nat×Nat)):Prop:=∃ z fs,X0 P t=some z/\z.cells.toList=zs/\P.underlying t=some (.struct fs)/\ZdK P fs.toList=some pl
def ZeI (kV:Nat ->Option (Nat×Nat)) (len:Nat):List (Nat×Value) ->Bool
 | []=>true
 | (i,v)::rest=>(match kV i with
   | some (off,size)=>Nat.beq v.cells.toList.length size && Nat.ble (off + v.cells.toList.length) len
   | none=>false) && ZeI kV len rest
def ZjJ (off:Nat ->Nat):List Value ->List (Nat×Value) ->List Value
 | cs,[]=>cs
 | cs,(i,v)::rest=>ZjJ off (splice cs (off i) v.cells.toList) rest
theorem Zkv {kV:Nat ->Option (Nat×Nat)} {off:Nat ->Nat} (ho:∀ i p,kV i=some p ->off i=p.1):∀ (ps:List (Nat×Value)) (cs:List Value),ZeI kV cs.length ps=true ->Zdz kV cs ps=some (ZjJ off cs ps):=by
 intro ps
 induction ps with
 | nil=>intro cs _;rfl
 | cons q ps ih=>
   obtain⟨i,v⟩:=q;intro cs h;simp only [ZeI,Ba0] at h;obtain⟨h1,h2⟩:=h;unfold Zdz ZjJ;cases e:kV i with
   | none=>rw [e] at h1;cases h1
   | some q=>
     obtain⟨of,sz⟩:=q;rw [e] at h1;dsimp only at h1 |-;rw [h1,Cq1,ho i _ e]
     have hl:(splice cs of v.cells.toList).length=cs.length:=by
      rw [Ba0] at h1;have:=Nl0 h1.2;simp only [splice,List.length_append,List.length_take,List.length_drop];omega
     exact ih _ (by rw [hl];exact h2)
theorem YD {ev:Operand ->Option Value}:evp ev []=some []:=rfl
theorem ZX {ev:Operand ->Option Value} {i:Nat} {x:Operand} {xs:List (Nat×Operand)} {v:Value} {vs:List (Nat×Value)} (h1:ev x=some v) (h2:evp ev xs=some vs):evp ev ((i,x)::xs)=some ((i,v)::vs):=by
 show(match ev x,evp ev xs with | some v,some vs=>some ((i,v)::vs) | _,_=>none)=_;rw [h1,h2]
theorem ZmF {P:Program} {h:H} {t:TypeId} {b o z sz:Nat} {cs vs:List Value} {own:Bool} (ht:XE P t=some true) (hs:Xo P t=some sz) (hr:h.at b= .row cs own z) (hl:o + sz <=cs.length) (hv:(cs.drop o).take sz=vs):
 KX P h t (.pointer (some ⟨b,o,none⟩))=some (.agg vs.toArray):=by
 unfold KX;dsimp only;rw [hr];dsimp only;rw [ht,hs];dsimp only;have hb:Nat.ble (o + sz) cs.length=true:=Nm0 hl;rw [hb,hv];rfl
end
section
variable {X:Ctx} {n wm:Nat} {rd:Option Nat} {Q:XX ->Fs ->Prop} {ops:Array Oper} {l:List Oper} {fr:Fr} {ds:List Deferred} {h:H} {d:Option Tmp} {ty:TypeId} {p:String} {af:Array Edge} {g:Option (Nat×Bool)} {ev:Operand ->Option Value}
theorem XQ {x:Operand} {v:Value} (hx:ev x=some v):Qw X h ev ⟨d,.move x,ty,p,af,g⟩=some (.val v,.none):=by rw [ZEl,hx];rfl
theorem J4 {x:Operand} {v:Value} (hx:ev x=some v):Qw X h ev ⟨d,.assign x,ty,p,af,g⟩=some (.val v,.none):=by rw [Zud,hx];rfl
theorem Qn {x:Operand} {t:TypeId} {f off b o:Nat} (hf:Yf X.P t f off) (hx:ev x=some (.pointer (some ⟨b,o,none⟩))):Qw X h ev ⟨d,.fieldAddr t x f,ty,p,af,g⟩=some (.val (.pointer (some ⟨b,o + off,none⟩)),.none):=by
 rw [Zlq,hx];dsimp only;rw [hf.addr];rfl
theorem UH {x:Operand} {a:Addr} (hx:ev x=some (.pointer (some a))):Qw X h ev ⟨d,.nilCheck x,ty,p,af,g⟩=some (.val (.pointer (some a)),.none):=by
 show(match ev x with
  | some (.pointer (some a))=>some (AN.val (.pointer (some a)),Eff.none)
  | _=>none)=_
 rw [hx]
theorem ZEb {x:Operand} {t:TypeId} {b o z:Nat} {cs:List Value} {own:Bool} {v:Value} (ht:XE X.P t=some false) (hx:ev x=some (.pointer (some ⟨b,o,none⟩))) (hr:h.at b= .row cs own z) (hc:cs[o]? =some v):
 Qw X h ev ⟨d,.load t x,ty,p,af,g⟩=some (.val v,.none):=by rw [ZrZ,hx];dsimp only;rw [Slc.load hr ht hc];rfl
theorem ZEa {x:Operand} {t:TypeId} {b o z sz:Nat} {cs vs:List Value} {own:Bool} (ht:XE X.P t=some true) (hs:Xo X.P t=some sz) (hx:ev x=some (.pointer (some ⟨b,o,none⟩))) (hr:h.at b= .row cs own z) (hl:o + sz <=cs.length) (hv:(cs.drop o).take sz=vs):
 Qw X h ev ⟨d,.load t x,ty,p,af,g⟩=some (.val (.agg vs.toArray),.none):=by rw [ZrZ,hx];dsimp only;rw [ZmF ht hs hr hl hv];rfl
theorem ZOz {x:Operand} {t e:TypeId} {a:Option Addr} {m c:Nat} (hu:X.P.underlying t=some (.slice e)) (hx:ev x=some (.slice a m c)):
 Qw X h ev ⟨d,.call {callee:= .builtin .len,args:=#[x],argTypes:=#[t]},ty,p,af,g⟩=some (.val (.int .i64 m),.none):=by
 have he:evs ev [x]=some [.slice a m c]:=Zb hx Zm;rw [Uo]
 show(match evs ev [x] with
  | some args=>ZaF X.P h .len #[t] ty args
  | none=>none)=_
 rw [he];show vN (ZEn X.P h t (.slice a m c))=_;unfold ZEn;rw [hu];rfl
theorem ZOA {x y:Operand} {t e:TypeId} {sz b o m c k:Nat} {iv:Int} (hu:X.P.underlying t=some (.slice e)) (hs:Xo X.P e=some sz) (hx:ev x=some (.slice (some ⟨b,o,none⟩) m c)) (hy:ev y=some (.int .i64 iv)) (hi:iv= (k:Int)) (hk:k < m):
 Qw X h ev ⟨d,.indexAddr t x y,ty,p,af,g⟩=some (.val (.pointer (some ⟨b,o + k * sz,none⟩)),.none):=by
 subst hi;rw [Zlp,hx,hy];dsimp only;rw [Slc.addr hu hs hk];rfl
theorem Zo0 {x:Operand} {t:TypeId} {b:Bool} (hx:ev x=some (.bool b)):Qw X h ev ⟨d,.unOp .not t x,ty,p,af,g⟩=some (.val (.bool (!b)),.none):=by rw [ZEj,hx];rfl
theorem QS {op:BinOp} {x y:Operand} {t yt:TypeId} {a b v:Value} (hx:ev x=some a) (hy:ev y=some b) (hv:J2 X.P op t x y a b=some (.val v,.none)):Qw X h ev ⟨d,.binOp op t x y yt,ty,p,af,g⟩=some (.val v,.none):=by
 rw [ZxX,hx,hy];exact hv
theorem Zo2 {c x y:Operand} {b z:Bool} (hc:ev c=some (.bool b)) (hx:ev x=some (cond b (.bool z) undef)) (hy:ev y=some (.bool false)):Qw X h ev ⟨d,.pick c x y,ty,p,af,g⟩=some (.val (.bool (b && z)),.none):=by
 rw [Zgd,hc,hx,hy];cases b <;> rfl
theorem ZJL {c x y:Operand} {b z:Bool} (hc:ev c=some (.bool b)) (hx:ev x=some (.bool true)) (hy:ev y=some (cond (!b) (.bool z) undef)):Qw X h ev ⟨d,.pick c x y,ty,p,af,g⟩=some (.val (.bool (b || z)),.none):=by
 rw [Zgd,hc,hx,hy];cases b <;> rfl
theorem Zt7 {x:Operand} {k:Nat} {vs:List Value} {v:Value} (hx:ev x=some (.tuple vs.toArray)) (hv:vs[k]? =some v):Qw X h ev ⟨d,.extract x k,ty,p,af,g⟩=some (.val v,.none):=by
 rw [Zr0,hx];dsimp only;unfold ZdB;dsimp only;rw [hv];rfl
def Zf (ops:Array Oper) (o:Oper) (fr:Fr) (c:Bool):Prop:=okG ops.toList o fr=true/\Qh ops.toList o fr=c
theorem Zf.yes {ops:Array Oper} {o:Oper} {fr:Fr} {j:Nat} {b:Bool} {og:Oper} {dd:Tmp} (h:o.guard=some (j,true)) (hj:ops.toList[j]? =some og) (hd:og.dst=some dd) (hv:fr.at dd= .bool b):Zf ops o fr b:=by
 unfold Zf okG Qh ZaC;rw [h];dsimp only;rw [hj];dsimp only;rw [hd];dsimp only;rw [hv];cases b <;> exact⟨rfl,rfl⟩
theorem Zf.no {ops:Array Oper} {o:Oper} {fr:Fr} {j:Nat} {b:Bool} {og:Oper} {dd:Tmp} (h:o.guard=some (j,false)) (hj:ops.toList[j]? =some og) (hd:og.dst=some dd) (hv:fr.at dd= .bool b):Zf ops o fr (!b):=by
 unfold Zf okG Qh ZaC;rw [h];dsimp only;rw [hj];dsimp only;rw [hd];dsimp only;rw [hv];cases b <;> exact⟨rfl,rfl⟩
theorem Zf.ZFa {ops:Array Oper} {o:Oper} {fr:Fr} {j:Nat} {a b:Bool} {og:Oper} {dd:Tmp} (h:o.guard=some (j,true)) (hj:ops.toList[j]? =some og) (hd:og.dst=some dd) (hv:fr.at dd=cond a (.bool b) undef):Zf ops o fr (a && b):=by
 unfold Zf okG Qh ZaC;rw [h];dsimp only;rw [hj];dsimp only;rw [hd];dsimp only;rw [hv];cases a <;> cases b <;> exact⟨rfl,rfl⟩
theorem Zf.Kb {ops:Array Oper} {o:Oper} {fr:Fr} {j:Nat} {a b:Bool} {og:Oper} {dd:Tmp} (h:o.guard=some (j,false)) (hj:ops.toList[j]? =some og) (hd:og.dst=some dd) (hv:fr.at dd=cond a (.bool b) undef):Zf ops o fr (a && !b):=by
 unfold Zf okG Qh ZaC;rw [h];dsimp only;rw [hj];dsimp only;rw [hd];dsimp only;rw [hv];cases a <;> cases b <;> exact⟨rfl,rfl⟩
theorem WO.gv {d:Nat} {op:Op} {c:Bool} {v:Value} (hg:Zf ops ⟨some d,op,ty,p,af,g⟩ fr c) (hd:Nat.blt d n=true) (ha:c=true ->Qw X h (Xf fr) ⟨some d,op,ty,p,af,g⟩=some (.val v,.none))
 (k:WO X n wm rd ops l ⟨Tr.set fr d (cond c v undef),ds,h,none⟩ Q):WO X n wm rd ops (⟨some d,op,ty,p,af,g⟩::l) ⟨fr,ds,h,none⟩ Q:=by
 cases c
 ·exact WO.o hg hd k
 ·exact WO.v hg hd (ha rfl) rfl k
end
section
variable {X:Ctx} {n wm:Nat} {rd:Option Nat} {ops:Array Oper} {l:List Oper} {fr:Fr} {ds:List Deferred} {h:H} {ty:TypeId} {p:String} {af:Array Edge} {g:Option (Nat×Bool)}
variable {Q:Fr ->Prop}
theorem ZEJ (wm:Nat):MOf false wm none=fun _=>False:=by funext x;unfold MOf;simp
theorem ZdN:∀ (j:J7) (r:XU),(fun _:J7=>(none:Option XU)) j=some r ->WK j r:=fun _ _ h=>by cases h
end
end Go.Xv
end
end
