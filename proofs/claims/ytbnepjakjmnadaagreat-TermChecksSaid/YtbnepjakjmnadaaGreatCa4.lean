/- Part 4. -/
import Derived.TacticsIn
import Derived.FollowTie
import Derived.Test.YtbnepjakjmnadaaGreatCa3
set_option linter.all false
set_option maxHeartbeats 2000000
section
noncomputable section
namespace Go.Yj
variable {ρ:Ren} {w:World}
theorem KS {ρ ρ':Ren} {h h':H} {w w':World} (r:Rel ρ h w) (st:Stp h.size ρ h w ρ' h' w'):Rel ρ h w'∧∀ wm,Stp wm ρ h w ρ h w':=by
 have hold:∀ b,b < w.heap.size ->w'.heap[b]? =w.heap[b]?:=fun b hb=>st.frame b hb fun i d hi e _=>by have:=r.lt i _ e;omega
 refine⟨⟨fun i b d e=>?_,fun i b d e=>?_,r.inj⟩,fun wm=>⟨Ren.le_refl _,Nat.le_refl _,fun _ _=>rfl,fun _ _ x=>x,fun _ _ x=>x,st.os,st.tape,st.output,st.Y9,fun b hb _=>hold b hb,fun i b d e e'=>by rw [e] at e';cases e'⟩⟩
 ·have:=r.dom i b d e;have:=st.Y9;omega
 ·exact(r.obj i b d e).world (hold b (r.dom i b d e).2)
theorem WN {ρ:Ren} {rd:Option Nat} {F:Fence} (h:Kl ρ rd F) (f:FuncId):F.fn f↔f < nfs:=by
 unfold Kl at h;split at h
 ·subst h;exact Iff.rfl
 ·obtain⟨l',_,rfl⟩:=h;exact Iff.rfl
theorem ZcY {P:Program} {w:World} {a:Act} {fr:Fr} {ops:List Oper} {o:Oper} (hf:∀ t,o.op= .call {callee:= .value (.tmp t),args:= (match o.op with | .call c=>c.args | _=>#[]),argTypes:= (match o.op with | .call c=>c.argTypes | _=>#[])} ->QC (fr.at t)=false ->VR ρ (fr.at t) (a.tmps.getD t undef)) (hok:okG ops o fr=true) (hw:YR ops o fr=false) {f:FuncId} (h:o.about P w a.eval=some f):f < nfs:=by
 have hs:Zid o.op fr=true:=by
  unfold okG at hok;cases hg:o.guard with
  | none=>unfold YR at hw;rw [hg] at hw;cases hw
  | some p=>rw [hg] at hok;simp only [hw,Ba0,Bool.false_or] at hok;exact hok.2
 obtain⟨dst,op,ty,ps,af,gd⟩:=o;unfold Oper.about at h;dsimp only at h hs hf;split at h
 ·rename_i c;obtain⟨callee,args,ats⟩:=c;cases callee with
  | value x=>
    cases x with
    | func g=>
      simp only [resolve,Act.eval,Deferred.ofValue,Sem.run_pure,Target.leads] at h;cases h
      simpa [Zid] using hs
    | tmp t=>
      have hs':Zfa (fr.at t)=true:=hs;have hf':=hf t rfl;generalize fr.at t=x at hs' hf';unfold Zfa at hs';split at hs'
      ·rename_i g u1 u2;have hv:=hf' rfl;simp only [resolve,Act.eval] at h;generalize a.tmps.getD t undef=y at hv h;cases hv with
       | func _ _ _ first' cap' hy=>
         simp only [Deferred.ofValue,Sem.run_pure,Target.leads] at h;cases h
         simpa using hs'
      ·have hv:=hf' rfl;simp only [resolve,Act.eval] at h;generalize a.tmps.getD t undef=y at hv h;cases hv with
       | tuple=>simp [Deferred.ofValue,stuck,Sem.run] at h
      ·cases hs'
    | const v=>cases hs
    | global g=>cases hs
  | builtin b=>
    simp only [resolve,Sem.run_pure,Target.leads] at h;cases h
  | invoke r nm=>cases hs
 ·cases h
theorem Zh3 {n:Nat} {P:Program} {f:FuncId} {args:Array Value} {w:World} {R:Ending ->World ->Prop} (h:CallsIn base n P f args w R):Calls P f args w R:=
 fun cs=>let⟨e,w',fr,r,s,x⟩:=h.2 cs (Zen _);⟨e,w',fr,r,s.comes,x⟩
theorem ZiL {n m:Nat} {P:Program} {f:FuncId} {args:Array Value} {w:World} {R:Ending ->World ->Prop} (h:CallsIn base n P f args w R):CallsIn base m P f args w R:=
 ⟨h.1,fun cs _=>h.2 cs (Zen _)⟩
theorem Zcp {n k:Nat} {L:List FuncId} {P:Program} {f:FuncId} {args:Array Value} {w:World} {R:Ending ->World ->Prop} (hL:L.all (fun g=>Nat.blt g nfs)=true) (h:∀ D,CallsIn (Fence.list L (some D)) k P f args w R):CallsIn base n P f args w R:=by
 have hL':∀ g ∈ L,g < nfs:=fun g hg=>by simpa using List.all_eq_true.1 hL g hg
 refine⟨hL' _ (h 0).1,fun cs _=>?_⟩;obtain⟨e,w',fr,r,s,x⟩:= (h (cs.length + 1 + k)).2 cs fun d hd=>by cases hd;exact Nat.le_refl _
 have hI:∀ m,Machine.fenced P (Fence.list L (some (cs.length + 1 + k))) m ->Machine.fenced P base m:=fun m hm g hg=>by
  obtain⟨_,h2,h3,_⟩:=hm g hg;exact⟨fun z=>(by cases z),h2.imp (hL' _) id,fun f hf=>hL' _ (h3 f hf),Zen _⟩
 refine⟨e,w',fr,r,?_,x⟩;cases e with
 | returned v=>exact StepsIn.mono hI s
 | panicked c=>exact StepsIn.mono hI s
 | outgrown=>exact s
theorem inB {f:FuncId} (h:Nat.blt f nfs=true):base.fn f:=by rw [Nat.blt_eq] at h;exact h
theorem Zmj {P:Program} {w w':World} {f:FuncId} {args:Array Value} {nx:Next} (h:(callFunc f args).run P w= .ok nx w'):f < P.funcs.size:=by
 refine Nat.lt_of_not_le fun hn=>?_
 have:P.funcs[f]? =none:=Array.getElem?_eq_none hn;unfold callFunc at h;simp only [Sem.run_bind,run_program,Result.andThen_ok,this] at h;simp [stuck,Sem.run] at h
theorem Zul {P:Program} {w w':World} {a:Act} {o:Oper} {nx:Next} (he:(execOp a.eval o).run P w= .ok nx w') {f:FuncId} (h:o.about P w a.eval=some f):f < P.funcs.size:=by
 unfold Oper.about at h;split at h
 ·rename_i c hop;split at h
  ·rename_i d w1 hres
   have he2:(invoke d.target d.args).run P w1= .ok nx w':=by
    unfold execOp at he;rw [hop] at he;simp only [Sem.run_bind,hres,Result.andThen_ok] at he;exact he
   have ht:=invoke_tie P w1 d.target d.args;generalize d.target=t at h ht he2
   have fin:(∃ f args' w'',Target.leads P w1 t d.args=some f∧(invoke t d.args).run P w1= (callFunc f args').run P w'')∨(∃ h w',(invoke t d.args).run P w1= .halt h w') ->f < P.funcs.size:=by
    rintro(⟨g,args',w'',e1,e2⟩ | ⟨hh,w'',e⟩)
    ·rw [h] at e1;cases e1;rw [e2] at he2;exact Zmj he2
    ·rw [e] at he2;cases he2
   split at ht <;> first | exact fin ht | (rw [ht] at h;cases h)
  ·cases h
 ·cases h
theorem Kb {ρ:Ren} {rd:Option Nat} {F:Fence} (h:Kl ρ rd F):F.depth=none:=by
 unfold Kl at h;split at h
 ·subst h;rfl
 ·obtain⟨l',_,rfl⟩:=h;rfl
theorem QE {ρ:Ren} {rd:Option Nat} {F:Fence} (h:Kl ρ rd F) {P:Program} {f:FuncId} {args:Array Value} {w:World} {R:Ending ->World ->Prop} (hc:CallsIn base 0 P f args w R):CallsIn F 0 P f args w R:=by
 unfold Kl at h;split at h
 ·subst h;exact hc
 ·obtain⟨l',_,rfl⟩:=h;exact hc.inRound l'
theorem Zbk {ρ:Ren} {rd:Option Nat} {F:Fence} (h:Kl ρ rd F) {P:Program} {l:Nat} {f:FuncId} {t:Array Value} {Yr bd:Code} {w:World} {R:Ending ->World ->Prop} (hc:RoundIn base 0 P l f t Yr bd w R):RoundIn F 0 P l f t Yr bd w R:=by
 unfold Kl at h;split at h
 ·subst h;exact hc
 ·obtain⟨l',_,rfl⟩:=h;exact hc
theorem Kl.mono {ρ ρ':Ren} (hr:ρ.le ρ') {rd:Option Nat} {F:Fence} (h:Kl ρ rd F):Kl ρ' rd F:=by
 unfold Kl at h ⊢;split at h
 ·exact h
 ·obtain⟨l',h1,h2⟩:=h;exact⟨l',(hr _ _ h1).1,h2⟩
theorem Zau {X:Ctx} {h:H} {ev:Operand ->Option Value} {o:Oper} {nx:AN} {E:Eff} {a:Act} {w1:World} (ha:XG X h ev o=some (nx,E)) (hn:Zuu ρ w1 nx ((execOp a.eval o).run X.P w)) {f:FuncId} (hab:o.about X.P w a.eval=some f):f < nfs:=by
 have ok:∀ {y:Next} {w':World},(execOp a.eval o).run X.P w= .ok y w' ->f < nfs:=fun e=>by
  have:=Zul e hab
  rwa [X.sz] at this
 cases nx with
 | val v=>obtain⟨v',_,e⟩:=hn;exact ok e
 | skip=>exact ok hn
 | enter g args=>obtain⟨v',_,e⟩:=hn;exact ok e
 | round l args=>obtain⟨l',k,args',_,_,_,e⟩:=hn;exact ok e
 | dfr d=>obtain⟨d',_,e⟩:=hn;exact ok e
 | Zif=>exact ok hn
 | panic v=>
   exfalso;unfold Oper.about at hab;split at hab
   ·rename_i c hop;obtain⟨callee,args,ats⟩:=c;cases callee with
    | builtin b=>simp only [resolve,Sem.run_pure,Target.leads] at hab;cases hab
    | value x=>
      unfold XG at ha;rw [hop] at ha;dsimp only at ha;split at ha
      ·rename_i q1 q2;cases q1
      ·split at ha
       ·unfold Ux at ha;split at ha
        ·split at ha <;> cases ha
        ·split at ha
         ·revert ha;generalize Nat.beq _ _=bb;cases bb <;> simp
         ·cases ha
        ·cases ha
       ·cases ha
      ·rename_i q1 q2;cases q1
      ·cases ha
    | invoke r nm=>
      unfold XG at ha;rw [hop] at ha;dsimp only at ha;split at ha
      ·rename_i q1 q2;cases q1
      ·rename_i q1 q2;cases q1
      ·split at ha
       ·unfold Zaq at ha;split at ha
        ·split at ha
         ·split at ha <;> cases ha
         ·cases ha
        ·cases ha
       ·cases ha
      ·cases ha
   ·cases hab
theorem Ze0 {X:Ctx} {h:H} {ev:Operand ->Option Value} {o:Oper} {nx:AN} {E:Eff} (ha:XG X h ev o=some (nx,E)) {c:Call} (ho:o.op= .defer c):∃ d,nx= .dfr d:=by
 unfold XG at ha;rw [ho] at ha;dsimp only at ha;split at ha
 ·split at ha
  ·cases ha;exact⟨_,rfl⟩
  ·cases ha
 ·cases ha
theorem Zmt {X:Ctx} {YK:FuncId ->Bool} {ih:Qg ->Option YF} (hih:∀ j r,ih j=some r ->Yu X j r) {n wm:Nat} {rd:Option Nat} {o:Oper} {s s':Fs} {nx:AN} {h1:H} {e:XX}
 (hs:Kh YK ih n wm rd o.dst s nx h1=some (e,s')) {F:Fence} {a:Act} {w1:World} {r:Result Next} (hi:Inv ρ n {s with h:=h1} a w1) (ZQ:wm <=h1.size) (hF:Kl ρ rd F)
 (hn:Zuu ρ w1 nx r) {K:Act ->World ->Prop} {Q:Exit ->Act ->World ->Prop}
 (hK:e= .normal ->∀ ρ' a' w',Inv ρ' n s' a' w' ->Stp wm ρ h1 w1 ρ' s'.h w' ->K a' w')
 (hQ:∀ v,e= .panic v ->∀ ρ' v' a' w',VR ρ' v v' ->Inv ρ' n s' a' w' ->Stp wm ρ h1 w1 ρ' s'.h w' ->Q (.panic (chainOf v')) a' w'):
 o.uponIn F 0 X.P a K Q r:=by
 have hd:F.depth.isSome=true ->1 <=0:=by rw [Kb hF];intro hh;cases hh
 have go:∀ {ρ':Ren} {h2:H} {w2:World} {v v':Value},Inv ρ' n {s with h:=h2} a w2 ->Stp wm ρ h1 w1 ρ' h2 w2 ->VR ρ' v v' ->
  (match ZfC n {s with h:=h2} o.dst v with | some s=>some (XX.normal,s) | none=>none)=some (e,s') ->K (a.put o.dst v') w2:=by
  intro ρ' h2 w2 v v' hi2 hst hv hp;split at hp
  ·rename_i s2 hp2;cases hp;obtain⟨q1,q2⟩:=QK hi2 hv hp2;refine hK rfl ρ' _ _ q1 ?_;rw [q2];exact hst
  ·cases hp
 unfold Kh at hs;dsimp only [J9] at hs;split at hs
 ·obtain⟨v',hv,rfl⟩:=hn;exact go hi (Stp.refl _ _ _ _) hv hs
 ·subst hn;exact go hi (Stp.refl _ _ _ _) (VR.undef ρ) hs
 ·rename_i f args;obtain⟨args',hv,rfl⟩:=hn;cases hp:YK f <;> rw [hp] at hs <;> simp only [Cq1,Cq0] at hs
  ·refine⟨hd,?_⟩;split at hs
   ·rename_i v h2 hc;refine(QE hF (hih _ _ hc ρ args' w1 ZQ hi.rel hv)).mono ?_;rintro e' w' ⟨ρ',he,hr,hst⟩;cases he with
    | ret hv'=>exact go (hi.step hr hst) hst hv' hs
   ·rename_i v h2 hc;cases hs;refine(QE hF (hih _ _ hc ρ args' w1 ZQ hi.rel hv)).mono ?_;rintro e' w' ⟨ρ',he,hr,hst⟩;cases he with
    | Yn hv'=>exact hQ v rfl ρ' _ _ _ hv' (hi.step hr hst) hst
   ·cases hs
  ·refine⟨hd,?_⟩;split at hs
   ·rename_i v h2 hc;cases hpl:plain v <;> rw [hpl] at hs <;> simp only [Cq1,Cq0] at hs
    ·cases hs
    ·refine(QE hF (hih _ _ hc ρ args' w1 (Nat.le_refl _) hi.rel hv)).mono ?_;rintro e' w' ⟨ρ',he,hr,hst⟩;cases he with
     | ret hv'=>
       rw [VR.YZ hpl hv'];obtain⟨q1,q2⟩:=KS hi.rel hst;exact go (hi.step q1 (q2 wm)) (q2 wm) (VR.Z0 hpl) hs
   ·cases hs
 ·rename_i l args;obtain⟨l',k,args',hl,hw,hv,rfl⟩:=hn;refine⟨hd,?_⟩;split at hs
  ·rename_i v h2 hc;refine(Zbk hF (hih _ _ hc ρ l' k args' w1 ZQ hi.rel hv hl hw)).mono ?_;rintro e' w' ⟨ρ',he,hr,hst⟩;cases he with
   | ret hv'=>exact go (hi.step hr hst) hst hv' hs
  ·rename_i v h2 hc;cases hs;refine(Zbk hF (hih _ _ hc ρ l' k args' w1 ZQ hi.rel hv hl hw)).mono ?_;rintro e' w' ⟨ρ',he,hr,hst⟩;cases he with
   | Yn hv'=>exact hQ v rfl ρ' _ _ _ hv' (hi.step hr hst) hst
  ·cases hs
 ·rename_i d;obtain⟨d',hdd,rfl⟩:=hn;split at hs
  ·have hi2:Inv ρ n {s with h:=h1,ds:=d::s.ds} {a with defers:=d'::a.defers} w1:= ⟨hi.rel,hi.fr,.cons hdd hi.ds⟩
   split at hs
   ·rename_i s2 hp2;cases hs;obtain⟨q1,q2⟩:=QK hi2 (VR.undef ρ) hp2;refine hK rfl ρ _ _ q1 ?_;rw [q2];exact Stp.refl _ _ _ _
   ·cases hs
  ·cases hs
 ·cases hs
 ·rename_i v;obtain⟨v',hv,rfl⟩:=hn;cases hs;exact hQ v rfl ρ v' a w1 hv hi (Stp.refl _ _ _ _)
theorem Kj {X:Ctx} {YK:FuncId ->Bool} {ih:Qg ->Option YF} (hih:∀ j r,ih j=some r ->Yu X j r) {n wm:Nat} {rd:Option Nat} {ops:Array Oper} {o:Oper} {s s':Fs} {e:XX}
 (hs:Uv X YK ih n wm rd ops.toList o s=some (e,s')) {F:Fence} {a:Act} {w:World} (hi:Inv ρ n s a w) (ZQ:wm <=s.h.size) (hF:Kl ρ rd F) {K:Act ->World ->Prop} {Q:Exit ->Act ->World ->Prop}
 (hK:e= .normal ->∀ ρ' a' w',Inv ρ' n s' a' w' ->Stp wm ρ s.h w ρ' s'.h w' ->K a' w')
 (hQ:∀ v,e= .panic v ->∀ ρ' v' a' w',VR ρ' v v' ->Inv ρ' n s' a' w' ->Stp wm ρ s.h w ρ' s'.h w' ->Q (.panic (chainOf v')) a' w'):
 if Region.wanted o (yielded ops a.tmps) then o.wpIn F 0 X.P a w K Q else(∀ f,o.about X.P w a.eval=some f ->F.fn f)∧K (a.put o.dst undef) w:=by
 unfold Uv at hs;cases hok:okG ops.toList o s.fr <;> rw [hok] at hs <;> simp only [Bool.not_false,Bool.not_true,Cq1,Cq0] at hs
 ·cases hs
 rw [Zcr hi.fr ops o hok];cases hwt:YR ops.toList o s.fr <;> rw [hwt] at hs <;> simp only [Cq1,Cq0] at hs
 ·rw [if_neg (by simp)];refine⟨fun f hab=>(WN hF f).2 (ZcY (ρ:=ρ) (fun t _ hx=>by have:=hi.fr.val t hx;exact this) hok hwt hab),?_⟩;split at hs
  ·rename_i s2 hp2;cases hs;obtain⟨q1,q2⟩:=QK hi (VR.undef ρ) hp2;refine hK rfl ρ _ _ q1 ?_;rw [q2];exact Stp.refl _ _ _ _
  ·cases hs
 ·rw [if_pos rfl];split at hs
  ·rename_i nx E ha;split at hs
   ·rename_i h1 hE;obtain⟨ρ1,w1,p1,p2,p3⟩:=KV hi.rel (UE hi.fr) ha;obtain⟨r1,st1⟩:=Eff.sound hi.rel ZQ p1 hE p2;refine⟨fun f hab=>(WN hF f).2 (Zau ha p3 hab),?_⟩
    have ZjE:o.semAt F.round a.eval=execOp a.eval o:=by
     cases hrd:rd with
     | none=>rw [hrd] at hF;unfold Kl at hF;subst hF;rfl
     | some l=>
       refine Oper.semAt_eq _ _ _ fun c hc=>?_
       obtain⟨d,rfl⟩:=Ze0 ha hc;rw [hrd] at hs;simp [Kh] at hs
    rw [ZjE];refine Zmt hih hs (hi.step r1 st1) (Nat.le_trans ZQ st1.size) (hF.mono st1.ext) p3 (fun he ρ' a' w' hi' st'=>?_) (fun v he ρ' v' a' w' hv hi' st'=>?_)
    ·exact hK he ρ' a' w' hi' (st1.trans hi.rel.lt st')
    ·exact hQ v he ρ' v' a' w' hv hi' (st1.trans hi.rel.lt st')
   ·cases hs
  ·cases hs
theorem Zhr {X:Ctx} {YK:FuncId ->Bool} {ih:Qg ->Option YF} (hih:∀ j r,ih j=some r ->Yu X j r) {n wm:Nat} {rd:Option Nat} {ops:Array Oper} (Q:Exit ->Act ->World ->Prop):
 ∀ (l:List Oper) (s s':Fs) (e:XX),Zh5 X YK ih n wm rd ops.toList l s=some (e,s') ->∀ {ρ:Ren} {F:Fence} {a:Act} {w:World},Inv ρ n s a w ->wm <=s.h.size ->Kl ρ rd F ->
   (∀ e' a' w',Xu wm n ρ s.h w e s' e' a' w' ->Q e' a' w') ->wpListIn F 0 X.P ops Q l a w:=by
 intro l
 induction l with
 | nil=>
   intro s s' e hs ρ F a w hi ZQ hF hq;simp only [Zh5,Option.some.injEq,Prod.mk.injEq] at hs;obtain⟨rfl,rfl⟩:=hs;exact hq .normal a w ⟨ρ,.normal,hi,Stp.refl _ _ _ _⟩
 | cons o l ihl=>
   intro s s' e hs ρ F a w hi ZQ hF hq;simp only [Zh5] at hs;split at hs
   ·rename_i s1 h1;refine Kj hih h1 hi ZQ hF (fun _ ρ' a' w' hi' st'=>?_) (fun v he=>by cases he);refine ihl s1 s' e hs hi' (Nat.le_trans ZQ st'.size) (hF.mono st'.ext) fun e' a2 w2 hp=>?_
    obtain⟨ρ2,q1,q2,q3⟩:=hp;exact hq e' a2 w2 ⟨ρ2,q1,q2,st'.trans hi.rel.lt q3⟩
   ·rename_i v s1 h1;cases hs;refine Kj hih h1 hi ZQ hF (fun he=>by cases he) (fun v' he ρ' v2 a' w' hv hi' st'=>?_);cases he;exact hq _ a' w' ⟨ρ',.panic hv,hi',st'⟩
   ·cases hs
theorem Zb1 {ev ev2:Operand ->Option Value}:∀ (l:List Operand),(∀ x ∈ l,ev x=ev2 x) ->evs ev l=evs ev2 l:=by
 intro l
 induction l with
 | nil=>intro _;rfl
 | cons x l ih=>intro hl;simp only [evs,hl x (by simp),ih (fun y hy=>hl y (by simp [hy]))]
theorem ZiF {ev ev2:Operand ->Option Value}:∀ (l:List (Nat×Operand)),(∀ x ∈ l.map (·.2),ev x=ev2 x) ->evp ev l=evp ev2 l:=by
 intro l
 induction l with
 | nil=>intro _;rfl
 | cons x l ih=>intro hl;obtain⟨i,x⟩:=x;simp only [evp,hl x (by simp),ih (fun y hy=>hl y (by simp at hy ⊢;exact .inr hy))]
theorem ZeQ {ev ev2:Operand ->Option Value} (x:Option Operand) (h:∀ y ∈ x.toArray,ev y=ev2 y):evo ev x=evo ev2 x:=by
 cases x with
 | none=>rfl
 | some x=>simp only [evo,h x (by simp)]
theorem ZqJ (X:Ctx) (h:H) {ev ev2:Operand ->Option Value} (o:Oper) (he:∀ x ∈ o.op.operands,ev x=ev2 x):XG X h ev o=XG X h ev2 o:=by
 unfold XG;cases hop:o.op <;> rw [hop] at he <;> simp only [Op.operands] at he <;> dsimp only
 case build t ps=>rw [ZiF ps.toList (fun x hx=>he x (by simpa using hx))]
 case buildSlice t n ps=>rw [ZiF ps.toList (fun x hx=>he x (by simpa using hx))]
 case makeFunc fn a b=>rw [Zb1 a.toList (fun x hx=>he x (by simp at hx ⊢;exact .inl hx)),Zb1 b.toList (fun x hx=>he x (by simp at hx ⊢;exact .inr hx))]
 case slice t x lo hi mx=>
  rw [he x (by simp),ZeQ lo (fun y hy=>he y (by simp at hy ⊢;simp [hy])),ZeQ hi (fun y hy=>he y (by simp at hy ⊢;simp [hy])),ZeQ mx (fun y hy=>he y (by simp at hy ⊢;simp [hy]))]
 case call c=>
  rw [Zb1 c.args.toList (fun x hx=>he x (by unfold Call.operands;simp at hx ⊢;exact .inr hx))];cases hc:c.callee with
  | value f=>
    have hf:=he f (by unfold Call.operands;rw [hc];simp);cases evs ev2 c.args.toList <;> simp only [hf]
  | invoke r m=>
    have hf:=he r (by unfold Call.operands;rw [hc];simp);cases evs ev2 c.args.toList <;> simp only [hf]
  | builtin b=>cases evs ev2 c.args.toList <;> rfl
 case defer c=>
  rw [Zb1 c.args.toList (fun x hx=>he x (by unfold Call.operands;simp at hx ⊢;exact .inr hx))];cases hc:c.callee with
  | value f=>
    have hf:=he f (by unfold Call.operands;rw [hc];simp);cases evs ev2 c.args.toList <;> simp only [hf]
  | invoke r m=>cases evs ev2 c.args.toList <;> rfl
  | builtin b=>cases evs ev2 c.args.toList <;> rfl
 case makeMap t r=>cases r <;> rfl
 all_goals first
  | rfl
  | (simp at he;simp only [he];done)
  | (simp at he;simp only [he.1,he.2];done)
  | (simp at he;simp only [he.1,he.2.1,he.2.2];done)
end Go.Yj
end
end
section
noncomputable section
namespace Go.Yj
def Zmw (P:Program) (fr:Fr) (h:H):ResultVar ->Option Value
 | .tmp t=>bif QC (fr.at t) then none else some (fr.at t)
 | .cell a t=>WU P h t (fr.at a)
def Zbw (P:Program) (fr:Fr) (h:H):List ResultVar ->Option (List Value)
 | []=>some []
 | r::rs=>match Zmw P fr h r,Zbw P fr h rs with
   | some v,some vs=>some (v::vs)
   | _,_=>none
def Qt (P:Program) (fn:Func) (fr:Fr) (h:H):Option Value:=
 match Zbw P fr h fn.results.toList with
 | some [v]=>some v
 | some vs=>some (.tuple vs.toArray)
 | none=>none
def XQ:List Value ->Nat ->Fr ->Fr
 | [],_,fr=>fr
 | v::vs,i,fr=>XQ vs (i + 1) (Tr.set fr i v)
def Qf:List (Tmp×Value) ->Nat ->Fr ->Option Fr
 | [],_,fr=>some fr
 | (t,v)::r,n,fr=>bif Nat.blt t n then Qf r n (Tr.set fr t v) else none
structure Cfg where
 X:Ctx
 YK:FuncId ->Bool
 draw:(Qg ->Option YF) ->Nat ->Nat ->Option Nat ->List Oper ->Fs ->Option Fs
def Zd1 (k:XX ->Fs ->Option YF) (r:Option YF):Option YF:=
 match r with
 | some (.code e s)=>k e s
 | _=>none
def ZxR (ih:Qg ->Option YF) (a b:Code) (n wm:Nat) (rd:Option Nat) (s:Fs):Option YF:=
 Zd1 (fun e s=>match e with
  | .normal=>ih (.code b n wm rd s)
  | e=>some (.code e s)) (ih (.code a n wm rd s))
def Zhf (ih:Qg ->Option YF) (c:Operand) (a b:Code) (n wm:Nat) (rd:Option Nat) (s:Fs):Option YF:=
 match Y5 s.fr c with
 | some (.bool t)=>bif t then ih (.code a n wm rd s) else ih (.code b n wm rd s)
 | _=>none
def Zpt (ih:Qg ->Option YF) (id:Nat) (c:Code) (n wm:Nat) (rd:Option Nat) (s:Fs):Option YF:=
 Zd1 (fun e s=>match e with
  | .exit k=>bif Nat.beq k id then some (.code .normal s) else some (.code (.exit k) s)
  | e=>some (.code e s)) (ih (.code c n wm rd s))
def Zpr (ih:Qg ->Option YF) (c:Code) (n wm:Nat) (rd:Option Nat) (s:Fs):Option YF:=
 Zd1 (fun e s=>match e with
  | .goto _=>none
  | e=>some (.code e s)) (ih (.code c n wm rd s))
def Zhe (ih:Qg ->Option YF) (c:Code) (n wm:Nat) (rd:Option Nat) (s:Fs):Option YF:=
 Zd1 (fun e s=>match e with
  | .normal=>ih (.loop c n wm rd s)
  | e=>some (.code e s)) (ih (.code c n wm rd s))
structure MI where
 id:Nat
 o:Oper
 l:List Oper
 ops:Array Oper
 rest:Code
 t:Tmp
 it:Nat
 m:Nat
 since:Nat
 Qm:Nat
 es:List MapEntry
 clock:Nat
def Zr8 (id:Nat) (o:Oper) (l:List Oper) (ops:Array Oper) (rest:Code) (t:Tmp) (s:Fs):Option MI:=
 match s.fr.at t with
 | .pointer (some ⟨it,0,none⟩)=>match s.h.at it with
   | .iter m since Qm none=>match s.h.at m with
     | .map es clock=>some ⟨id,o,l,ops,rest,t,it,m,since,Qm,es,clock⟩
     | _=>none
   | _=>none
 | _=>none
def Zr9 (id:Nat) (ops:Array Oper) (rest:Code) (s:Fs):Option MI:=
 match ops.toList with
 | o::l=>match o.op,o.guard with
   | .next (.tmp t) false,none=>Zr8 id o l ops rest t s
   | _,_=>none
 | []=>none
def Zld (c:Code) (s:Fs):Option MI:=
 match c with
 | .seq (.region id ops false) rest=>Zr9 id ops rest s
 | _=>none
def ZeS:Code ->List Nat
 | .seq a b=>ZeS a ++ ZeS b
 | .cond _ a b=>ZeS a ++ ZeS b
 | .block _ c=>ZeS c
 | .scope c=>ZeS c
 | .loop c=>ZeS c
 | .region _ ops _=>ops.toList.filterMap (·.dst)
 | _=>[]
def Za9:List Nat ->Nat
 | []=>0
 | t::ts=>Nat.lor (Nat.pow 2 t) (Za9 ts)
def Yq:List Nat ->Fr ->Fr
 | [],fr=>fr
 | t::ts,fr=>Yq ts (Tr.set fr t ZqM)
def Zac (b:Nat):List MapEntry ->Bool
 | []=>true
 | e::es=>bif Nat.beq e.born b then false else Zac b es
def Qs (clock:Nat):List MapEntry ->Bool
 | []=>true
 | e::es=>Nat.blt e.born clock && Zac e.born es && Qs clock es
def QZ (fr:Fr) (d:Option Tmp) (v:Value):Fr:=
 match d with
 | none=>fr
 | some d=>Tr.set fr d v
def WT (C:Cfg) (ih:Qg ->Option YF) (mi:MI) (n wm:Nat) (rd:Option Nat) (s:Fs):Option YF:=
 match Zh5 C.X C.YK ih n wm rd mi.ops.toList mi.l s with
 | some (.normal,s1)=>ih (.code mi.rest n wm rd s1)
 | some (e,s1)=>some (.code e s1)
 | none=>none
def Zae (C:Cfg) (ih:Qg ->Option YF) (mi:MI) (n:Nat) (rd:Option Nat) (wr:Nat) (fr:Fr) (s:Fs):List MapEntry ->Bool
 | []=>true
 | e::es=>(match WT C ih mi n s.h.size rd {fr:=QZ fr mi.o.dst (.tuple #[.bool true,e.key,e.val]),ds:=s.ds,h:=s.h.put mi.it (.iter mi.m mi.since mi.clock (some e.born)),wr:=some wr} with
    | some (.code .normal s2)=>Nat.beq s2.ds.length s.ds.length
    | _=>false) && Zae C ih mi n rd wr fr s es
def Zim (mi:MI) (n wm:Nat) (T:List Nat):Bool:=
 Nat.beq mi.since mi.clock && Nat.ble mi.clock mi.Qm && Qs mi.clock mi.es && Nat.ble wm mi.it && !T.contains mi.t && (match mi.o.dst with | some d=>Nat.blt d n && T.contains d | none=>false)
theorem Zcz {mi:MI} {n wm:Nat} {T:List Nat} (h:Zim mi n wm T=true):mi.since=mi.clock∧mi.clock <=mi.Qm∧Qs mi.clock mi.es=true∧wm <=mi.it∧mi.t ∉ T∧∃ d,mi.o.dst=some d∧d < n∧d ∈ T:=by
 unfold Zim at h;simp only [Ba0,Bool.not_eq_true'] at h;obtain⟨⟨⟨⟨⟨h1,h2⟩,h3⟩,h4⟩,h5⟩,h6⟩:=h;refine⟨Nb0 h1,Nl0 h2,h3,Nl0 h4,fun z=>?_,?_⟩
 ·rw [← List.contains_iff_mem] at z;rw [z] at h5;cases h5
 ·cases hd:mi.o.dst with
  | none=>rw [hd] at h6;cases h6
  | some d=>
    rw [hd] at h6;simp only [Ba0,Nat.blt_eq,List.contains_iff_mem] at h6;exact⟨d,rfl,h6⟩
def Zj1 (C:Cfg) (ih:Qg ->Option YF) (mi:MI) (n wm:Nat) (rd:Option Nat) (s:Fs) (T:List Nat):Option YF:=
 bif Zim mi n wm T then
  bif Zae C ih mi n rd (Za9 T) (Yq T s.fr) s mi.es then
   match WT C ih mi n wm rd {s with fr:=QZ (Yq T s.fr) mi.o.dst Jw,h:=s.h.put mi.it .dead} with
   | some (.code e s2)=>match e with
     | .normal=>none
     | e=>some (.code e s2)
   | _=>none
  else none
 else none
def Zhd (C:Cfg) (ih:Qg ->Option YF) (mi:MI) (c:Code) (n wm:Nat) (rd:Option Nat) (s:Fs):Option YF:=
 Zj1 C ih mi n wm rd s ((ZeS c).filter (allowed s.wr))
def ZdW (C:Cfg) (ih:Qg ->Option YF) (c:Code) (n wm:Nat) (rd:Option Nat) (s:Fs):Option YF:=
 match Zld c s with
 | some mi=>match Zhd C ih mi c n wm rd s with
   | some r=>some r
   | none=>Zhe ih c n wm rd s
 | none=>Zhe ih c n wm rd s
def ZdT (C:Cfg) (ih:Qg ->Option YF) (ops:Array Oper) (n wm:Nat) (rd:Option Nat) (s:Fs):Option YF:=
 match Zh5 C.X C.YK ih n wm rd ops.toList ops.toList s with
 | some (e,s)=>some (.code e s)
 | none=>none
def Zj2 (C:Cfg) (ih:Qg ->Option YF) (ops:Array Oper) (n wm:Nat) (rd:Option Nat) (s:Fs):Option YF:=
 match C.draw ih n wm rd ops.toList s with
 | some s=>some (.code .normal s)
 | none=>none
def JI (ih:Qg ->Option YF) (n wm:Nat) (rd:Option Nat) (l:Nat) (s:Fs) (r:Option YF):Option YF:=
 match r with
 | some (.fin (.ret _) h2)=>match h2.at l with
   | .loop st pd fr n' ps Yr bd df=>
     bif st== .busy then none else
     match pd with
     | none=>some (.code .normal {s with h:=h2.put l (.loop .exhausted pd fr n' ps Yr bd df)})
     | some c=>ih (.code c n wm rd {s with h:=h2.put l (.loop .exhausted pd fr n' ps Yr bd df)})
   | _=>none
 | some (.fin (.Yn v) h2)=>some (.code (.panic v) {s with h:=h2})
 | _=>none
def X8 (C:Cfg) (ih:Qg ->Option YF) (g:Operand) (n wm:Nat) (rd:Option Nat) (l:Nat) (s:Fs):Option YF:=
 match Y5 s.fr g with
 | some gv=>match Ux C.X s.h gv [.func (.yield l) #[] #[]] with
   | some (.enter f args,.none)=>JI ih n wm rd l s (ih (.call f args wm s.h))
   | _=>none
 | none=>none
def ZdU (C:Cfg) (ih:Qg ->Option YF) (g:Operand) (ps:Array Tmp) (Yr bd:Code) (n wm:Nat) (rd:Option Nat) (s:Fs):Option YF:=
 match rd with
 | none=>X8 C ih g n wm rd (s.h.size + 1) {s with ds:= {target:= .collected s.h.size,args:=#[]}::s.ds,h:= (s.h.push .deferred).push (.loop .ready none s.fr n ps Yr bd s.h.size)}
 | some l=>match s.h.at l with
   | .loop _ _ _ _ _ _ _ df=>X8 C ih g n wm rd s.h.size {s with h:=s.h.push (.loop .ready none s.fr n ps Yr bd df)}
   | _=>none
def U1 (C:Cfg) (ih:Qg ->Option YF) (c:Code) (n wm:Nat) (rd:Option Nat) (s:Fs):Option YF:=
 match c with
 | .skip=>some (.code .normal s)
 | .label _=>some (.code .normal s)
 | .ret=>some (.code .ret s)
 | .exit id=>some (.code (.exit id) s)
 | .goto l=>some (.code (.goto l) s)
 | .seq a b=>ZxR ih a b n wm rd s
 | .cond c a b=>Zhf ih c a b n wm rd s
 | .block id c=>Zpt ih id c n wm rd s
 | .loop c=>ih (.loop c n wm rd s)
 | .scope c=>Zpr ih c n wm rd s
 | .region _ ops d=>bif d then Zj2 C ih ops n wm rd s else ZdT C ih ops n wm rd s
 | .rangeFunc g ps Yr bd=>ZdU C ih g ps Yr bd n wm rd s
 | .refuse _=>none
def xPM (e:XX):Option PM:=
 match e with
 | .normal | .ret=>some .ret
 | .panic v=>some (.Yn v)
 | _=>none
def Zj6 (C:Cfg) (ih:Qg ->Option YF) (f:FuncId) (args:Array Value) (wm:Nat) (h:H):Option YF:=
 match C.X.fns.get f with
 | some fn=>match fn.body with
   | some c=>bif Nat.ble args.toList.length fn.ntmps then
      Zd1 (fun e s=>match xPM e with
       | some pm=>ih (.leave fn wm pm s)
       | none=>none) (ih (.code c fn.ntmps wm none {fr:=XQ args.toList 0 .nil,ds:= [],h:=h}))
     else none
   | none=>none
 | none=>none
def ZfQ (C:Cfg) (ih:Qg ->Option YF) (f:FuncId) (args:Array Value) (wm:Nat) (h:H):Option YF:=
 match C.X.orc f with
 | some v=>match args.toList with
   | []=>some (.fin (.ret v) h)
   | _::_=>none
 | none=>match C.X.Zyy f args h with
   | some (v,A)=>some (.fin (.ret v) (h.push A))
   | none=>Zj6 C ih f args wm h
def ZfH (pm:PM):PM:=
 match pm with
 | .rcv _=>.ret
 | pm=>pm
def JQ (C:Cfg) (ih:Qg ->Option YF) (fn:Func) (wm:Nat) (pm:PM) (s:Fs):Option YF:=
 match s.ds with
 | []=>match pm with
   | .ret=>match Qt C.X.P fn s.fr s.h with
     | some v=>some (.fin (.ret v) s.h)
     | none=>none
   | .Yn v=>some (.fin (.Yn v) s.h)
   | .rcv _=>none
 | d::ds=>match d.target with
   | .collected r=>match s.h.at r with
     | .deferred=>bif Nat.ble wm r then ih (.leave fn wm pm {s with ds:=ds,h:=s.h.put r .dead}) else none
     | _=>none
   | .fn (.func f) cap=>match C.X.fns.get f with
     | some _=>match ih (.dcall f (d.args.toList ++ cap.toList).toArray pm wm s.h) with
       | some (.Zcc U9 h')=>ih (.leave fn wm (ZfH U9) {s with ds:=ds,h:=h'})
       | _=>none
     | none=>none
   | _=>none
def isRecover (o:Oper):Bool:=
 match o.op with
 | .call {callee:= .builtin .recover,..}=>true
 | _=>false
def dop (X:Ctx) (n wm:Nat) (ops:List Oper) (o:Oper) (pm:PM) (s:Fs):Option (PM×Fs):=
 let fin (pm:PM) (s:Fs) (v:Value):Option (PM×Fs):=match ZfC n s o.dst v with
  | some s=>some (pm,s)
  | none=>none
 bif !okG ops o s.fr then none else bif YR ops o s.fr then
  match XG X s.h (Y5 s.fr) o with
  | some (nx,E)=>match E.apply wm s.h with
    | some h'=>match nx with
      | .val v=>fin pm {s with h:=h'} v
      | .skip=>fin pm {s with h:=h'} undef
      | .Zif=>match pm with
        | .Yn v=>fin (.rcv v) {s with h:=h'} v
        | pm=>fin pm {s with h:=h'} .nilIface
      | _=>none
    | none=>none
  | none=>none
 else fin pm s undef
def Zmd (X:Ctx) (n wm:Nat) (ops:List Oper):List Oper ->PM ->Fs ->Option (PM×Fs)
 | [],pm,s=>some (pm,s)
 | o::rest,pm,s=>match dop X n wm ops o pm s with
   | some (pm,s)=>Zmd X n wm ops rest pm s
   | none=>none
def ZtP (k:XX ->PM ->Fs ->Option YF) (r:Option YF):Option YF:=
 match r with
 | some (.Xf e pm s)=>k e pm s
 | _=>none
def KR (ih:Qg ->Option YF) (c:Code) (n wm:Nat) (pm:PM) (s:Fs):Option YF:=
 Zd1 (fun e s=>some (.Xf e pm s)) (ih (.code c n wm none s))
def Wl (C:Cfg) (ih:Qg ->Option YF) (c:Code) (n wm:Nat) (pm:PM) (s:Fs):Option YF:=
 match c with
 | .seq a b=>ZtP (fun e pm s=>match e with
   | .normal=>ih (.Xf b n wm pm s)
   | e=>some (.Xf e pm s)) (ih (.Xf a n wm pm s))
 | .cond c a b=>match Y5 s.fr c with
   | some (.bool t)=>bif t then ih (.Xf a n wm pm s) else ih (.Xf b n wm pm s)
   | _=>none
 | .region id ops d=>bif !d && ops.toList.any isRecover then match Zmd C.X n wm ops.toList ops.toList pm s with
     | some (pm,s)=>some (.Xf .normal pm s)
     | none=>none
   else KR ih (.region id ops d) n wm pm s
 | c=>KR ih c n wm pm s
def ZdX (C:Cfg) (ih:Qg ->Option YF) (f:FuncId) (args:Array Value) (pm:PM) (wm:Nat) (h:H):Option YF:=
 match C.X.fns.get f with
 | some fn=>match fn.body with
   | some c=>bif Nat.ble args.toList.length fn.ntmps then
      ZtP (fun e pm s=>match s.ds,e,Qt C.X.P fn s.fr s.h with
       | [],.normal,some _=>some (.Zcc pm s.h)
       | [],.ret,some _=>some (.Zcc pm s.h)
       | _,_,_=>none) (ih (.Xf c fn.ntmps wm pm {fr:=XQ args.toList 0 .nil,ds:= [],h:=h}))
     else none
   | none=>none
 | none=>none
def Jl (l:Nat) (e:XX) (s:Fs):Option YF:=
 match s.h.at l with
 | .loop _ _ fr n ps Yr bd df=>match e with
   | .normal=>some (.fin (.ret (.bool true)) (s.h.put l (.loop .ready none fr n ps Yr bd df)))
   | .ret=>some (.fin (.ret (.bool false)) (s.h.put l (.loop .done (some .ret) fr n ps Yr bd df)))
   | .exit id=>some (.fin (.ret (.bool false)) (s.h.put l (.loop .done (some (.exit id)) fr n ps Yr bd df)))
   | .goto t=>some (.fin (.ret (.bool false)) (s.h.put l (.loop .done (some (.goto t)) fr n ps Yr bd df)))
   | .panic v=>match s.ds with
     | []=>some (.fin (.Yn v) s.h)
     | _=>none
 | _=>none
def WS (ih:Qg ->Option YF) (l:Nat) (bd:Code) (n wm:Nat) (e:XX) (s:Fs):Option YF:=
 match e with
 | .normal=>match s.h.at l with
   | .loop .ready pd fr n' ps Yr bd' df=>Zd1 (fun e s=>Jl l e s) (ih (.code bd n wm (some l) {s with h:=s.h.put l (.loop .busy pd fr n' ps Yr bd' df)}))
   | _=>none
 | _=>none
def Zb2 (ih:Qg ->Option YF) (l:Nat) (args:Array Value) (wm:Nat) (h:H):Option YF:=
 match h.at l with
 | .loop _ _ fr n ps Yr bd _=>
   bif Nat.ble wm l && Nat.beq args.toList.length ps.toList.length then
    match Qf (ps.toList.zip args.toList) n fr with
    | some fr1=>Zd1 (fun e s=>WS ih l bd n wm e s) (ih (.code Yr n wm (some l) {fr:=fr1,ds:= [],h:=h}))
    | none=>none
   else none
 | _=>none
def evF (C:Cfg) (ih:Qg ->Option YF) (j:Qg):Option YF:=
 match j with
 | .code c n wm rd s=>U1 C ih c n wm rd s
 | .loop c n wm rd s=>ZdW C ih c n wm rd s
 | .call f args wm h=>ZfQ C ih f args wm h
 | .round l args wm h=>Zb2 ih l args wm h
 | .dcall f args pm wm h=>ZdX C ih f args pm wm h
 | .Xf c n wm pm s=>Wl C ih c n wm pm s
 | .leave fn wm pm s=>JQ C ih fn wm pm s
def ev (C:Cfg) (n:Nat):Qg ->Option YF:=Nat.rec (fun _=>none) (fun _ ih=>evF C ih) n
end Go.Yj
end
end
