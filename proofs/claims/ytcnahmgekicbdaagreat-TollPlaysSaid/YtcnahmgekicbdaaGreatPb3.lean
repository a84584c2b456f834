/- Part 3. -/
import Derived.TacticsIn
import Derived.Test.YtcnahmgekicbdaaGreatPb2
set_option linter.all false
set_option maxHeartbeats 2000000
section
noncomputable section
namespace Go.Xr
section
variable {ρ:Ren} {w:World}
theorem Zgh {ρ ρ':Ren} {h h':H} {w w':World} (r:Rel ρ h w) (st:Stp h.size ρ h w ρ' h' w'):Rel ρ h w'/\∀ wm,Stp wm ρ h w ρ h w':=by
 have hold:∀ b,b < w.heap.size ->w'.heap[b]? =w.heap[b]?:=fun b hb=>st.frame b hb fun i d hi e _=>by have:=r.lt i _ e;omega
 refine⟨⟨fun i b d e=>?_,fun i b d e=>?_,r.inj⟩,fun wm=>⟨Ren.le_refl _,Nat.le_refl _,fun _ _=>rfl,fun _ _ x=>x,fun _ _ x=>x,st.os,st.tape,st.output,st.Qr,fun b hb _=>hold b hb,fun i b d e e'=>by rw [e] at e';cases e'⟩⟩
 ·have:=r.dom i b d e;have:=st.Qr;omega
 ·exact(r.obj i b d e).world (hold b (r.dom i b d e).2)
theorem Zba {ρ:Ren} {rd:Option Nat} {F:Fence} (h:FR' ρ rd F) (f:FuncId):F.fn f:=by
 unfold FR' at h;split at h
 ·subst h;trivial
 ·obtain⟨l',_,rfl⟩:=h;trivial
theorem Zau {ρ:Ren} {rd:Option Nat} {F:Fence} (h:FR' ρ rd F):F.depth=none:=by
 unfold FR' at h;split at h
 ·subst h;rfl
 ·obtain⟨l',_,rfl⟩:=h;rfl
theorem JH {ρ:Ren} {rd:Option Nat} {F:Fence} (h:FR' ρ rd F) {P:Program} {f:FuncId} {args:Array Value} {w:World} {R:Ending ->World ->Prop} (hc:CallsIn Fence.wide 0 P f args w R):CallsIn F 0 P f args w R:=by
 unfold FR' at h;split at h
 ·subst h;exact hc
 ·obtain⟨l',_,rfl⟩:=h;exact hc.inRound l'
theorem ZgF {ρ:Ren} {rd:Option Nat} {F:Fence} (h:FR' ρ rd F) {P:Program} {l:Nat} {f:FuncId} {t:Array Value} {Xh bd:Code} {w:World} {R:Ending ->World ->Prop} (hc:RoundIn Fence.wide 0 P l f t Xh bd w R):RoundIn F 0 P l f t Xh bd w R:=by
 unfold FR' at h;split at h
 ·subst h;exact hc
 ·obtain⟨l',_,rfl⟩:=h;exact hc
theorem FR'.mono {ρ ρ':Ren} (hr:ρ.le ρ') {rd:Option Nat} {F:Fence} (h:FR' ρ rd F):FR' ρ' rd F:=by
 unfold FR' at h |-;split at h
 ·exact h
 ·obtain⟨l',h1,h2⟩:=h;exact⟨l',(hr _ _ h1).1,h2⟩
theorem Zgp {X:Ctx} {h:H} {ev:Operand ->Option Value} {o:Oper} {nx:AN} {E:Eff} (ha:Qs X h ev o=some (nx,E)) {c:Call} (ho:o.op= .defer c):∃ d,nx= .dfr d:=by
 unfold Qs at ha;rw [ho] at ha;dsimp only at ha;split at ha
 ·split at ha
  ·cases ha;exact⟨_,rfl⟩
  ·cases ha
 ·cases ha
theorem Zqt {X:Ctx} {Ql:FuncId ->Bool} {ih:JY ->Option XU} (hih:∀ j r,ih j=some r ->XJ X j r) {n wm:Nat} {rd:Option Nat} {o:Oper} {s s':Fs} {nx:AN} {h1:H} {e:XX}
 (hs:Zb2 Ql ih n wm rd o.dst s nx h1=some (e,s')) {F:Fence} {a:Act} {w1:World} {r:Result Next} (hi:Inv ρ n {s with h:=h1} a w1) (Yb:wm <=h1.size) (hF:FR' ρ rd F)
 (hn:ZHV ρ w1 nx r) {K:Act ->World ->Prop} {Q:Exit ->Act ->World ->Prop}
 (hK:e= .normal ->∀ ρ' a' w',Inv ρ' n s' a' w' ->Stp wm ρ h1 w1 ρ' s'.h w' ->K a' w')
 (hQ:∀ v,e= .panic v ->∀ ρ' v' a' w',VR ρ' v v' ->Inv ρ' n s' a' w' ->Stp wm ρ h1 w1 ρ' s'.h w' ->Q (.panic (chainOf v')) a' w'):
 o.uponIn F 0 X.P a K Q r:=by
 have hd:F.depth.isSome=true ->1 <=0:=by rw [Zau hF];intro hh;cases hh
 have go:∀ {ρ':Ren} {h2:H} {w2:World} {v v':Value},Inv ρ' n {s with h:=h2} a w2 ->Stp wm ρ h1 w1 ρ' h2 w2 ->VR ρ' v v' ->
  (match Zg0 n {s with h:=h2} o.dst v with | some s=>some (XX.normal,s) | none=>none)=some (e,s') ->K (a.put o.dst v') w2:=by
  intro ρ' h2 w2 v v' hi2 hst hv hp;split at hp
  ·rename_i s2 hp2;cases hp;obtain⟨q1,q2⟩:=JP hi2 hv hp2;refine hK rfl ρ' _ _ q1 ?_;rw [q2];exact hst
  ·cases hp
 unfold Zb2 at hs;dsimp only [KZ] at hs;split at hs
 ·obtain⟨v',hv,rfl⟩:=hn;exact go hi (Stp.refl _ _ _ _) hv hs
 ·subst hn;exact go hi (Stp.refl _ _ _ _) (VR.undef ρ) hs
 ·rename_i f args;obtain⟨args',hv,rfl⟩:=hn;cases hp:Ql f <;> rw [hp] at hs <;> simp only [Cq1,Cq0] at hs
  ·refine⟨hd,?_⟩;split at hs
   ·rename_i v h2 hc;refine(JH hF (hih _ _ hc ρ args' w1 Yb hi.rel hv)).mono ?_;rintro e' w' ⟨ρ',he,hr,hst⟩;cases he with
    | ret hv'=>exact go (hi.step hr hst) hst hv' hs
   ·rename_i v h2 hc;cases hs;refine(JH hF (hih _ _ hc ρ args' w1 Yb hi.rel hv)).mono ?_;rintro e' w' ⟨ρ',he,hr,hst⟩;cases he with
    | pan hv'=>exact hQ v rfl ρ' _ _ _ hv' (hi.step hr hst) hst
   ·cases hs
  ·refine⟨hd,?_⟩;split at hs
   ·rename_i v h2 hc;cases hpl:plain v <;> rw [hpl] at hs <;> simp only [Cq1,Cq0] at hs
    ·cases hs
    ·refine(JH hF (hih _ _ hc ρ args' w1 (Nat.le_refl _) hi.rel hv)).mono ?_;rintro e' w' ⟨ρ',he,hr,hst⟩;cases he with
     | ret hv'=>
       rw [VR.X0 hpl hv'];obtain⟨q1,q2⟩:=Zgh hi.rel hst;exact go (hi.step q1 (q2 wm)) (q2 wm) (VR.YG hpl) hs
   ·cases hs
 ·rename_i l args;obtain⟨l',k,args',hl,hw,hv,rfl⟩:=hn;refine⟨hd,?_⟩;split at hs
  ·rename_i v h2 hc;refine(ZgF hF (hih _ _ hc ρ l' k args' w1 Yb hi.rel hv hl hw)).mono ?_;rintro e' w' ⟨ρ',he,hr,hst⟩;cases he with
   | ret hv'=>exact go (hi.step hr hst) hst hv' hs
  ·cases hs
 ·rename_i d;obtain⟨d',hdd,rfl⟩:=hn;split at hs
  ·have hi2:Inv ρ n {s with h:=h1,ds:=d::s.ds} {a with defers:=d'::a.defers} w1:= ⟨hi.rel,hi.fr,.cons hdd hi.ds⟩
   split at hs
   ·rename_i s2 hp2;cases hs;obtain⟨q1,q2⟩:=JP hi2 (VR.undef ρ) hp2;refine hK rfl ρ _ _ q1 ?_;rw [q2];exact Stp.refl _ _ _ _
   ·cases hs
  ·cases hs
 ·cases hs
 ·rename_i v;obtain⟨v',hv,rfl⟩:=hn;cases hs;exact hQ v rfl ρ v' a w1 hv hi (Stp.refl _ _ _ _)
theorem ZcW {X:Ctx} {Ql:FuncId ->Bool} {ih:JY ->Option XU} (hih:∀ j r,ih j=some r ->XJ X j r) {n wm:Nat} {rd:Option Nat} {ops:Array Oper} {o:Oper} {s s':Fs} {e:XX}
 (hs:Zbf X Ql ih n wm rd ops.toList o s=some (e,s')) {F:Fence} {a:Act} {w:World} (hi:Inv ρ n s a w) (Yb:wm <=s.h.size) (hF:FR' ρ rd F) {K:Act ->World ->Prop} {Q:Exit ->Act ->World ->Prop}
 (hK:e= .normal ->∀ ρ' a' w',Inv ρ' n s' a' w' ->Stp wm ρ s.h w ρ' s'.h w' ->K a' w')
 (hQ:∀ v,e= .panic v ->∀ ρ' v' a' w',VR ρ' v v' ->Inv ρ' n s' a' w' ->Stp wm ρ s.h w ρ' s'.h w' ->Q (.panic (chainOf v')) a' w'):
 if Region.wanted o (yielded ops a.tmps) then o.wpIn F 0 X.P a w K Q else(∀ f,o.about X.P w a.eval=some f ->F.fn f)/\K (a.put o.dst undef) w:=by
 unfold Zbf at hs;cases hok:okG ops.toList o s.fr <;> rw [hok] at hs <;> simp only [Bool.not_false,Bool.not_true,Cq1,Cq0] at hs
 ·cases hs
 rw [ZdF hi.fr ops o hok];cases hwt:Qd ops.toList o s.fr <;> rw [hwt] at hs <;> simp only [Cq1,Cq0] at hs
 ·rw [if_neg (by simp)];refine⟨fun f _=>Zba hF f,?_⟩;split at hs
  ·rename_i s2 hp2;cases hs;obtain⟨q1,q2⟩:=JP hi (VR.undef ρ) hp2;refine hK rfl ρ _ _ q1 ?_;rw [q2];exact Stp.refl _ _ _ _
  ·cases hs
 ·rw [if_pos rfl];split at hs
  ·rename_i nx E ha;split at hs
   ·rename_i h1 hE;obtain⟨ρ1,w1,p1,p2,p3⟩:=Zdm hi.rel (KY hi.fr) ha;obtain⟨r1,st1⟩:=Eff.sound hi.rel Yb p1 hE p2;refine⟨fun f _=>Zba hF f,?_⟩
    have ZzC:o.semAt F.round a.eval=execOp a.eval o:=by
     cases hrd:rd with
     | none=>rw [hrd] at hF;unfold FR' at hF;subst hF;rfl
     | some l=>
       refine Oper.semAt_eq _ _ _ fun c hc=>?_
       obtain⟨d,rfl⟩:=Zgp ha hc;rw [hrd] at hs;simp [Zb2] at hs
    rw [ZzC];refine Zqt hih hs (hi.step r1 st1) (Nat.le_trans Yb st1.size) (hF.mono st1.ext) p3 (fun he ρ' a' w' hi' st'=>?_) (fun v he ρ' v' a' w' hv hi' st'=>?_)
    ·exact hK he ρ' a' w' hi' (st1.trans hi.rel.lt st')
    ·exact hQ v he ρ' v' a' w' hv hi' (st1.trans hi.rel.lt st')
   ·cases hs
  ·cases hs
theorem ZCd {X:Ctx} {Ql:FuncId ->Bool} {ih:JY ->Option XU} (hih:∀ j r,ih j=some r ->XJ X j r) {n wm:Nat} {rd:Option Nat} {ops:Array Oper} (Q:Exit ->Act ->World ->Prop):
 ∀ (l:List Oper) (s s':Fs) (e:XX),ZnI X Ql ih n wm rd ops.toList l s=some (e,s') ->∀ {ρ:Ren} {F:Fence} {a:Act} {w:World},Inv ρ n s a w ->wm <=s.h.size ->FR' ρ rd F ->
   (∀ e' a' w',Ur wm n ρ s.h w e s' e' a' w' ->Q e' a' w') ->wpListIn F 0 X.P ops Q l a w:=by
 intro l
 induction l with
 | nil=>
   intro s s' e hs ρ F a w hi Yb hF hq;simp only [ZnI,Option.some.injEq,Prod.mk.injEq] at hs;obtain⟨rfl,rfl⟩:=hs;exact hq .normal a w ⟨ρ,.normal,hi,Stp.refl _ _ _ _⟩
 | cons o l ihl=>
   intro s s' e hs ρ F a w hi Yb hF hq;simp only [ZnI] at hs;split at hs
   ·rename_i s1 h1;refine ZcW hih h1 hi Yb hF (fun _ ρ' a' w' hi' st'=>?_) (fun v he=>by cases he);refine ihl s1 s' e hs hi' (Nat.le_trans Yb st'.size) (hF.mono st'.ext) fun e' a2 w2 hp=>?_
    obtain⟨ρ2,q1,q2,q3⟩:=hp;exact hq e' a2 w2 ⟨ρ2,q1,q2,st'.trans hi.rel.lt q3⟩
   ·rename_i v s1 h1;cases hs;refine ZcW hih h1 hi Yb hF (fun he=>by cases he) (fun v' he ρ' v2 a' w' hv hi' st'=>?_);cases he;exact hq _ a' w' ⟨ρ',.panic hv,hi',st'⟩
   ·cases hs
theorem Zdi {ev ev2:Operand ->Option Value}:∀ (l:List Operand),(∀ x ∈ l,ev x=ev2 x) ->evs ev l=evs ev2 l:=by
 intro l
 induction l with
 | nil=>intro _;rfl
 | cons x l ih=>intro hl;simp only [evs,hl x (by simp),ih (fun y hy=>hl y (by simp [hy]))]
theorem Zlo {ev ev2:Operand ->Option Value}:∀ (l:List (Nat×Operand)),(∀ x ∈ l.map (·.2),ev x=ev2 x) ->evp ev l=evp ev2 l:=by
 intro l
 induction l with
 | nil=>intro _;rfl
 | cons x l ih=>intro hl;obtain⟨i,x⟩:=x;simp only [evp,hl x (by simp),ih (fun y hy=>hl y (by simp at hy |-;exact .inr hy))]
theorem Zgf {ev ev2:Operand ->Option Value} (x:Option Operand) (h:∀ y ∈ x.toArray,ev y=ev2 y):evo ev x=evo ev2 x:=by
 cases x with
 | none=>rfl
 | some x=>simp only [evo,h x (by simp)]
theorem Zwn (X:Ctx) (h:H) {ev ev2:Operand ->Option Value} (o:Oper) (he:∀ x ∈ o.op.operands,ev x=ev2 x):Qs X h ev o=Qs X h ev2 o:=by
 unfold Qs;cases hop:o.op <;> rw [hop] at he <;> simp only [Op.operands] at he <;> dsimp only
 case build t ps=>rw [Zlo ps.toList (fun x hx=>he x (by simpa using hx))]
 case buildSlice t n ps=>rw [Zlo ps.toList (fun x hx=>he x (by simpa using hx))]
 case makeFunc fn a b=>rw [Zdi a.toList (fun x hx=>he x (by simp at hx |-;exact .inl hx)),Zdi b.toList (fun x hx=>he x (by simp at hx |-;exact .inr hx))]
 case slice t x lo hi mx=>
  rw [he x (by simp),Zgf lo (fun y hy=>he y (by simp at hy |-;simp [hy])),Zgf hi (fun y hy=>he y (by simp at hy |-;simp [hy])),Zgf mx (fun y hy=>he y (by simp at hy |-;simp [hy]))]
 case call c=>
  rw [Zdi c.args.toList (fun x hx=>he x (by unfold Call.operands;simp at hx |-;exact .inr hx))];cases hc:c.callee with
  | value f=>
    have hf:=he f (by unfold Call.operands;rw [hc];simp);cases evs ev2 c.args.toList <;> simp only [hf]
  | invoke r m=>cases evs ev2 c.args.toList <;> rfl
  | builtin b=>cases evs ev2 c.args.toList <;> rfl
 case defer c=>
  rw [Zdi c.args.toList (fun x hx=>he x (by unfold Call.operands;simp at hx |-;exact .inr hx))];cases hc:c.callee with
  | value f=>
    have hf:=he f (by unfold Call.operands;rw [hc];simp);cases evs ev2 c.args.toList <;> simp only [hf]
  | invoke r m=>cases evs ev2 c.args.toList <;> rfl
  | builtin b=>cases evs ev2 c.args.toList <;> rfl
 case makeMap t r=>cases r <;> rfl
 all_goals first
  | rfl
  | (simp at he;simp only [he];done)
  | (simp at he;simp only [he.1,he.2];done)
  | (simp at he;simp only [he.1,he.2.1,he.2.2];done)
end
section
def Zqv (P:Program) (fr:Fr) (h:H):ResultVar ->Option Value
 | .tmp t=>bif Wh (fr.at t) then none else some (fr.at t)
 | .cell a t=>KF P h t (fr.at a)
def Zd4 (P:Program) (fr:Fr) (h:H):List ResultVar ->Option (List Value)
 | []=>some []
 | r::rs=>match Zqv P fr h r,Zd4 P fr h rs with
   | some v,some vs=>some (v::vs)
   | _,_=>none
def J2 (P:Program) (fn:Func) (fr:Fr) (h:H):Option Value:=
 match Zd4 P fr h fn.results.toList with
 | some [v]=>some v
 | some vs=>some (.tuple vs.toArray)
 | none=>none
def QV:List Value ->Nat ->Fr ->Fr
 | [],_,fr=>fr
 | v::vs,i,fr=>QV vs (i + 1) (Tr.set fr i v)
def Jb:List (Tmp×Value) ->Nat ->Fr ->Option Fr
 | [],_,fr=>some fr
 | (t,v)::r,n,fr=>bif Nat.blt t n then Jb r n (Tr.set fr t v) else none
structure Cfg where
 X:Ctx
 Ql:FuncId ->Bool
 draw:(JY ->Option XU) ->Nat ->Nat ->Option Nat ->List Oper ->Fs ->Option Fs
def ZgX (k:XX ->Fs ->Option XU) (r:Option XU):Option XU:=
 match r with
 | some (.code e s)=>k e s
 | _=>none
def ZHE (ih:JY ->Option XU) (a b:Code) (n wm:Nat) (rd:Option Nat) (s:Fs):Option XU:=
 ZgX (fun e s=>match e with
  | .normal=>ih (.code b n wm rd s)
  | e=>some (.code e s)) (ih (.code a n wm rd s))
def Zi5 (ih:JY ->Option XU) (c:Operand) (a b:Code) (n wm:Nat) (rd:Option Nat) (s:Fs):Option XU:=
 match Xc s.fr c with
 | some (.bool t)=>bif t then ih (.code a n wm rd s) else ih (.code b n wm rd s)
 | _=>none
def Zul (ih:JY ->Option XU) (id:Nat) (c:Code) (n wm:Nat) (rd:Option Nat) (s:Fs):Option XU:=
 ZgX (fun e s=>match e with
  | .exit k=>bif Nat.beq k id then some (.code .normal s) else some (.code (.exit k) s)
  | e=>some (.code e s)) (ih (.code c n wm rd s))
def Zuh (ih:JY ->Option XU) (c:Code) (n wm:Nat) (rd:Option Nat) (s:Fs):Option XU:=
 ZgX (fun e s=>match e with
  | .goto _=>none
  | e=>some (.code e s)) (ih (.code c n wm rd s))
def ZBP (ih:JY ->Option XU) (c:Code) (n wm:Nat) (rd:Option Nat) (s:Fs):Option XU:=
 ZgX (fun e s=>match e with
  | .normal=>ih (.loop c n wm rd s)
  | e=>some (.code e s)) (ih (.code c n wm rd s))
structure MI where
 id:Nat
 o:Oper
 l:List Oper
 ops:Array Oper
 rest:Code
 t:Tmp
 it:Nat
 m:Nat
 since:Nat
 clk:Nat
 es:List MapEntry
 clock:Nat
def ZJu (id:Nat) (o:Oper) (l:List Oper) (ops:Array Oper) (rest:Code) (t:Tmp) (s:Fs):Option MI:=
 match s.fr.at t with
 | .pointer (some ⟨it,0,none⟩)=>match s.h.at it with
   | .iter m since clk none=>match s.h.at m with
     | .map es clock=>some ⟨id,o,l,ops,rest,t,it,m,since,clk,es,clock⟩
     | _=>none
   | _=>none
 | _=>none
def ZJv (id:Nat) (ops:Array Oper) (rest:Code) (s:Fs):Option MI:=
 match ops.toList with
 | o::l=>match o.op,o.guard with
   | .next (.tmp t) false,none=>ZJu id o l ops rest t s
   | _,_=>none
 | []=>none
def ZyU (c:Code) (s:Fs):Option MI:=
 match c with
 | .seq (.region id ops false) rest=>ZJv id ops rest s
 | _=>none
def Zci (fr:Fr) (d:Option Tmp) (v:Value):Fr:=
 match d with
 | none=>fr
 | some d=>Tr.set fr d v
def Zui (C:Cfg) (ih:JY ->Option XU) (mi:MI) (c:Code) (n wm:Nat) (rd:Option Nat) (s:Fs):Option XU:=
 none
def Zfd (C:Cfg) (ih:JY ->Option XU) (c:Code) (n wm:Nat) (rd:Option Nat) (s:Fs):Option XU:=
 match ZyU c s with
 | some mi=>Zui C ih mi c n wm rd s
 | none=>ZBP ih c n wm rd s
def Zfb (C:Cfg) (ih:JY ->Option XU) (ops:Array Oper) (n wm:Nat) (rd:Option Nat) (s:Fs):Option XU:=
 match ZnI C.X C.Ql ih n wm rd ops.toList ops.toList s with
 | some (e,s)=>some (.code e s)
 | none=>none
def Znf (C:Cfg) (ih:JY ->Option XU) (ops:Array Oper) (n wm:Nat) (rd:Option Nat) (s:Fs):Option XU:=
 match C.draw ih n wm rd ops.toList s with
 | some s=>some (.code .normal s)
 | none=>none
def Wl (ih:JY ->Option XU) (n wm:Nat) (rd:Option Nat) (l:Nat) (s:Fs) (r:Option XU):Option XU:=
 match r with
 | some (.fin (.ret _) h2)=>match h2.at l with
   | .loop st pd fr n' ps Xh bd df=>
     bif st== .busy then none else
     match pd with
     | none=>some (.code .normal {s with h:=h2.put l (.loop .exhausted pd fr n' ps Xh bd df)})
     | some c=>ih (.code c n wm rd {s with h:=h2.put l (.loop .exhausted pd fr n' ps Xh bd df)})
   | _=>none
 | some (.fin (.pan v) h2)=>some (.code (.panic v) {s with h:=h2})
 | _=>none
def Jk (C:Cfg) (ih:JY ->Option XU) (g:Operand) (n wm:Nat) (rd:Option Nat) (l:Nat) (s:Fs):Option XU:=
 match Xc s.fr g with
 | some gv=>match KG C.X s.h gv [.func (.yield l) #[] #[]] with
   | some (.enter f args,.none)=>Wl ih n wm rd l s (ih (.call f args wm s.h))
   | _=>none
 | none=>none
def Zfc (C:Cfg) (ih:JY ->Option XU) (g:Operand) (ps:Array Tmp) (Xh bd:Code) (n wm:Nat) (rd:Option Nat) (s:Fs):Option XU:=
 match rd with
 | none=>Jk C ih g n wm rd (s.h.size + 1) {s with ds:= {target:= .collected s.h.size,args:=#[]}::s.ds,h:= (s.h.push .deferred).push (.loop .ready none s.fr n ps Xh bd s.h.size)}
 | some l=>match s.h.at l with
   | .loop _ _ _ _ _ _ _ df=>Jk C ih g n wm rd s.h.size {s with h:=s.h.push (.loop .ready none s.fr n ps Xh bd df)}
   | _=>none
def Ky (C:Cfg) (ih:JY ->Option XU) (c:Code) (n wm:Nat) (rd:Option Nat) (s:Fs):Option XU:=
 match c with
 | .skip=>some (.code .normal s)
 | .label _=>some (.code .normal s)
 | .ret=>some (.code .ret s)
 | .exit id=>some (.code (.exit id) s)
 | .goto l=>some (.code (.goto l) s)
 | .seq a b=>ZHE ih a b n wm rd s
 | .cond c a b=>Zi5 ih c a b n wm rd s
 | .block id c=>Zul ih id c n wm rd s
 | .loop c=>ih (.loop c n wm rd s)
 | .scope c=>Zuh ih c n wm rd s
 | .region _ ops d=>bif d then Znf C ih ops n wm rd s else Zfb C ih ops n wm rd s
 | .rangeFunc g ps Xh bd=>Zfc C ih g ps Xh bd n wm rd s
 | .refuse _=>none
def xPM (e:XX):Option PM:=
 match e with
 | .normal | .ret=>some .ret
 | .panic v=>some (.pan v)
 | _=>none
def Znj (C:Cfg) (ih:JY ->Option XU) (f:FuncId) (args:Array Value) (wm:Nat) (h:H):Option XU:=
 match C.X.fns.get f with
 | some fn=>match fn.body with
   | some c=>bif Nat.ble args.toList.length fn.ntmps then
      ZgX (fun e s=>match xPM e with
       | some pm=>ih (.leave fn wm pm s)
       | none=>none) (ih (.code c fn.ntmps wm none {fr:=QV args.toList 0 .nil,ds:= [],h:=h}))
     else none
   | none=>none
 | none=>none
def Zht (C:Cfg) (ih:JY ->Option XU) (f:FuncId) (args:Array Value) (wm:Nat) (h:H):Option XU:=
 match C.X.orc f with
 | some v=>match args.toList with
   | []=>some (.fin (.ret v) h)
   | _::_=>none
 | none=>Znj C ih f args wm h
def Zs6 (pm:PM):PM:=
 match pm with
 | .rcv _=>.ret
 | pm=>pm
def WV (C:Cfg) (ih:JY ->Option XU) (fn:Func) (wm:Nat) (pm:PM) (s:Fs):Option XU:=
 match s.ds with
 | []=>match pm with
   | .ret=>match J2 C.X.P fn s.fr s.h with
     | some v=>some (.fin (.ret v) s.h)
     | none=>none
   | .pan v=>some (.fin (.pan v) s.h)
   | .rcv _=>none
 | d::ds=>match d.target with
   | .collected r=>match s.h.at r with
     | .deferred=>bif Nat.ble wm r then ih (.leave fn wm pm {s with ds:=ds,h:=s.h.put r .dead}) else none
     | _=>none
   | .fn (.func f) cap=>match C.X.fns.get f with
     | some _=>match ih (.dcall f (d.args.toList ++ cap.toList).toArray pm wm s.h) with
       | some (.Zgj pm' h')=>ih (.leave fn wm (Zs6 pm') {s with ds:=ds,h:=h'})
       | _=>none
     | none=>none
   | _=>none
def isRecover (o:Oper):Bool:=
 match o.op with
 | .call {callee:= .builtin .recover,..}=>true
 | _=>false
def dop (X:Ctx) (n wm:Nat) (ops:List Oper) (o:Oper) (pm:PM) (s:Fs):Option (PM×Fs):=
 let fin (pm:PM) (s:Fs) (v:Value):Option (PM×Fs):=match Zg0 n s o.dst v with
  | some s=>some (pm,s)
  | none=>none
 bif !okG ops o s.fr then none else bif Qd ops o s.fr then
  match Qs X s.h (Xc s.fr) o with
  | some (nx,E)=>match E.apply wm s.h with
    | some h'=>match nx with
      | .val v=>fin pm {s with h:=h'} v
      | .skip=>fin pm {s with h:=h'} undef
      | .Zor=>match pm with
        | .pan v=>fin (.rcv v) {s with h:=h'} v
        | pm=>fin pm {s with h:=h'} .nilIface
      | _=>none
    | none=>none
  | none=>none
 else fin pm s undef
def ZvZ (X:Ctx) (n wm:Nat) (ops:List Oper):List Oper ->PM ->Fs ->Option (PM×Fs)
 | [],pm,s=>some (pm,s)
 | o::rest,pm,s=>match dop X n wm ops o pm s with
   | some (pm,s)=>ZvZ X n wm ops rest pm s
   | none=>none
def ZFq (k:XX ->PM ->Fs ->Option XU) (r:Option XU):Option XU:=
 match r with
 | some (.QS e pm s)=>k e pm s
 | _=>none
def Zfe (ih:JY ->Option XU) (c:Code) (n wm:Nat) (pm:PM) (s:Fs):Option XU:=
 ZgX (fun e s=>some (.QS e pm s)) (ih (.code c n wm none s))
def Zhr (C:Cfg) (ih:JY ->Option XU) (c:Code) (n wm:Nat) (pm:PM) (s:Fs):Option XU:=
 match c with
 | .seq a b=>ZFq (fun e pm s=>match e with
   | .normal=>ih (.QS b n wm pm s)
   | e=>some (.QS e pm s)) (ih (.QS a n wm pm s))
 | .cond c a b=>match Xc s.fr c with
   | some (.bool t)=>bif t then ih (.QS a n wm pm s) else ih (.QS b n wm pm s)
   | _=>none
 | .region id ops d=>bif !d && ops.toList.any isRecover then match ZvZ C.X n wm ops.toList ops.toList pm s with
     | some (pm,s)=>some (.QS .normal pm s)
     | none=>none
   else Zfe ih (.region id ops d) n wm pm s
 | c=>Zfe ih c n wm pm s
def Zhs (C:Cfg) (ih:JY ->Option XU) (f:FuncId) (args:Array Value) (pm:PM) (wm:Nat) (h:H):Option XU:=
 match C.X.fns.get f with
 | some fn=>match fn.body with
   | some c=>bif Nat.ble args.toList.length fn.ntmps then
      ZFq (fun e pm s=>match s.ds,e,J2 C.X.P fn s.fr s.h with
       | [],.normal,some _=>some (.Zgj pm s.h)
       | [],.ret,some _=>some (.Zgj pm s.h)
       | _,_,_=>none) (ih (.QS c fn.ntmps wm pm {fr:=QV args.toList 0 .nil,ds:= [],h:=h}))
     else none
   | none=>none
 | none=>none
def Ki (l:Nat) (e:XX) (s:Fs):Option XU:=
 match s.h.at l with
 | .loop _ _ fr n ps Xh bd df=>match e with
   | .normal=>some (.fin (.ret (.bool true)) (s.h.put l (.loop .ready none fr n ps Xh bd df)))
   | .ret=>some (.fin (.ret (.bool false)) (s.h.put l (.loop .done (some .ret) fr n ps Xh bd df)))
   | .exit id=>some (.fin (.ret (.bool false)) (s.h.put l (.loop .done (some (.exit id)) fr n ps Xh bd df)))
   | .goto t=>some (.fin (.ret (.bool false)) (s.h.put l (.loop .done (some (.goto t)) fr n ps Xh bd df)))
   | .panic _=>none
 | _=>none
def Zag (ih:JY ->Option XU) (l:Nat) (bd:Code) (n wm:Nat) (e:XX) (s:Fs):Option XU:=
 match e with
 | .normal=>match s.h.at l with
   | .loop .ready pd fr n' ps Xh bd' df=>ZgX (fun e s=>Ki l e s) (ih (.code bd n wm (some l) {s with h:=s.h.put l (.loop .busy pd fr n' ps Xh bd' df)}))
   | _=>none
 | _=>none
def Zdj (ih:JY ->Option XU) (l:Nat) (args:Array Value) (wm:Nat) (h:H):Option XU:=
 match h.at l with
 | .loop _ _ fr n ps Xh bd _=>
   bif Nat.ble wm l && Nat.beq args.toList.length ps.toList.length then
    match Jb (ps.toList.zip args.toList) n fr with
    | some fr1=>ZgX (fun e s=>Zag ih l bd n wm e s) (ih (.code Xh n wm (some l) {fr:=fr1,ds:= [],h:=h}))
    | none=>none
   else none
 | _=>none
def evF (C:Cfg) (ih:JY ->Option XU) (j:JY):Option XU:=
 match j with
 | .code c n wm rd s=>Ky C ih c n wm rd s
 | .loop c n wm rd s=>Zfd C ih c n wm rd s
 | .call f args wm h=>Zht C ih f args wm h
 | .round l args wm h=>Zdj ih l args wm h
 | .dcall f args pm wm h=>Zhs C ih f args pm wm h
 | .QS c n wm pm s=>Zhr C ih c n wm pm s
 | .leave fn wm pm s=>WV C ih fn wm pm s
def ev (C:Cfg) (n:Nat):JY ->Option XU:=Nat.rec (fun _=>none) (fun _ ih=>evF C ih) n
end
end Go.Xr
end
end
