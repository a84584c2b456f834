/- Names Part 4 of the proof. -/
import Derived.TacticsIn
import Derived.Test.YtbnepjakjmnadaaGreatNa3
set_option linter.all false
set_option maxHeartbeats 2000000
section
noncomputable section
namespace Go.Abs
variable {ρ : Ren} {w : World}
theorem drop_call {ρ ρ' : Ren} {h h' : H} {w w' : World} (r : Rel ρ h w) (st : Stp h.size ρ h w ρ' h' w') : Rel ρ h w' ∧ ∀ wm, Stp wm ρ h w ρ h w' := by
  have hold : ∀ b, b < w.heap.size → w'.heap[b]? = w.heap[b]? := fun b hb => st.frame b hb fun i d hi e _ => by have := r.lt i _ e; omega
  refine ⟨⟨fun i b d e => ?_, fun i b d e => ?_, r.inj⟩, fun wm => ⟨Ren.le_refl _, Nat.le_refl _, fun _ _ => rfl, fun _ _ x => x, fun _ _ x => x, st.os, st.tape, st.output, st.wsize, fun b hb _ => hold b hb, fun i b d e e' => by rw [e] at e'; cases e'⟩⟩
  · have := r.dom i b d e; have := st.wsize; omega
  · exact (r.obj i b d e).world (hold b (r.dom i b d e).2)
theorem fence_fn {ρ : Ren} {rd : Option Nat} {F : Fence} (h : FR' ρ rd F) (f : FuncId) : F.fn f := by
  unfold FR' at h
  split at h
  · subst h; trivial
  · obtain ⟨l', _, rfl⟩ := h; trivial
theorem fence_depth {ρ : Ren} {rd : Option Nat} {F : Fence} (h : FR' ρ rd F) : F.depth = none := by
  unfold FR' at h
  split at h
  · subst h; rfl
  · obtain ⟨l', _, rfl⟩ := h; rfl
theorem fence_calls {ρ : Ren} {rd : Option Nat} {F : Fence} (h : FR' ρ rd F) {P : Program} {f : FuncId} {args : Array Value} {w : World} {R : Ending → World → Prop} (hc : CallsIn Fence.wide 0 P f args w R) : CallsIn F 0 P f args w R := by
  unfold FR' at h
  split at h
  · subst h; exact hc
  · obtain ⟨l', _, rfl⟩ := h; exact hc.inRound l'
theorem fence_round {ρ : Ren} {rd : Option Nat} {F : Fence} (h : FR' ρ rd F) {P : Program} {l : Nat} {f : FuncId} {t : Array Value} {as_ bd : Code} {w : World} {R : Ending → World → Prop} (hc : RoundIn Fence.wide 0 P l f t as_ bd w R) : RoundIn F 0 P l f t as_ bd w R := by
  unfold FR' at h
  split at h
  · subst h; exact hc
  · obtain ⟨l', _, rfl⟩ := h; exact hc
theorem FR'.mono {ρ ρ' : Ren} (hr : ρ.le ρ') {rd : Option Nat} {F : Fence} (h : FR' ρ rd F) : FR' ρ' rd F := by
  unfold FR' at h ⊢
  split at h
  · exact h
  · obtain ⟨l', h1, h2⟩ := h; exact ⟨l', (hr _ _ h1).1, h2⟩
theorem aop_defer {X : Ctx} {h : H} {ev : Operand → Option Value} {o : Oper} {nx : AN} {E : Eff} (ha : aop X h ev o = some (nx, E)) {c : Call} (ho : o.op = .defer c) : ∃ d, nx = .dfr d := by
  unfold aop at ha
  rw [ho] at ha
  dsimp only at ha
  split at ha
  · split at ha
    · cases ha; exact ⟨_, rfl⟩
    · cases ha
  · cases ha
theorem aupon_sound {X : Ctx} {pur : FuncId → Bool} {ih : Job → Option Res} (hih : ∀ j r, ih j = some r → JobOK X j r) {n wm : Nat} {rd : Option Nat} {o : Oper} {s s' : Fs} {nx : AN} {h1 : H} {e : XX}
    (hs : aupon pur ih n wm rd o.dst s nx h1 = some (e, s')) {F : Fence} {a : Act} {w1 : World} {r : Result Next} (hi : Inv ρ n { s with h := h1 } a w1) (hwm : wm ≤ h1.size) (hF : FR' ρ rd F)
    (hn : NextR ρ w1 nx r) {K : Act → World → Prop} {Q : Exit → Act → World → Prop}
    (hK : e = .normal → ∀ ρ' a' w', Inv ρ' n s' a' w' → Stp wm ρ h1 w1 ρ' s'.h w' → K a' w')
    (hQ : ∀ v, e = .panic v → ∀ ρ' v' a' w', VR ρ' v v' → Inv ρ' n s' a' w' → Stp wm ρ h1 w1 ρ' s'.h w' → Q (.panic (chainOf v')) a' w') :
    o.uponIn F 0 X.P a K Q r := by
  have hd : F.depth.isSome = true → 1 ≤ 0 := by rw [fence_depth hF]; intro hh; cases hh
  have go : ∀ {ρ' : Ren} {h2 : H} {w2 : World} {v v' : Value}, Inv ρ' n { s with h := h2 } a w2 → Stp wm ρ h1 w1 ρ' h2 w2 → VR ρ' v v' →
      (match aput n { s with h := h2 } o.dst v with | some s => some (XX.normal, s) | none => none) = some (e, s') → K (a.put o.dst v') w2 := by
    intro ρ' h2 w2 v v' hi2 hst hv hp
    split at hp
    · rename_i s2 hp2
      cases hp
      obtain ⟨q1, q2⟩ := aput_sound hi2 hv hp2
      refine hK rfl ρ' _ _ q1 ?_
      rw [q2]; exact hst
    · cases hp
  unfold aupon at hs
  dsimp only [withH_eq] at hs
  split at hs
  · obtain ⟨v', hv, rfl⟩ := hn
    exact go hi (Stp.refl _ _ _ _) hv hs
  · subst hn
    exact go hi (Stp.refl _ _ _ _) (VR.undef ρ) hs
  · rename_i f args
    obtain ⟨args', hv, rfl⟩ := hn
    cases hp : pur f <;> rw [hp] at hs <;> simp only [cond_true, cond_false] at hs
    · refine ⟨hd, ?_⟩
      split at hs
      · rename_i v h2 hc
        refine (fence_calls hF (hih _ _ hc ρ args' w1 hwm hi.rel hv)).mono ?_
        rintro e' w' ⟨ρ', he, hr, hst⟩
        cases he with
        | ret hv' => exact go (hi.step hr hst) hst hv' hs
      · rename_i v h2 hc
        cases hs
        refine (fence_calls hF (hih _ _ hc ρ args' w1 hwm hi.rel hv)).mono ?_
        rintro e' w' ⟨ρ', he, hr, hst⟩
        cases he with
        | pan hv' => exact hQ v rfl ρ' _ _ _ hv' (hi.step hr hst) hst
      · cases hs
    · refine ⟨hd, ?_⟩
      split at hs
      · rename_i v h2 hc
        cases hpl : plain v <;> rw [hpl] at hs <;> simp only [cond_true, cond_false] at hs
        · cases hs
        · refine (fence_calls hF (hih _ _ hc ρ args' w1 (Nat.le_refl _) hi.rel hv)).mono ?_
          rintro e' w' ⟨ρ', he, hr, hst⟩
          cases he with
          | ret hv' =>
            rw [VR.plain_eq hpl hv']
            obtain ⟨q1, q2⟩ := drop_call hi.rel hst
            exact go (hi.step q1 (q2 wm)) (q2 wm) (VR.plain_refl hpl) hs
      · cases hs
  · rename_i l args
    obtain ⟨l', k, args', hl, hw, hv, rfl⟩ := hn
    refine ⟨hd, ?_⟩
    split at hs
    · rename_i v h2 hc
      refine (fence_round hF (hih _ _ hc ρ l' k args' w1 hwm hi.rel hv hl hw)).mono ?_
      rintro e' w' ⟨ρ', he, hr, hst⟩
      cases he with
      | ret hv' => exact go (hi.step hr hst) hst hv' hs
    · cases hs
  · rename_i d
    obtain ⟨d', hdd, rfl⟩ := hn
    split at hs
    · have hi2 : Inv ρ n { s with h := h1, ds := d :: s.ds } { a with defers := d' :: a.defers } w1 := ⟨hi.rel, hi.fr, .cons hdd hi.ds⟩
      split at hs
      · rename_i s2 hp2
        cases hs
        obtain ⟨q1, q2⟩ := aput_sound hi2 (VR.undef ρ) hp2
        refine hK rfl ρ _ _ q1 ?_
        rw [q2]; exact Stp.refl _ _ _ _
      · cases hs
    · cases hs
  · cases hs
  · rename_i v
    obtain ⟨v', hv, rfl⟩ := hn
    cases hs
    exact hQ v rfl ρ v' a w1 hv hi (Stp.refl _ _ _ _)
theorem astep_sound {X : Ctx} {pur : FuncId → Bool} {ih : Job → Option Res} (hih : ∀ j r, ih j = some r → JobOK X j r) {n wm : Nat} {rd : Option Nat} {ops : Array Oper} {o : Oper} {s s' : Fs} {e : XX}
    (hs : astep X pur ih n wm rd ops.toList o s = some (e, s')) {F : Fence} {a : Act} {w : World} (hi : Inv ρ n s a w) (hwm : wm ≤ s.h.size) (hF : FR' ρ rd F) {K : Act → World → Prop} {Q : Exit → Act → World → Prop}
    (hK : e = .normal → ∀ ρ' a' w', Inv ρ' n s' a' w' → Stp wm ρ s.h w ρ' s'.h w' → K a' w')
    (hQ : ∀ v, e = .panic v → ∀ ρ' v' a' w', VR ρ' v v' → Inv ρ' n s' a' w' → Stp wm ρ s.h w ρ' s'.h w' → Q (.panic (chainOf v')) a' w') :
    if Region.wanted o (yielded ops a.tmps) then o.wpIn F 0 X.P a w K Q else (∀ f, o.about X.P w a.eval = some f → F.fn f) ∧ K (a.put o.dst undef) w := by
  unfold astep at hs
  cases hok : okG ops.toList o s.fr <;> rw [hok] at hs <;> simp only [Bool.not_false, Bool.not_true, cond_true, cond_false] at hs
  · cases hs
  rw [awanted_sound hi.fr ops o hok]
  cases hwt : awanted ops.toList o s.fr <;> rw [hwt] at hs <;> simp only [cond_true, cond_false] at hs
  · rw [if_neg (by simp)]
    refine ⟨fun f _ => fence_fn hF f, ?_⟩
    split at hs
    · rename_i s2 hp2
      cases hs
      obtain ⟨q1, q2⟩ := aput_sound hi (VR.undef ρ) hp2
      refine hK rfl ρ _ _ q1 ?_
      rw [q2]; exact Stp.refl _ _ _ _
    · cases hs
  · rw [if_pos rfl]
    split at hs
    · rename_i nx E ha
      split at hs
      · rename_i h1 hE
        obtain ⟨ρ1, w1, p1, p2, p3⟩ := aop_sound hi.rel (aev_sound hi.fr) ha
        obtain ⟨r1, st1⟩ := Eff.sound hi.rel hwm p1 hE p2
        refine ⟨fun f _ => fence_fn hF f, ?_⟩
        have hsem : o.semAt F.round a.eval = execOp a.eval o := by
          cases hrd : rd with
          | none => rw [hrd] at hF; unfold FR' at hF; subst hF; rfl
          | some l =>
            refine Oper.semAt_eq _ _ _ fun c hc => ?_
            obtain ⟨d, rfl⟩ := aop_defer ha hc
            rw [hrd] at hs
            simp [aupon] at hs
        rw [hsem]
        refine aupon_sound hih hs (hi.step r1 st1) (Nat.le_trans hwm st1.size) (hF.mono st1.ext) p3 (fun he ρ' a' w' hi' st' => ?_) (fun v he ρ' v' a' w' hv hi' st' => ?_)
        · exact hK he ρ' a' w' hi' (st1.trans hi.rel.lt st')
        · exact hQ v he ρ' v' a' w' hv hi' (st1.trans hi.rel.lt st')
      · cases hs
    · cases hs
theorem astep_wm {X : Ctx} {pur : FuncId → Bool} {ih : Job → Option Res} (hih : ∀ j r, ih j = some r → JobOK X j r) {n wm : Nat} {rd : Option Nat} {ops : Array Oper} (Q : Exit → Act → World → Prop) :
    ∀ (l : List Oper) (s s' : Fs) (e : XX), aops X pur ih n wm rd ops.toList l s = some (e, s') → ∀ {ρ : Ren} {F : Fence} {a : Act} {w : World}, Inv ρ n s a w → wm ≤ s.h.size → FR' ρ rd F →
      (∀ e' a' w', PostC wm n ρ s.h w e s' e' a' w' → Q e' a' w') → wpListIn F 0 X.P ops Q l a w := by
  intro l
  induction l with
  | nil =>
    intro s s' e hs ρ F a w hi hwm hF hq
    simp only [aops, Option.some.injEq, Prod.mk.injEq] at hs
    obtain ⟨rfl, rfl⟩ := hs
    exact hq .normal a w ⟨ρ, .normal, hi, Stp.refl _ _ _ _⟩
  | cons o l ihl =>
    intro s s' e hs ρ F a w hi hwm hF hq
    simp only [aops] at hs
    split at hs
    · rename_i s1 h1
      refine astep_sound hih h1 hi hwm hF (fun _ ρ' a' w' hi' st' => ?_) (fun v he => by cases he)
      refine ihl s1 s' e hs hi' (Nat.le_trans hwm st'.size) (hF.mono st'.ext) fun e' a2 w2 hp => ?_
      obtain ⟨ρ2, q1, q2, q3⟩ := hp
      exact hq e' a2 w2 ⟨ρ2, q1, q2, st'.trans hi.rel.lt q3⟩
    · rename_i v s1 h1
      cases hs
      refine astep_sound hih h1 hi hwm hF (fun he => by cases he) (fun v' he ρ' v2 a' w' hv hi' st' => ?_)
      cases he
      exact hq _ a' w' ⟨ρ', .panic hv, hi', st'⟩
    · cases hs
end Go.Abs
end
end
section
noncomputable section
namespace Go.Abs
variable {ρ : Ren} {w : World}
theorem evs_congr {ev ev2 : Operand → Option Value} : ∀ (l : List Operand), (∀ x ∈ l, ev x = ev2 x) → evs ev l = evs ev2 l := by
  intro l
  induction l with
  | nil => intro _; rfl
  | cons x l ih => intro hl; simp only [evs, hl x (by simp), ih (fun y hy => hl y (by simp [hy]))]
theorem evp_congr {ev ev2 : Operand → Option Value} : ∀ (l : List (Nat × Operand)), (∀ x ∈ l.map (·.2), ev x = ev2 x) → evp ev l = evp ev2 l := by
  intro l
  induction l with
  | nil => intro _; rfl
  | cons x l ih => intro hl; obtain ⟨i, x⟩ := x; simp only [evp, hl x (by simp), ih (fun y hy => hl y (by simp at hy ⊢; exact .inr hy))]
theorem evo_congr {ev ev2 : Operand → Option Value} (x : Option Operand) (h : ∀ y ∈ x.toArray, ev y = ev2 y) : evo ev x = evo ev2 x := by
  cases x with
  | none => rfl
  | some x => simp only [evo, h x (by simp)]
theorem aop_congr (X : Ctx) (h : H) {ev ev2 : Operand → Option Value} (o : Oper) (he : ∀ x ∈ o.op.operands, ev x = ev2 x) : aop X h ev o = aop X h ev2 o := by
  unfold aop
  cases hop : o.op <;> rw [hop] at he <;> simp only [Op.operands] at he <;> dsimp only
  case build t ps => rw [evp_congr ps.toList (fun x hx => he x (by simpa using hx))]
  case buildSlice t n ps => rw [evp_congr ps.toList (fun x hx => he x (by simpa using hx))]
  case makeFunc fn a b => rw [evs_congr a.toList (fun x hx => he x (by simp at hx ⊢; exact .inl hx)), evs_congr b.toList (fun x hx => he x (by simp at hx ⊢; exact .inr hx))]
  case slice t x lo hi mx =>
    rw [he x (by simp), evo_congr lo (fun y hy => he y (by simp at hy ⊢; simp [hy])), evo_congr hi (fun y hy => he y (by simp at hy ⊢; simp [hy])), evo_congr mx (fun y hy => he y (by simp at hy ⊢; simp [hy]))]
  case call c =>
    rw [evs_congr c.args.toList (fun x hx => he x (by unfold Call.operands; simp at hx ⊢; exact .inr hx))]
    cases hc : c.callee with
    | value f =>
      have hf := he f (by unfold Call.operands; rw [hc]; simp)
      cases evs ev2 c.args.toList <;> simp only [hf]
    | invoke r m =>
      have hf := he r (by unfold Call.operands; rw [hc]; simp)
      cases evs ev2 c.args.toList <;> simp only [hf]
    | builtin b => cases evs ev2 c.args.toList <;> rfl
  case defer c =>
    rw [evs_congr c.args.toList (fun x hx => he x (by unfold Call.operands; simp at hx ⊢; exact .inr hx))]
    cases hc : c.callee with
    | value f =>
      have hf := he f (by unfold Call.operands; rw [hc]; simp)
      cases evs ev2 c.args.toList <;> simp only [hf]
    | invoke r m => cases evs ev2 c.args.toList <;> rfl
    | builtin b => cases evs ev2 c.args.toList <;> rfl
  case makeMap t r => cases r <;> rfl
  all_goals first
    | rfl
    | (simp at he; simp only [he]; done)
    | (simp at he; simp only [he.1, he.2]; done)
    | (simp at he; simp only [he.1, he.2.1, he.2.2]; done)
end Go.Abs
end
end
section
noncomputable section
namespace Go.Abs
def ares1 (P : Program) (fr : Fr) (h : H) : ResultVar → Option Value
  | .tmp t => bif isAny (fr.at t) then none else some (fr.at t)
  | .cell a t => aload P h t (fr.at a)
def ares (P : Program) (fr : Fr) (h : H) : List ResultVar → Option (List Value)
  | [] => some []
  | r :: rs => match ares1 P fr h r, ares P fr h rs with
    | some v, some vs => some (v :: vs)
    | _, _ => none
def aresult (P : Program) (fn : Func) (fr : Fr) (h : H) : Option Value :=
  match ares P fr h fn.results.toList with
  | some [v] => some v
  | some vs => some (.tuple vs.toArray)
  | none => none
def frameOf : List Value → Nat → Fr → Fr
  | [], _, fr => fr
  | v :: vs, i, fr => frameOf vs (i + 1) (Tr.set fr i v)
def setParams : List (Tmp × Value) → Nat → Fr → Option Fr
  | [], _, fr => some fr
  | (t, v) :: r, n, fr => bif Nat.blt t n then setParams r n (Tr.set fr t v) else none
structure Cfg where
  X : Ctx
  pur : FuncId → Bool
  draw : (Job → Option Res) → Nat → Nat → Option Nat → List Oper → Fs → Option Fs
def cRes (k : XX → Fs → Option Res) (r : Option Res) : Option Res :=
  match r with
  | some (.code e s) => k e s
  | _ => none
def evSeq (ih : Job → Option Res) (a b : Code) (n wm : Nat) (rd : Option Nat) (s : Fs) : Option Res :=
  cRes (fun e s => match e with
    | .normal => ih (.code b n wm rd s)
    | e => some (.code e s)) (ih (.code a n wm rd s))
def evCond (ih : Job → Option Res) (c : Operand) (a b : Code) (n wm : Nat) (rd : Option Nat) (s : Fs) : Option Res :=
  match aev s.fr c with
  | some (.bool t) => bif t then ih (.code a n wm rd s) else ih (.code b n wm rd s)
  | _ => none
def evBlock (ih : Job → Option Res) (id : Nat) (c : Code) (n wm : Nat) (rd : Option Nat) (s : Fs) : Option Res :=
  cRes (fun e s => match e with
    | .exit k => bif Nat.beq k id then some (.code .normal s) else some (.code (.exit k) s)
    | e => some (.code e s)) (ih (.code c n wm rd s))
def evScope (ih : Job → Option Res) (c : Code) (n wm : Nat) (rd : Option Nat) (s : Fs) : Option Res :=
  cRes (fun e s => match e with
    | .goto _ => none
    | e => some (.code e s)) (ih (.code c n wm rd s))
def evLoop (ih : Job → Option Res) (c : Code) (n wm : Nat) (rd : Option Nat) (s : Fs) : Option Res :=
  cRes (fun e s => match e with
    | .normal => ih (.loop c n wm rd s)
    | e => some (.code e s)) (ih (.code c n wm rd s))
structure MI where
  id : Nat
  o : Oper
  l : List Oper
  ops : Array Oper
  rest : Code
  t : Tmp
  it : Nat
  m : Nat
  since : Nat
  clk : Nat
  es : List MapEntry
  clock : Nat
def mapIt3 (id : Nat) (o : Oper) (l : List Oper) (ops : Array Oper) (rest : Code) (t : Tmp) (s : Fs) : Option MI :=
  match s.fr.at t with
  | .pointer (some ⟨it, 0, none⟩) => match s.h.at it with
    | .iter m since clk none => match s.h.at m with
      | .map es clock => some ⟨id, o, l, ops, rest, t, it, m, since, clk, es, clock⟩
      | _ => none
    | _ => none
  | _ => none
def mapIt2 (id : Nat) (ops : Array Oper) (rest : Code) (s : Fs) : Option MI :=
  match ops.toList with
  | o :: l => match o.op, o.guard with
    | .next (.tmp t) false, none => mapIt3 id o l ops rest t s
    | _, _ => none
  | [] => none
def mapIt (c : Code) (s : Fs) : Option MI :=
  match c with
  | .seq (.region id ops false) rest => mapIt2 id ops rest s
  | _ => none
def dstL : Code → List Nat
  | .seq a b => dstL a ++ dstL b
  | .cond _ a b => dstL a ++ dstL b
  | .block _ c => dstL c
  | .scope c => dstL c
  | .loop c => dstL c
  | .region _ ops _ => ops.toList.filterMap (·.dst)
  | _ => []
def maskL : List Nat → Nat
  | [] => 0
  | t :: ts => Nat.lor (Nat.pow 2 t) (maskL ts)
def anyAll : List Nat → Fr → Fr
  | [], fr => fr
  | t :: ts, fr => anyAll ts (Tr.set fr t anyV)
def noneOf (b : Nat) : List MapEntry → Bool
  | [] => true
  | e :: es => bif Nat.beq e.born b then false else noneOf b es
def bornsOK (clock : Nat) : List MapEntry → Bool
  | [] => true
  | e :: es => Nat.blt e.born clock && noneOf e.born es && bornsOK clock es
def setd (fr : Fr) (d : Option Tmp) (v : Value) : Fr :=
  match d with
  | none => fr
  | some d => Tr.set fr d v
def evBody (C : Cfg) (ih : Job → Option Res) (mi : MI) (n wm : Nat) (rd : Option Nat) (s : Fs) : Option Res :=
  match aops C.X C.pur ih n wm rd mi.ops.toList mi.l s with
  | some (.normal, s1) => ih (.code mi.rest n wm rd s1)
  | some (e, s1) => some (.code e s1)
  | none => none
def mapEach (C : Cfg) (ih : Job → Option Res) (mi : MI) (n : Nat) (rd : Option Nat) (wr : Nat) (fr : Fr) (s : Fs) : List MapEntry → Bool
  | [] => true
  | e :: es => (match evBody C ih mi n s.h.size rd { fr := setd fr mi.o.dst (.tuple #[.bool true, e.key, e.val]), ds := s.ds, h := s.h.put mi.it (.iter mi.m mi.since mi.clock (some e.born)), wr := some wr } with
      | some (.code .normal s2) => Nat.beq s2.ds.length s.ds.length
      | _ => false) && mapEach C ih mi n rd wr fr s es
def mapCk (mi : MI) (n wm : Nat) (T : List Nat) : Bool :=
  Nat.beq mi.since mi.clock && Nat.ble mi.clock mi.clk && bornsOK mi.clock mi.es && Nat.ble wm mi.it && !T.contains mi.t && (match mi.o.dst with | some d => Nat.blt d n && T.contains d | none => false)
theorem mapCk_spec {mi : MI} {n wm : Nat} {T : List Nat} (h : mapCk mi n wm T = true) : mi.since = mi.clock ∧ mi.clock ≤ mi.clk ∧ bornsOK mi.clock mi.es = true ∧ wm ≤ mi.it ∧ mi.t ∉ T ∧ ∃ d, mi.o.dst = some d ∧ d < n ∧ d ∈ T := by
  unfold mapCk at h
  simp only [Bool.and_eq_true, Bool.not_eq_true'] at h
  obtain ⟨⟨⟨⟨⟨h1, h2⟩, h3⟩, h4⟩, h5⟩, h6⟩ := h
  refine ⟨Nat.eq_of_beq_eq_true h1, Nat.le_of_ble_eq_true h2, h3, Nat.le_of_ble_eq_true h4, fun z => ?_, ?_⟩
  · rw [← List.contains_iff_mem] at z; rw [z] at h5; cases h5
  · cases hd : mi.o.dst with
    | none => rw [hd] at h6; cases h6
    | some d =>
      rw [hd] at h6
      simp only [Bool.and_eq_true, Nat.blt_eq, List.contains_iff_mem] at h6
      exact ⟨d, rfl, h6⟩
def evMap2 (C : Cfg) (ih : Job → Option Res) (mi : MI) (n wm : Nat) (rd : Option Nat) (s : Fs) (T : List Nat) : Option Res :=
  bif mapCk mi n wm T then
    bif mapEach C ih mi n rd (maskL T) (anyAll T s.fr) s mi.es then
      match evBody C ih mi n wm rd { s with fr := setd (anyAll T s.fr) mi.o.dst overV, h := s.h.put mi.it .dead } with
      | some (.code e s2) => match e with
        | .normal => none
        | e => some (.code e s2)
      | _ => none
    else none
  else none
def evMap (C : Cfg) (ih : Job → Option Res) (mi : MI) (c : Code) (n wm : Nat) (rd : Option Nat) (s : Fs) : Option Res :=
  evMap2 C ih mi n wm rd s ((dstL c).filter (allowed s.wr))
def evLoopM (C : Cfg) (ih : Job → Option Res) (c : Code) (n wm : Nat) (rd : Option Nat) (s : Fs) : Option Res :=
  match mapIt c s with
  | some mi => match evMap C ih mi c n wm rd s with
    | some r => some r
    | none => evLoop ih c n wm rd s
  | none => evLoop ih c n wm rd s
def evRegion (C : Cfg) (ih : Job → Option Res) (ops : Array Oper) (n wm : Nat) (rd : Option Nat) (s : Fs) : Option Res :=
  match aops C.X C.pur ih n wm rd ops.toList ops.toList s with
  | some (e, s) => some (.code e s)
  | none => none
def evDraw (C : Cfg) (ih : Job → Option Res) (ops : Array Oper) (n wm : Nat) (rd : Option Nat) (s : Fs) : Option Res :=
  match C.draw ih n wm rd ops.toList s with
  | some s => some (.code .normal s)
  | none => none
def evRanged (ih : Job → Option Res) (n wm : Nat) (rd : Option Nat) (l : Nat) (s : Fs) (r : Option Res) : Option Res :=
  match r with
  | some (.fin (.ret _) h2) => match h2.at l with
    | .loop st pd fr n' ps as_ bd df =>
      bif st == .busy then none else
      match pd with
      | none => some (.code .normal { s with h := h2.put l (.loop .exhausted pd fr n' ps as_ bd df) })
      | some c => ih (.code c n wm rd { s with h := h2.put l (.loop .exhausted pd fr n' ps as_ bd df) })
    | _ => none
  | some (.fin (.pan v) h2) => some (.code (.panic v) { s with h := h2 })
  | _ => none
def evRange1 (C : Cfg) (ih : Job → Option Res) (g : Operand) (n wm : Nat) (rd : Option Nat) (l : Nat) (s : Fs) : Option Res :=
  match aev s.fr g with
  | some gv => match acall C.X s.h gv [.func (.yield l) #[] #[]] with
    | some (.enter f args, .none) => evRanged ih n wm rd l s (ih (.call f args wm s.h))
    | _ => none
  | none => none
def evRange (C : Cfg) (ih : Job → Option Res) (g : Operand) (ps : Array Tmp) (as_ bd : Code) (n wm : Nat) (rd : Option Nat) (s : Fs) : Option Res :=
  match rd with
  | none => evRange1 C ih g n wm rd (s.h.size + 1) { s with ds := { target := .collected s.h.size, args := #[] } :: s.ds, h := (s.h.push .deferred).push (.loop .ready none s.fr n ps as_ bd s.h.size) }
  | some l => match s.h.at l with
    | .loop _ _ _ _ _ _ _ df => evRange1 C ih g n wm rd s.h.size { s with h := s.h.push (.loop .ready none s.fr n ps as_ bd df) }
    | _ => none
def evCode (C : Cfg) (ih : Job → Option Res) (c : Code) (n wm : Nat) (rd : Option Nat) (s : Fs) : Option Res :=
  match c with
  | .skip => some (.code .normal s)
  | .label _ => some (.code .normal s)
  | .ret => some (.code .ret s)
  | .exit id => some (.code (.exit id) s)
  | .goto l => some (.code (.goto l) s)
  | .seq a b => evSeq ih a b n wm rd s
  | .cond c a b => evCond ih c a b n wm rd s
  | .block id c => evBlock ih id c n wm rd s
  | .loop c => ih (.loop c n wm rd s)
  | .scope c => evScope ih c n wm rd s
  | .region _ ops d => bif d then evDraw C ih ops n wm rd s else evRegion C ih ops n wm rd s
  | .rangeFunc g ps as_ bd => evRange C ih g ps as_ bd n wm rd s
  | .refuse _ => none
def xPM (e : XX) : Option PM :=
  match e with
  | .normal | .ret => some .ret
  | .panic v => some (.pan v)
  | _ => none
def evCall (C : Cfg) (ih : Job → Option Res) (f : FuncId) (args : Array Value) (wm : Nat) (h : H) : Option Res :=
  match C.X.fns.get f with
  | some fn => match fn.body with
    | some c => bif Nat.ble args.toList.length fn.ntmps then
        cRes (fun e s => match xPM e with
          | some pm => ih (.leave fn wm pm s)
          | none => none) (ih (.code c fn.ntmps wm none { fr := frameOf args.toList 0 .nil, ds := [], h := h }))
      else none
    | none => none
  | none => none
def evCallO (C : Cfg) (ih : Job → Option Res) (f : FuncId) (args : Array Value) (wm : Nat) (h : H) : Option Res :=
  match C.X.orc f with
  | some v => match args.toList with
    | [] => some (.fin (.ret v) h)
    | _ :: _ => none
  | none => match C.X.orcA f args h with
    | some (v, A) => some (.fin (.ret v) (h.push A))
    | none => evCall C ih f args wm h
def settleA (pm : PM) : PM :=
  match pm with
  | .rcv _ => .ret
  | pm => pm
def evLeave (C : Cfg) (ih : Job → Option Res) (fn : Func) (wm : Nat) (pm : PM) (s : Fs) : Option Res :=
  match s.ds with
  | [] => match pm with
    | .ret => match aresult C.X.P fn s.fr s.h with
      | some v => some (.fin (.ret v) s.h)
      | none => none
    | .pan v => some (.fin (.pan v) s.h)
    | .rcv _ => none
  | d :: ds => match d.target with
    | .collected r => match s.h.at r with
      | .deferred => bif Nat.ble wm r then ih (.leave fn wm pm { s with ds := ds, h := s.h.put r .dead }) else none
      | _ => none
    | .fn (.func f) cap => match C.X.fns.get f with
      | some _ => match ih (.dcall f (d.args.toList ++ cap.toList).toArray pm wm s.h) with
        | some (.dfin pm' h') => ih (.leave fn wm (settleA pm') { s with ds := ds, h := h' })
        | _ => none
      | none => none
    | _ => none
def isRecover (o : Oper) : Bool :=
  match o.op with
  | .call { callee := .builtin .recover, .. } => true
  | _ => false
def dop (X : Ctx) (n wm : Nat) (ops : List Oper) (o : Oper) (pm : PM) (s : Fs) : Option (PM × Fs) :=
  let fin (pm : PM) (s : Fs) (v : Value) : Option (PM × Fs) := match aput n s o.dst v with
    | some s => some (pm, s)
    | none => none
  bif !okG ops o s.fr then none else bif awanted ops o s.fr then
    match aop X s.h (aev s.fr) o with
    | some (nx, E) => match E.apply wm s.h with
      | some h' => match nx with
        | .val v => fin pm { s with h := h' } v
        | .skip => fin pm { s with h := h' } undef
        | .recov => match pm with
          | .pan v => fin (.rcv v) { s with h := h' } v
          | pm => fin pm { s with h := h' } .nilIface
        | _ => none
      | none => none
    | none => none
  else fin pm s undef
def dops (X : Ctx) (n wm : Nat) (ops : List Oper) : List Oper → PM → Fs → Option (PM × Fs)
  | [], pm, s => some (pm, s)
  | o :: rest, pm, s => match dop X n wm ops o pm s with
    | some (pm, s) => dops X n wm ops rest pm s
    | none => none
def dRes (k : XX → PM → Fs → Option Res) (r : Option Res) : Option Res :=
  match r with
  | some (.dcode e pm s) => k e pm s
  | _ => none
def evDplain (ih : Job → Option Res) (c : Code) (n wm : Nat) (pm : PM) (s : Fs) : Option Res :=
  cRes (fun e s => some (.dcode e pm s)) (ih (.code c n wm none s))
def evDcode (C : Cfg) (ih : Job → Option Res) (c : Code) (n wm : Nat) (pm : PM) (s : Fs) : Option Res :=
  match c with
  | .seq a b => dRes (fun e pm s => match e with
    | .normal => ih (.dcode b n wm pm s)
    | e => some (.dcode e pm s)) (ih (.dcode a n wm pm s))
  | .cond c a b => match aev s.fr c with
    | some (.bool t) => bif t then ih (.dcode a n wm pm s) else ih (.dcode b n wm pm s)
    | _ => none
  | .region id ops d => bif !d && ops.toList.any isRecover then match dops C.X n wm ops.toList ops.toList pm s with
      | some (pm, s) => some (.dcode .normal pm s)
      | none => none
    else evDplain ih (.region id ops d) n wm pm s
  | c => evDplain ih c n wm pm s
def evDcall (C : Cfg) (ih : Job → Option Res) (f : FuncId) (args : Array Value) (pm : PM) (wm : Nat) (h : H) : Option Res :=
  match C.X.fns.get f with
  | some fn => match fn.body with
    | some c => bif Nat.ble args.toList.length fn.ntmps then
        dRes (fun e pm s => match s.ds, e, aresult C.X.P fn s.fr s.h with
          | [], .normal, some _ => some (.dfin pm s.h)
          | [], .ret, some _ => some (.dfin pm s.h)
          | _, _, _ => none) (ih (.dcode c fn.ntmps wm pm { fr := frameOf args.toList 0 .nil, ds := [], h := h }))
      else none
    | none => none
  | none => none
def evRound3 (l : Nat) (e : XX) (s : Fs) : Option Res :=
  match s.h.at l with
  | .loop _ _ fr n ps as_ bd df => match e with
    | .normal => some (.fin (.ret (.bool true)) (s.h.put l (.loop .ready none fr n ps as_ bd df)))
    | .ret => some (.fin (.ret (.bool false)) (s.h.put l (.loop .done (some .ret) fr n ps as_ bd df)))
    | .exit id => some (.fin (.ret (.bool false)) (s.h.put l (.loop .done (some (.exit id)) fr n ps as_ bd df)))
    | .goto t => some (.fin (.ret (.bool false)) (s.h.put l (.loop .done (some (.goto t)) fr n ps as_ bd df)))
    | .panic _ => none
  | _ => none
def evRound2 (ih : Job → Option Res) (l : Nat) (bd : Code) (n wm : Nat) (e : XX) (s : Fs) : Option Res :=
  match e with
  | .normal => match s.h.at l with
    | .loop .ready pd fr n' ps as_ bd' df => cRes (fun e s => evRound3 l e s) (ih (.code bd n wm (some l) { s with h := s.h.put l (.loop .busy pd fr n' ps as_ bd' df) }))
    | _ => none
  | _ => none
def evRound (ih : Job → Option Res) (l : Nat) (args : Array Value) (wm : Nat) (h : H) : Option Res :=
  match h.at l with
  | .loop _ _ fr n ps as_ bd _ =>
    bif Nat.ble wm l && Nat.beq args.toList.length ps.toList.length then
      match setParams (ps.toList.zip args.toList) n fr with
      | some fr1 => cRes (fun e s => evRound2 ih l bd n wm e s) (ih (.code as_ n wm (some l) { fr := fr1, ds := [], h := h }))
      | none => none
    else none
  | _ => none
def evF (C : Cfg) (ih : Job → Option Res) (j : Job) : Option Res :=
  match j with
  | .code c n wm rd s => evCode C ih c n wm rd s
  | .loop c n wm rd s => evLoopM C ih c n wm rd s
  | .call f args wm h => evCallO C ih f args wm h
  | .round l args wm h => evRound ih l args wm h
  | .dcall f args pm wm h => evDcall C ih f args pm wm h
  | .dcode c n wm pm s => evDcode C ih c n wm pm s
  | .leave fn wm pm s => evLeave C ih fn wm pm s
def ev (C : Cfg) (n : Nat) : Job → Option Res := Nat.rec (fun _ => none) (fun _ ih => evF C ih) n
end Go.Abs
end
end
