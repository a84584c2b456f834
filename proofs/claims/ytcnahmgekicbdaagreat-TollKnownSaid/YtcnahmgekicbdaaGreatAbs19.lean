/- The abstract interpreter, 19: one operation of a region that draws its order. -/
import Derived.Test.YtcnahmgekicbdaaGreatAbs18
noncomputable section
namespace Go.Abs
variable {X : Ctx} {ih : Job → Option Res}

/-- What a piece of a run, that may turn objects of M alone, has made of the world. -/
structure StpM (M : Nat → Prop) (ρ : Ren) (h : H) (w : World) (ρ' : Ren) (w' : World) : Prop where
  ext : ρ.le ρ'
  os : w'.os = w.os
  tape : w'.tape = w.tape
  output : w'.output = w.output
  wsize : w.heap.size ≤ w'.heap.size
  frame : ∀ b, b < w.heap.size → (∀ i d, M i → ρ i = some (b, d) → (h.at i).own = true → False) → w'.heap[b]? = w.heap[b]?
  newb : ∀ i b d, ρ i = none → ρ' i = some (b, d) → h.size ≤ i ∧ (w.heap.size ≤ b ∨ ∃ j d', M j ∧ ρ j = some (b, d') ∧ (h.at j).own = true)
structure KeepM (M : Nat → Prop) (h h' : H) : Prop where
  size : h.size ≤ h'.size
  keep : ∀ i, i < h.size → ¬ M i → h'.at i = h.at i
  own : ∀ i, i < h.size → (h'.at i).own = true → (h.at i).own = true
  live : ∀ i, i < h.size → (h'.at i).live = true → (h.at i).live = true

theorem Stp.toM {wm : Nat} {ρ ρ' : Ren} {h h' : H} {w w' : World} (a : Stp wm ρ h w ρ' h' w') : StpM (fun i => wm ≤ i) ρ h w ρ' w' :=
  ⟨a.ext, a.os, a.tape, a.output, a.wsize, a.frame, a.newb⟩
theorem StpM.weaken {M M' : Nat → Prop} {ρ ρ' : Ren} {h : H} {w w' : World} (hM : ∀ i, i < h.size → M i → M' i) (hd : ∀ i p, ρ i = some p → i < h.size) (a : StpM M ρ h w ρ' w') : StpM M' ρ h w ρ' w' :=
  ⟨a.ext, a.os, a.tape, a.output, a.wsize, fun b hb hno => a.frame b hb fun i d hi hr => hno i d (hM i (hd _ _ hr) hi) hr,
   fun i b d e e' => let ⟨x, y⟩ := a.newb i b d e e'; ⟨x, y.imp id fun ⟨j, d', p, q, r⟩ => ⟨j, d', hM j (hd _ _ q) p, q, r⟩⟩⟩
theorem StpM.trans {M : Nat → Prop} {ρ ρ' ρ'' : Ren} {h h' : H} {w w' w'' : World} (hd : ∀ i p, ρ i = some p → i < h.size) (hs : h.size ≤ h'.size) (ho : ∀ i, i < h.size → (h'.at i).own = true → (h.at i).own = true)
    (a : StpM M ρ h w ρ' w') (b : StpM M ρ' h' w' ρ'' w'') : StpM M ρ h w ρ'' w'' where
  ext := Ren.le_trans a.ext b.ext
  os := b.os.trans a.os
  tape := b.tape.trans a.tape
  output := b.output.trans a.output
  wsize := Nat.le_trans a.wsize b.wsize
  frame k hk hno := by
    rw [b.frame k (Nat.lt_of_lt_of_le hk a.wsize) ?_, a.frame k hk hno]
    intro i d hi hr hown
    cases e : ρ i with
    | some p =>
      have e' := (a.ext _ _ e).1
      rw [hr] at e'
      cases e'
      exact hno i d hi e (ho i (hd _ _ e) hown)
    | none =>
      rcases (a.newb i k d e hr).2 with h1 | ⟨j, d', h1, h2, h3⟩
      · omega
      · exact hno j d' h1 h2 h3
  newb i k d e e'' := by
    cases e' : ρ' i with
    | some p =>
      have e2 := (b.ext _ _ e').1
      rw [e''] at e2
      cases e2
      exact a.newb i k d e e'
    | none =>
      obtain ⟨h1, h2⟩ := b.newb i k d e' e''
      refine ⟨Nat.le_trans hs h1, ?_⟩
      rcases h2 with h2 | ⟨j, d', j1, j2, j3⟩
      · exact .inl (Nat.le_trans a.wsize h2)
      · cases ej : ρ j with
        | some p =>
          have e2 := (a.ext _ _ ej).1
          rw [j2] at e2
          cases e2
          exact .inr ⟨j, d', j1, ej, ho j (hd _ _ ej) j3⟩
        | none => exact (a.newb j k d' ej j2).2

theorem KeepM.trans {M : Nat → Prop} {h h1 h2 : H} (a : KeepM M h h1) (b : KeepM M h1 h2) : KeepM M h h2 :=
  ⟨Nat.le_trans a.size b.size, fun i hi hm => (b.keep i (Nat.lt_of_lt_of_le hi a.size) hm).trans (a.keep i hi hm),
   fun i hi x => a.own i hi (b.own i (Nat.lt_of_lt_of_le hi a.size) x), fun i hi x => a.live i hi (b.live i (Nat.lt_of_lt_of_le hi a.size) x)⟩
theorem KeepH.toM {wm : Nat} {h h' : H} (a : KeepH wm h h') : KeepM (fun i => wm ≤ i) h h' := ⟨a.size, fun i _ hm => a.keep i (by omega), a.own, a.live⟩
theorem KeepM.weaken {M M' : Nat → Prop} {h h' : H} (hM : ∀ i, i < h.size → M i → M' i) (a : KeepM M h h') : KeepM M' h h' := ⟨a.size, fun i hi hm => a.keep i hi fun x => hm (hM i hi x), a.own, a.live⟩

def Eff.tgt : Eff → Option Nat
  | .upd i _ => some i
  | .grow i _ => some i
  | _ => Option.none

theorem Eff.stpM {wm : Nat} {ρ ρ' : Ren} {h h' : H} {w w' : World} {E : Eff} (r : Rel ρ h w) (hwm : wm ≤ h.size) (s : Same w w') (ha : E.apply wm h = some h') (hr : E.real ρ h w ρ' w') :
    StpM (fun x => E.tgt = some x) ρ h w ρ' w' ∧ KeepM (fun x => E.tgt = some x) h h' ∧ ∀ x, E.tgt = some x → wm ≤ x := by
  obtain ⟨_, st⟩ := Eff.sound r hwm s ha hr
  have kh := keep_eff hwm ha
  refine ⟨⟨st.ext, s.os, s.tape, s.output, st.wsize, fun b hb hno => ?_, fun i b d e e' => ?_⟩, ⟨kh.size, fun i hi hm => ?_, kh.own, kh.live⟩, fun x hx => ?_⟩
  · cases E with
    | none => obtain ⟨rfl, hw⟩ := hr; rw [hw]
    | new A => obtain ⟨l, rfl, ⟨o, hw⟩, hA⟩ := hr; exact push_old hw hb
    | upd i A =>
      obtain ⟨rfl, b', d, hi, hsz, hk, hA⟩ := hr
      refine hk b fun e => ?_
      subst e
      simp only [Eff.apply] at ha
      cases hc : (Nat.ble wm i && (h.at i).own) <;> rw [hc] at ha <;> simp at ha
      rw [Bool.and_eq_true] at hc
      exact hno i d rfl hi hc.2
    | grow i A =>
      simp only [Eff.apply] at ha
      cases hc : (Nat.ble wm i && (h.at i).own && A.own) <;> rw [hc] at ha <;> simp at ha
      rw [Bool.and_eq_true, Bool.and_eq_true] at hc
      obtain ⟨b', d, hi, ⟨d', l, rfl, hsz, hk, hA⟩ | ⟨l, rfl, ⟨o, hw⟩, hA⟩⟩ := hr
      · refine hk b fun e => ?_
        subst e
        exact hno i d rfl hi hc.1.2
      · exact push_old hw hb
  · refine ⟨(st.newb i b d e e').1, ?_⟩
    cases E with
    | none => obtain ⟨rfl, hw⟩ := hr; rw [e] at e'; cases e'
    | new A =>
      obtain ⟨l, rfl, _⟩ := hr
      by_cases hii : i = h.size
      · subst hii
        rw [Ren.add_same] at e'
        cases e'
        exact .inl (Nat.le_refl _)
      · rw [(Ren.add_old hii).1] at e'; rw [e] at e'; cases e'
    | upd i A => obtain ⟨rfl, _⟩ := hr; rw [e] at e'; cases e'
    | grow i0 A =>
      simp only [Eff.apply] at ha
      cases hc : (Nat.ble wm i0 && (h.at i0).own && A.own) <;> rw [hc] at ha <;> simp at ha
      rw [Bool.and_eq_true, Bool.and_eq_true] at hc
      obtain ⟨b', d', hi, ⟨d2, l, rfl, hsz, hk, hA⟩ | ⟨l, rfl, ⟨o, hw⟩, hA⟩⟩ := hr
      · by_cases hii : i = h.size
        · subst hii
          rw [Ren.add_same] at e'
          cases e'
          exact .inr ⟨i0, d', rfl, hi, hc.1.2⟩
        · rw [(Ren.add_old hii).1] at e'; rw [e] at e'; cases e'
      · by_cases hii : i = h.size
        · subst hii
          rw [Ren.add_same] at e'
          cases e'
          exact .inl (Nat.le_refl _)
        · rw [(Ren.add_old hii).1] at e'; rw [e] at e'; cases e'
  · cases E with
    | none => cases ha; rfl
    | new A =>
      simp only [Eff.apply] at ha
      cases hA : A.own <;> rw [hA] at ha <;> simp at ha
      subst ha
      rw [H.at_push, if_neg (by omega)]
    | upd i0 A =>
      simp only [Eff.apply] at ha
      cases hc : (Nat.ble wm i0 && (h.at i0).own) <;> rw [hc] at ha <;> simp at ha
      subst ha
      rw [H.at_put, if_neg fun x => hm (by rw [x.1]; rfl)]
    | grow i0 A =>
      simp only [Eff.apply] at ha
      cases hc : (Nat.ble wm i0 && (h.at i0).own && A.own) <;> rw [hc] at ha <;> simp at ha
      subst ha
      rw [H.at_push, H.size_put, if_neg (by omega), H.at_put, if_neg fun x => hm (by rw [x.1]; rfl)]
  · cases E with
    | none => cases hx
    | new A => cases hx
    | upd i0 A =>
      cases hx
      simp only [Eff.apply] at ha
      cases hc : (Nat.ble wm x && (h.at x).own) <;> rw [hc] at ha <;> simp at ha
      rw [Bool.and_eq_true] at hc
      exact Nat.le_of_ble_eq_true hc.1
    | grow i0 A =>
      cases hx
      simp only [Eff.apply] at ha
      cases hc : (Nat.ble wm x && (h.at x).own && A.own) <;> rw [hc] at ha <;> simp at ha
      rw [Bool.and_eq_true, Bool.and_eq_true] at hc
      exact Nat.le_of_ble_eq_true hc.1.1

/-! ### The operation -/
/-- From here on, all is dead. -/
def deadUp (h : H) : Nat → Nat → Bool
  | 0, _ => true
  | k + 1, y => bif (h.at y).live then false else deadUp h k (y + 1)
theorem deadUp_spec {h : H} : ∀ {k y : Nat}, deadUp h k y = true → ∀ z, y ≤ z → z < y + k → (h.at z).live = false := by
  intro k
  induction k with
  | zero => intro y _ z h1 h2; omega
  | succ k ih =>
    intro y hd z h1 h2
    unfold deadUp at hd
    cases e : (h.at y).live <;> rw [e] at hd <;> simp only [cond_true, cond_false] at hd
    · rcases Nat.eq_or_lt_of_le h1 with q | q
      · subst q; exact e
      · exact ih hd z q (by omega)
    · cases hd
/-- The object that a call turns, and no other: all behind it is dead. -/
def ownAt (skip : Bool) (wm : Nat) (args : Array Value) (h : H) : Option Nat :=
  bif skip then none else match args.toList with
    | .slice (some a) _ _ :: _ => bif Nat.ble wm a.block && Nat.blt a.block h.size && deadUp h (h.size - (a.block + 1)) (a.block + 1) then some a.block else none
    | _ => none
theorem ownAt_spec {skip : Bool} {wm : Nat} {args : Array Value} {h : H} {x : Nat} (e : ownAt skip wm args h = some x) : skip = false ∧ wm ≤ x ∧ x < h.size ∧ ∀ z, x < z → z < h.size → (h.at z).live = false := by
  unfold ownAt at e
  cases skip with
  | true => cases e
  | false =>
    simp only [cond_false] at e
    split at e
    · rename_i a _ _ _ _
      cases hc : (Nat.ble wm a.block && Nat.blt a.block h.size && deadUp h (h.size - (a.block + 1)) (a.block + 1)) <;> rw [hc] at e <;> simp only [cond_true, cond_false] at e
      · cases e
      · cases e
        rw [Bool.and_eq_true, Bool.and_eq_true] at hc
        exact ⟨rfl, Nat.le_of_ble_eq_true hc.1.1, by have := hc.1.2; rwa [Nat.blt_eq] at this, fun z h1 h2 => deadUp_spec hc.2 z h1 (by omega)⟩
    · cases e
theorem StpM.weakenOwn {M M' : Nat → Prop} {ρ ρ' : Ren} {h : H} {w w' : World} (hM : ∀ i, i < h.size → M i → (h.at i).own = true → M' i) (hd : ∀ i p, ρ i = some p → i < h.size) (a : StpM M ρ h w ρ' w') : StpM M' ρ h w ρ' w' :=
  ⟨a.ext, a.os, a.tape, a.output, a.wsize, fun b hb hno => a.frame b hb fun i d hi hr ho => hno i d (hM i (hd _ _ hr) hi ho) hr ho,
   fun i b d e e' => let ⟨x, y⟩ := a.newb i b d e e'; ⟨x, y.imp id fun ⟨j, d', p, q, r⟩ => ⟨j, d', hM j (hd _ _ q) p r, q, r⟩⟩⟩
theorem KeepH.toOne {x : Nat} {h h' : H} (a : KeepH x h h') (hd : ∀ z, x < z → z < h.size → (h.at z).live = false) : KeepM (fun y => x = y) h h' := by
  refine ⟨a.size, fun i hi hm => ?_, a.own, a.live⟩
  rcases Nat.lt_or_ge i x with q | q
  · exact a.keep i q
  · have hl := hd i (by omega) hi
    have h1 := of_not_live (A := h.at i) (by rw [hl]; simp)
    rw [h1]
    exact of_not_live fun z => by rw [a.live i hi z] at hl; cases hl
def dstep (X : Ctx) (pur : FuncId → Bool) (ih : Job → Option Res) (n wm : Nat) (wr : Option Nat) (free : Bool) (ops : List Oper) (o : Oper) (fr : Fr) (h : H) : Option (Option Nat × Value × H) :=
  bif (match o.dst with | none => true | some d => Nat.blt d n && allowed wr d) then
    bif !okG ops o fr then none else bif awanted ops o fr then
      match aop X h (aev fr) o with
      | some (nx, E) => match E.apply wm h with
        | some h1 => match nx with
          | .val v => some (E.tgt, v, h1)
          | .skip => some (E.tgt, undef, h1)
          | .enter f args => match ownAt (free || pur f || E.tgt.isSome) wm args h1 with
            | some x => match ih (.call f args x h1) with
              | some (.fin (.ret v) h2) => some (some x, v, h2)
              | _ => none
            | none => match ih (.call f args (bif free && !pur f then wm else h1.size) h1) with
              | some (.fin (.ret v) h2) => bif pur f && plain v then some (E.tgt, v, h1) else some (E.tgt, v, h2)
              | _ => none
          | .round l args => bif free then match ih (.round l args wm h1) with
              | some (.fin (.ret v) h2) => some (E.tgt, v, h2)
              | _ => none
            else none
          | _ => none
        | none => none
      | none => none
    else some (none, undef, h)
  else none

def MOf (free : Bool) (wm : Nat) (t : Option Nat) : Nat → Prop := fun x => if free then wm ≤ x else t = some x

/-- The temporaries that an operation looks at. -/
def looks (ops : List Oper) (o : Oper) : List Tmp :=
  (match o.guard with
   | some (j, _) => match ops[j]? with
     | some g => g.dst.toList
     | none => []
   | none => []) ++ o.op.operands.toList.filterMap fun | .tmp t => some t | _ => none

theorem awanted_sound' {ρ : Ren} {fr : Fr} {a : Act} (ops : Array Oper) (o : Oper) (hf : ∀ t ∈ looks ops.toList o, isAny (fr.at t) = false → VR ρ (fr.at t) (a.tmps.getD t undef)) (hok : okG ops.toList o fr = true) :
    Region.wanted o (yielded ops a.tmps) = awanted ops.toList o fr := by
  unfold Region.wanted awanted
  cases hg : o.guard with
  | none => rfl
  | some p =>
    obtain ⟨j, want⟩ := p
    have key : yielded ops a.tmps j = ayield ops.toList fr j := by
      unfold yielded ayield
      rw [← Array.getElem?_toList]
      cases ho : ops.toList[j]? with
      | none => rfl
      | some o' =>
        cases hd : o'.dst with
        | none => simp [hd]
        | some d =>
          have := hf d (by unfold looks; rw [hg]; simp [ho, hd]) (by
            unfold okG at hok
            rw [hg] at hok
            simp only [ho, hd] at hok
            simpa using hok)
          simp only [Option.bind_some, hd]
          cases ht : a.tmps[d]? with
          | none =>
            rw [Array.getD_eq_getD_getElem?, ht] at this
            simp only [Option.getD_none] at this
            generalize fr.at d = x at this
            unfold undef at this
            cases this
            rfl
          | some y =>
            rw [Array.getD_eq_getD_getElem?, ht] at this
            simp only [Option.getD_some] at this
            generalize fr.at d = x at this
            cases this <;> rfl
    simp only [key]
    cases ayield ops.toList fr j with
    | none => rfl
    | some b => cases want <;> cases b <;> rfl

theorem ev_restrict {ρ : Ren} {fr : Fr} {a : Act} (ops : Array Oper) (o : Oper) (hf : ∀ t ∈ looks ops.toList o, isAny (fr.at t) = false → VR ρ (fr.at t) (a.tmps.getD t undef)) {h : H} {nx : AN} {E : Eff}
    (ha : aop X h (aev fr) o = some (nx, E)) : ∃ ev2, EvR ρ ev2 a.eval ∧ aop X h ev2 o = some (nx, E) := by
  classical
  refine ⟨fun x => if x ∈ o.op.operands then aev fr x else none, fun x v hx => ?_, ?_⟩
  · dsimp only at hx
    split at hx
    · rename_i hm
      cases x with
      | tmp t =>
        simp only [aev] at hx
        cases hany : isAny (fr.at t) <;> rw [hany] at hx <;> simp only [cond_true, cond_false] at hx
        · cases hx
          exact hf t (by unfold looks; simp only [List.mem_append, List.mem_filterMap]; exact .inr ⟨.tmp t, by simpa using hm, rfl⟩) hany
        · cases hx
      | const u =>
        simp only [aev] at hx
        cases hp : plain u <;> rw [hp] at hx <;> simp at hx
        subst hx
        exact VR.plain_refl hp
      | func f =>
        simp only [aev, Option.some.injEq] at hx
        subst hx
        exact .func (.func f) #[] #[] #[] #[] (fun l e => by cases e) rfl rfl (fun i v v' e => by simp at e) (fun i v v' e => by simp at e)
      | global g => cases hx
    · cases hx
  · rw [← ha]
    exact aop_congr X h o fun x hx => by simp [hx]

/-- What a step is to be, in whatever world its heap stands for. -/
def StepOK (P : Program) (wm : Nat) (rd : Option Nat) (ops : Array Oper) (o : Oper) (M : Nat → Prop) (fr : Fr) (h : H) (v : Value) (h' : H) : Prop :=
  ∀ (ρ : Ren) (a : Act) (w : World) (F : Fence) (K : Act → World → Prop) (Q : Exit → Act → World → Prop), Rel ρ h w → wm ≤ h.size → (∀ t ∈ looks ops.toList o, isAny (fr.at t) = false → VR ρ (fr.at t) (a.tmps.getD t undef)) → FR' ρ rd F →
    (∀ ρ' v' w', VR ρ' v v' → Rel ρ' h' w' → StpM M ρ h w ρ' w' → K (a.put o.dst v') w') →
    if Region.wanted o (yielded ops a.tmps) then o.wpIn F 0 P a w K Q else (∀ f, o.about P w a.eval = some f → F.fn f) ∧ K (a.put o.dst undef) w

theorem StpM.refl (M : Nat → Prop) (ρ : Ren) (h : H) (w : World) : StpM M ρ h w ρ w :=
  ⟨Ren.le_refl ρ, rfl, rfl, rfl, Nat.le_refl _, fun _ _ _ => rfl, fun i b d e e' => by rw [e] at e'; cases e'⟩

theorem dstep_real {pur : FuncId → Bool} (HI : ∀ j r, ih j = some r → JobOK X j r) (HK : ∀ j r, ih j = some r → JobKeep j r) {n wm : Nat} {wr : Option Nat} {rd : Option Nat} {free : Bool} {ops : Array Oper} {o : Oper} {fr : Fr} {h h' : H} {t : Option Nat} {v : Value}
    (hs : dstep X pur ih n wm wr free ops.toList o fr h = some (t, v, h')) : StepOK X.P wm rd ops o (MOf free wm t) fr h v h' := by
  intro ρ a w F K Q r hwm hf hF hK
  unfold dstep at hs
  cases hd : (match o.dst with | none => true | some d => Nat.blt d n && allowed wr d) <;> rw [hd] at hs <;> simp only [cond_true, cond_false] at hs
  · cases hs
  cases hok : okG ops.toList o fr <;> rw [hok] at hs <;> simp only [Bool.not_false, Bool.not_true, cond_true, cond_false] at hs
  · cases hs
  rw [awanted_sound' ops o hf hok]
  cases hwt : awanted ops.toList o fr <;> rw [hwt] at hs <;> simp only [cond_true, cond_false] at hs
  · cases hs
    rw [if_neg (by simp)]
    exact ⟨fun f _ => fence_fn hF f, hK ρ _ w (VR.undef ρ) r (StpM.refl _ _ _ _)⟩
  · rw [if_pos rfl]
    split at hs
    · rename_i nx E ha
      split at hs
      · rename_i h1 hE
        obtain ⟨ev2, e1, e2⟩ := ev_restrict ops o hf ha
        obtain ⟨ρ1, w1, p1, p2, p3⟩ := aop_sound r e1 e2
        obtain ⟨r1, st1⟩ := Eff.sound r hwm p1 hE p2
        obtain ⟨sm, km, hwmt⟩ := Eff.stpM r hwm p1 hE p2
        refine ⟨fun f _ => fence_fn hF f, ?_⟩
        have hsem : o.semAt F.round a.eval = execOp a.eval o := by
          cases hrd : rd with
          | none => rw [hrd] at hF; unfold FR' at hF; subst hF; rfl
          | some l =>
            refine Oper.semAt_eq _ _ _ fun c hc => ?_
            obtain ⟨d, rfl⟩ := aop_defer ha hc
            simp at hs
        rw [hsem]
        have hdep : F.depth.isSome = true → 1 ≤ 0 := fun hh => by rw [fence_depth hF] at hh; cases hh
        have hF1 := hF.mono st1.ext
        have toM : StpM (MOf free wm E.tgt) ρ h w ρ1 w1 := by
          refine sm.weaken (fun i _ hi => ?_) r.lt
          unfold MOf
          split
          · exact hwmt i hi
          · exact hi
        generalize hrun : (execOp a.eval o).run X.P w = res at p3
        split at hs
        · rename_i v1
          cases hs
          obtain ⟨v', hv, rfl⟩ := p3
          exact hK ρ1 v' w1 hv r1 toM
        · cases hs
          have : res = .ok .skip w1 := p3
          subst this
          exact hK ρ1 undef w1 (VR.undef ρ1) r1 toM
        · rename_i f args
          obtain ⟨args', hva, rfl⟩ := p3
          refine ⟨hdep, ?_⟩
          cases how : ownAt (free || pur f || E.tgt.isSome) wm args h1 with
          | some x =>
            rw [how] at hs
            dsimp only at hs
            obtain ⟨q1, q2, q3, q4⟩ := ownAt_spec how
            simp only [Bool.or_eq_false_iff] at q1
            obtain ⟨⟨rfl, -⟩, hT⟩ := q1
            have hT : E.tgt = none := by cases e : E.tgt <;> rw [e] at hT <;> simp at hT
            split at hs
            · rename_i rv h2 hc
              cases hs
              have hkeep := call_keep HK hc (Nat.le_of_lt q3)
              refine (fence_calls hF1 (HI _ _ hc ρ1 args' w1 (Nat.le_of_lt q3) r1 hva)).mono ?_
              rintro e' w' ⟨ρ', he, hr, hst⟩
              cases he with
              | @ret _ v' hv =>
                have st2 : StpM (MOf false wm (some x)) ρ1 h1 w1 ρ' w' := hst.toM.weakenOwn (fun i hi1 hi2 hi3 => by
                  unfold MOf
                  rw [if_neg (by simp)]
                  rcases Nat.eq_or_lt_of_le hi2 with z | z
                  · rw [z]
                  · have := q4 i z hi1; rw [own_live hi3] at this; cases this) r1.lt
                have toM' : StpM (MOf false wm (some x)) ρ h w ρ1 w1 := sm.weaken (fun i _ hi => by rw [hT] at hi; cases hi) r.lt
                exact hK ρ' v' w' hv hr (toM'.trans r.lt km.size km.own st2)
            · cases hs
          | none =>
          rw [how] at hs
          dsimp only at hs
          split at hs
          · rename_i rv h2 hc
            have hjob := HI _ _ hc
            have hwm1 : (bif free && !pur f then wm else h1.size) ≤ h1.size := by
              cases free <;> cases pur f <;> simp [cond, Nat.le_trans hwm st1.size]
            have hkeep := call_keep HK hc hwm1
            refine (fence_calls hF1 (hjob ρ1 args' w1 hwm1 r1 hva)).mono ?_
            rintro e' w' ⟨ρ', he, hr, hst⟩
            cases he with
            | @ret _ v' hv =>
              have tail : v = rv → h' = h2 → t = E.tgt → K (a.put o.dst v') w' := by
                rintro rfl rfl rfl
                have st2 : StpM (MOf free wm E.tgt) ρ1 h1 w1 ρ' w' := by
                  refine hst.toM.weaken (fun i hi1 hi2 => ?_) r1.lt
                  unfold MOf
                  cases free with
                  | true =>
                    cases hpf : pur f with
                    | true => rw [hpf] at hi2; simp at hi2; omega
                    | false => rw [hpf] at hi2; simpa using hi2
                  | false => simp at hi2; omega
                exact hK ρ' v' w' hv hr (toM.trans r.lt km.size km.own st2)
              cases hpp : (pur f && plain rv) <;> rw [hpp] at hs <;> simp only [cond_true, cond_false] at hs
              · cases hs; exact tail rfl rfl rfl
              · rw [Bool.and_eq_true] at hpp
                cases hs
                have hpf := hpp.1
                simp only [hpf, Bool.not_true, Bool.and_false, cond_false] at hst
                rw [VR.plain_eq hpp.2 hv]
                obtain ⟨q1, q2⟩ := drop_call r1 hst
                have st2 : StpM (MOf free wm E.tgt) ρ1 h' w1 ρ1 w' := (q2 h'.size).toM.weaken (fun i hi1 hi2 => absurd hi1 (by omega)) r1.lt
                exact hK ρ1 _ w' (VR.plain_refl hpp.2) q1 (toM.trans r.lt km.size km.own st2)
          · cases hs
        · rename_i l args
          obtain ⟨l', k, args', hl, hw, hv, rfl⟩ := p3
          refine ⟨hdep, ?_⟩
          cases free with
          | false => cases hs
          | true =>
            simp only [cond_true] at hs
            split at hs
            · rename_i rv h2 hc
              cases hs
              have hwm1 : wm ≤ h1.size := Nat.le_trans hwm st1.size
              refine (fence_round hF1 (HI _ _ hc ρ1 l' k args' w1 hwm1 r1 hv hl hw)).mono ?_
              rintro e' w' ⟨ρ', he, hr, hst⟩
              cases he with
              | @ret _ v' hv' => exact hK ρ' v' w' hv' hr (toM.trans r.lt km.size km.own hst.toM)
            · cases hs
        · cases hs
      · cases hs
    · cases hs

theorem dstep_keep {pur : FuncId → Bool} (HK : ∀ j r, ih j = some r → JobKeep j r) {n wm : Nat} {wr : Option Nat} {free : Bool} {ops : List Oper} {o : Oper} {fr : Fr} {h h' : H} {t : Option Nat} {v : Value}
    (hs : dstep X pur ih n wm wr free ops o fr h = some (t, v, h')) (hwm : wm ≤ h.size) : KeepM (MOf free wm t) h h' ∧ (∀ x, MOf free wm t x → wm ≤ x) ∧ (∀ d, o.dst = some d → d < n ∧ allowed wr d = true) := by
  unfold dstep at hs
  cases hd : (match o.dst with | none => true | some d => Nat.blt d n && allowed wr d) <;> rw [hd] at hs <;> simp only [cond_true, cond_false] at hs
  · cases hs
  have hdst : ∀ d, o.dst = some d → d < n ∧ allowed wr d = true := fun d e => by rw [e] at hd; simpa [Nat.blt_eq] using hd
  cases hok : okG ops o fr <;> rw [hok] at hs <;> simp only [Bool.not_false, Bool.not_true, cond_true, cond_false] at hs
  · cases hs
  cases hwt : awanted ops o fr <;> rw [hwt] at hs <;> simp only [cond_true, cond_false] at hs
  · cases hs
    refine ⟨⟨Nat.le_refl _, fun _ _ _ => rfl, fun _ _ x => x, fun _ _ x => x⟩, fun x hx => ?_, hdst⟩
    unfold MOf at hx
    split at hx
    · exact hx
    · cases hx
  · split at hs
    · rename_i nx E ha
      split at hs
      · rename_i h1 hE
        have kh := keep_eff hwm hE
        have hwmt : ∀ x, E.tgt = some x → wm ≤ x := by
          intro x hx
          cases E with
          | none => cases hx
          | new A => cases hx
          | upd i0 A =>
            cases hx
            simp only [Eff.apply] at hE
            cases hc : (Nat.ble wm x && (h.at x).own) <;> rw [hc] at hE <;> simp at hE
            rw [Bool.and_eq_true] at hc
            exact Nat.le_of_ble_eq_true hc.1
          | grow i0 A =>
            cases hx
            simp only [Eff.apply] at hE
            cases hc : (Nat.ble wm x && (h.at x).own && A.own) <;> rw [hc] at hE <;> simp at hE
            rw [Bool.and_eq_true, Bool.and_eq_true] at hc
            exact Nat.le_of_ble_eq_true hc.1.1
        have km : KeepM (fun x => E.tgt = some x) h h1 := by
          refine ⟨kh.size, fun i hi hm => ?_, kh.own, kh.live⟩
          cases E with
          | none => cases hE; rfl
          | new A =>
            simp only [Eff.apply] at hE
            cases hA : A.own <;> rw [hA] at hE <;> simp at hE
            subst hE
            rw [H.at_push, if_neg (by omega)]
          | upd i0 A =>
            simp only [Eff.apply] at hE
            cases hc : (Nat.ble wm i0 && (h.at i0).own) <;> rw [hc] at hE <;> simp at hE
            subst hE
            rw [H.at_put, if_neg fun x => hm (by rw [x.1]; rfl)]
          | grow i0 A =>
            simp only [Eff.apply] at hE
            cases hc : (Nat.ble wm i0 && (h.at i0).own && A.own) <;> rw [hc] at hE <;> simp at hE
            subst hE
            rw [H.at_push, H.size_put, if_neg (by omega), H.at_put, if_neg fun x => hm (by rw [x.1]; rfl)]
        have hM : ∀ x, MOf free wm E.tgt x → wm ≤ x := fun x hx => by
          unfold MOf at hx
          split at hx
          · exact hx
          · exact hwmt x hx
        have toM : KeepM (MOf free wm E.tgt) h h1 := km.weaken fun i _ hi => by
          unfold MOf; split
          · exact hwmt i hi
          · exact hi
        split at hs
        · cases hs; exact ⟨toM, hM, hdst⟩
        · cases hs; exact ⟨toM, hM, hdst⟩
        · rename_i f args
          cases how : ownAt (free || pur f || E.tgt.isSome) wm args h1 with
          | some x =>
            rw [how] at hs
            dsimp only at hs
            obtain ⟨q1, q2, q3, q4⟩ := ownAt_spec how
            simp only [Bool.or_eq_false_iff] at q1
            obtain ⟨⟨rfl, -⟩, hT⟩ := q1
            have hT : E.tgt = none := by cases e : E.tgt <;> rw [e] at hT <;> simp at hT
            split at hs
            · rename_i rv h2 hc
              cases hs
              have hk2 := (call_keep HK hc (Nat.le_of_lt q3)).toOne q4
              have hx : ∀ y, MOf false wm (some x) y → y = x := fun y hy => by
                unfold MOf at hy
                rw [if_neg (by simp)] at hy
                exact (Option.some.inj hy).symm
              refine ⟨(km.weaken fun i _ hi => by rw [hT] at hi; cases hi).trans (hk2.weaken fun i _ hi => ?_), fun y hy => by rw [hx y hy]; exact q2, hdst⟩
              subst hi; unfold MOf; rw [if_neg (by simp)]
            · cases hs
          | none =>
          rw [how] at hs
          dsimp only at hs
          split at hs
          · rename_i rv h2 hc
            have hwm1 : (bif free && !pur f then wm else h1.size) ≤ h1.size := by
              cases free <;> cases pur f <;> simp [cond, Nat.le_trans hwm kh.size]
            have hkeep := call_keep HK hc hwm1
            cases hpp : (pur f && plain rv) <;> rw [hpp] at hs <;> simp only [cond_true, cond_false] at hs
            · cases hs
              refine ⟨toM.trans (hkeep.toM.weaken fun i hi1 hi2 => ?_), hM, hdst⟩
              unfold MOf
              cases free with
              | true =>
                cases hpf : pur f with
                | true => rw [hpf] at hi2; simp at hi2; omega
                | false => rw [hpf] at hi2; simpa using hi2
              | false => simp at hi2; omega
            · cases hs; exact ⟨toM, hM, hdst⟩
          · cases hs
        · cases free with
          | false => cases hs
          | true =>
            simp only [cond_true] at hs
            split at hs
            · rename_i rv h2 hc
              cases hs
              exact ⟨toM.trans (round_keep HK hc (Nat.le_trans hwm kh.size)).toM, hM, hdst⟩
            · cases hs
        · cases hs
      · cases hs
    · cases hs

theorem dstep_w {pur : FuncId → Bool} {n wm : Nat} {wr : Option Nat} {free : Bool} {ops : List Oper} {o : Oper} {fr : Fr} {h h' : H} {t : Option Nat} {v : Value}
    (hs : dstep X pur ih n wm wr free ops o fr h = some (t, v, h')) : ∀ d, o.dst = some d → allowed wr d = true := by
  intro d e
  unfold dstep at hs
  cases hd : (match o.dst with | none => true | some d => Nat.blt d n && allowed wr d) <;> rw [hd] at hs <;> simp only [cond_true, cond_false] at hs
  · cases hs
  · rw [e] at hd; rw [Bool.and_eq_true] at hd; exact hd.2


end Go.Abs
