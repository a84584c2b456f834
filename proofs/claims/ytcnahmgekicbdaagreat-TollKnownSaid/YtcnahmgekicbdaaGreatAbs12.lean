/- The abstract interpreter, 12: one step, and a list of operations, are sound. -/
import Derived.Test.YtcnahmgekicbdaaGreatAbs11
import Derived.TacticsIn
noncomputable section
namespace Go.Abs
variable {ρ : Ren} {w : World}

/-- What was only looked at is as it was: whatever the call made is forgotten. -/
theorem drop_call {ρ ρ' : Ren} {h h' : H} {w w' : World} (r : Rel ρ h w) (st : Stp h.size ρ h w ρ' h' w') : Rel ρ h w' ∧ ∀ wm, Stp wm ρ h w ρ h w' := by
  have hold : ∀ b, b < w.heap.size → w'.heap[b]? = w.heap[b]? := fun b hb => st.frame b hb fun i d hi e _ => by have := r.lt i _ e; omega
  refine ⟨⟨fun i b d e => ?_, fun i b d e => ?_, r.inj⟩, fun wm => ⟨Ren.le_refl _, Nat.le_refl _, fun _ _ => rfl, fun _ _ x => x, fun _ _ x => x, st.os, st.tape, st.output, st.wsize, fun b hb _ => hold b hb, fun i b d e e' => by rw [e] at e'; cases e'⟩⟩
  · have := r.dom i b d e; have := st.wsize; omega
  · exact (r.obj i b d e).world (hold b (r.dom i b d e).2)

theorem fence_fn {ρ : Ren} {rd : Option Nat} {F : Fence} (h : FR' ρ rd F) (f : FuncId) : F.fn f := by
  unfold FR' at h
  split at h
  · subst h; trivial
  · obtain ⟨l', _, rfl⟩ := h; trivial
theorem fence_depth {ρ : Ren} {rd : Option Nat} {F : Fence} (h : FR' ρ rd F) : F.depth = none := by
  unfold FR' at h
  split at h
  · subst h; rfl
  · obtain ⟨l', _, rfl⟩ := h; rfl
theorem fence_calls {ρ : Ren} {rd : Option Nat} {F : Fence} (h : FR' ρ rd F) {P : Program} {f : FuncId} {args : Array Value} {w : World} {R : Ending → World → Prop} (hc : CallsIn Fence.wide 0 P f args w R) : CallsIn F 0 P f args w R := by
  unfold FR' at h
  split at h
  · subst h; exact hc
  · obtain ⟨l', _, rfl⟩ := h; exact hc.inRound l'
theorem fence_round {ρ : Ren} {rd : Option Nat} {F : Fence} (h : FR' ρ rd F) {P : Program} {l : Nat} {f : FuncId} {t : Array Value} {as bd : Code} {w : World} {R : Ending → World → Prop} (hc : RoundIn Fence.wide 0 P l f t as bd w R) : RoundIn F 0 P l f t as bd w R := by
  unfold FR' at h
  split at h
  · subst h; exact hc
  · obtain ⟨l', _, rfl⟩ := h; exact hc
theorem FR'.mono {ρ ρ' : Ren} (hr : ρ.le ρ') {rd : Option Nat} {F : Fence} (h : FR' ρ rd F) : FR' ρ' rd F := by
  unfold FR' at h ⊢
  split at h
  · exact h
  · obtain ⟨l', h1, h2⟩ := h; exact ⟨l', (hr _ _ h1).1, h2⟩

theorem aop_defer {X : Ctx} {h : H} {ev : Operand → Option Value} {o : Oper} {nx : AN} {E : Eff} (ha : aop X h ev o = some (nx, E)) {c : Call} (ho : o.op = .defer c) : ∃ d, nx = .dfr d := by
  unfold aop at ha
  rw [ho] at ha
  dsimp only at ha
  split at ha
  · split at ha
    · cases ha; exact ⟨_, rfl⟩
    · cases ha
  · cases ha

theorem aupon_sound {X : Ctx} {pur : FuncId → Bool} {ih : Job → Option Res} (hih : ∀ j r, ih j = some r → JobOK X j r) {n wm : Nat} {rd : Option Nat} {o : Oper} {s s' : Fs} {nx : AN} {h1 : H} {e : XX}
    (hs : aupon pur ih n wm rd o.dst s nx h1 = some (e, s')) {F : Fence} {a : Act} {w1 : World} {r : Result Next} (hi : Inv ρ n { s with h := h1 } a w1) (hwm : wm ≤ h1.size) (hF : FR' ρ rd F)
    (hn : NextR ρ w1 nx r) {K : Act → World → Prop} {Q : Exit → Act → World → Prop}
    (hK : e = .normal → ∀ ρ' a' w', Inv ρ' n s' a' w' → Stp wm ρ h1 w1 ρ' s'.h w' → K a' w')
    (hQ : ∀ v, e = .panic v → ∀ ρ' v' a' w', VR ρ' v v' → Inv ρ' n s' a' w' → Stp wm ρ h1 w1 ρ' s'.h w' → Q (.panic (chainOf v')) a' w') :
    o.uponIn F 0 X.P a K Q r := by
  have hd : F.depth.isSome = true → 1 ≤ 0 := by rw [fence_depth hF]; intro hh; cases hh
  -- going on with a value
  have go : ∀ {ρ' : Ren} {h2 : H} {w2 : World} {v v' : Value}, Inv ρ' n { s with h := h2 } a w2 → Stp wm ρ h1 w1 ρ' h2 w2 → VR ρ' v v' →
      (match aput n { s with h := h2 } o.dst v with | some s => some (XX.normal, s) | none => none) = some (e, s') → K (a.put o.dst v') w2 := by
    intro ρ' h2 w2 v v' hi2 hst hv hp
    split at hp
    · rename_i s2 hp2
      cases hp
      obtain ⟨q1, q2⟩ := aput_sound hi2 hv hp2
      refine hK rfl ρ' _ _ q1 ?_
      rw [q2]; exact hst
    · cases hp
  unfold aupon at hs
  dsimp only [withH_eq] at hs
  split at hs
  · obtain ⟨v', hv, rfl⟩ := hn
    exact go hi (Stp.refl _ _ _ _) hv hs
  · subst hn
    exact go hi (Stp.refl _ _ _ _) (VR.undef ρ) hs
  · rename_i f args
    obtain ⟨args', hv, rfl⟩ := hn
    cases hp : pur f <;> rw [hp] at hs <;> simp only [cond_true, cond_false] at hs
    · refine ⟨hd, ?_⟩
      split at hs
      · rename_i v h2 hc
        refine (fence_calls hF (hih _ _ hc ρ args' w1 hwm hi.rel hv)).mono ?_
        rintro e' w' ⟨ρ', he, hr, hst⟩
        cases he with
        | ret hv' => exact go (hi.step hr hst) hst hv' hs
      · rename_i v h2 hc
        cases hs
        refine (fence_calls hF (hih _ _ hc ρ args' w1 hwm hi.rel hv)).mono ?_
        rintro e' w' ⟨ρ', he, hr, hst⟩
        cases he with
        | pan hv' => exact hQ v rfl ρ' _ _ _ hv' (hi.step hr hst) hst
      · cases hs
    · refine ⟨hd, ?_⟩
      split at hs
      · rename_i v h2 hc
        cases hpl : plain v <;> rw [hpl] at hs <;> simp only [cond_true, cond_false] at hs
        · cases hs
        · refine (fence_calls hF (hih _ _ hc ρ args' w1 (Nat.le_refl _) hi.rel hv)).mono ?_
          rintro e' w' ⟨ρ', he, hr, hst⟩
          cases he with
          | ret hv' =>
            rw [VR.plain_eq hpl hv']
            obtain ⟨q1, q2⟩ := drop_call hi.rel hst
            exact go (hi.step q1 (q2 wm)) (q2 wm) (VR.plain_refl hpl) hs
      · cases hs
  · rename_i l args
    obtain ⟨l', k, args', hl, hw, hv, rfl⟩ := hn
    refine ⟨hd, ?_⟩
    split at hs
    · rename_i v h2 hc
      refine (fence_round hF (hih _ _ hc ρ l' k args' w1 hwm hi.rel hv hl hw)).mono ?_
      rintro e' w' ⟨ρ', he, hr, hst⟩
      cases he with
      | ret hv' => exact go (hi.step hr hst) hst hv' hs
    · cases hs
  · rename_i d
    obtain ⟨d', hdd, rfl⟩ := hn
    split at hs
    · have hi2 : Inv ρ n { s with h := h1, ds := d :: s.ds } { a with defers := d' :: a.defers } w1 := ⟨hi.rel, hi.fr, .cons hdd hi.ds⟩
      split at hs
      · rename_i s2 hp2
        cases hs
        obtain ⟨q1, q2⟩ := aput_sound hi2 (VR.undef ρ) hp2
        refine hK rfl ρ _ _ q1 ?_
        rw [q2]; exact Stp.refl _ _ _ _
      · cases hs
    · cases hs
  · cases hs
  · rename_i v
    obtain ⟨v', hv, rfl⟩ := hn
    cases hs
    exact hQ v rfl ρ v' a w1 hv hi (Stp.refl _ _ _ _)

theorem astep_sound {X : Ctx} {pur : FuncId → Bool} {ih : Job → Option Res} (hih : ∀ j r, ih j = some r → JobOK X j r) {n wm : Nat} {rd : Option Nat} {ops : Array Oper} {o : Oper} {s s' : Fs} {e : XX}
    (hs : astep X pur ih n wm rd ops.toList o s = some (e, s')) {F : Fence} {a : Act} {w : World} (hi : Inv ρ n s a w) (hwm : wm ≤ s.h.size) (hF : FR' ρ rd F) {K : Act → World → Prop} {Q : Exit → Act → World → Prop}
    (hK : e = .normal → ∀ ρ' a' w', Inv ρ' n s' a' w' → Stp wm ρ s.h w ρ' s'.h w' → K a' w')
    (hQ : ∀ v, e = .panic v → ∀ ρ' v' a' w', VR ρ' v v' → Inv ρ' n s' a' w' → Stp wm ρ s.h w ρ' s'.h w' → Q (.panic (chainOf v')) a' w') :
    if Region.wanted o (yielded ops a.tmps) then o.wpIn F 0 X.P a w K Q else (∀ f, o.about X.P w a.eval = some f → F.fn f) ∧ K (a.put o.dst undef) w := by
  unfold astep at hs
  cases hok : okG ops.toList o s.fr <;> rw [hok] at hs <;> simp only [Bool.not_false, Bool.not_true, cond_true, cond_false] at hs
  · cases hs
  rw [awanted_sound hi.fr ops o hok]
  cases hwt : awanted ops.toList o s.fr <;> rw [hwt] at hs <;> simp only [cond_true, cond_false] at hs
  · rw [if_neg (by simp)]
    refine ⟨fun f _ => fence_fn hF f, ?_⟩
    split at hs
    · rename_i s2 hp2
      cases hs
      obtain ⟨q1, q2⟩ := aput_sound hi (VR.undef ρ) hp2
      refine hK rfl ρ _ _ q1 ?_
      rw [q2]; exact Stp.refl _ _ _ _
    · cases hs
  · rw [if_pos rfl]
    split at hs
    · rename_i nx E ha
      split at hs
      · rename_i h1 hE
        obtain ⟨ρ1, w1, p1, p2, p3⟩ := aop_sound hi.rel (aev_sound hi.fr) ha
        obtain ⟨r1, st1⟩ := Eff.sound hi.rel hwm p1 hE p2
        refine ⟨fun f _ => fence_fn hF f, ?_⟩
        have hsem : o.semAt F.round a.eval = execOp a.eval o := by
          cases hrd : rd with
          | none => rw [hrd] at hF; unfold FR' at hF; subst hF; rfl
          | some l =>
            refine Oper.semAt_eq _ _ _ fun c hc => ?_
            obtain ⟨d, rfl⟩ := aop_defer ha hc
            rw [hrd] at hs
            simp [aupon] at hs
        rw [hsem]
        refine aupon_sound hih hs (hi.step r1 st1) (Nat.le_trans hwm st1.size) (hF.mono st1.ext) p3 (fun he ρ' a' w' hi' st' => ?_) (fun v he ρ' v' a' w' hv hi' st' => ?_)
        · exact hK he ρ' a' w' hi' (st1.trans hi.rel.lt st')
        · exact hQ v he ρ' v' a' w' hv hi' (st1.trans hi.rel.lt st')
      · cases hs
    · cases hs

theorem astep_wm {X : Ctx} {pur : FuncId → Bool} {ih : Job → Option Res} (hih : ∀ j r, ih j = some r → JobOK X j r) {n wm : Nat} {rd : Option Nat} {ops : Array Oper} (Q : Exit → Act → World → Prop) :
    ∀ (l : List Oper) (s s' : Fs) (e : XX), aops X pur ih n wm rd ops.toList l s = some (e, s') → ∀ {ρ : Ren} {F : Fence} {a : Act} {w : World}, Inv ρ n s a w → wm ≤ s.h.size → FR' ρ rd F →
      (∀ e' a' w', PostC wm n ρ s.h w e s' e' a' w' → Q e' a' w') → wpListIn F 0 X.P ops Q l a w := by
  intro l
  induction l with
  | nil =>
    intro s s' e hs ρ F a w hi hwm hF hq
    simp only [aops, Option.some.injEq, Prod.mk.injEq] at hs
    obtain ⟨rfl, rfl⟩ := hs
    exact hq .normal a w ⟨ρ, .normal, hi, Stp.refl _ _ _ _⟩
  | cons o l ihl =>
    intro s s' e hs ρ F a w hi hwm hF hq
    simp only [aops] at hs
    split at hs
    · rename_i s1 h1
      refine astep_sound hih h1 hi hwm hF (fun _ ρ' a' w' hi' st' => ?_) (fun v he => by cases he)
      refine ihl s1 s' e hs hi' (Nat.le_trans hwm st'.size) (hF.mono st'.ext) fun e' a2 w2 hp => ?_
      obtain ⟨ρ2, q1, q2, q3⟩ := hp
      exact hq e' a2 w2 ⟨ρ2, q1, q2, st'.trans hi.rel.lt q3⟩
    · rename_i v s1 h1
      cases hs
      refine astep_sound hih h1 hi hwm hF (fun he => by cases he) (fun v' he ρ' v2 a' w' hv hi' st' => ?_)
      cases he
      exact hq _ a' w' ⟨ρ', .panic hv, hi', st'⟩
    · cases hs

end Go.Abs
