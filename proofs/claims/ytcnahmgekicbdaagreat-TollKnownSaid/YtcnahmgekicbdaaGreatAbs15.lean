/- The abstract interpreter, 15: whatever it answers is so. -/
import Derived.Test.YtcnahmgekicbdaaGreatAbs14
import Derived.RangeFuncRecord
noncomputable section
namespace Go.Abs
variable {ρ : Ren} {w : World} {X : Ctx} {ih : Job → Option Res}

theorem PostC.trans {wm n : Nat} {ρ ρ1 : Ren} {h h1 : H} {w w1 : World} (hd : ∀ i p, ρ i = some p → i < h.size) (st : Stp wm ρ h w ρ1 h1 w1) {e : XX} {s' : Fs} {e' : Exit} {a' : Act} {w' : World}
    (hp : PostC wm n ρ1 h1 w1 e s' e' a' w') : PostC wm n ρ h w e s' e' a' w' := by
  obtain ⟨ρ', h1, h2, h3⟩ := hp
  exact ⟨ρ', h1, h2, st.trans hd h3⟩
theorem PostF.trans {wm : Nat} {ρ ρ1 : Ren} {h h1 : H} {w w1 : World} (hd : ∀ i p, ρ i = some p → i < h.size) (st : Stp wm ρ h w ρ1 h1 w1) {e : AEnd} {h' : H} {e' : Ending} {w' : World}
    (hp : PostF wm ρ1 h1 w1 e h' e' w') : PostF wm ρ h w e h' e' w' := by
  obtain ⟨ρ', h1, h2, h3⟩ := hp
  exact ⟨ρ', h1, h2, st.trans hd h3⟩

theorem cRes_eq {k : XX → Fs → Option Res} {r : Option Res} {x : Res} (h : cRes k r = some x) : ∃ e s, r = some (.code e s) ∧ k e s = some x := by
  unfold cRes at h
  split at h
  · exact ⟨_, _, rfl, h⟩
  · cases h
theorem dRes_eq {k : XX → PM → Fs → Option Res} {r : Option Res} {x : Res} (h : dRes k r = some x) : ∃ e pm s, r = some (.dcode e pm s) ∧ k e pm s = some x := by
  unfold dRes at h
  split at h
  · exact ⟨_, _, _, rfl, h⟩
  · cases h

/-- What is to be shown of code. -/
def CodeOK (X : Ctx) (c : Code) (n wm : Nat) (rd : Option Nat) (s : Fs) (r : Res) : Prop :=
  ∃ e s', r = .code e s' ∧ ∀ ρ a w F, wm ≤ s.h.size → Inv ρ n s a w → FR' ρ rd F → c.wpIn F 0 X.P (PostC wm n ρ s.h w e s') a w

theorem code_iff {c : Code} {n wm : Nat} {rd : Option Nat} {s : Fs} {r : Res} : JobOK X (.code c n wm rd s) r ↔ CodeOK X c n wm rd s r := by
  cases r with
  | code e s' => exact ⟨fun h => ⟨e, s', rfl, h⟩, fun ⟨_, _, e1, h⟩ => by cases e1; exact h⟩
  | fin e h => exact ⟨fun h => h.elim, fun ⟨_, _, e1, _⟩ => by cases e1⟩
  | dfin e h => exact ⟨fun h => h.elim, fun ⟨_, _, e1, _⟩ => by cases e1⟩
  | dcode e h s => exact ⟨fun h => h.elim, fun ⟨_, _, e1, _⟩ => by cases e1⟩

def LoopOK (X : Ctx) (c : Code) (n wm : Nat) (rd : Option Nat) (s : Fs) (r : Res) : Prop :=
  ∃ e s', r = .code e s' ∧ ∀ ρ a w F, wm ≤ s.h.size → Inv ρ n s a w → FR' ρ rd F → LoopIn F 0 X.P c (PostC wm n ρ s.h w e s') a w
theorem loop_iff {c : Code} {n wm : Nat} {rd : Option Nat} {s : Fs} {r : Res} : JobOK X (.loop c n wm rd s) r ↔ LoopOK X c n wm rd s r := by
  cases r with
  | code e s' => exact ⟨fun h => ⟨e, s', rfl, h⟩, fun ⟨_, _, e1, h⟩ => by cases e1; exact h⟩
  | fin e h => exact ⟨fun h => h.elim, fun ⟨_, _, e1, _⟩ => by cases e1⟩
  | dfin e h => exact ⟨fun h => h.elim, fun ⟨_, _, e1, _⟩ => by cases e1⟩
  | dcode e h s => exact ⟨fun h => h.elim, fun ⟨_, _, e1, _⟩ => by cases e1⟩

def DcodeOK (X : Ctx) (c : Code) (n wm : Nat) (pm : PM) (s : Fs) (r : Res) : Prop :=
  ∃ e pm' s', r = .dcode e pm' s' ∧ ∀ ρ a c0 cs w, wm ≤ s.h.size → Inv ρ n s a w → PmR ρ pm c0.mode →
      c.wpSIn Fence.wide 0 X.P (fun e' a' cs' w' => ∃ ρ' u', cs' = { c0 with mode := u' } :: cs ∧ PmR ρ' pm' u' ∧ ExR ρ' e e' ∧ Inv ρ' n s' a' w' ∧ Stp wm ρ s.h w ρ' s'.h w') a (c0 :: cs) w
theorem dcode_iff {c : Code} {n wm : Nat} {pm : PM} {s : Fs} {r : Res} : JobOK X (.dcode c n wm pm s) r ↔ DcodeOK X c n wm pm s r := by
  cases r with
  | dcode e pm' s' => exact ⟨fun h => ⟨e, pm', s', rfl, h⟩, fun ⟨_, _, _, e1, h⟩ => by cases e1; exact h⟩
  | fin e h => exact ⟨fun h => h.elim, fun ⟨_, _, _, e1, _⟩ => by cases e1⟩
  | dfin e h => exact ⟨fun h => h.elim, fun ⟨_, _, _, e1, _⟩ => by cases e1⟩
  | code e s => exact ⟨fun h => h.elim, fun ⟨_, _, _, e1, _⟩ => by cases e1⟩

section
variable (HI : ∀ j r, ih j = some r → JobOK X j r)
include HI

theorem evSeq_sound {a b : Code} {n wm : Nat} {rd : Option Nat} {s : Fs} {r : Res} (h : evSeq ih a b n wm rd s = some r) : CodeOK X (.seq a b) n wm rd s r := by
  obtain ⟨e, s1, ha, hk⟩ := cRes_eq h
  have ka := code_iff.1 (HI _ _ ha)
  obtain ⟨_, _, e0, ka⟩ := ka
  cases e0
  cases e with
  | normal =>
    obtain ⟨e2, s2, rfl, kb⟩ := code_iff.1 (HI _ _ hk)
    refine ⟨e2, s2, rfl, fun ρ a w F hwm hi hF => wpIn_seq (wpIn_mono (ka ρ a w F hwm hi hF) ?_)⟩
    rintro e' a' w' ⟨ρ', he, hi', hst⟩
    cases he
    exact wpIn_mono (kb ρ' a' w' F (Nat.le_trans hwm hst.size) hi' (hF.mono hst.ext)) fun _ _ _ hp => PostC.trans hi.rel.lt hst hp
  | exit id =>
    cases hk
    refine ⟨_, _, rfl, fun ρ a w F hwm hi hF => wpIn_seq (wpIn_mono (ka ρ a w F hwm hi hF) ?_)⟩
    rintro e' a' w' ⟨ρ', he, hi', hst⟩
    cases he
    exact ⟨ρ', .exit id, hi', hst⟩
  | goto id =>
    cases hk
    refine ⟨_, _, rfl, fun ρ a w F hwm hi hF => wpIn_seq (wpIn_mono (ka ρ a w F hwm hi hF) ?_)⟩
    rintro e' a' w' ⟨ρ', he, hi', hst⟩
    cases he
    exact ⟨ρ', .goto id, hi', hst⟩
  | ret =>
    cases hk
    refine ⟨_, _, rfl, fun ρ a w F hwm hi hF => wpIn_seq (wpIn_mono (ka ρ a w F hwm hi hF) ?_)⟩
    rintro e' a' w' ⟨ρ', he, hi', hst⟩
    cases he
    exact ⟨ρ', .ret, hi', hst⟩
  | panic v =>
    cases hk
    refine ⟨_, _, rfl, fun ρ a w F hwm hi hF => wpIn_seq (wpIn_mono (ka ρ a w F hwm hi hF) ?_)⟩
    rintro e' a' w' ⟨ρ', he, hi', hst⟩
    cases he with
    | panic hv => exact ⟨ρ', .panic hv, hi', hst⟩

theorem evCond_sound {c : Operand} {a b : Code} {n wm : Nat} {rd : Option Nat} {s : Fs} {r : Res} (h : evCond ih c a b n wm rd s = some r) : CodeOK X (.cond c a b) n wm rd s r := by
  unfold evCond at h
  split at h
  · rename_i t hc
    have : ∃ e s', r = .code e s' ∧ ∀ ρ a' w F, wm ≤ s.h.size → Inv ρ n s a' w → FR' ρ rd F → (if t then a else b).wpIn F 0 X.P (PostC wm n ρ s.h w e s') a' w := by
      cases t with
      | true => exact code_iff.1 (HI _ _ h)
      | false => exact code_iff.1 (HI _ _ h)
    obtain ⟨e, s', rfl, k⟩ := this
    refine ⟨e, s', rfl, fun ρ a' w F hwm hi hF => ?_⟩
    have hv := aev_sound hi.fr _ _ hc
    generalize hx : a'.eval c = x at hv
    cases hv
    exact wpIn_cond hx (k ρ a' w F hwm hi hF)
  · cases h

theorem evBlock_sound {id : Nat} {c : Code} {n wm : Nat} {rd : Option Nat} {s : Fs} {r : Res} (h : evBlock ih id c n wm rd s = some r) : CodeOK X (.block id c) n wm rd s r := by
  obtain ⟨e, s1, ha, hk⟩ := cRes_eq h
  obtain ⟨_, _, e0, ka⟩ := code_iff.1 (HI _ _ ha)
  cases e0
  cases e with
  | exit k =>
    by_cases hkk : k = id
    · subst hkk
      simp only [show Nat.beq k k = true from Nat.beq_refl k, cond_true, Option.some.injEq] at hk
      subst hk
      refine ⟨_, _, rfl, fun ρ a w F hwm hi hF => wpIn_block (wpIn_mono (ka ρ a w F hwm hi hF) ?_)⟩
      rintro e' a' w' ⟨ρ', he, hi', hst⟩
      cases he
      show if _ then _ else _
      rw [if_pos rfl]
      exact ⟨ρ', .normal, hi', hst⟩
    · have hb : Nat.beq k id = false := by rw [beq_decide]; simpa using hkk
      simp only [hb, cond_false, Option.some.injEq] at hk
      subst hk
      refine ⟨_, _, rfl, fun ρ a w F hwm hi hF => wpIn_block (wpIn_mono (ka ρ a w F hwm hi hF) ?_)⟩
      rintro e' a' w' ⟨ρ', he, hi', hst⟩
      cases he
      show if _ then _ else _
      rw [if_neg hkk]
      exact ⟨ρ', .exit k, hi', hst⟩
  | normal =>
    cases hk
    refine ⟨_, _, rfl, fun ρ a w F hwm hi hF => wpIn_block (wpIn_mono (ka ρ a w F hwm hi hF) ?_)⟩
    rintro e' a' w' ⟨ρ', he, hi', hst⟩
    cases he
    exact ⟨ρ', .normal, hi', hst⟩
  | goto k =>
    cases hk
    refine ⟨_, _, rfl, fun ρ a w F hwm hi hF => wpIn_block (wpIn_mono (ka ρ a w F hwm hi hF) ?_)⟩
    rintro e' a' w' ⟨ρ', he, hi', hst⟩
    cases he
    exact ⟨ρ', .goto k, hi', hst⟩
  | ret =>
    cases hk
    refine ⟨_, _, rfl, fun ρ a w F hwm hi hF => wpIn_block (wpIn_mono (ka ρ a w F hwm hi hF) ?_)⟩
    rintro e' a' w' ⟨ρ', he, hi', hst⟩
    cases he
    exact ⟨ρ', .ret, hi', hst⟩
  | panic v =>
    cases hk
    refine ⟨_, _, rfl, fun ρ a w F hwm hi hF => wpIn_block (wpIn_mono (ka ρ a w F hwm hi hF) ?_)⟩
    rintro e' a' w' ⟨ρ', he, hi', hst⟩
    cases he with
    | panic hv => exact ⟨ρ', .panic hv, hi', hst⟩

theorem evScope_sound {c : Code} {n wm : Nat} {rd : Option Nat} {s : Fs} {r : Res} (h : evScope ih c n wm rd s = some r) : CodeOK X (.scope c) n wm rd s r := by
  obtain ⟨e, s1, ha, hk⟩ := cRes_eq h
  obtain ⟨_, _, e0, ka⟩ := code_iff.1 (HI _ _ ha)
  cases e0
  cases e with
  | goto l => cases hk
  | exit k =>
    cases hk
    refine ⟨_, _, rfl, fun ρ a w F hwm hi hF => wpIn_scope (wpIn_mono (ka ρ a w F hwm hi hF) ?_)⟩
    rintro e' a' w' ⟨ρ', he, hi', hst⟩
    cases he
    exact ⟨ρ', .exit k, hi', hst⟩
  | normal =>
    cases hk
    refine ⟨_, _, rfl, fun ρ a w F hwm hi hF => wpIn_scope (wpIn_mono (ka ρ a w F hwm hi hF) ?_)⟩
    rintro e' a' w' ⟨ρ', he, hi', hst⟩
    cases he
    exact ⟨ρ', .normal, hi', hst⟩
  | ret =>
    cases hk
    refine ⟨_, _, rfl, fun ρ a w F hwm hi hF => wpIn_scope (wpIn_mono (ka ρ a w F hwm hi hF) ?_)⟩
    rintro e' a' w' ⟨ρ', he, hi', hst⟩
    cases he
    exact ⟨ρ', .ret, hi', hst⟩
  | panic v =>
    cases hk
    refine ⟨_, _, rfl, fun ρ a w F hwm hi hF => wpIn_scope (wpIn_mono (ka ρ a w F hwm hi hF) ?_)⟩
    rintro e' a' w' ⟨ρ', he, hi', hst⟩
    cases he with
    | panic hv => exact ⟨ρ', .panic hv, hi', hst⟩

theorem evLoop_sound {c : Code} {n wm : Nat} {rd : Option Nat} {s : Fs} {r : Res} (h : evLoop ih c n wm rd s = some r) : LoopOK X c n wm rd s r := by
  obtain ⟨e, s1, ha, hk⟩ := cRes_eq h
  obtain ⟨_, _, e0, ka⟩ := code_iff.1 (HI _ _ ha)
  cases e0
  cases e with
  | normal =>
    obtain ⟨e2, s2, rfl, kb⟩ := loop_iff.1 (HI _ _ hk)
    refine ⟨e2, s2, rfl, fun ρ a w F hwm hi hF => loopIn_step (wpIn_mono (ka ρ a w F hwm hi hF) ?_)⟩
    rintro e' a' w' ⟨ρ', he, hi', hst⟩
    cases he
    have := kb ρ' a' w' F (Nat.le_trans hwm hst.size) hi' (hF.mono hst.ext)
    intro b k cs h1 h2 h3
    obtain ⟨e3, a3, w3, hp, harr⟩ := this b k cs h1 h2 h3
    exact ⟨e3, a3, w3, PostC.trans hi.rel.lt hst hp, harr⟩
  | exit id =>
    cases hk
    refine ⟨_, _, rfl, fun ρ a w F hwm hi hF => loopIn_step (wpIn_mono (ka ρ a w F hwm hi hF) ?_)⟩
    rintro e' a' w' ⟨ρ', he, hi', hst⟩
    cases he
    exact ⟨ρ', .exit id, hi', hst⟩
  | goto id =>
    cases hk
    refine ⟨_, _, rfl, fun ρ a w F hwm hi hF => loopIn_step (wpIn_mono (ka ρ a w F hwm hi hF) ?_)⟩
    rintro e' a' w' ⟨ρ', he, hi', hst⟩
    cases he
    exact ⟨ρ', .goto id, hi', hst⟩
  | ret =>
    cases hk
    refine ⟨_, _, rfl, fun ρ a w F hwm hi hF => loopIn_step (wpIn_mono (ka ρ a w F hwm hi hF) ?_)⟩
    rintro e' a' w' ⟨ρ', he, hi', hst⟩
    cases he
    exact ⟨ρ', .ret, hi', hst⟩
  | panic v =>
    cases hk
    refine ⟨_, _, rfl, fun ρ a w F hwm hi hF => loopIn_step (wpIn_mono (ka ρ a w F hwm hi hF) ?_)⟩
    rintro e' a' w' ⟨ρ', he, hi', hst⟩
    cases he with
    | panic hv => exact ⟨ρ', .panic hv, hi', hst⟩

end
end Go.Abs
