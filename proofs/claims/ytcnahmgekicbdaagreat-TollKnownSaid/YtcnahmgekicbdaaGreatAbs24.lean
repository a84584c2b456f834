/- The abstract interpreter, 24: what a run leaves alone of the frame. -/
import Derived.Test.YtcnahmgekicbdaaGreatAbs23
noncomputable section
namespace Go.Abs
variable {X : Ctx} {ih : Job → Option Res}

structure FsW (s s' : Fs) : Prop where
  wr : s'.wr = s.wr
  fr : ∀ t, allowed s.wr t = false → s'.fr.at t = s.fr.at t
  ds : ∃ l, s'.ds = l ++ s.ds
theorem FsW.refl (s : Fs) : FsW s s := ⟨rfl, fun _ _ => rfl, [], rfl⟩
theorem FsW.trans {a b c : Fs} (h : FsW a b) (k : FsW b c) : FsW a c := by
  refine ⟨k.wr.trans h.wr, fun t ht => (k.fr t (by rw [h.wr]; exact ht)).trans (h.fr t ht), ?_⟩
  obtain ⟨l, e⟩ := h.ds
  obtain ⟨l', e'⟩ := k.ds
  exact ⟨l' ++ l, by rw [e', e, List.append_assoc]⟩
theorem FsW.heap (s : Fs) (h : H) : FsW s { s with h := h } := ⟨rfl, fun _ _ => rfl, [], rfl⟩

theorem aput_w {n : Nat} {s s' : Fs} {dst : Option Tmp} {v : Value} (h : aput n s dst v = some s') : FsW s s' := by
  rw [aput_eq] at h
  split at h
  · cases h; exact FsW.refl _
  · rename_i d
    cases hd : (Nat.blt d n && allowed s.wr d) <;> rw [hd] at h <;> simp only [cond_true, cond_false] at h
    · cases h
    · cases h
      rw [Bool.and_eq_true] at hd
      refine ⟨rfl, fun t ht => ?_, [], rfl⟩
      have : t ≠ d := fun e => by rw [e, hd.2] at ht; cases ht
      simp [Fr.at, Tr.get_set, this]

def JobW : Job → Res → Prop
  | .code _ _ _ _ s, r => ∀ e s', r = .code e s' → FsW s s'
  | .loop _ _ _ _ s, r => ∀ e s', r = .code e s' → FsW s s'
  | _, _ => True

theorem aupon_w {pur : FuncId → Bool} {n wm : Nat} {rd : Option Nat} {dst : Option Tmp} {s s' : Fs} {nx : AN} {h' : H} {e : XX} (h : aupon pur ih n wm rd dst s nx h' = some (e, s')) : FsW s s' := by
  have go : ∀ {s1 : Fs} {v : Value}, FsW s s1 → (match aput n s1 dst v with | some s => some (XX.normal, s) | none => none) = some (e, s') → FsW s s' := by
    intro s1 v hw hh
    split at hh
    · rename_i s2 hp; cases hh; exact hw.trans (aput_w hp)
    · cases hh
  unfold aupon at h
  dsimp only [withH_eq] at h
  split at h
  · exact go (FsW.heap _ _) h
  · exact go (FsW.heap _ _) h
  · rename_i f args
    cases hp : pur f <;> rw [hp] at h <;> simp only [cond_true, cond_false] at h
    · split at h
      · exact go (FsW.heap _ _) h
      · cases h; exact FsW.heap _ _
      · cases h
    · split at h
      · rename_i v h2 hc
        cases hpl : plain v <;> rw [hpl] at h <;> simp only [cond_true, cond_false] at h
        · cases h
        · exact go (FsW.heap _ _) h
      · cases h
  · split at h
    · exact go (FsW.heap _ _) h
    · cases h
  · split at h
    · refine go ?_ h
      exact ⟨rfl, fun _ _ => rfl, [_], rfl⟩
    · cases h
  · cases h
  · cases h; exact FsW.heap _ _

theorem aops_w {pur : FuncId → Bool} {n wm : Nat} {rd : Option Nat} {ops : List Oper} : ∀ (l : List Oper) (s s' : Fs) (e : XX), aops X pur ih n wm rd ops l s = some (e, s') → FsW s s' := by
  have step : ∀ (o : Oper) (s s' : Fs) (e : XX), astep X pur ih n wm rd ops o s = some (e, s') → FsW s s' := by
    intro o s s' e h
    unfold astep at h
    cases hok : okG ops o s.fr <;> rw [hok] at h <;> simp only [Bool.not_false, Bool.not_true, cond_true, cond_false] at h
    · cases h
    cases hwt : awanted ops o s.fr <;> rw [hwt] at h <;> simp only [cond_true, cond_false] at h
    · split at h
      · rename_i s2 hp; cases h; exact aput_w hp
      · cases h
    · split at h
      · split at h
        · exact aupon_w h
        · cases h
      · cases h
  intro l
  induction l with
  | nil => intro s s' e h; cases h; exact FsW.refl _
  | cons o l ihl =>
    intro s s' e h
    simp only [aops] at h
    split at h
    · rename_i s1 h1; exact (step o s s1 _ h1).trans (ihl s1 s' e h)
    · rename_i v s1 h1; cases h; exact step o s s' _ h1
    · cases h

theorem drawOnce_w {pur : FuncId → Bool} {n wm : Nat} {soft : Bool} {ops : List Oper} {incs Xs : List (List Nat)} {s s' : Fs} {tl : List (Option Nat × Nat)} {ok : Bool} (hr : drawOnce X pur ih n wm soft ops incs Xs s = some (tl, ok, s')) : FsW s s' := by
  have main : ∀ (wr : Option Nat) (l : List Oper) (incs Xs : List (List Nat)) (fr fr' : Fr) (h h' : H) (tl : List (Option Nat × Nat)) (st : List (Fr × H × Value)), drun X pur ih n wm wr ops l incs Xs fr h = some (tl, st, fr', h') → ∀ t, allowed wr t = false → fr'.at t = fr.at t := by
    intro wr l
    induction l with
    | nil => intro incs Xs fr fr' h h' tl st hr t _; simp only [drun, Option.some.injEq, Prod.mk.injEq] at hr; obtain ⟨_, _, rfl, _⟩ := hr; rfl
    | cons o l ihl =>
      intro incs Xs fr fr' h h' tl st hr t ht
      match incs, Xs, hr with
      | inc :: incs, X' :: Xs, hr =>
        simp only [drun] at hr
        split at hr
        · rename_i tt v h1 hd
          split at hr
          · rename_i tl2 st2 fr2 h2 hr2
            cases hr
            rw [ihl _ _ _ _ _ _ _ _ hr2 t ht, setd_at, if_neg fun e => by rw [dstep_w hd t e] at ht; cases ht]
          · cases hr
        · cases hr
      | [], _, hr => simp [drun] at hr
      | _ :: _, [], hr => simp [drun] at hr
  unfold drawOnce at hr
  split at hr
  · rename_i tl' st' fr' h' hd
    simp only [Option.some.injEq, Prod.mk.injEq] at hr
    obtain ⟨_, _, rfl⟩ := hr
    exact ⟨rfl, main _ _ _ _ _ _ _ _ _ _ hd, [], rfl⟩
  · cases hr

theorem adraw_w {pur : FuncId → Bool} {n wm : Nat} {ops : List Oper} {s s' : Fs} (hr : adraw X pur ih n wm ops s = some s') : FsW s s' := by
  obtain ⟨_, _, _, _, _, h1⟩ := adraw_some hr
  exact drawOnce_w h1

theorem bit_maskL {T : List Nat} {t : Nat} : bit (maskL T) t = true ↔ t ∈ T := by
  induction T with
  | nil => simp [maskL, bit_zero]
  | cons x T ih => simp only [maskL, bit_lor, Bool.or_eq_true, ih, bit_pow, List.mem_cons]; exact ⟨fun h => h.imp Eq.symm id, fun h => h.imp Eq.symm id⟩
theorem anyAll_at {T : List Nat} {fr : Fr} {t : Nat} : (anyAll T fr).at t = if t ∈ T then anyV else fr.at t := by
  induction T generalizing fr with
  | nil => simp [anyAll]
  | cons x T ih =>
    rw [anyAll, ih]
    by_cases h : t ∈ T
    · simp [h]
    · by_cases hx : t = x
      · subst hx; simp [h, Fr.at, Tr.get_set]
      · simp [h, hx, Fr.at, Tr.get_set]

section
variable (HI : ∀ j r, ih j = some r → JobW j r)
include HI
theorem code_w {c : Code} {n wm : Nat} {rd : Option Nat} {s s' : Fs} {e : XX} (hc : ih (.code c n wm rd s) = some (.code e s')) : FsW s s' := HI _ _ hc e s' rfl

theorem evBody_w {C : Cfg} {mi : MI} {n wm : Nat} {rd : Option Nat} {s s' : Fs} {e : XX} (h : evBody C ih mi n wm rd s = some (.code e s')) : FsW s s' := by
  unfold evBody at h
  split at h
  · rename_i s1 h1; exact (aops_w _ _ _ _ h1).trans (code_w HI h)
  · rename_i e' s1 _ h1; cases h; exact aops_w _ _ _ _ h1
  · cases h

theorem cRes_w {c : Code} {n wm : Nat} {rd : Option Nat} {s : Fs} {k : XX → Fs → Option Res} {r : Res} (h : cRes k (ih (.code c n wm rd s)) = some r)
    (hk : ∀ e s1 r, k e s1 = some r → ∀ e' s', r = .code e' s' → FsW s1 s') : ∀ e' s', r = .code e' s' → FsW s s' := by
  obtain ⟨e, s1, h1, h2⟩ := cRes_eq h
  intro e' s' hr
  exact (code_w HI h1).trans (hk e s1 r h2 e' s' hr)
omit HI in
theorem hereW {e : XX} {s : Fs} {r : Res} (h : some (.code e s) = some r) : ∀ e' s', r = .code e' s' → FsW s s' := by
  cases h; intro e' s' h; cases h; exact FsW.refl _

theorem evMap_w {C : Cfg} {mi : MI} {c : Code} {n wm : Nat} {rd : Option Nat} {s : Fs} {r : Res} (h : evMap C ih mi c n wm rd s = some r) : ∀ e s', r = .code e s' → FsW s s' := by
  unfold evMap evMap2 at h
  generalize hb : mapCk mi n wm ((dstL c).filter (allowed s.wr)) = b at h
  cases b with
  | false => cases h
  | true =>
    obtain ⟨_, _, _, _, _, d, hd, _, hdT⟩ := mapCk_spec hb
    simp only [cond_true] at h
    generalize mapEach C ih mi n rd _ _ s mi.es = b2 at h
    cases b2 with
    | false => cases h
    | true =>
      simp only [cond_true] at h
      split at h
      · rename_i e s2 h2
        have w2 := evBody_w HI h2
        have w1 : FsW s { s with fr := setd (anyAll ((dstL c).filter (allowed s.wr)) s.fr) mi.o.dst overV, h := s.h.put mi.it .dead } := by
          refine ⟨rfl, fun t ht => ?_, [], rfl⟩
          have hnt : t ∉ (dstL c).filter (allowed s.wr) := fun z => by rw [List.mem_filter] at z; rw [z.2] at ht; cases ht
          show (setd _ _ _).at t = _
          rw [setd_at, if_neg, anyAll_at, if_neg hnt]
          intro e
          rw [e] at hd
          cases hd
          exact hnt hdT
        have w := w1.trans w2
        cases e with
        | normal => cases h
        | exit _ => cases h; intro e' s' h; cases h; exact w
        | goto _ => cases h; intro e' s' h; cases h; exact w
        | ret => cases h; intro e' s' h; cases h; exact w
        | panic _ => cases h; intro e' s' h; cases h; exact w
      · cases h

theorem evRange1_w {C : Cfg} {g : Operand} {n wm : Nat} {rd : Option Nat} {l : Nat} {s : Fs} {r : Res} (h : evRange1 C ih g n wm rd l s = some r) : ∀ e s', r = .code e s' → FsW s s' := by
  unfold evRange1 at h
  split at h
  · split at h
    · unfold evRanged at h
      split at h
      · split at h
        · rename_i st pd fr n' ps as bd df hat
          cases hst : (st == LoopState.busy) <;> rw [hst] at h <;> simp only [cond_true, cond_false] at h
          · split at h
            · cases h; intro e s' h; cases h; exact FsW.heap _ _
            · intro e s' hr; subst hr; exact (FsW.heap _ _).trans (code_w HI h)
          · cases h
        · cases h
      · cases h; intro e s' h; cases h; exact FsW.heap _ _
      · cases h
    · cases h
  · cases h

theorem evF_w {X : Ctx} {pur : FuncId → Bool} (j : Job) (r : Res) (h : evF (cfg X pur) ih j = some r) : JobW j r := by
  cases j with
  | code c n wm rd s =>
    simp only [evF] at h
    cases c with
    | skip => exact hereW h
    | label l => exact hereW h
    | ret => exact hereW h
    | exit id => exact hereW h
    | goto l => exact hereW h
    | seq a b =>
      refine cRes_w HI h fun e s1 r hk => ?_
      cases e with
      | normal => intro e' s' hr; subst hr; exact code_w HI hk
      | exit _ => exact hereW hk
      | goto _ => exact hereW hk
      | ret => exact hereW hk
      | panic _ => exact hereW hk
    | cond c a b =>
      simp only [evCode, evCond] at h
      split at h
      · rename_i t _
        intro e' s' hr; subst hr
        cases t with
        | true => exact code_w HI h
        | false => exact code_w HI h
      · cases h
    | block id c =>
      refine cRes_w HI h fun e s1 r hk => ?_
      cases e with
      | exit k =>
        dsimp only at hk
        cases hb : Nat.beq k id <;> rw [hb] at hk <;> exact hereW hk
      | normal => exact hereW hk
      | goto _ => exact hereW hk
      | ret => exact hereW hk
      | panic _ => exact hereW hk
    | scope c =>
      refine cRes_w HI h fun e s1 r hk => ?_
      cases e with
      | exit k => exact hereW hk
      | normal => exact hereW hk
      | goto _ => cases hk
      | ret => exact hereW hk
      | panic _ => exact hereW hk
    | loop c => intro e s' hr; subst hr; exact HI _ _ h e s' rfl
    | refuse _ => cases h
    | rangeFunc g ps as bd =>
      simp only [evCode, evRange] at h
      intro e s' hr
      split at h
      · have := evRange1_w HI h e s' hr
        refine FsW.trans ?_ this
        exact ⟨rfl, fun _ _ => rfl, [_], rfl⟩
      · split at h
        · exact (FsW.heap _ _).trans (evRange1_w HI h e s' hr)
        · cases h
    | region id ops d =>
      cases d with
      | true =>
        simp only [evCode, cond_true, evDraw] at h
        split at h
        · rename_i s1 hs; cases h; intro e s' hr; cases hr; exact adraw_w (X := X) (pur := pur) hs
        · cases h
      | false =>
        simp only [evCode, cond_false, evRegion] at h
        split at h
        · rename_i e s1 hs; cases h; intro e s' hr; cases hr; exact aops_w _ _ _ _ hs
        · cases h
  | loop c n wm rd s =>
    simp only [evF, evLoopM] at h
    split at h
    · exact evMap_w HI h
    refine cRes_w HI h fun e s1 r hk => ?_
    cases e with
    | normal => intro e' s' hr; subst hr; exact HI _ _ hk e' s' rfl
    | exit _ => exact hereW hk
    | goto _ => exact hereW hk
    | ret => exact hereW hk
    | panic _ => exact hereW hk
  | _ => trivial
end

theorem ev_w {X : Ctx} {pur : FuncId → Bool} : ∀ (n : Nat) (j : Job) (r : Res), ev (cfg X pur) n j = some r → JobW j r := by
  intro n
  induction n with
  | zero => intro j r h; cases h
  | succ n ihn => intro j r h; exact evF_w ihn j r h

end Go.Abs
