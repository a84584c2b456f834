/- The abstract interpreter, 18: what a run leaves alone of the abstract heap. -/
import Derived.Test.YtcnahmgekicbdaaGreatAbs17
noncomputable section
namespace Go.Abs
variable {X : Ctx} {ih : Job → Option Res}

structure KeepH (wm : Nat) (h h' : H) : Prop where
  size : h.size ≤ h'.size
  keep : ∀ i, i < wm → h'.at i = h.at i
  own : ∀ i, i < h.size → (h'.at i).own = true → (h.at i).own = true
  live : ∀ i, i < h.size → (h'.at i).live = true → (h.at i).live = true

theorem KeepH.refl (wm : Nat) (h : H) : KeepH wm h h := ⟨Nat.le_refl _, fun _ _ => rfl, fun _ _ x => x, fun _ _ x => x⟩
theorem KeepH.trans {wm : Nat} {h h1 h2 : H} (a : KeepH wm h h1) (b : KeepH wm h1 h2) : KeepH wm h h2 :=
  ⟨Nat.le_trans a.size b.size, fun i hi => (b.keep i hi).trans (a.keep i hi), fun i hi x => a.own i hi (b.own i (Nat.lt_of_lt_of_le hi a.size) x),
   fun i hi x => a.live i hi (b.live i (Nat.lt_of_lt_of_le hi a.size) x)⟩
theorem KeepH.weaken {wm wm' : Nat} {h h' : H} (hw : wm' ≤ wm) (a : KeepH wm h h') : KeepH wm' h h' := ⟨a.size, fun i hi => a.keep i (by omega), a.own, a.live⟩

theorem keep_push {wm : Nat} {h : H} (A : AObj) (hw : wm ≤ h.size) : KeepH wm h (h.push A) := by
  have e : ∀ i, i < h.size → (h.push A).at i = h.at i := fun i hi => by rw [H.at_push, if_neg (by omega)]
  exact ⟨by simp, fun i hi => e i (by omega), fun i hi x => by rwa [e i hi] at x, fun i hi x => by rwa [e i hi] at x⟩
theorem keep_put {wm : Nat} {h : H} {l : Nat} {A : AObj} (hw : wm ≤ l) (ho : (h.at l).own = true) : KeepH wm h (h.put l A) := by
  have e : ∀ i, i ≠ l → (h.put l A).at i = h.at i := fun i hi => by rw [H.at_put, if_neg (by simp [hi])]
  refine ⟨by simp, fun i hi => e i (by omega), fun i hi x => ?_, fun i hi x => ?_⟩
  · by_cases hil : i = l
    · subst hil; exact ho
    · rwa [e i hil] at x
  · by_cases hil : i = l
    · subst hil; exact own_live ho
    · rwa [e i hil] at x

theorem keep_eff {wm : Nat} {h h' : H} {E : Eff} (hw : wm ≤ h.size) (he : E.apply wm h = some h') : KeepH wm h h' := by
  cases E with
  | none => cases he; exact KeepH.refl _ _
  | new A =>
    simp only [Eff.apply] at he
    cases hA : A.own <;> rw [hA] at he <;> simp only [cond_true, cond_false] at he
    · cases he
    · cases he; exact keep_push A hw
  | upd i A =>
    simp only [Eff.apply] at he
    cases hA : (Nat.ble wm i && (h.at i).own) <;> rw [hA] at he <;> simp only [cond_true, cond_false] at he
    · cases he
    · cases he; rw [Bool.and_eq_true] at hA; exact keep_put (Nat.le_of_ble_eq_true hA.1) hA.2
  | grow i A =>
    simp only [Eff.apply] at he
    cases hA : (Nat.ble wm i && (h.at i).own && A.own) <;> rw [hA] at he <;> simp only [cond_true, cond_false] at he
    · cases he
    · cases he
      rw [Bool.and_eq_true, Bool.and_eq_true] at hA
      exact (keep_put (Nat.le_of_ble_eq_true hA.1.1) hA.1.2).trans (keep_push A hw)

def JobKeep : Job → Res → Prop
  | .code _ _ wm _ s, r => ∃ e s', r = .code e s' ∧ (wm ≤ s.h.size → KeepH wm s.h s'.h)
  | .loop _ _ wm _ s, r => ∃ e s', r = .code e s' ∧ (wm ≤ s.h.size → KeepH wm s.h s'.h)
  | .call _ _ wm h, r => ∃ e h', r = .fin e h' ∧ (wm ≤ h.size → KeepH wm h h')
  | .round _ _ wm h, r => ∃ e h', r = .fin e h' ∧ (wm ≤ h.size → KeepH wm h h')
  | .leave _ wm _ s, r => ∃ e h', r = .fin e h' ∧ (wm ≤ s.h.size → KeepH wm s.h h')
  | .dcall _ _ _ wm h, r => ∃ e h', r = .dfin e h' ∧ (wm ≤ h.size → KeepH wm h h')
  | .dcode _ _ wm _ s, r => ∃ e pm s', r = .dcode e pm s' ∧ (wm ≤ s.h.size → KeepH wm s.h s'.h)

theorem KeepH.next {wm : Nat} {h h1 h2 : H} (hw : wm ≤ h.size) (a : KeepH wm h h1) (b : wm ≤ h1.size → KeepH wm h1 h2) : KeepH wm h h2 := a.trans (b (Nat.le_trans hw a.size))

theorem aput_keep {n : Nat} {s s' : Fs} {dst : Option Tmp} {v : Value} (h : aput n s dst v = some s') : s'.h = s.h := by
  rw [aput_eq] at h
  split at h
  · cases h; rfl
  · rename_i d
    cases hd : (Nat.blt d n && allowed s.wr d) <;> rw [hd] at h <;> simp only [cond_true, cond_false] at h
    · cases h
    · cases h; rfl

section
variable (HI : ∀ j r, ih j = some r → JobKeep j r)
include HI

theorem call_keep {f : FuncId} {args : Array Value} {wm : Nat} {h h' : H} {e : AEnd} (hc : ih (.call f args wm h) = some (.fin e h')) (hw : wm ≤ h.size) : KeepH wm h h' := by
  obtain ⟨_, _, e1, k⟩ := HI _ _ hc; cases e1; exact k hw
theorem round_keep {l : Nat} {args : Array Value} {wm : Nat} {h h' : H} {e : AEnd} (hc : ih (.round l args wm h) = some (.fin e h')) (hw : wm ≤ h.size) : KeepH wm h h' := by
  obtain ⟨_, _, e1, k⟩ := HI _ _ hc; cases e1; exact k hw
theorem code_keep {c : Code} {n wm : Nat} {rd : Option Nat} {s s' : Fs} {e : XX} (hc : ih (.code c n wm rd s) = some (.code e s')) (hw : wm ≤ s.h.size) : KeepH wm s.h s'.h := by
  obtain ⟨_, _, e1, k⟩ := HI _ _ hc; cases e1; exact k hw
theorem dcode_keep {c : Code} {n wm : Nat} {pm pm' : PM} {s s' : Fs} {e : XX} (hc : ih (.dcode c n wm pm s) = some (.dcode e pm' s')) (hw : wm ≤ s.h.size) : KeepH wm s.h s'.h := by
  obtain ⟨_, _, _, e1, k⟩ := HI _ _ hc; cases e1; exact k hw
theorem dcall_keep {f : FuncId} {args : Array Value} {pm pm' : PM} {wm : Nat} {h h' : H} (hc : ih (.dcall f args pm wm h) = some (.dfin pm' h')) (hw : wm ≤ h.size) : KeepH wm h h' := by
  obtain ⟨_, _, e1, k⟩ := HI _ _ hc; cases e1; exact k hw

theorem aupon_keep {pur : FuncId → Bool} {n wm : Nat} {rd : Option Nat} {dst : Option Tmp} {s s' : Fs} {nx : AN} {h' : H} {e : XX} (h : aupon pur ih n wm rd dst s nx h' = some (e, s')) (hw : wm ≤ h'.size) : KeepH wm h' s'.h := by
  have go : ∀ {s1 : Fs} {v : Value}, (match aput n s1 dst v with | some s => some (XX.normal, s) | none => none) = some (e, s') → s'.h = s1.h := by
    intro s1 v hh
    split at hh
    · rename_i s2 hp; cases hh; exact aput_keep hp
    · cases hh
  unfold aupon at h
  dsimp only [withH_eq] at h
  split at h
  · rw [go h]; exact KeepH.refl _ _
  · rw [go h]; exact KeepH.refl _ _
  · rename_i f args
    cases hp : pur f <;> rw [hp] at h <;> simp only [cond_true, cond_false] at h
    · split at h
      · rename_i v h2 hc; rw [go h]; exact call_keep HI hc hw
      · rename_i v h2 hc; cases h; exact call_keep HI hc hw
      · cases h
    · split at h
      · rename_i v h2 hc
        cases hpl : plain v <;> rw [hpl] at h <;> simp only [cond_true, cond_false] at h
        · cases h
        · rw [go h]; exact KeepH.refl _ _
      · cases h
  · split at h
    · rename_i v h2 hc; rw [go h]; exact round_keep HI hc hw
    · cases h
  · split at h
    · rw [go h]; exact KeepH.refl _ _
    · cases h
  · cases h
  · cases h; exact KeepH.refl _ _

theorem aops_keep {pur : FuncId → Bool} {n wm : Nat} {rd : Option Nat} {ops : List Oper} : ∀ (l : List Oper) (s s' : Fs) (e : XX), aops X pur ih n wm rd ops l s = some (e, s') → wm ≤ s.h.size → KeepH wm s.h s'.h := by
  have step : ∀ (o : Oper) (s s' : Fs) (e : XX), astep X pur ih n wm rd ops o s = some (e, s') → wm ≤ s.h.size → KeepH wm s.h s'.h := by
    intro o s s' e h hw
    unfold astep at h
    cases hok : okG ops o s.fr <;> rw [hok] at h <;> simp only [Bool.not_false, Bool.not_true, cond_true, cond_false] at h
    · cases h
    cases hwt : awanted ops o s.fr <;> rw [hwt] at h <;> simp only [cond_true, cond_false] at h
    · split at h
      · rename_i s2 hp; cases h; rw [aput_keep hp]; exact KeepH.refl _ _
      · cases h
    · split at h
      · split at h
        · rename_i nx E ha h1 hE
          exact (keep_eff hw hE).next hw (aupon_keep HI h)
        · cases h
      · cases h
  intro l
  induction l with
  | nil => intro s s' e h hw; cases h; exact KeepH.refl _ _
  | cons o l ihl =>
    intro s s' e h hw
    simp only [aops] at h
    split at h
    · rename_i s1 h1; exact (step o s s1 _ h1 hw).next hw (ihl s1 s' e h)
    · rename_i v s1 h1; cases h; exact step o s s' _ h1 hw
    · cases h

theorem evBody_keep {C : Cfg} {mi : MI} {n wm : Nat} {rd : Option Nat} {s : Fs} {r : Res} (h : evBody C ih mi n wm rd s = some r) : ∃ e s', r = .code e s' ∧ (wm ≤ s.h.size → KeepH wm s.h s'.h) := by
  unfold evBody at h
  split at h
  · rename_i s1 h1
    obtain ⟨e, s2, rfl, k⟩ := HI _ _ h
    exact ⟨e, s2, rfl, fun hw => (aops_keep HI _ _ _ _ h1 hw).next hw k⟩
  · rename_i e s1 _ h1; cases h; exact ⟨_, _, rfl, fun hw => aops_keep HI _ _ _ _ h1 hw⟩
  · cases h

omit HI in
theorem mapIt_spec {c : Code} {s : Fs} {mi : MI} (h : mapIt c s = some mi) : c = .seq (.region mi.id mi.ops false) mi.rest ∧ mi.ops.toList = mi.o :: mi.l ∧ mi.o.op = .next (.tmp mi.t) false ∧ mi.o.guard = none ∧
    s.fr.at mi.t = .pointer (some ⟨mi.it, 0, none⟩) ∧ s.h.at mi.it = .iter mi.m mi.since mi.clk none ∧ s.h.at mi.m = .map mi.es mi.clock := by
  unfold mapIt at h
  split at h
  · unfold mapIt2 at h
    split at h
    · rename_i o l e1
      split at h
      · rename_i t e2 e3
        unfold mapIt3 at h
        split at h
        · rename_i it e4
          split at h
          · rename_i m since clk e5
            split at h
            · rename_i es clock e6
              cases h
              exact ⟨rfl, e1, e2, e3, e4, e5, e6⟩
            · cases h
          · cases h
        · cases h
      · cases h
    · cases h
  · cases h

theorem evMap_keep {C : Cfg} {mi : MI} {c : Code} {n wm : Nat} {rd : Option Nat} {s : Fs} {r : Res} (hmi : mapIt c s = some mi) (h : evMap C ih mi c n wm rd s = some r) : ∃ e s', r = .code e s' ∧ (wm ≤ s.h.size → KeepH wm s.h s'.h) := by
  obtain ⟨_, _, _, _, _, hit, _⟩ := mapIt_spec hmi
  unfold evMap evMap2 at h
  generalize hb : mapCk mi n wm ((dstL c).filter (allowed s.wr)) = b at h
  cases b with
  | false => cases h
  | true =>
    obtain ⟨_, _, _, hwmi, _, _⟩ := mapCk_spec hb
    simp only [cond_true] at h
    generalize mapEach C ih mi n rd _ _ s mi.es = b2 at h
    cases b2 with
    | false => cases h
    | true =>
      simp only [cond_true] at h
      split at h
      · rename_i e s2 h2
        obtain ⟨_, _, e1, k⟩ := evBody_keep HI h2
        cases e1
        have hk : wm ≤ s.h.size → KeepH wm s.h s2.h := fun hw => (keep_put hwmi (by rw [hit]; rfl)).next hw k
        cases e with
        | normal => cases h
        | exit _ => cases h; exact ⟨_, _, rfl, hk⟩
        | goto _ => cases h; exact ⟨_, _, rfl, hk⟩
        | ret => cases h; exact ⟨_, _, rfl, hk⟩
        | panic _ => cases h; exact ⟨_, _, rfl, hk⟩
      · cases h

theorem cRes_keep {c : Code} {n wm : Nat} {rd : Option Nat} {s : Fs} {k : XX → Fs → Option Res} {r : Res} (h : cRes k (ih (.code c n wm rd s)) = some r)
    (hk : ∀ e s1 r, k e s1 = some r → ∃ e' s', r = .code e' s' ∧ (wm ≤ s1.h.size → KeepH wm s1.h s'.h)) : ∃ e s', r = .code e s' ∧ (wm ≤ s.h.size → KeepH wm s.h s'.h) := by
  obtain ⟨e, s1, h1, h2⟩ := cRes_eq h
  obtain ⟨e', s', rfl, k2⟩ := hk e s1 r h2
  exact ⟨e', s', rfl, fun hw => (code_keep HI h1 hw).next hw k2⟩
omit HI in
theorem here {wm : Nat} {e : XX} {s : Fs} {r : Res} (h : some (.code e s) = some r) : ∃ e' s', r = .code e' s' ∧ (wm ≤ s.h.size → KeepH wm s.h s'.h) := by
  cases h; exact ⟨_, _, rfl, fun _ => KeepH.refl _ _⟩

theorem evRanged_keep {n wm : Nat} {rd : Option Nat} {l : Nat} {s : Fs} {f : FuncId} {args : Array Value} {r : Res} (h : evRanged ih n wm rd l s (ih (.call f args wm s.h)) = some r) :
    ∃ e s', r = .code e s' ∧ (wm ≤ s.h.size → wm ≤ l → KeepH wm s.h s'.h) := by
  unfold evRanged at h
  split at h
  · rename_i v h2 hc
    split at h
    · rename_i st pd fr n' ps as bd df hat
      cases hst : (st == LoopState.busy) <;> rw [hst] at h <;> simp only [cond_true, cond_false] at h
      · split at h
        · cases h
          exact ⟨_, _, rfl, fun hw hl => (call_keep HI hc hw).trans (keep_put hl (by rw [hat]; rfl))⟩
        · obtain ⟨e, s', rfl, k⟩ := HI _ _ h
          exact ⟨_, _, rfl, fun hw hl => ((call_keep HI hc hw).trans (keep_put hl (by rw [hat]; rfl))).next hw k⟩
      · cases h
    · cases h
  · rename_i v h2 hc
    cases h
    exact ⟨_, _, rfl, fun hw _ => call_keep HI hc hw⟩
  · cases h

theorem evRange1_keep {C : Cfg} {g : Operand} {n wm : Nat} {rd : Option Nat} {l : Nat} {s : Fs} {r : Res} (h : evRange1 C ih g n wm rd l s = some r) :
    ∃ e s', r = .code e s' ∧ (wm ≤ s.h.size → wm ≤ l → KeepH wm s.h s'.h) := by
  unfold evRange1 at h
  split at h
  · split at h
    · exact evRanged_keep HI h
    · cases h
  · cases h

end

/-- What a way of going about a region that draws its order leaves alone. -/
def DrawKeep (C : Cfg) : Prop := ∀ ih, (∀ j r, ih j = some r → JobKeep j r) → ∀ n wm rd ops s s', C.draw ih n wm rd ops s = some s' → wm ≤ s.h.size → KeepH wm s.h s'.h

theorem evF_keep {C : Cfg} (hd : DrawKeep C) (HI : ∀ j r, ih j = some r → JobKeep j r) (j : Job) (r : Res) (h : evF C ih j = some r) : JobKeep j r := by
  cases j with
  | code c n wm rd s =>
    simp only [evF] at h
    cases c with
    | skip => exact here h
    | label l => exact here h
    | ret => exact here h
    | exit id => exact here h
    | goto l => exact here h
    | seq a b =>
      refine cRes_keep HI h fun e s1 r hk => ?_
      cases e with
      | normal => exact HI _ _ hk
      | exit _ => exact here hk
      | goto _ => exact here hk
      | ret => exact here hk
      | panic _ => exact here hk
    | cond c a b =>
      simp only [evCode, evCond] at h
      split at h
      · rename_i t _
        cases t with
        | true => exact HI (.code a n wm rd s) _ h
        | false => exact HI (.code b n wm rd s) _ h
      · cases h
    | block id c =>
      refine cRes_keep HI h fun e s1 r hk => ?_
      cases e with
      | exit k =>
        dsimp only at hk
        cases hb : Nat.beq k id <;> rw [hb] at hk <;> exact here hk
      | normal => exact here hk
      | goto _ => exact here hk
      | ret => exact here hk
      | panic _ => exact here hk
    | scope c =>
      refine cRes_keep HI h fun e s1 r hk => ?_
      cases e with
      | exit k => exact here hk
      | normal => exact here hk
      | goto _ => cases hk
      | ret => exact here hk
      | panic _ => exact here hk
    | loop c =>
      obtain ⟨e, s', rfl, k⟩ := HI _ _ h
      exact ⟨e, s', rfl, k⟩
    | refuse _ => cases h
    | rangeFunc g ps as bd =>
      simp only [evCode, evRange] at h
      split at h
      · obtain ⟨e, s', rfl, k⟩ := evRange1_keep HI h
        exact ⟨e, s', rfl, fun hw => ((keep_push _ hw).trans (keep_push _ (by simp; omega))).next hw (fun hw2 => k hw2 (by omega))⟩
      · split at h
        · obtain ⟨e, s', rfl, k⟩ := evRange1_keep HI h
          exact ⟨e, s', rfl, fun hw => (keep_push _ hw).next hw (fun hw2 => k hw2 hw)⟩
        · cases h
    | region id ops d =>
      cases d with
      | true =>
        simp only [evCode, cond_true, evDraw] at h
        split at h
        · rename_i s' hs; cases h; exact ⟨_, _, rfl, fun hw => hd ih HI n wm rd _ s s' hs hw⟩
        · cases h
      | false =>
        simp only [evCode, cond_false, evRegion] at h
        split at h
        · rename_i e s' hs; cases h; exact ⟨_, _, rfl, fun hw => aops_keep HI _ _ _ _ hs hw⟩
        · cases h
  | loop c n wm rd s =>
    simp only [evF, evLoopM] at h
    split at h
    · rename_i mi hmi; exact evMap_keep HI hmi h
    refine cRes_keep HI h fun e s1 r hk => ?_
    cases e with
    | normal => exact HI _ _ hk
    | exit _ => exact here hk
    | goto _ => exact here hk
    | ret => exact here hk
    | panic _ => exact here hk
  | call f args wm h0 =>
    simp only [evF, evCallO] at h
    split at h
    · split at h
      · cases h; exact ⟨_, _, rfl, fun _ => KeepH.refl _ _⟩
      · cases h
    unfold evCall at h
    split at h
    · rename_i fn hfn
      split at h
      · rename_i c hb
        cases hn : Nat.ble args.toList.length fn.ntmps <;> rw [hn] at h <;> simp only [cond_true, cond_false] at h
        · cases h
        · obtain ⟨e, s1, h1, h2⟩ := cRes_eq h
          split at h2
          · rename_i pm hpm
            obtain ⟨e, h', rfl, k⟩ := HI _ _ h2
            exact ⟨e, h', rfl, fun hw => (code_keep HI h1 hw).next hw k⟩
          · cases h2
      · cases h
    · cases h
  | leave fn wm pm s =>
    simp only [evF, evLeave] at h
    split at h
    · split at h
      · split at h
        · cases h; exact ⟨_, _, rfl, fun _ => KeepH.refl _ _⟩
        · cases h
      · cases h; exact ⟨_, _, rfl, fun _ => KeepH.refl _ _⟩
      · cases h
    · split at h
      · split at h
        · rename_i r0 _ _ hat
          cases hb : Nat.ble wm r0 <;> rw [hb] at h <;> simp only [cond_true, cond_false] at h
          · cases h
          · obtain ⟨e, h', rfl, k⟩ := HI _ _ h
            exact ⟨e, h', rfl, fun hw => (keep_put (Nat.le_of_ble_eq_true hb) (by rw [hat]; rfl)).next hw k⟩
        · cases h
      · split at h
        · split at h
          · rename_i pm' h' hc
            obtain ⟨e, h2, rfl, k⟩ := HI _ _ h
            exact ⟨e, h2, rfl, fun hw => (dcall_keep HI hc hw).next hw k⟩
          · cases h
        · cases h
      · cases h
  | dcall f args pm wm h0 =>
    simp only [evF, evDcall] at h
    split at h
    · rename_i fn hfn
      split at h
      · rename_i c hb
        cases hn : Nat.ble args.toList.length fn.ntmps <;> rw [hn] at h <;> simp only [cond_true, cond_false] at h
        · cases h
        · obtain ⟨e, pm1, s1, h1, h2⟩ := dRes_eq h
          split at h2
          · cases h2; exact ⟨_, _, rfl, fun hw => dcode_keep HI h1 hw⟩
          · cases h2; exact ⟨_, _, rfl, fun hw => dcode_keep HI h1 hw⟩
          · cases h2
      · cases h
    · cases h
  | round l args wm h0 =>
    simp only [evF, evRound] at h
    split at h
    · rename_i st0 pd0 fr n ps as bd df0 hat
      cases hb : (Nat.ble wm l && Nat.beq args.toList.length ps.toList.length) <;> rw [hb] at h <;> simp only [cond_true, cond_false] at h
      · cases h
      rw [Bool.and_eq_true] at hb
      have hwml := Nat.le_of_ble_eq_true hb.1
      split at h
      · obtain ⟨e1, s1, h1, h2⟩ := cRes_eq h
        unfold evRound2 at h2
        split at h2
        · split at h2
          · rename_i pd fr2 n2 ps2 as2 bd2 df2 hat2
            obtain ⟨e2, s2, h3, h4⟩ := cRes_eq h2
            unfold evRound3 at h4
            split at h4
            · rename_i st3 pd3 fr3 n3 ps3 as3 bd3 df3 hat3
              have key : ∀ A, wm ≤ h0.size → KeepH wm h0 (s2.h.put l A) := fun A hw =>
                (((code_keep HI h1 hw).trans (keep_put hwml (by rw [hat2]; rfl))).next hw (fun hw2 => code_keep HI h3 hw2)).trans (keep_put hwml (by rw [hat3]; rfl))
              split at h4 <;> first | (cases h4; exact ⟨_, _, rfl, key _⟩) | cases h4
            · cases h4
          · cases h2
        · cases h2
      · cases h
    · cases h
  | dcode c n wm pm s =>
    have plainD : ∀ (c : Code), evDplain ih c n wm pm s = some r → JobKeep (.dcode c n wm pm s) r := by
      intro c h
      obtain ⟨e1, s1, h1, h2⟩ := cRes_eq h
      cases h2
      exact ⟨_, _, _, rfl, fun hw => code_keep HI h1 hw⟩
    simp only [evF, evDcode] at h
    split at h
    · obtain ⟨e, pm1, s1, h1, h2⟩ := dRes_eq h
      cases e with
      | normal =>
        obtain ⟨e, pm2, s2, rfl, k⟩ := HI _ _ h2
        exact ⟨_, _, _, rfl, fun hw => (dcode_keep HI h1 hw).next hw k⟩
      | exit _ => cases h2; exact ⟨_, _, _, rfl, fun hw => dcode_keep HI h1 hw⟩
      | goto _ => cases h2; exact ⟨_, _, _, rfl, fun hw => dcode_keep HI h1 hw⟩
      | ret => cases h2; exact ⟨_, _, _, rfl, fun hw => dcode_keep HI h1 hw⟩
      | panic _ => cases h2; exact ⟨_, _, _, rfl, fun hw => dcode_keep HI h1 hw⟩
    · rename_i c a b
      split at h
      · rename_i t hc
        cases t with
        | true => exact HI (.dcode a n wm pm s) _ h
        | false => exact HI (.dcode b n wm pm s) _ h
      · cases h
    · rename_i id ops d
      cases hd : (!d && ops.toList.any isRecover) <;> rw [hd] at h <;> simp only [cond_true, cond_false] at h
      · exact plainD _ h
      · split at h
        · rename_i pm' s' hs
          cases h
          refine ⟨_, _, _, rfl, fun hw => ?_⟩
          have fin : ∀ {o : Oper} {p p' : PM} {t t' : Fs} {v : Value}, (match aput n t o.dst v with | some s => some (p, s) | none => none) = some (p', t') → t'.h = t.h := by
            intro o p p' t t' v hh
            split at hh
            · rename_i hp; cases hh; exact aput_keep hp
            · cases hh
          have one : ∀ (o : Oper) (p p' : PM) (t t' : Fs), dop C.X n wm ops.toList o p t = some (p', t') → wm ≤ t.h.size → KeepH wm t.h t'.h := by
            intro o p p' t t' h1 hw
            unfold dop at h1
            dsimp only at h1
            cases hok : okG ops.toList o t.fr <;> rw [hok] at h1 <;> simp only [Bool.not_false, Bool.not_true, cond_true, cond_false] at h1
            · cases h1
            cases hwt : awanted ops.toList o t.fr <;> rw [hwt] at h1 <;> simp only [cond_true, cond_false] at h1
            · rw [fin h1]; exact KeepH.refl _ _
            · split at h1
              · split at h1
                · rename_i nx E ha h2 hE
                  have k := keep_eff hw hE
                  split at h1
                  · rw [fin h1]; exact k
                  · rw [fin h1]; exact k
                  · split at h1
                    · rw [fin h1]; exact k
                    · rw [fin h1]; exact k
                  · cases h1
                · cases h1
              · cases h1
          have all : ∀ (l : List Oper) (p p' : PM) (t t' : Fs), dops C.X n wm ops.toList l p t = some (p', t') → wm ≤ t.h.size → KeepH wm t.h t'.h := by
            intro l
            induction l with
            | nil => intro p p' t t' h1 hw; cases h1; exact KeepH.refl _ _
            | cons o l ihl =>
              intro p p' t t' h1 hw
              simp only [dops] at h1
              split at h1
              · rename_i p1 t1 h2
                exact (one o p p1 t t1 h2 hw).next hw (ihl p1 p' t1 t' h1)
              · cases h1
          exact all _ _ _ _ _ hs hw
        · cases h
    · exact plainD _ h

theorem ev_keep {C : Cfg} (hd : DrawKeep C) : ∀ (n : Nat) (j : Job) (r : Res), ev C n j = some r → JobKeep j r := by
  intro n
  induction n with
  | zero => intro j r h; cases h
  | succ n ihn => intro j r h; exact evF_keep hd ihn j r h

end Go.Abs
