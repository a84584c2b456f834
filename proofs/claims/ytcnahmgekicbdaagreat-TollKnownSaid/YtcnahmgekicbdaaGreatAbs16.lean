/- The abstract interpreter, 16: calls, the way out of a function, deferred calls. -/
import Derived.Test.YtcnahmgekicbdaaGreatAbs15
noncomputable section
namespace Go.Abs
variable {ρ : Ren} {w : World} {X : Ctx} {ih : Job → Option Res}

/-! ### A function's frame, and its results -/
theorem frameOf_at : ∀ (vs : List Value) (i : Nat) (fr : Fr) (t : Nat), (frameOf vs i fr).at t = if i ≤ t ∧ t < i + vs.length then vs.getD (t - i) undef else fr.at t := by
  intro vs
  induction vs with
  | nil => intro i fr t; rw [if_neg (by simp)]; rfl
  | cons v vs ih =>
    intro i fr t
    rw [frameOf, ih]
    by_cases h1 : i + 1 ≤ t ∧ t < i + 1 + vs.length
    · rw [if_pos h1, if_pos (by simp; omega)]
      have : t - i = (t - (i + 1)) + 1 := by omega
      rw [this]; rfl
    · rw [if_neg h1]
      by_cases h2 : t = i
      · subst h2
        rw [if_pos (by simp)]
        simp [Fr.at, Tr.get_set]
      · rw [if_neg (by simp; omega)]
        simp [Fr.at, Tr.get_set, h2]

theorem Fr.at_nil (t : Nat) : Fr.at .nil t = undef := rfl

theorem frameOf_sound {args args' : Array Value} {n : Nat} (hv : VRs ρ args args') (hn : args.toList.length ≤ n) :
    FrR ρ (frameOf args.toList 0 .nil) n (args' ++ Array.replicate (n - args'.size) undef) := by
  have hs : args'.size = args.size := hv.1.symm
  rw [Array.length_toList] at hn
  refine ⟨by simp; omega, fun t _ => ?_⟩
  rw [frameOf_at]
  by_cases h : 0 ≤ t ∧ t < 0 + args.toList.length
  · rw [if_pos h]
    have h2 := h.2
    simp only [Array.length_toList, Nat.zero_add] at h2
    have e1 : args.toList.getD (t - 0) undef = args[t] := by simp [List.getD, h2]
    have e2 : (args' ++ Array.replicate (n - args'.size) undef).getD t undef = args'[t]'(by omega) := by
      rw [Array.getD_eq_getD_getElem?, Array.getElem?_append_left (by omega)]
      simp [show t < args'.size by omega]
    rw [e1, e2]
    exact hv.2 t _ _ (by simp [h2]) (by simp [show t < args'.size by omega])
  · rw [if_neg h]
    have h2 : args.size ≤ t := by simp at h; exact h
    have e2 : (args' ++ Array.replicate (n - args'.size) undef).getD t undef = undef := by
      rw [Array.getD_eq_getD_getElem?, Array.getElem?_append_right (by omega)]
      rcases Nat.lt_or_ge (t - args'.size) (n - args'.size) with h3 | h3
      · simp [h3]
      · rw [Array.getElem?_eq_none (by simpa using h3)]; rfl
    rw [e2, Fr.at_nil]
    exact VR.undef ρ

theorem loadVar_sound {P : Program} {h : H} {w : World} (r : Rel ρ h w) {t : TypeId} {a a' v : Value} (ha : VR ρ a a') (hl : aload P h t a = some v) :
    ∃ v', VR ρ v v' ∧ (do loadVar t (← asAddr a') : Sem Value).run P w = .ok v' w := by
  obtain ⟨v', q1, q2⟩ := load_sound r ha hl
  refine ⟨v', q1, ?_⟩
  unfold aload at hl
  split at hl
  · cases ha with
    | ptr o hi =>
      rw [run_loadAt] at q2
      simpa [Sem.run_bind, asAddr] using q2
  · cases hl

def resOf (tmps : Array Value) : ResultVar → Sem Value
  | .tmp t => pure (tmps.getD t undef)
  | .cell a t => do loadVar t (← asAddr (tmps.getD a undef))

theorem ares_sound {P : Program} {h : H} {w : World} (r : Rel ρ h w) {fr : Fr} {n : Nat} {tmps : Array Value} (hf : FrR ρ fr n tmps) : ∀ (rs : List ResultVar) (vs : List Value), ares P fr h rs = some vs →
    ∃ vs', LR ρ vs vs' ∧ (rs.mapM (m := Sem) (resOf tmps)).run P w = .ok vs' w := by
  intro rs
  induction rs with
  | nil =>
    intro vs h1
    cases h1
    exact ⟨[], LR.nil, by simp⟩
  | cons x rs ihr =>
    intro vs h1
    simp only [ares] at h1
    split at h1
    · rename_i v vs1 e1 e2
      cases h1
      obtain ⟨vs', q1, q2⟩ := ihr _ e2
      have : ∃ v', VR ρ v v' ∧ (resOf tmps x).run P w = .ok v' w := by
        cases x with
        | tmp t =>
          simp only [ares1] at e1
          cases hany : isAny (fr.at t) <;> rw [hany] at e1 <;> simp only [cond_true, cond_false] at e1
          · cases e1; exact ⟨_, hf.val t hany, rfl⟩
          · cases e1
        | cell a t =>
          have hany : isAny (fr.at a) = false := by
            simp only [ares1] at e1
            unfold aload at e1
            split at e1
            · rename_i hh; rw [hh]; rfl
            · cases e1
          exact loadVar_sound r (hf.val a hany) e1
      obtain ⟨v', p1, p2⟩ := this
      refine ⟨v' :: vs', LR.cons p1 q1, ?_⟩
      rw [List.mapM_cons]
      simp only [Sem.run_bind, p2, Result.andThen_ok, q2, Sem.run_pure]
    · cases h1

theorem aresult_sound {P : Program} {fn : Func} {h : H} {w : World} (r : Rel ρ h w) {fr : Fr} {n : Nat} {tmps : Array Value} (hf : FrR ρ fr n tmps) {v : Value} (ha : aresult P fn fr h = some v) :
    ∃ v', VR ρ v v' ∧ (results fn tmps).run P w = .ok v' w := by
  unfold aresult at ha
  have key : ∀ vs, ares P fr h fn.results.toList = some vs → ∃ vs', LR ρ vs vs' ∧ (results fn tmps).run P w = .ok (if h : vs'.toArray.size = 1 then vs'.toArray[0] else .tuple vs'.toArray) w := by
    intro vs hvs
    obtain ⟨vs', q1, q2⟩ := ares_sound (P := P) r hf _ _ hvs
    refine ⟨vs', q1, ?_⟩
    have e : results fn tmps = (do let vs ← fn.results.mapM (resOf tmps); pure (if h : vs.size = 1 then vs[0] else .tuple vs) : Sem Value) := rfl
    rw [e, ← Array.toArray_toList (xs := fn.results), List.mapM_toArray]
    simp only [Sem.run_bind, Sem.run_map, q2, Result.andThen_ok, Sem.run_pure]
  split at ha
  · rename_i x hx
    cases ha
    obtain ⟨vs', q1, q2⟩ := key _ hx
    obtain ⟨y, rfl, hy⟩ := LR.one q1
    exact ⟨y, hy, by rw [q2]; simp⟩
  · rename_i vs hno hx
    cases ha
    obtain ⟨vs', q1, q2⟩ := key _ hx
    have hl : vs.length ≠ 1 := by
      intro hh
      match vs, hh with
      | [x], _ => exact hno x rfl
    refine ⟨.tuple vs'.toArray, .tuple _ _ q1.arr.1 q1.arr.2, ?_⟩
    rw [q2, dif_neg]
    simp only [List.size_toArray]
    rw [← q1.1]; exact hl
  · cases ha

/-! ### The way out -/
theorem CallsDIn.mono' {F : Fence} {n : Nat} {P : Program} {f : FuncId} {args : Array Value} {u : FrameMode} {w : World} {R R' : Ending → FrameMode → World → Prop} (h : CallsDIn F n P f args u w R)
    (hr : ∀ e u w, R e u w → R' e u w) : CallsDIn F n P f args u w R' :=
  ⟨h.1, fun c cs hc hroom => let ⟨e, u', w', fr, q, r⟩ := h.2 c cs hc hroom; ⟨e, u', w', fr, hr _ _ _ q, r⟩⟩

theorem PmR.settle {p : PM} {u : FrameMode} (h : PmR ρ p u) : PmR ρ (settleA p) (settle u) := by
  cases h with
  | ret => exact .ret
  | pan h => exact .pan h
  | rcv h => exact .ret
theorem DsR.nil_eq {ds : List Deferred} (h : DsR ρ [] ds) : ds = [] := by cases h; rfl
theorem PmR.not_run {p : PM} {u : FrameMode} (h : PmR ρ p u) : u ≠ .run := by cases h <;> simp

section
variable {C : Cfg} (HI : ∀ j r, ih j = some r → JobOK C.X j r)
include HI

theorem evLeave_sound {fn : Func} {wm : Nat} {pm : PM} {s : Fs} {r : Res} (h : evLeave C ih fn wm pm s = some r) : JobOK C.X (.leave fn wm pm s) r := by
  unfold evLeave at h
  split at h
  · rename_i hds
    have hd : ∀ {ρ n a w}, Inv ρ n s a w → a.defers = [] := fun hi => by
      have := hi.ds
      rw [hds] at this
      exact this.nil_eq
    split at h
    · split at h
      · rename_i v hv
        cases h
        intro ρ n a u w R hwm hi hpm hR
        cases hpm
        obtain ⟨v', q1, q2⟩ := aresult_sound hi.rel hi.fr hv
        rw [hd hi]
        exact ⟨v', q2, hR _ _ ⟨ρ, .ret q1, hi.rel, Stp.refl _ _ _ _⟩⟩
      · cases h
    · rename_i v
      cases h
      intro ρ n a u w R hwm hi hpm hR
      cases hpm with
      | pan hv =>
        rw [hd hi]
        exact hR _ _ ⟨ρ, .pan hv, hi.rel, Stp.refl _ _ _ _⟩
    · cases h
  · rename_i d ds hds
    split at h
    · rename_i r0 htar
      split at h
      · rename_i hat
        cases hb : Nat.ble wm r0 <;> rw [hb] at h <;> simp only [cond_true, cond_false] at h
        · cases h
        · have hr0 := Nat.le_of_ble_eq_true hb
          have hj := HI _ _ h
          cases r with
          | fin e h' =>
            intro ρ n a u w R hwm hi hpm hR
            have hdd := hi.ds
            rw [hds] at hdd
            generalize hx : a.defers = x at hdd
            cases hdd with
            | cons hdf _ => obtain ⟨⟨f, c, c', e1, _⟩, _⟩ := hdf; rw [htar] at e1; cases e1
            | @mark rr r' _ ds' hm ht =>
              simp only at htar
              cases htar
              have ho := hi.rel.obj _ _ _ hm
              rw [hat] at ho
              obtain ⟨_, ho⟩ := ho
              have hlt := (hi.rel.dom _ _ _ hm).2
              obtain ⟨q1, q2⟩ := rel_upd (wm := wm) (A := .dead) (w' := w.putObj r' (.deferred none)) hi.rel hr0 (by rw [hat]; rfl) ⟨rfl, rfl, rfl⟩ hm World.putObj_size (fun k hk => World.putObj_heap_other hk) trivial
              refine ⟨hpm.not_run, .inl ⟨r', _, rfl, run_takeDeferred ho, ?_⟩⟩
              have hi2 : Inv ρ n { s with ds := ds, h := s.h.put r0 .dead } { a with defers := ds' } (w.putObj r' (.deferred none)) := ⟨q1, hi.fr, ht⟩
              exact hj ρ n _ u _ R hwm hi2 hpm (fun e' w' hp => hR _ _ (PostF.trans hi.rel.lt q2 hp))
          | code e h' => exact hj.elim
          | dfin e h' => exact hj.elim
          | dcode e h' _ => exact hj.elim
      · cases h
    · rename_i f cap htar
      split at h
      · rename_i fnn hfn
        split at h
        · rename_i pm' h' hc
          have hj := HI _ _ h
          have hcj := HI _ _ hc
          cases r with
          | fin e h2 =>
            intro ρ n a u w R hwm hi hpm hR
            have hdd := hi.ds
            rw [hds] at hdd
            generalize hx : a.defers = x at hdd
            cases hdd with
            | @cons _ d' _ ds' hdf ht =>
              obtain ⟨⟨f1, c1, c1', e1, e2, hv⟩, hargs⟩ := hdf
              rw [htar] at e1
              cases e1
              have hargs' : VRs ρ (d.args.toList ++ cap.toList).toArray (d'.args ++ c1') := by
                have := ((VRs.list hargs).append (VRs.list hv)).arr
                have e : (d'.args.toList ++ c1'.toList).toArray = d'.args ++ c1' := by apply Array.toList_inj.1; simp
                rwa [e] at this
              refine ⟨hpm.not_run, .inr ⟨fun hh => (by cases hh), .func f, c1', f, d'.args ++ c1', e2, ?_, fun _ _ => trivial, ?_⟩⟩
              · rw [e2, ← run_callFunc (w := w) (args := d'.args ++ c1') hfn]
                simp [invoke]
              · refine CallsDIn.mono' (hcj ρ _ u w hwm hi.rel hargs' hpm) ?_
                rintro e3 u3 w3 ⟨v, rfl, ρ3, p1, p2, p3⟩
                have hi2 : Inv ρ3 n { s with ds := ds, h := h' } { a with defers := ds' } w3 := ⟨p2, hi.fr.mono p3.ext, ht.mono p3.ext⟩
                exact hj ρ3 n _ _ _ R (Nat.le_trans hwm p3.size) hi2 p1.settle (fun e' w' hp => hR _ _ (PostF.trans hi.rel.lt p3 hp))
            | mark hm ht => cases htar
          | code e h' => exact hj.elim
          | dfin e h' => exact hj.elim
          | dcode e h' _ => exact hj.elim
        · cases h
      · cases h
    · cases h

theorem evCall_sound {f : FuncId} {args : Array Value} {wm : Nat} {h : H} {r : Res} (hc : evCall C ih f args wm h = some r) : JobOK C.X (.call f args wm h) r := by
  unfold evCall at hc
  split at hc
  · rename_i fn hfn
    split at hc
    · rename_i c hb
      cases hn : Nat.ble args.toList.length fn.ntmps <;> rw [hn] at hc <;> simp only [cond_true, cond_false] at hc
      · cases hc
      · obtain ⟨e, s1, ha, hk⟩ := cRes_eq hc
        obtain ⟨_, _, e0, ka⟩ := code_iff.1 (HI _ _ ha)
        cases e0
        split at hk
        · rename_i pm hpm
          have hj := HI _ _ hk
          cases r with
          | fin e2 h2 =>
            intro ρ args' w hwm hr hv
            have hi : Inv ρ fn.ntmps { fr := frameOf args.toList 0 .nil, ds := [], h := h } { tmps := args' ++ Array.replicate (fn.ntmps - args'.size) undef, defers := [] } w :=
              ⟨hr, frameOf_sound hv (Nat.le_of_ble_eq_true hn), .nil⟩
            refine callsIn_of_wp_marks (C.X.ok f fn hfn).1 hb trivial (wpIn_mono (ka ρ _ w Fence.wide hwm hi rfl) ?_)
            rintro e' a' w' ⟨ρ', he, hi', hst⟩
            cases he with
            | normal => cases hpm; exact hj ρ' _ a' .returning w' _ (Nat.le_trans hwm hst.size) hi' .ret (fun _ _ hp => PostF.trans hr.lt hst hp)
            | ret => cases hpm; exact hj ρ' _ a' .returning w' _ (Nat.le_trans hwm hst.size) hi' .ret (fun _ _ hp => PostF.trans hr.lt hst hp)
            | panic hv' => cases hpm; exact hj ρ' _ a' _ w' _ (Nat.le_trans hwm hst.size) hi' (.pan hv') (fun _ _ hp => PostF.trans hr.lt hst hp)
            | exit id => cases hpm
            | goto id => cases hpm
          | code e h' => exact hj.elim
          | dfin e h' => exact hj.elim
          | dcode e h' _ => exact hj.elim
        · cases hk
    · cases hc
  · cases hc

theorem evCallO_sound {f : FuncId} {args : Array Value} {wm : Nat} {h : H} {r : Res} (hc : evCallO C ih f args wm h = some r) : JobOK C.X (.call f args wm h) r := by
  unfold evCallO at hc
  split at hc
  · rename_i v hv
    obtain ⟨hp, hcalls⟩ := C.X.orcOK f v hv
    split at hc
    · rename_i ha
      cases hc
      intro ρ args' w hwm hr hvs
      have hargs : args' = #[] := by
        have h1 : args.size = 0 := by rw [← Array.length_toList, ha]; rfl
        have h2 := hvs.1
        exact Array.eq_empty_of_size_eq_zero (by omega)
      subst hargs
      refine (hcalls w).mono fun e w' ⟨he, hb⟩ => ?_
      subst he
      refine ⟨ρ, .ret (VR.plain_refl hp), ⟨fun i b d e => ?_, fun i b d e => ?_, hr.inj⟩, ⟨Ren.le_refl ρ, Nat.le_refl _, fun _ _ => rfl, fun _ _ x => x, fun _ _ x => x, hb.os, hb.tape, hb.output, hb.size, fun b hb' _ => hb.block b hb', fun i b d e e' => by rw [e] at e'; cases e'⟩⟩
      · obtain ⟨q1, q2⟩ := hr.dom i b d e
        exact ⟨q1, Nat.lt_of_lt_of_le q2 hb.size⟩
      · exact (hr.obj i b d e).world (hb.block b (hr.dom i b d e).2)
    · cases hc
  · exact evCall_sound HI hc


end

/-! ### Functions that were deferred -/
theorem wpSIn_mono {F : Fence} {n : Nat} {P : Program} {c : Code} {Q Q' : Exit → Act → List Frame → World → Prop} {a : Act} {cs : List Frame} {w : World} (h : c.wpSIn F n P Q a cs w)
    (hq : ∀ e a cs w, Q e a cs w → Q' e a cs w) : c.wpSIn F n P Q' a cs w :=
  fun b k h1 h2 h3 h4 => let ⟨e, a', cs', w', l, q, r⟩ := h b k h1 h2 h3 h4; ⟨e, a', cs', w', l, hq _ _ _ _ q, r⟩

def PostD (wm n : Nat) (c0 : Frame) (cs : List Frame) (ρ : Ren) (h : H) (w : World) (e : XX) (pm' : PM) (s' : Fs) : Exit → Act → List Frame → World → Prop := fun e' a' cs' w' =>
  ∃ ρ' u', cs' = { c0 with mode := u' } :: cs ∧ PmR ρ' pm' u' ∧ ExR ρ' e e' ∧ Inv ρ' n s' a' w' ∧ Stp wm ρ h w ρ' s'.h w'

theorem dops_sound {n wm : Nat} {ops : Array Oper} : ∀ (l : List Oper) (k : Nat), (∀ j, l[j]? = ops[k + j]?) → ∀ (pm pm' : PM) (s s' : Fs), dops X n wm ops.toList l pm s = some (pm', s') →
    ∀ {ρ : Ren} {c0 : Frame} {cs : List Frame} {a : Act} {w : World}, Inv ρ n s a w → wm ≤ s.h.size → PmR ρ pm c0.mode → ∀ (Q : Exit → Act → List Frame → World → Prop),
      (∀ ρ' u' a' w', PmR ρ' pm' u' → Inv ρ' n s' a' w' → Stp wm ρ s.h w ρ' s'.h w' → Q .normal a' ({ c0 with mode := u' } :: cs) w') →
      wpOpsSIn Fence.wide 0 X.P ops Q (List.range' k l.length) a (c0 :: cs) w := by
  intro l
  induction l with
  | nil =>
    intro k hl pm pm' s s' hs ρ c0 cs a w hi hwm hpm Q hQ
    cases hs
    exact hQ ρ c0.mode a w hpm hi (Stp.refl _ _ _ _)
  | cons o l ihl =>
    intro k hl pm pm' s s' hs ρ c0 cs a w hi hwm hpm Q hQ
    have h0 : ops[k]? = some o := by simpa using (hl 0).symm
    have hl' : ∀ j, l[j]? = ops[k + 1 + j]? := fun j => by have := hl (j + 1); simpa [Nat.add_assoc, Nat.add_comm 1 j] using this
    simp only [List.length_cons, List.range'_succ, wpOpsSIn, h0]
    simp only [dops] at hs
    split at hs
    · rename_i pm1 s1 hd
      refine ⟨fun _ _ => trivial, ?_⟩
      -- what is left, from a state on
      have go : ∀ {ρ1 : Ren} {u1 : FrameMode} {a1 : Act} {w1 : World}, Inv ρ1 n s1 a1 w1 → PmR ρ1 pm1 u1 → Stp wm ρ s.h w ρ1 s1.h w1 →
          wpOpsSIn Fence.wide 0 X.P ops Q (List.range' (k + 1) l.length) a1 ({ c0 with mode := u1 } :: cs) w1 := by
        intro ρ1 u1 a1 w1 h1 h2 h3
        refine ihl (k + 1) hl' pm1 pm' s1 s' hs (c0 := { c0 with mode := u1 }) h1 (Nat.le_trans hwm h3.size) h2 Q (fun ρ' u' a' w' q1 q2 q3 => ?_)
        exact hQ ρ' u' a' w' q1 q2 (h3.trans hi.rel.lt q3)
      unfold dop at hd
      dsimp only at hd
      cases hok : okG ops.toList o s.fr <;> rw [hok] at hd <;> simp only [Bool.not_false, Bool.not_true, cond_true, cond_false] at hd
      · cases hd
      rw [awanted_sound hi.fr ops o hok]
      cases hwt : awanted ops.toList o s.fr <;> rw [hwt] at hd <;> simp only [cond_true, cond_false] at hd
      · rw [if_neg (by simp)]
        split at hd
        · rename_i s2 hp2
          cases hd
          obtain ⟨q1, q2⟩ := aput_sound hi (VR.undef ρ) hp2
          have := go (u1 := c0.mode) q1 hpm (by rw [q2]; exact Stp.refl _ _ _ _)
          exact this
        · cases hd
      · rw [if_pos rfl]
        split at hd
        · rename_i nx E ha
          split at hd
          · rename_i h1 hE
            obtain ⟨ρ1, w1, p1, p2, p3⟩ := aop_sound hi.rel (aev_sound hi.fr) ha
            obtain ⟨r1, st1⟩ := Eff.sound hi.rel hwm p1 hE p2
            have hi1 := hi.step r1 st1
            split at hd
            · rename_i v
              obtain ⟨v', hv, hrun⟩ := p3
              rw [hrun]
              split at hd
              · rename_i s2 hp2
                cases hd
                obtain ⟨q1, q2⟩ := aput_sound hi1 hv hp2
                exact go (u1 := c0.mode) q1 (hpm.mono st1.ext) (by rw [q2]; exact st1)
              · cases hd
            · have hrun : (execOp a.eval o).run X.P w = .ok .skip w1 := p3
              rw [hrun]
              split at hd
              · rename_i s2 hp2
                cases hd
                obtain ⟨q1, q2⟩ := aput_sound hi1 (VR.undef _) hp2
                exact go (u1 := c0.mode) q1 (hpm.mono st1.ext) (by rw [q2]; exact st1)
              · cases hd
            · have hrun : (execOp a.eval o).run X.P w = .ok .recover w1 := p3
              rw [hrun]
              have hpm1 := hpm.mono st1.ext
              cases pm with
              | pan v =>
                simp only at hd
                generalize hm : c0.mode = m at hpm1
                cases hpm1 with
                | @pan _ v' hv =>
                  have hrec : recoverD (c0 :: cs) = some (v', { c0 with mode := .panicking [{ v := v', recovered := true }] } :: cs) := by
                    simp [recoverD, hm, chainOf]
                  simp only [hrec]
                  split at hd
                  · rename_i s2 hp2
                    cases hd
                    obtain ⟨q1, q2⟩ := aput_sound hi1 hv hp2
                    exact go q1 (.rcv hv) (by rw [q2]; exact st1)
                  · cases hd
              | ret =>
                simp only at hd
                generalize hm : c0.mode = m at hpm1
                cases hpm1
                have hrec : recoverD (c0 :: cs) = none := by simp [recoverD, hm]
                simp only [hrec]
                split at hd
                · rename_i s2 hp2
                  cases hd
                  obtain ⟨q1, q2⟩ := aput_sound hi1 (v := .nilIface) (v' := .nilIface) (VR.plain_refl rfl) hp2
                  exact go (u1 := c0.mode) q1 (by rw [hm]; exact .ret) (by rw [q2]; exact st1)
                · cases hd
              | rcv v =>
                simp only at hd
                generalize hm : c0.mode = m at hpm1
                cases hpm1 with
                | @rcv _ v' hv =>
                  have hrec : recoverD (c0 :: cs) = none := by simp [recoverD, hm]
                  simp only [hrec]
                  split at hd
                  · rename_i s2 hp2
                    cases hd
                    obtain ⟨q1, q2⟩ := aput_sound hi1 (v := .nilIface) (v' := .nilIface) (VR.plain_refl rfl) hp2
                    exact go (u1 := c0.mode) q1 (by rw [hm]; exact .rcv hv) (by rw [q2]; exact st1)
                  · cases hd
            · cases hd
          · cases hd
        · cases hd
    · cases hs

section
variable {C : Cfg} (HI : ∀ j r, ih j = some r → JobOK C.X j r)
include HI

theorem evDplain_sound {c : Code} {n wm : Nat} {pm : PM} {s : Fs} {r : Res} (h : evDplain ih c n wm pm s = some r) : DcodeOK C.X c n wm pm s r := by
  obtain ⟨e, s1, ha, hk⟩ := cRes_eq h
  obtain ⟨_, _, e0, ka⟩ := code_iff.1 (HI _ _ ha)
  cases e0
  cases hk
  refine ⟨e, pm, s1, rfl, fun ρ a c0 cs w hwm hi hpm => wpSIn_of_wpIn rfl (wpIn_mono (ka ρ a w Fence.wide hwm hi rfl) ?_)⟩
  rintro e' a' w' ⟨ρ', he, hi', hst⟩
  exact ⟨ρ', c0.mode, rfl, hpm.mono hst.ext, he, hi', hst⟩

theorem evDcode_sound {c : Code} {n wm : Nat} {pm : PM} {s : Fs} {r : Res} (h : evDcode C ih c n wm pm s = some r) : DcodeOK C.X c n wm pm s r := by
  unfold evDcode at h
  split at h
  · rename_i a b
    obtain ⟨e, pm1, s1, ha, hk⟩ := dRes_eq h
    obtain ⟨_, _, _, e0, ka⟩ := dcode_iff.1 (HI _ _ ha)
    cases e0
    have simple : ∀ {x : Exit}, (∀ ρ, ExR ρ e x → True) → True := fun _ => trivial
    cases e with
    | normal =>
      obtain ⟨e2, pm2, s2, rfl, kb⟩ := dcode_iff.1 (HI _ _ hk)
      refine ⟨e2, pm2, s2, rfl, fun ρ a c0 cs w hwm hi hpm => wpSIn_seq (wpSIn_mono (ka ρ a c0 cs w hwm hi hpm) ?_)⟩
      rintro e' a' cs' w' ⟨ρ', u', rfl, hp', he, hi', hst⟩
      cases he
      refine wpSIn_mono (kb ρ' a' { c0 with mode := u' } cs w' (Nat.le_trans hwm hst.size) hi' hp') ?_
      rintro e3 a3 cs3 w3 ⟨ρ3, u3, rfl, q1, q2, q3, q4⟩
      exact ⟨ρ3, u3, rfl, q1, q2, q3, hst.trans hi.rel.lt q4⟩
    | exit id =>
      cases hk
      refine ⟨_, _, _, rfl, fun ρ a c0 cs w hwm hi hpm => wpSIn_seq (wpSIn_mono (ka ρ a c0 cs w hwm hi hpm) ?_)⟩
      rintro e' a' cs' w' ⟨ρ', u', rfl, hp', he, hi', hst⟩
      cases he
      exact ⟨ρ', u', rfl, hp', .exit id, hi', hst⟩
    | goto id =>
      cases hk
      refine ⟨_, _, _, rfl, fun ρ a c0 cs w hwm hi hpm => wpSIn_seq (wpSIn_mono (ka ρ a c0 cs w hwm hi hpm) ?_)⟩
      rintro e' a' cs' w' ⟨ρ', u', rfl, hp', he, hi', hst⟩
      cases he
      exact ⟨ρ', u', rfl, hp', .goto id, hi', hst⟩
    | ret =>
      cases hk
      refine ⟨_, _, _, rfl, fun ρ a c0 cs w hwm hi hpm => wpSIn_seq (wpSIn_mono (ka ρ a c0 cs w hwm hi hpm) ?_)⟩
      rintro e' a' cs' w' ⟨ρ', u', rfl, hp', he, hi', hst⟩
      cases he
      exact ⟨ρ', u', rfl, hp', .ret, hi', hst⟩
    | panic v =>
      cases hk
      refine ⟨_, _, _, rfl, fun ρ a c0 cs w hwm hi hpm => wpSIn_seq (wpSIn_mono (ka ρ a c0 cs w hwm hi hpm) ?_)⟩
      rintro e' a' cs' w' ⟨ρ', u', rfl, hp', he, hi', hst⟩
      cases he with
      | panic hv => exact ⟨ρ', u', rfl, hp', .panic hv, hi', hst⟩
  · rename_i c a b
    split at h
    · rename_i t hc
      have : DcodeOK C.X (if t then a else b) n wm pm s r := by
        cases t with
        | true => exact dcode_iff.1 (HI _ _ h)
        | false => exact dcode_iff.1 (HI _ _ h)
      obtain ⟨e, pm', s', rfl, k⟩ := this
      refine ⟨e, pm', s', rfl, fun ρ a' c0 cs w hwm hi hpm => ?_⟩
      have hv := aev_sound hi.fr _ _ hc
      generalize hx : a'.eval c = x at hv
      cases hv
      exact wpSIn_cond hx (k ρ a' c0 cs w hwm hi hpm)
    · cases h
  · rename_i id ops d
    cases hd : (!d && ops.toList.any isRecover) <;> rw [hd] at h <;> simp only [cond_true, cond_false] at h
    · exact evDplain_sound HI h
    · split at h
      · rename_i pm' s' hs
        cases h
        have : d = false := by simp at hd; exact hd.1
        subst this
        refine ⟨.normal, pm', s', rfl, fun ρ a c0 cs w hwm hi hpm => wpSIn_region ?_⟩
        rw [List.range_eq_range', ← Array.length_toList]
        exact dops_sound ops.toList 0 (by simp) pm pm' s s' hs hi hwm hpm _ (fun ρ' u' a' w' q1 q2 q3 => ⟨ρ', u', rfl, q1, .normal, q2, q3⟩)
      · cases h
  · exact evDplain_sound HI h

theorem evDcall_sound {f : FuncId} {args : Array Value} {pm : PM} {wm : Nat} {h : H} {r : Res} (hc : evDcall C ih f args pm wm h = some r) : JobOK C.X (.dcall f args pm wm h) r := by
  unfold evDcall at hc
  split at hc
  · rename_i fn hfn
    split at hc
    · rename_i c hb
      cases hn : Nat.ble args.toList.length fn.ntmps <;> rw [hn] at hc <;> simp only [cond_true, cond_false] at hc
      · cases hc
      · obtain ⟨e, pm1, s1, ha, hk⟩ := dRes_eq hc
        obtain ⟨_, _, _, e0, ka⟩ := dcode_iff.1 (HI _ _ ha)
        cases e0
        have key : ∀ v, s1.ds = [] → (e = .normal ∨ e = .ret) → aresult C.X.P fn s1.fr s1.h = some v → JobOK C.X (.dcall f args pm wm h) (.dfin pm1 s1.h) := by
          intro v hds he hv ρ args' u w hwm hr hva hpm
          have hi : Inv ρ fn.ntmps { fr := frameOf args.toList 0 .nil, ds := [], h := h } { tmps := args' ++ Array.replicate (fn.ntmps - args'.size) undef, defers := [] } w :=
            ⟨hr, frameOf_sound hva (Nat.le_of_ble_eq_true hn), .nil⟩
          refine callsDIn_of_wpSIn (C.X.ok f fn hfn).1 hb trivial fun c0 cs hm => wpSIn_mono (ka ρ _ c0 cs w hwm hi (by rw [hm]; exact hpm)) ?_
          rintro e' a' cs' w' ⟨ρ', u', rfl, hp', he', hi', hst⟩
          have hd : a'.defers = [] := by
            have := hi'.ds
            rw [hds] at this
            exact this.nil_eq
          obtain ⟨v', q1, q2⟩ := aresult_sound hi'.rel hi'.fr hv
          rcases he with rfl | rfl
          · cases he'; exact ⟨hd, u', rfl, v', q2, v', rfl, ρ', hp', hi'.rel, hst⟩
          · cases he'; exact ⟨hd, u', rfl, v', q2, v', rfl, ρ', hp', hi'.rel, hst⟩
        split at hk
        · rename_i hds hv; cases hk; exact key _ hds (.inl rfl) hv
        · rename_i hds hv; cases hk; exact key _ hds (.inr rfl) hv
        · cases hk
    · cases hc
  · cases hc
end
end Go.Abs
