/- The abstract interpreter, 17: ranges over functions, rounds, and the whole. -/
import Derived.Test.YtcnahmgekicbdaaGreatAbs16
noncomputable section
namespace Go.Abs
variable {ρ : Ren} {w : World} {X : Ctx} {ih : Job → Option Res}

theorem run_enterLoop_inner {P : Program} (fn : FuncId) (tmps : Array Value) (ps : Array Tmp) (assign body : Code) {l : Nat} {r : Loop} (h : w.heap[l]? = some (.loop r)) :
    (Instr.enterLoop fn tmps ps assign body (some l)).run P w =
      .ok (w.heap.size, []) (w.alloc (.loop { state := .ready, pending := none, fn, tmps, params := ps, assign, body, defers := r.defers })) := by
  unfold Instr.enterLoop
  simp only [Sem.run_bind, run_getLoop h, run_newObj_alloc, Result.andThen, Sem.run_pure]

theorem alloc_push (w : World) (o : Obj) : (w.alloc o).heap = w.heap.push o := rfl
theorem alloc_same (w : World) (o : Obj) : Same w (w.alloc o) := ⟨rfl, rfl, rfl⟩
theorem putObj_same (w : World) (r : Nat) (o : Obj) : Same w (w.putObj r o) := ⟨rfl, rfl, rfl⟩

theorem setParams_sound {n : Nat} : ∀ (ps : List Tmp) (vs vs' : List Value) (fr fr1 : Fr) (tmps : Array Value), LR ρ vs vs' → FrR ρ fr n tmps → setParams (ps.zip vs) n fr = some fr1 →
    FrR ρ fr1 n ((ps.zip vs').foldl (fun tmps (t, a) => tmps.setIfInBounds t a) tmps) := by
  intro ps
  induction ps with
  | nil => intro vs vs' fr fr1 tmps hv hf h; simp [setParams] at h; subst h; simpa using hf
  | cons p ps ih =>
    intro vs vs' fr fr1 tmps hv hf h
    match vs, vs', hv with
    | [], [], _ => simp [setParams] at h; subst h; simpa using hf
    | [], _ :: _, hv => exact absurd hv.1 (by simp)
    | _ :: _, [], hv => exact absurd hv.1 (by simp)
    | v :: vs, v' :: vs', hv =>
      simp only [List.zip_cons_cons, setParams] at h
      cases hb : Nat.blt p n <;> rw [hb] at h <;> simp only [cond_true, cond_false] at h
      · cases h
      · rw [Nat.blt_eq] at hb
        simp only [List.zip_cons_cons, List.foldl_cons]
        have h1 : VR ρ v v' := hv.2 0 v v' rfl rfl
        have h2 : LR ρ vs vs' := ⟨by simpa using hv.1, fun i x x' a b => hv.2 (i + 1) x x' (by simpa using a) (by simpa using b)⟩
        exact ih vs vs' _ fr1 _ h2 (hf.set hb h1) h

theorem round_put {wm : Nat} {h : H} {w : World} {l l' : Nat} {st st2 : LoopState} {pd pd2 : Option Code} {fr : Fr} {n : Nat} {ps : Array Tmp} {as bd : Code} {df : Nat} (r : Rel ρ h w) (hl : ρ l = some (l', 0)) (hwm : wm ≤ l)
    (hat : h.at l = .loop st pd fr n ps as bd df) : ∃ k : Loop, w.heap[l']? = some (.loop k) ∧ k.state = st ∧ k.pending = pd ∧ k.params = ps ∧ k.assign = as ∧ k.body = bd ∧ FrR ρ fr n k.tmps ∧
      Rel ρ (h.put l (.loop st2 pd2 fr n ps as bd df)) (w.putObj l' (.loop { k with state := st2, pending := pd2 })) ∧
      Stp wm ρ h w ρ (h.put l (.loop st2 pd2 fr n ps as bd df)) (w.putObj l' (.loop { k with state := st2, pending := pd2 })) := by
  have ho := r.obj _ _ _ hl
  rw [hat] at ho
  obtain ⟨_, fn, tmps, df', hw, hfr, hdf⟩ := ho
  have hlt := (r.dom _ _ _ hl).2
  refine ⟨_, hw, rfl, rfl, rfl, rfl, rfl, hfr, ?_⟩
  refine rel_upd r hwm (by rw [hat]; rfl) (putObj_same _ _ _) hl World.putObj_size (fun k hk => World.putObj_heap_other hk) ?_
  exact ⟨rfl, fn, tmps, df', World.putObj_heap_same hlt, hfr, hdf⟩

section
variable {C : Cfg} (HI : ∀ j r, ih j = some r → JobOK C.X j r)
include HI

theorem evRange1_sound {g : Operand} {n wm : Nat} {rd : Option Nat} {l : Nat} {s0 s : Fs} {ps : Array Tmp} {as bd : Code} {r : Res} (hfr0 : s.fr = s0.fr) (h : evRange1 C ih g n wm rd l s = some r) (hwml : ∀ ρ w, Rel ρ s0.h w → wm ≤ s0.h.size → wm ≤ l)
    (henter : ∀ ρ a w F, Inv ρ n s0 a w → wm ≤ s0.h.size → FR' ρ rd F → ∀ fn, ∃ l' mark w₁ ρ1, (Instr.enterLoop fn a.tmps ps as bd F.round).run C.X.P w = .ok (l', mark) w₁ ∧ ρ1 l = some (l', 0) ∧
      Inv ρ1 n s { a with defers := mark ++ a.defers } w₁ ∧ Stp wm ρ s0.h w ρ1 s.h w₁) :
    CodeOK C.X (.rangeFunc g ps as bd) n wm rd s0 r := by
  unfold evRange1 at h
  split at h
  · rename_i gv hg
    split at h
    · rename_i f args hcall
      have hfn : ∃ g1 first cap fn, gv = .func (.func g1) first cap ∧ C.X.fns.get g1 = some fn ∧ f = g1 ∧ args = (first.toList ++ [Value.func (.yield l) #[] #[]] ++ cap.toList).toArray := by
        unfold acall at hcall
        split at hcall
        · split at hcall
          · rename_i fnn hfnn
            cases hcall
            exact ⟨_, _, _, _, rfl, hfnn, rfl, rfl⟩
          · cases hcall
        · split at hcall
          · exfalso
            revert hcall
            generalize Nat.beq _ _ = b
            cases b <;> simp
          · cases hcall
        · cases hcall
      obtain ⟨g1, first, cap, fnn, rfl, hfnn, rfl, rfl⟩ := hfn
      have hres : ∃ e s', r = .code e s' := by
        unfold evRanged at h
        split at h
        · split at h
          · rename_i st pd fr n' ps' as' bd' df hat
            cases hst : (st == .busy) <;> rw [hst] at h <;> simp only [cond_true, cond_false] at h
            · split at h
              · cases h; exact ⟨_, _, rfl⟩
              · obtain ⟨e, s', e1, _⟩ := code_iff.1 (HI _ _ h); exact ⟨e, s', e1⟩
            · cases h
          · cases h
        · cases h; exact ⟨_, _, rfl⟩
        · cases h
      obtain ⟨e, s', rfl⟩ := hres
      refine ⟨e, s', rfl, fun ρ a w F hwm hi hF => wpIn_rangeFunc fun fn _ => ?_⟩
      obtain ⟨l', mark, w₁, ρ1, he, hl1, hi1, st1⟩ := henter ρ a w F hi hwm hF fn
      have hgv : VR ρ1 (.func (.func f) first cap) (a.eval g) := by
        have := aev_sound hi.fr _ _ (by rw [hfr0] at hg; exact hg)
        exact this.mono st1.ext
      generalize hgx : a.eval g = gx at hgv
      cases hgv with
      | func _ _ _ first' cap' hy hx1 hx2 h1 h2 =>
        have hv : VRs ρ1 (first.toList ++ [Value.func (.yield l) #[] #[]] ++ cap.toList).toArray (first' ++ #[Value.func (.yield l') #[] #[]] ++ cap') := by
          have e1 : LR ρ1 first.toList first'.toList := VRs.list ⟨hx1, h1⟩
          have e2 : LR ρ1 cap.toList cap'.toList := VRs.list ⟨hx2, h2⟩
          have e3 : LR ρ1 [.func (.yield l) #[] #[]] [.func (.yield l') #[] #[]] := LR.cons (.yield hl1) LR.nil
          have := ((e1.append e3).append e2).arr
          have e : (first'.toList ++ [Value.func (.yield l') #[] #[]] ++ cap'.toList).toArray = first' ++ #[Value.func (.yield l') #[] #[]] ++ cap' := by apply Array.toList_inj.1; simp
          rwa [e] at this
        refine ⟨l', mark, w₁, { target := .fn (.func f) cap', args := first' ++ #[Value.func (.yield l') #[] #[]] }, w₁, f, first' ++ #[Value.func (.yield l') #[] #[]] ++ cap', w₁, he, ?_, fun f' _ => fence_fn hF f', ?_, fun hh => ?_, ?_⟩
        · have e : ∀ v, a.eval (.const v) = v := fun _ => rfl
          simp only [resolve, hgx, Deferred.ofValue]
          simp [e]
        · rw [← run_callFunc (w := w₁) (args := first' ++ #[Value.func (.yield l') #[] #[]] ++ cap') hfnn]
          simp [invoke]
        · rw [fence_depth hF] at hh; cases hh
        · unfold evRanged at h
          split at h
          · rename_i rv h2 hc
            have hcj := HI _ _ hc
            have hwm1 := Nat.le_trans hwm st1.size
            refine (fence_calls hF (hcj ρ1 _ w₁ hwm1 hi1.rel hv)).mono ?_
            rintro e2 w2 ⟨ρ2, he2, hr2, hst2⟩
            cases he2 with
            | ret hv2 =>
              split at h
              · rename_i st pd fr n' ps' as' bd' df hat
                cases hst : (st == .busy) <;> rw [hst] at h <;> simp only [cond_true, cond_false] at h
                · have hl2 := (hst2.ext _ _ hl1).1
                  obtain ⟨k, k1, k2, k3, k4, k5, k6, k7, k8, k9⟩ := round_put (st2 := .exhausted) (pd2 := pd) (wm := wm) hr2 hl2 (hwml ρ w hi.rel hwm) hat
                  have hend : (Instr.endLoop l').run C.X.P w2 = .ok pd (w2.putObj l' (.loop { k with state := .exhausted, pending := pd })) := by
                    rw [run_endLoop k1 (by rw [k2]; intro hb; rw [hb] at hst; cases hst), ← k3]
                  have hi2 : Inv ρ2 n { s with h := h2.put l (.loop .exhausted pd fr n' ps' as' bd' df) } { a with defers := mark ++ a.defers } (w2.putObj l' (.loop { k with state := .exhausted, pending := pd })) :=
                    ⟨k8, hi1.fr.mono hst2.ext, hi1.ds.mono hst2.ext⟩
                  have hstt := (st1.trans hi.rel.lt hst2).trans hi.rel.lt k9
                  refine ⟨pd, _, hend, ?_⟩
                  cases pd with
                  | none =>
                    cases h
                    exact ⟨ρ2, .normal, hi2, hstt⟩
                  | some c =>
                    obtain ⟨_, _, e1, kc⟩ := code_iff.1 (HI _ _ h)
                    cases e1
                    exact wpIn_mono (kc ρ2 _ _ F (Nat.le_trans hwm hstt.size) hi2 (hF.mono hstt.ext)) fun _ _ _ hp => PostC.trans hi.rel.lt hstt hp
                · cases h
              · cases h
          · rename_i v h2 hc
            cases h
            have hcj := HI _ _ hc
            have hwm1 := Nat.le_trans hwm st1.size
            refine (fence_calls hF (hcj ρ1 _ w₁ hwm1 hi1.rel hv)).mono ?_
            rintro e2 w2 ⟨ρ2, he2, hr2, hst2⟩
            cases he2 with
            | pan hv2 => exact ⟨ρ2, .panic hv2, ⟨hr2, hi1.fr.mono hst2.ext, hi1.ds.mono hst2.ext⟩, st1.trans hi.rel.lt hst2⟩
          · cases h
    · cases h
  · cases h

theorem evRange_sound {g : Operand} {ps : Array Tmp} {as bd : Code} {n wm : Nat} {rd : Option Nat} {s : Fs} {r : Res} (h : evRange C ih g ps as bd n wm rd s = some r) : CodeOK C.X (.rangeFunc g ps as bd) n wm rd s r := by
  unfold evRange at h
  split at h
  · refine evRange1_sound HI (s0 := s) (by rfl) h (fun ρ w _ hw => by omega) fun ρ a w F hi hwm hF fn => ?_
    have hF0 : F = Fence.wide := hF
    subst hF0
    obtain ⟨p1, p2⟩ := rel_push (wm := wm) (A := .deferred) (o := .deferred (some [])) (l := (0, 0)) hi.rel hwm (alloc_same w _) (alloc_push w _) ⟨rfl, World.alloc_heap_new w _⟩
    have hdf := Ren.add_same ρ s.h.size (w.heap.size, 0) (0, 0)
    generalize hρ1 : ρ.add s.h.size (w.heap.size, 0) (0, 0) = ρ1 at p1 p2 hdf
    have hsz : (w.alloc (.deferred (some []))).heap.size = w.heap.size + 1 := by rw [alloc_push]; simp
    have hle : ρ1.le (ρ1.add (s.h.push .deferred).size ((w.alloc (.deferred (some []))).heap.size, 0) (0, 0)) := Ren.le_add p1.fresh
    obtain ⟨q1, q2⟩ := rel_push (wm := wm) (A := .loop .ready none s.fr n ps as bd s.h.size) (l := (0, 0))
      (o := .loop { state := .ready, pending := none, fn, tmps := a.tmps, params := ps, assign := as, body := bd, defers := w.heap.size }) p1 (Nat.le_trans hwm p2.size) (alloc_same _ _) (alloc_push _ _)
      ⟨rfl, fn, a.tmps, w.heap.size, World.alloc_heap_new _ _, (hi.fr.mono p2.ext).mono hle, (hle _ _ hdf).1⟩
    refine ⟨w.heap.size + 1, _, _, _, run_enterLoop_outer fn a.tmps ps as bd, ?_, ⟨q1, (hi.fr.mono p2.ext).mono hle, ?_⟩, p2.trans hi.rel.lt q2⟩
    · have := Ren.add_same ρ1 (s.h.push .deferred).size ((w.alloc (.deferred (some []))).heap.size, 0) (0, 0)
      rw [hsz] at this
      simpa [hsz] using this
    · exact .mark (hle _ _ hdf).1 ((hi.ds.mono p2.ext).mono hle)
  · rename_i l
    split at h
    · rename_i st pd fr n' ps' as' bd' df hat
      refine evRange1_sound HI (s0 := s) (by rfl) h (fun ρ w _ hw => hw) fun ρ a w F hi hwm hF fn => ?_
      obtain ⟨l', hl', rfl⟩ := hF
      have ho := hi.rel.obj _ _ _ hl'
      rw [hat] at ho
      obtain ⟨_, fn0, tmps0, df', hw, hfr, hdf⟩ := ho
      have hle : ρ.le (ρ.add s.h.size (w.heap.size, 0) (0, 0)) := Ren.le_add hi.rel.fresh
      obtain ⟨q1, q2⟩ := rel_push (wm := wm) (A := .loop .ready none s.fr n ps as bd df) (l := (0, 0))
        (o := .loop { state := .ready, pending := none, fn, tmps := a.tmps, params := ps, assign := as, body := bd, defers := df' }) hi.rel hwm (alloc_same _ _) (alloc_push _ _)
        ⟨rfl, fn, a.tmps, df', World.alloc_heap_new _ _, hi.fr.mono hle, (hle _ _ hdf).1⟩
      refine ⟨w.heap.size, [], _, _, run_enterLoop_inner fn a.tmps ps as bd hw, ?_, ⟨q1, hi.fr.mono hle, hi.ds.mono hle⟩, q2⟩
      exact Ren.add_same ρ s.h.size (w.heap.size, 0) (0, 0)
    · cases h

theorem evRound_sound {l : Nat} {args : Array Value} {wm : Nat} {h : H} {r : Res} (hc : evRound ih l args wm h = some r) : JobOK C.X (.round l args wm h) r := by
  unfold evRound at hc
  split at hc
  · rename_i st0 pd0 fr n ps as bd df0 hat
    cases hb : (Nat.ble wm l && Nat.beq args.toList.length ps.toList.length) <;> rw [hb] at hc <;> simp only [cond_true, cond_false] at hc
    · cases hc
    rw [Bool.and_eq_true] at hb
    have hwml := Nat.le_of_ble_eq_true hb.1
    split at hc
    · rename_i fr1 hset
      obtain ⟨e1, s1, ha, hk⟩ := cRes_eq hc
      obtain ⟨_, _, e0, ka⟩ := code_iff.1 (HI _ _ ha)
      cases e0
      unfold evRound2 at hk
      split at hk
      · split at hk
        · rename_i pd fr2 n2 ps2 as2 bd2 df2 hat2
          obtain ⟨e2, s2, hb2, hk2⟩ := cRes_eq hk
          obtain ⟨_, _, e0, kb⟩ := code_iff.1 (HI _ _ hb2)
          cases e0
          unfold evRound3 at hk2
          split at hk2
          · rename_i st3 pd3 fr3 n3 ps3 as3 bd3 df3 hat3
            have hfin : ∃ v h', r = .fin (.ret v) h' := by
              split at hk2 <;> first | (cases hk2; exact ⟨_, _, rfl⟩) | cases hk2
            obtain ⟨v, h', rfl⟩ := hfin
            intro ρ l' k args' w hwm hr hv hl hw
            have hkk : k.params = ps ∧ k.assign = as ∧ k.body = bd ∧ FrR ρ fr n k.tmps := by
              have ho := hr.obj _ _ _ hl
              rw [hat] at ho
              obtain ⟨_, fn0, tmps0, df', hw', hfr, hdf⟩ := ho
              rw [hw] at hw'
              cases hw'
              exact ⟨rfl, rfl, rfl, hfr⟩
            obtain ⟨rfl, rfl, rfl, hfr⟩ := hkk
            refine roundIn_of_wpIn trivial ?_
            have hi : Inv ρ n { fr := fr1, ds := [], h := h } { tmps := (k.params.zip args').foldl (fun tmps (t, a) => tmps.setIfInBounds t a) k.tmps, defers := [] } w := by
              refine ⟨hr, ?_, .nil⟩
              have := setParams_sound k.params.toList args.toList args'.toList fr fr1 k.tmps (VRs.list hv) hfr hset
              rw [← Array.foldl_toList, Array.toList_zip]
              exact this
            have hF : FR' ρ (some l) (Fence.wide.inRound l') := ⟨l', hl, rfl⟩
            refine wpIn_mono (ka ρ _ w _ hwm hi hF) ?_
            rintro x1 a1 w1 ⟨ρ1, he1, hi1, st1⟩
            cases he1
            have hl1 := (st1.ext _ _ hl).1
            obtain ⟨k1, q1, q2, q3, q4, q5, q6, q7, q8, q9⟩ := round_put (st2 := .busy) (pd2 := pd) (wm := wm) hi1.rel hl1 hwml hat2
            refine ⟨_, run_beginRound q1 q2, ?_⟩
            have hpend : ({ k1 with state := .busy } : Loop) = { k1 with state := .busy, pending := pd } := by rw [← q3]
            rw [hpend]
            have hi1' : Inv ρ1 n { s1 with h := s1.h.put l (.loop .busy pd fr2 n2 ps2 as2 bd2 df2) } a1 (w1.putObj l' (.loop { k1 with state := .busy, pending := pd })) := ⟨q8, hi1.fr, hi1.ds⟩
            have st1' := st1.trans hr.lt q9
            refine wpIn_mono (kb ρ1 _ _ _ (Nat.le_trans hwm st1'.size) hi1' ⟨l', hl1, rfl⟩) ?_
            rintro x2 a2 w2 ⟨ρ2, he2, hi2, st2⟩
            have hl2 := (st2.ext _ _ hl1).1
            have st2' := st1'.trans hr.lt st2
            have fin : ∀ (st4 : LoopState) (pd4 : Option Code) (b : Bool), v = .bool b → h' = s2.h.put l (.loop st4 pd4 fr3 n3 ps3 as3 bd3 df3) → b = pd4.isNone → st4 = (if pd4.isNone then .ready else .done) →
                ∃ v' w', (Instr.endRound l' pd4).run C.X.P w2 = .ok v' w' ∧ PostF wm ρ h w (.ret v) h' (.returned v') w' := by
              rintro st4 pd4 b rfl rfl rfl rfl
              obtain ⟨k2, r1, r2, r3, r4, r5, r6, r7, r8, r9⟩ := round_put (st2 := if pd4.isNone then .ready else .done) (pd2 := pd4) (wm := wm) hi2.rel hl2 hwml hat3
              exact ⟨_, _, run_endRound pd4 r1, ρ2, .ret (.bool _), r8, st2'.trans hr.lt r9⟩
            cases he2 with
            | normal => cases hk2; exact fin .ready none true rfl rfl rfl rfl
            | ret => cases hk2; exact fin .done (some .ret) false rfl rfl rfl rfl
            | exit id => cases hk2; exact fin .done (some (.exit id)) false rfl rfl rfl rfl
            | goto id => cases hk2; exact fin .done (some (.goto id)) false rfl rfl rfl rfl
            | panic hv => cases hk2
          · cases hk2
        · cases hk
      · cases hk
    · cases hc
  · cases hc

end

/-- What a way of going about a region that draws its order must keep. -/
def DrawOK (C : Cfg) (ih : Job → Option Res) : Prop := ∀ n wm rd (ops : Array Oper) s s', C.draw ih n wm rd ops.toList s = some s' →
  ∀ id ρ a w F, wm ≤ s.h.size → Inv ρ n s a w → FR' ρ rd F → (Code.region id ops true).wpIn F 0 C.X.P (PostC wm n ρ s.h w .normal s') a w

theorem evCode_sound {C : Cfg} (hdraw : DrawOK C ih) (HI : ∀ j r, ih j = some r → JobOK C.X j r) {c : Code} {n wm : Nat} {rd : Option Nat} {s : Fs} {r : Res} (h : evCode C ih c n wm rd s = some r) : CodeOK C.X c n wm rd s r := by
  cases c with
  | skip => cases h; exact ⟨_, _, rfl, fun ρ a w F hwm hi hF => wpIn_skip ⟨ρ, .normal, hi, Stp.refl _ _ _ _⟩⟩
  | label l => cases h; exact ⟨_, _, rfl, fun ρ a w F hwm hi hF => wpIn_label ⟨ρ, .normal, hi, Stp.refl _ _ _ _⟩⟩
  | ret => cases h; exact ⟨_, _, rfl, fun ρ a w F hwm hi hF => wpIn_ret ⟨ρ, .ret, hi, Stp.refl _ _ _ _⟩⟩
  | exit id => cases h; exact ⟨_, _, rfl, fun ρ a w F hwm hi hF => wpIn_exit ⟨ρ, .exit id, hi, Stp.refl _ _ _ _⟩⟩
  | goto l => cases h; exact ⟨_, _, rfl, fun ρ a w F hwm hi hF => wpIn_goto ⟨ρ, .goto l, hi, Stp.refl _ _ _ _⟩⟩
  | seq a b => exact evSeq_sound HI h
  | cond c a b => exact evCond_sound HI h
  | block id c => exact evBlock_sound HI h
  | scope c => exact evScope_sound HI h
  | rangeFunc g ps as bd => exact evRange_sound HI h
  | refuse _ => cases h
  | loop c =>
    obtain ⟨e, s', rfl, k⟩ := loop_iff.1 (HI _ _ h)
    exact ⟨e, s', rfl, fun ρ a w F hwm hi hF => wpIn_of_loopIn (k ρ a w F hwm hi hF)⟩
  | region id ops d =>
    cases d with
    | true =>
      simp only [evCode, cond_true, evDraw] at h
      split at h
      · rename_i s' hs
        cases h
        exact ⟨_, _, rfl, fun ρ a w F hwm hi hF => hdraw n wm rd ops s s' hs id ρ a w F hwm hi hF⟩
      · cases h
    | false =>
      simp only [evCode, cond_false, evRegion] at h
      split at h
      · rename_i e s' hs
        cases h
        exact ⟨_, _, rfl, fun ρ a w F hwm hi hF => wpIn_region_list (astep_wm HI _ ops.toList s s' e hs hi hwm hF (fun _ _ _ hp => hp))⟩
      · cases h

/-- What the rule for loops over maps must keep. -/
def MapOK (C : Cfg) (ih : Job → Option Res) : Prop := ∀ c n wm rd s r mi, mapIt c s = some mi → evMap C ih mi c n wm rd s = some r → LoopOK C.X c n wm rd s r

theorem evF_sound {C : Cfg} (hmap : MapOK C ih) (hdraw : DrawOK C ih) (HI : ∀ j r, ih j = some r → JobOK C.X j r) {j : Job} {r : Res} (h' : evF C ih j = some r) : JobOK C.X j r := by
  cases j with
  | code c n wm rd s => exact code_iff.2 (evCode_sound hdraw HI h')
  | loop c n wm rd s =>
    have h' : evLoopM C ih c n wm rd s = some r := h'
    unfold evLoopM at h'
    split at h'
    · rename_i mi hmi; exact loop_iff.2 (hmap c n wm rd s r mi hmi h')
    · exact loop_iff.2 (evLoop_sound HI h')
  | call f args wm h => exact evCallO_sound HI h'
  | round l args wm h => exact evRound_sound HI h'
  | dcall f args pm wm h => exact evDcall_sound HI h'
  | dcode c n wm pm s => exact dcode_iff.2 (evDcode_sound HI h')
  | leave fn wm pm s => exact evLeave_sound HI h'

end Go.Abs
