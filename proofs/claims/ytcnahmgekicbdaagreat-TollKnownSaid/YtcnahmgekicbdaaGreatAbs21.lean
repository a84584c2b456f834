/- The abstract interpreter, 21: one operation more, in whatever order. -/
import Derived.Test.YtcnahmgekicbdaaGreatAbs20
noncomputable section
namespace Go.Abs
namespace Data
variable {P : Program} {nn wm : Nat} {rd : Option Nat} {ops : Array Oper} {D : Data P nn wm rd ops}

theorem J.step {S : Nat → Prop} {ds : List Deferred} {ρ0 ρ : Ren} {w0 w : World} {a : Act} (j : D.J S ds ρ0 w0 ρ a w) (hc : Closed ops S) {i : Nat} {o : Oper} (ho : ops[i]? = some o) (hi : ¬ S i) (hhl : D.hl i = false) (hsoft : D.soft i = none)
    (hr : ∀ e ∈ o.after, Region.binds .any e = true → S e.on) {F : Fence} (hF : FR' ρ0 rd F) {S' : Nat → Prop} (hS : ∀ k, S' k ↔ S k ∨ k = i) {K : Act → World → Prop} {Q : Exit → Act → World → Prop}
    (hK : ∀ ρ' a' w', D.J S' ds ρ0 w0 ρ' a' w' → K a' w') :
    if Region.wanted o (yielded ops a.tmps) then o.wpIn F 0 P a w K Q else (∀ f, o.about P w a.eval = some f → F.fn f) ∧ K (a.put o.dst undef) w := by
  have him : i < ops.size := (Array.getElem?_eq_some_iff.1 ho).1
  have hsf : ∀ {x : Nat} (j : Nat), D.soft i ≠ some (x, j) := fun j z => by rw [hsoft] at z; cases z
  obtain ⟨h1, hstep, km, eh, ef⟩ := D.step i o ho
  have hsz := km.size
  rw [mask_size] at hsz
  have hn1 : D.n (i + 1) = h1.size := by unfold n; rw [eh, unmask_size]
  have hni : D.n i = (D.hs i).size := rfl
  have h0i := D.n_mono 0 i (by omega) (by omega)
  have hii := D.n_succ him
  -- the cut renaming stands for the masked heap
  have r1 : Rel (ρ.cut (D.n i)) (mask (D.Xs i) (D.hs i)) w := by
    refine ⟨fun x b d e => ?_, fun x b d e => ?_, fun x y b d d' e e' ho hl => ?_⟩
    · rw [Ren.cut_some] at e
      rw [mask_size]
      exact ⟨e.1, (j.dom x b d e.2).1⟩
    · rw [Ren.cut_some] at e
      rw [mask_at]
      by_cases hX : x ∈ D.Xs i
      · rw [if_pos hX]; trivial
      · rw [if_neg hX]
        obtain ⟨q1, q2⟩ := j.at_text hc ho hi hr e.2 e.1 hX hhl hsf
        rw [← q1]
        exact (j.obj x b d e.2).mono (Ren.cut_mono q2)
    · rw [Ren.cut_some] at e e'
      rw [mask_at] at ho hl
      by_cases hX : x ∈ D.Xs i
      · rw [if_pos hX] at ho; cases ho
      · by_cases hY : y ∈ D.Xs i
        · rw [if_pos hY] at hl; cases hl
        · rw [if_neg hX] at ho
          rw [if_neg hY] at hl
          rw [← (j.at_text hc ‹_› hi hr e.2 e.1 hX hhl hsf).1] at ho
          rw [← (j.at_text hc ‹_› hi hr e'.2 e'.1 hY hhl hsf).1] at hl
          exact j.inj x y b d d' e.2 e'.2 ho hl
  have hF1 : FR' (ρ.cut (D.n i)) rd F := by
    refine hF.mono fun x p e => ?_
    obtain ⟨e1, e2⟩ := j.ext x p e
    exact ⟨Ren.cut_some.2 ⟨by have := j.dom0 x p e; omega, e1⟩, e2⟩
  refine hstep (ρ.cut (D.n i)) a w F K Q r1 (by rw [mask_size]; have := D.size0; have e : D.n 0 = (D.hs 0).size := rfl; omega) (fun t ht hany => ?_) hF1 ?_
  · obtain ⟨q1, q2⟩ := J.tmp_text (D := D) hc ho hi hr ht
    rw [← q1] at hany ⊢
    exact (j.tmp t hany).mono (Ren.cut_mono q2)
  intro ρ2 v' w' hv r2 st0
  have st : StpM (D.M i) (ρ.cut (D.n i)) (mask (D.Xs i) (D.hs i)) w ρ2 w' := st0.weaken (fun x hx hm => ⟨hm, by rw [mask_size] at hx; exact hx⟩) r1.lt
  -- nothing was mapped where the operation lays
  have hfree : ∀ x, D.n i ≤ x → x < D.n (i + 1) → ρ x = none := by
    intro x h1 h2
    cases e : ρ x with
    | none => rfl
    | some p =>
      rcases (j.dom x p.1 p.2 e).2 with z | ⟨k, q1, q2, q3, q4⟩
      · omega
      · exfalso
        rcases Nat.lt_trichotomy k i with z | z | z
        · have := D.n_mono (k + 1) i (by omega) (by omega); omega
        · subst z; exact hi q2
        · have := D.n_mono (i + 1) k (by omega) (by omega); omega
  have hmsz : (mask (D.Xs i) (D.hs i)).size = D.n i := mask_size _ _
  have old2 : ∀ x b d, x < D.n i → ρ2 x = some (b, d) → ρ x = some (b, d) := by
    intro x b d hx e
    cases e1 : (ρ.cut (D.n i)) x with
    | none => have := (st.newb x b d e1 e).1; omega
    | some p =>
      have := (st.ext x p e1).1
      rw [e] at this
      cases this
      exact (Ren.cut_some.1 e1).2
  let ρ' : Ren := ⟨fun x => if D.n i ≤ x ∧ x < D.n (i + 1) then ρ2 x else ρ x, fun x => if D.n i ≤ x ∧ x < D.n (i + 1) then ρ2.lim x else ρ.lim x⟩
  have new' : ∀ x, D.n i ≤ x → x < D.n (i + 1) → ρ' x = ρ2 x ∧ ρ'.lim x = ρ2.lim x := fun x a b => ⟨if_pos ⟨a, b⟩, if_pos ⟨a, b⟩⟩
  have old' : ∀ x, ¬ (D.n i ≤ x ∧ x < D.n (i + 1)) → ρ' x = ρ x ∧ ρ'.lim x = ρ.lim x := fun x a => ⟨if_neg a, if_neg a⟩
  have hle : ρ.le ρ' := by
    intro x p e
    have : ¬ (D.n i ≤ x ∧ x < D.n (i + 1)) := fun z => by rw [hfree x z.1 z.2] at e; cases e
    obtain ⟨q1, q2⟩ := old' x this
    exact ⟨by rw [q1]; exact e, q2⟩
  have hle2 : ρ2.le (ρ'.cut (D.n (i + 1))) := by
    intro x p e
    have hx : x < D.n (i + 1) := by have := (r2.dom x p.1 p.2 e).1; omega
    by_cases hxn : D.n i ≤ x
    · obtain ⟨q1, q2⟩ := new' x hxn hx
      exact ⟨Ren.cut_some.2 ⟨hx, by rw [q1]; exact e⟩, q2⟩
    · have e0 := old2 x p.1 p.2 (by omega) e
      obtain ⟨q1, q2⟩ := old' x (fun z => hxn z.1)
      refine ⟨Ren.cut_some.2 ⟨hx, by rw [q1]; exact e0⟩, ?_⟩
      have := (st.ext x p (Ren.cut_some.2 ⟨by omega, e0⟩)).2
      show ρ'.lim x = ρ2.lim x
      rw [q2, this]; rfl
  have htch : ∀ x, D.n i ≤ x → x < D.n (i + 1) → D.tch i x := fun x a b => .inr ⟨a, b⟩
  -- what the operation has touched
  have hval : ∀ x b d, ρ' x = some (b, d) → D.tch i x → D.hv S' x = h1.at x ∧ D.cv S' x = D.n (i + 1) ∧ ρ2 x = some (b, d) ∧ ρ'.lim x = ρ2.lim x := by
    intro x b d e ht
    have hxX : x ∈ D.Xs i → ¬ x < (D.hs i).size := by
      intro hX hlt
      rcases ht with ht | ht
      · exact D.MX i x him ht.1 ht.2 hX
      · have := ht.1; omega
    have hlater : ∀ k, i < k → k < ops.size → D.tch k x → ¬ S k := by
      intro k hik hk htk hsk
      have hxk : x < D.n (i + 1) ∨ D.n (i + 1) ≤ x := by omega
      rcases htk with htk | htk
      · by_cases hcmp : D.Pb i k ∨ D.Pb k i
        · have := (D.comp_iff hc ho hi hr hcmp).1 hsk; omega
        · rcases ht with ht | ht
          · rcases D.inc i k him hk (by omega) (fun z => hcmp (.inl z)) (fun z => hcmp (.inr z)) hhl x htk.1 htk.2 with z | z
            · rcases z.2 with z | z
              · exact D.MX i x him ht.1 ht.2 z
              · exact hsf _ z
            · have z2 := ht.2; have z1 := hii; unfold n at z2 z1; omega
          · rcases D.inc i k him hk (by omega) (fun z => hcmp (.inl z)) (fun z => hcmp (.inr z)) hhl x htk.1 htk.2 with z | z
            · have z1 := ht.1; unfold n at z1; omega
            · have z1 := ht.2; unfold n at z1; omega
      · rcases ht with ht | ht
        · have hxi : x < D.n i ∨ D.n i ≤ x := by omega
          rcases hxi with hxi | hxi
          · have := D.n_mono i k (by omega) (by omega); omega
          · have := ht.2; omega
        · have := D.n_mono (i + 1) k (by omega) (by omega); omega
    have e1 : D.hv S' x = (D.hs (i + 1)).at x := last_upd hS him ht hlater
    have e2 : D.cv S' x = D.n (i + 1) := last_upd hS him ht hlater
    have e3 : (D.hs (i + 1)).at x = h1.at x := by
      rw [eh, unmask_at _ _ _ hsz, if_neg fun z => hxX z.1 z.2]
    refine ⟨e1.trans e3, e2, ?_⟩
    by_cases hx : D.n i ≤ x ∧ x < D.n (i + 1)
    · obtain ⟨q1, q2⟩ := new' x hx.1 hx.2
      exact ⟨by rw [← q1]; exact e, q2⟩
    · obtain ⟨q1, q2⟩ := old' x hx
      rw [q1] at e
      have hxi : x < D.n i := by
        rcases Nat.lt_or_ge x (D.n i) with z | z
        · exact z
        · rcases ht with ht | ht
          · have := ht.2; omega
          · exact absurd ht hx
      have := st.ext x (b, d) (Ren.cut_some.2 ⟨hxi, e⟩)
      exact ⟨this.1, by rw [q2, this.2]; rfl⟩
  have hnot : ∀ x, ¬ D.tch i x → D.hv S' x = D.hv S x ∧ D.cv S' x = D.cv S x := fun x ht => ⟨last_upd_not hS ht, last_upd_not hS ht⟩
  have ownS : ∀ x b d, ρ x = some (b, d) → (D.hv S' x).own = true → (D.hv S x).own = true := by
    intro x b d e h
    by_cases ht : D.tch i x
    · obtain ⟨q1, _, q3, _⟩ := hval x b d (hle x (b, d) e).1 ht
      rw [q1] at h
      have hxi : x < D.n i := by
        rcases Nat.lt_or_ge x (D.n i) with z | z
        · exact z
        · rcases ht with ht | ht
          · have := ht.2; omega
          · rw [hfree x ht.1 ht.2] at e; cases e
      have := km.own x (by rw [mask_size]; exact hxi) h
      rw [mask_at] at this
      by_cases hX : x ∈ D.Xs i
      · rw [if_pos hX] at this; cases this
      · rw [if_neg hX] at this
        rwa [(j.at_text hc ho hi hr e hxi hX hhl hsf).1]
    · rwa [(hnot x ht).1] at h
  have liveS : ∀ x b d, ρ x = some (b, d) → (D.hv S' x).live = true → (D.hv S x).live = true := by
    intro x b d e h
    by_cases ht : D.tch i x
    · obtain ⟨q1, _, q3, _⟩ := hval x b d (hle x (b, d) e).1 ht
      rw [q1] at h
      have hxi : x < D.n i := by
        rcases Nat.lt_or_ge x (D.n i) with z | z
        · exact z
        · rcases ht with ht | ht
          · have := ht.2; omega
          · rw [hfree x ht.1 ht.2] at e; cases e
      have := km.live x (by rw [mask_size]; exact hxi) h
      rw [mask_at] at this
      by_cases hX : x ∈ D.Xs i
      · rw [if_pos hX] at this; cases this
      · rw [if_neg hX] at this
        rwa [(j.at_text hc ho hi hr e hxi hX hhl hsf).1]
    · rwa [(hnot x ht).1] at h
  -- objects of M that the world shows
  have mown : ∀ y b d, D.M i y → (ρ.cut (D.n i)) y = some (b, d) → ((mask (D.Xs i) (D.hs i)).at y).own = true → ρ y = some (b, d) ∧ (D.hv S y).own = true := by
    intro y b d hm e h
    rw [Ren.cut_some] at e
    rw [mask_at] at h
    by_cases hX : y ∈ D.Xs i
    · rw [if_pos hX] at h; cases h
    · rw [if_neg hX] at h
      exact ⟨e.2, by rwa [(j.at_text hc ho hi hr e.2 e.1 hX hhl hsf).1]⟩
  have old0 : ∀ y b d, ρ y = some (b, d) → (D.hv S y).own = true → wm ≤ y → (∃ d', ρ0 y = some (b, d') ∧ ((D.hs 0).at y).own = true) ∨ (w0.heap.size ≤ b ∨ ∃ j d', wm ≤ j ∧ ρ0 j = some (b, d') ∧ ((D.hs 0).at j).own = true) := by
    intro y b d e h hwy
    cases e0 : ρ0 y with
    | some p =>
      have := (j.ext y p e0).1
      rw [e] at this
      cases this
      exact .inl ⟨d, rfl, D.hv_own0 (j.dom0 y _ e0) h⟩
    | none => exact .inr (j.newb y b d e0 e).2
  refine hK ρ' (a.put o.dst v') w' ?_
  refine { dom := ?_, obj := ?_, tsz := ?_, tmp := ?_, ds := ?_, inj := ?_, ext := Ren.le_trans j.ext hle, dom0 := j.dom0, os := st.os.trans j.os, tape := st.tape.trans j.tape, output := st.output.trans j.output,
           wsize := Nat.le_trans j.wsize st.wsize, frame := ?_, newb := ?_ }
  · intro x b d e
    by_cases hx : D.n i ≤ x ∧ x < D.n (i + 1)
    · rw [(new' x hx.1 hx.2).1] at e
      exact ⟨(r2.dom x b d e).2, .inr ⟨i, him, (hS i).2 (.inr rfl), hx.1, hx.2⟩⟩
    · rw [(old' x hx).1] at e
      obtain ⟨q1, q2⟩ := j.dom x b d e
      exact ⟨Nat.lt_of_lt_of_le q1 st.wsize, q2.imp id fun ⟨k, z1, z2, z3⟩ => ⟨k, z1, (hS k).2 (.inl z2), z3⟩⟩
  · intro x b d e
    by_cases ht : D.tch i x
    · obtain ⟨q1, q2, q3, q4⟩ := hval x b d e ht
      rw [q1, q2, q4]
      exact (r2.obj x b d q3).mono hle2
    · obtain ⟨q1, q2⟩ := hnot x ht
      have hx : ¬ (D.n i ≤ x ∧ x < D.n (i + 1)) := fun z => ht (htch x z.1 z.2)
      obtain ⟨q3, q4⟩ := old' x hx
      rw [q3] at e
      rw [q1, q2, q4]
      by_cases hl : (D.hv S x).live = true
      · refine ((j.obj x b d e).mono (Ren.cut_le hle _)).world (st.frame b (j.dom x b d e).1 ?_)
        intro y d' hm hy hown
        obtain ⟨z1, z2⟩ := mown y b d' hm hy hown
        have := j.inj y x b d' d z1 e z2 hl
        subst this
        exact ht (.inl hm)
      · rw [of_not_live hl]; trivial
  · have : (a.put o.dst v').tmps.size = a.tmps.size := by cases o.dst <;> simp [Act.put]
    rw [this]; exact j.tsz
  · intro t
    by_cases hd : dstOf (ops := ops) i = some t
    · have hod : o.dst = some t := by unfold dstOf at hd; rw [ho] at hd; exact hd
      have hlater : ∀ k, i < k → k < ops.size → dstOf (ops := ops) k = some t → ¬ S k := by
        intro k hik hk hdk _
        obtain ⟨o', ho'⟩ := get hk
        have hod' : o'.dst = some t := by unfold dstOf at hdk; rw [ho'] at hdk; exact hdk
        have := D.dsts i k o o' t ho ho' hod hod'
        omega
      have e1 : D.tv S' t = D.vs i := last_upd hS him hd hlater
      have e2 : D.tt S' t = D.n (i + 1) := last_upd hS him hd hlater
      rw [e1, e2, hod]
      intro _
      have htn : t < a.tmps.size := by rw [j.tsz]; exact D.dst i o t ho hod
      have : (a.put (some t) v').tmps.getD t undef = v' := by
        simp [Act.put, Array.getD_eq_getD_getElem?, htn]
      rw [this]
      exact hv.mono hle2
    · have e1 : D.tv S' t = D.tv S t := last_upd_not hS hd
      have e2 : D.tt S' t = D.tt S t := last_upd_not hS hd
      rw [e1, e2]
      intro hany
      have : (a.put o.dst v').tmps.getD t undef = a.tmps.getD t undef := by
        cases hod : o.dst with
        | none => rfl
        | some d =>
          have hne : d ≠ t := fun z => hd (by unfold dstOf; rw [ho, ← z]; exact hod)
          simp [Act.put, Array.getD_eq_getD_getElem?, Array.getElem?_setIfInBounds_ne hne]
      rw [this]
      exact (j.tmp t hany).mono (Ren.cut_le hle _)
  · have : (a.put o.dst v').defers = a.defers := by cases o.dst <;> rfl
    rw [this]
    exact j.ds.mono (Ren.cut_le hle _)
  · intro x y b d d' ex ey hox hly
    by_cases hx : D.n i ≤ x ∧ x < D.n (i + 1)
    · have htx := htch x hx.1 hx.2
      obtain ⟨x1, _, x3, _⟩ := hval x b d ex htx
      by_cases hy : D.n i ≤ y ∧ y < D.n (i + 1)
      · obtain ⟨y1, _, y3, _⟩ := hval y b d' ey (htch y hy.1 hy.2)
        rw [x1] at hox; rw [y1] at hly
        exact r2.inj x y b d d' x3 y3 hox hly
      · rw [(old' y hy).1] at ey
        have hxnone : (ρ.cut (D.n i)) x = none := by
          cases e : (ρ.cut (D.n i)) x with
          | none => rfl
          | some p => have := (Ren.cut_some.1 e).1; omega
        rcases (st.newb x b d hxnone x3).2 with z | ⟨q, dq, z1, z2, z3⟩
        · have := (j.dom y b d' ey).1; omega
        · obtain ⟨u1, u2⟩ := mown q b dq z1 z2 z3
          have hqy := j.inj q y b dq d' u1 ey u2 (liveS y b d' ey hly)
          subst hqy
          obtain ⟨y1, _, y3, _⟩ := hval q b d' (hle q (b, d') ey).1 (.inl z1)
          rw [x1] at hox; rw [y1] at hly
          exact r2.inj x q b d d' x3 y3 hox hly
    · rw [(old' x hx).1] at ex
      by_cases hy : D.n i ≤ y ∧ y < D.n (i + 1)
      · obtain ⟨y1, _, y3, _⟩ := hval y b d' ey (htch y hy.1 hy.2)
        have hynone : (ρ.cut (D.n i)) y = none := by
          cases e : (ρ.cut (D.n i)) y with
          | none => rfl
          | some p => have := (Ren.cut_some.1 e).1; omega
        rcases (st.newb y b d' hynone y3).2 with z | ⟨q, dq, z1, z2, z3⟩
        · have := (j.dom x b d ex).1; omega
        · obtain ⟨u1, u2⟩ := mown q b dq z1 z2 z3
          have hqx := j.inj x q b d dq ex u1 (ownS x b d ex hox) (own_live u2)
          subst hqx
          obtain ⟨x1, _, x3, _⟩ := hval x b d (hle x (b, d) ex).1 (.inl z1)
          rw [x1] at hox; rw [y1] at hly
          exact r2.inj x y b d d' x3 y3 hox hly
      · rw [(old' y hy).1] at ey
        exact j.inj x y b d d' ex ey (ownS x b d ex hox) (liveS y b d' ey hly)
  · intro b hb hno
    rw [← j.frame b hb hno]
    refine st.frame b (Nat.lt_of_lt_of_le hb j.wsize) ?_
    intro y d hm hy hown
    obtain ⟨z1, z2⟩ := mown y b d hm hy hown
    have hwy := D.wmM i y him hm.1
    rcases old0 y b d z1 z2 hwy with ⟨d', u1, u2⟩ | u | ⟨q, dq, u1, u2, u3⟩
    · exact hno y d' hwy u1 u2
    · omega
    · exact hno q dq u1 u2 u3
  · intro x b d e0 e
    by_cases hx : D.n i ≤ x ∧ x < D.n (i + 1)
    · rw [(new' x hx.1 hx.2).1] at e
      have hxnone : (ρ.cut (D.n i)) x = none := by
        cases e : (ρ.cut (D.n i)) x with
        | none => rfl
        | some p => have := (Ren.cut_some.1 e).1; omega
      refine ⟨by omega, ?_⟩
      rcases (st.newb x b d hxnone e).2 with z | ⟨q, dq, z1, z2, z3⟩
      · exact .inl (Nat.le_trans j.wsize z)
      · obtain ⟨u1, u2⟩ := mown q b dq z1 z2 z3
        have hwq := D.wmM i q him z1.1
        rcases old0 q b dq u1 u2 hwq with ⟨d', v1, v2⟩ | v
        · exact .inr ⟨q, d', hwq, v1, v2⟩
        · exact v
    · rw [(old' x hx).1] at e
      exact j.newb x b d e0 e

/-- An operation that only looks: whatever the heap is that it is looked at with. -/
theorem J.pure {S : Nat → Prop} {ds : List Deferred} {ρ0 ρ : Ren} {w0 w : World} {a : Act} (j : D.J S ds ρ0 w0 ρ a w) (hc : Closed ops S) {i : Nat} {o : Oper} (ho : ops[i]? = some o) (hi : ¬ S i)
    (hr : ∀ e ∈ o.after, Region.binds .any e = true → S e.on) {F : Fence} (hF : FR' ρ0 rd F) {S' : Nat → Prop} (hS : ∀ k, S' k ↔ S k ∨ k = i) {hv : H} (hsz : hv.size = D.n i) (hn : D.n (i + 1) = D.n i)
    (hM : ∀ y, ¬ MOf (D.fre i) wm (D.ts i) y) (hstep : StepOK P wm rd ops o (fun _ => False) (D.fs i) hv (D.vs i) hv) (r1 : Rel (ρ.cut (D.n i)) hv w) {K : Act → World → Prop} {Q : Exit → Act → World → Prop}
    (hK : ∀ ρ' a' w', D.J S' ds ρ0 w0 ρ' a' w' → K a' w') :
    if Region.wanted o (yielded ops a.tmps) then o.wpIn F 0 P a w K Q else (∀ f, o.about P w a.eval = some f → F.fn f) ∧ K (a.put o.dst undef) w := by
  have him : i < ops.size := (Array.getElem?_eq_some_iff.1 ho).1
  have h0i := D.n_mono 0 i (by omega) (by omega)
  have hF1 : FR' (ρ.cut (D.n i)) rd F := by
    refine hF.mono fun x p e => ?_
    obtain ⟨e1, e2⟩ := j.ext x p e
    exact ⟨Ren.cut_some.2 ⟨by have := j.dom0 x p e; omega, e1⟩, e2⟩
  refine hstep (ρ.cut (D.n i)) a w F K Q r1 (by have := D.size0; have e : D.n 0 = (D.hs 0).size := rfl; omega) (fun t ht hany => ?_) hF1 ?_
  · obtain ⟨q1, q2⟩ := J.tmp_text (D := D) hc ho hi hr ht
    rw [← q1] at hany ⊢
    exact (j.tmp t hany).mono (Ren.cut_mono q2)
  intro ρ2 v' w' hvv r2 st
  have hle2 : ρ2.le (ρ.cut (D.n (i + 1))) := by
    intro x p e
    have hx : x < D.n i := by have := (r2.dom x p.1 p.2 e).1; omega
    cases e1 : (ρ.cut (D.n i)) x with
    | none => have := (st.newb x p.1 p.2 e1 e).1; omega
    | some q =>
      obtain ⟨q1, q2⟩ := st.ext x q e1
      rw [e] at q1
      cases q1
      exact ⟨Ren.cut_some.2 ⟨by omega, (Ren.cut_some.1 e1).2⟩, q2.symm⟩
  have hbl : ∀ b, b < w.heap.size → w'.heap[b]? = w.heap[b]? := fun b hb => st.frame b hb fun _ _ h => h.elim
  have hnt : ∀ x, ¬ D.tch i x := by
    rintro x (h | h)
    · exact hM x h.1
    · omega
  have hnot : ∀ x, D.hv S' x = D.hv S x ∧ D.cv S' x = D.cv S x := fun x => ⟨last_upd_not hS (hnt x), last_upd_not hS (hnt x)⟩
  refine hK ρ (a.put o.dst v') w' ?_
  refine { dom := ?_, obj := ?_, tsz := ?_, tmp := ?_, ds := ?_, inj := ?_, ext := j.ext, dom0 := j.dom0, os := st.os.trans j.os, tape := st.tape.trans j.tape, output := st.output.trans j.output,
           wsize := Nat.le_trans j.wsize st.wsize, frame := ?_, newb := j.newb }
  · intro x b d e
    obtain ⟨q1, q2⟩ := j.dom x b d e
    exact ⟨Nat.lt_of_lt_of_le q1 st.wsize, q2.imp id fun ⟨k, z1, z2, z3⟩ => ⟨k, z1, (hS k).2 (.inl z2), z3⟩⟩
  · intro x b d e
    rw [(hnot x).1, (hnot x).2]
    exact (j.obj x b d e).world (hbl b (j.dom x b d e).1)
  · have : (a.put o.dst v').tmps.size = a.tmps.size := by cases o.dst <;> simp [Act.put]
    rw [this]; exact j.tsz
  · intro t
    by_cases hd : dstOf (ops := ops) i = some t
    · have hod : o.dst = some t := by unfold dstOf at hd; rw [ho] at hd; exact hd
      have hlater : ∀ k, i < k → k < ops.size → dstOf (ops := ops) k = some t → ¬ S k := by
        intro k hik hk hdk _
        obtain ⟨o', ho'⟩ := get hk
        have hod' : o'.dst = some t := by unfold dstOf at hdk; rw [ho'] at hdk; exact hdk
        have := D.dsts i k o o' t ho ho' hod hod'
        omega
      have e1 : D.tv S' t = D.vs i := last_upd hS him hd hlater
      have e2 : D.tt S' t = D.n (i + 1) := last_upd hS him hd hlater
      rw [e1, e2, hod]
      intro _
      have htn : t < a.tmps.size := by rw [j.tsz]; exact D.dst i o t ho hod
      have : (a.put (some t) v').tmps.getD t undef = v' := by
        simp [Act.put, Array.getD_eq_getD_getElem?, htn]
      rw [this]
      exact hvv.mono hle2
    · have e1 : D.tv S' t = D.tv S t := last_upd_not hS hd
      have e2 : D.tt S' t = D.tt S t := last_upd_not hS hd
      rw [e1, e2]
      intro hany
      have : (a.put o.dst v').tmps.getD t undef = a.tmps.getD t undef := by
        cases hod : o.dst with
        | none => rfl
        | some d =>
          have hne : d ≠ t := fun z => hd (by unfold dstOf; rw [ho, ← z]; exact hod)
          simp [Act.put, Array.getD_eq_getD_getElem?, Array.getElem?_setIfInBounds_ne hne]
      rw [this]
      exact j.tmp t hany
  · have : (a.put o.dst v').defers = a.defers := by cases o.dst <;> rfl
    rw [this]
    exact j.ds
  · intro x y b d d' ex ey h1 h2
    rw [(hnot x).1] at h1
    rw [(hnot y).1] at h2
    exact j.inj x y b d d' ex ey h1 h2
  · intro b hb hno
    rw [hbl b (Nat.lt_of_lt_of_le hb j.wsize)]
    exact j.frame b hb hno

/-- One operation more. -/
theorem J.next {S : Nat → Prop} {ds : List Deferred} {ρ0 ρ : Ren} {w0 w : World} {a : Act} (j : D.J S ds ρ0 w0 ρ a w) (hc : Closed ops S) {i : Nat} {o : Oper} (ho : ops[i]? = some o) (hi : ¬ S i)
    (hr : ∀ e ∈ o.after, Region.binds .any e = true → S e.on) {F : Fence} (hF : FR' ρ0 rd F) {S' : Nat → Prop} (hS : ∀ k, S' k ↔ S k ∨ k = i) {K : Act → World → Prop} {Q : Exit → Act → World → Prop}
    (hK : ∀ ρ' a' w', D.J S' ds ρ0 w0 ρ' a' w' → K a' w') :
    if Region.wanted o (yielded ops a.tmps) then o.wpIn F 0 P a w K Q else (∀ f, o.about P w a.eval = some f → F.fn f) ∧ K (a.put o.dst undef) w := by
  cases hhl : D.hl i with
  | true =>
    obtain ⟨hM, hn, hst⟩ := D.hlOK i o ho hhl
    refine j.pure (hv := ⟨.nil, D.n i⟩) hc ho hi hr hF hS rfl hn hM (hst _) ⟨fun y b d e => ?_, fun y b d e => ?_, fun y z b d d' e e' h1 h2 => ?_⟩ hK
    · rw [Ren.cut_some] at e
      exact ⟨e.1, (j.dom y b d e.2).1⟩
    · have : (⟨.nil, D.n i⟩ : H).at y = .dead := by unfold H.at; cases Nat.blt y (D.n i) <;> rfl
      rw [this]; trivial
    · have : (⟨.nil, D.n i⟩ : H).at y = .dead := by unfold H.at; cases Nat.blt y (D.n i) <;> rfl
      rw [this] at h1; cases h1
  | false =>
  cases hsf : D.soft i with
  | none => exact j.step hc ho hi hhl hsf hr hF hS hK
  | some p =>
    obtain ⟨x, jj⟩ := p
    obtain ⟨hij, hjm, hxn, hM, hn, hp1, hp2, hs1, hs2⟩ := D.softOK i o x jj ho hsf
    have him : i < ops.size := (Array.getElem?_eq_some_iff.1 ho).1
    have hxn : x < D.n i := hxn
    -- all but the object x
    have hother : ∀ y b d, ρ y = some (b, d) → y < D.n i → y ∉ D.Xs i → y ≠ x → D.hv S y = (D.hs i).at y ∧ D.cv S y ≤ D.n i := fun y b d e1 e2 e3 e4 =>
      j.at_text hc ho hi hr e1 e2 e3 hhl fun j' z => by rw [hsf] at z; cases z; exact e4 rfl
    have view : ∀ (A : AObj), (∀ b d, ρ x = some (b, d) → x ∉ D.Xs i → D.hv S x = A) → (∀ (ρ ρ' : Ren) (w : World) (b d : Nat) (l : Nat × Nat), ObjR ρ w b d l A → ObjR ρ' w b d l A) → ∀ (hv : H), hv.size = D.n i →
        (∀ y, hv.at y = if y ∈ D.Xs i ∧ y ≠ x then .dead else if y = x then (if x ∈ D.Xs i then .dead else A) else (D.hs i).at y) → Rel (ρ.cut (D.n i)) hv w := by
      intro A hA hpl hv hvs hva
      have hval : ∀ y b d, ρ y = some (b, d) → y < D.n i → hv.at y = .dead ∨ (hv.at y = D.hv S y ∧ (y = x ∨ D.cv S y ≤ D.n i) ∧ (y = x → D.hv S y = A)) := by
        intro y b d e1 e2
        rw [hva]
        by_cases hyx : y = x
        · subst hyx
          rw [if_neg (fun z => z.2 rfl), if_pos rfl]
          by_cases hX : y ∈ D.Xs i
          · rw [if_pos hX]; exact .inl rfl
          · rw [if_neg hX]; right; have := hA b d e1 hX; exact ⟨this.symm, .inl rfl, fun _ => this⟩
        · by_cases hX : y ∈ D.Xs i
          · rw [if_pos ⟨hX, hyx⟩]; exact .inl rfl
          · rw [if_neg fun z => hX z.1, if_neg hyx]
            obtain ⟨q1, q2⟩ := hother y b d e1 e2 hX hyx
            exact .inr ⟨q1.symm, .inr q2, fun z => absurd z hyx⟩
      refine ⟨fun y b d e => ?_, fun y b d e => ?_, fun y z b d d' e e' h1 h2 => ?_⟩
      · rw [Ren.cut_some] at e
        rw [hvs]
        exact ⟨e.1, (j.dom y b d e.2).1⟩
      · rw [Ren.cut_some] at e
        rcases hval y b d e.2 e.1 with q | ⟨q1, q2, q3⟩
        · rw [q]; trivial
        · have := j.obj y b d e.2
          rw [q1]
          rcases q2 with q2 | q2
          · rw [q3 q2] at this ⊢
            exact hpl _ _ _ _ _ _ this
          · exact this.mono (Ren.cut_mono q2)
      · rw [Ren.cut_some] at e e'
        rcases hval y b d e.2 e.1 with q | ⟨q1, _, _⟩
        · rw [q] at h1; cases h1
        · rcases hval z b d' e'.2 e'.1 with q | ⟨p1, _, _⟩
          · rw [q] at h2; cases h2
          · rw [q1] at h1
            rw [p1] at h2
            exact j.inj y z b d d' e.2 e'.2 h1 h2
    -- the object x is as it is here, or as it is behind jj
    have hcases : (∀ b d, ρ x = some (b, d) → x ∉ D.Xs i → D.hv S x = (D.hs i).at x) ∨ (∀ b d, ρ x = some (b, d) → x ∉ D.Xs i → D.hv S x = (D.hs (jj + 1)).at x) := by
      by_cases hX : x ∈ D.Xs i
      · exact .inl fun _ _ _ z => absurd hX z
      cases hρ : ρ x with
      | none => exact .inl fun _ _ z => by cases z
      | some p =>
        have hcr : ∀ k, k < ops.size → D.n k ≤ x → x < D.n (k + 1) → (S k ↔ k < i) := by
          intro k hk h1 h2
          have hki : k < i := by
            rcases Nat.lt_or_ge k i with z | z
            · exact z
            · have := D.n_mono i k z (by omega); omega
          refine ⟨fun _ => hki, fun _ => ?_⟩
          rcases (j.dom x p.1 p.2 hρ).2 with z | ⟨k', q1, q2, q3, q4⟩
          · have := D.n_mono 0 k (by omega) (by omega); omega
          · have : k' = k := by
              rcases Nat.lt_trichotomy k' k with z | z | z
              · have := D.n_mono (k' + 1) k (by omega) (by omega); omega
              · exact z
              · have := D.n_mono (k + 1) k' (by omega) (by omega); omega
            subst this
            exact q2
        have key : ∀ k, k < ops.size → D.tch k x → k ≠ jj → (S k ↔ k < i) := by
          intro k hk ht hkj
          rcases ht with ht | ⟨h1, h2⟩
          · by_cases hki : k = i
            · subst hki; exact absurd ht.1 (hM x)
            · by_cases hcmp : D.Pb i k ∨ D.Pb k i
              · exact D.comp_iff hc ho hi hr hcmp
              · rcases D.inc i k him hk (Ne.symm hki) (fun z => hcmp (.inl z)) (fun z => hcmp (.inr z)) hhl x ht.1 ht.2 with z | z
                · rcases z.2 with z | z
                  · exact absurd z hX
                  · rw [hsf] at z; cases z; exact absurd rfl hkj
                · have := D.n_succ him; unfold n at this hxn; omega
          · exact hcr k hk h1 h2
        by_cases hj : S jj ∧ D.tch jj x
        · right
          intro _ _ _ _
          have : ∀ m, jj < m → m ≤ ops.size → last ((D.hs 0).at x) (fun k => (D.hs (k + 1)).at x) S (fun k => D.tch k x) m = (D.hs (jj + 1)).at x := by
            intro m
            induction m with
            | zero => intro h; omega
            | succ m ihm =>
              intro h1 h2
              rw [last]
              by_cases hmj : m = jj
              · subst hmj; rw [if_pos hj]
              · rw [if_neg]
                · exact ihm (by omega) (by omega)
                · rintro ⟨z1, z2⟩
                  have := (key m (by omega) z2 hmj).1 z1
                  omega
          exact this ops.size hjm (Nat.le_refl _)
        · left
          intro _ _ _ _
          unfold hv
          refine last_text _ _ _ _ (fun k => (D.hs k).at x) rfl (fun k _ _ => rfl) (fun k hk ht => D.keep hk ht) (Nat.le_of_lt him) fun k hk ht => ?_
          by_cases hkj : k = jj
          · subst hkj
            exact ⟨fun z => absurd ⟨z, ht⟩ hj, fun z => by omega⟩
          · exact key k hk ht hkj
    have hmsz : (mask (D.Xs i) (D.hs i)).size = D.n i := mask_size _ _
    rcases hcases with hA | hA
    · refine j.pure hc ho hi hr hF hS hmsz hn hM hs1 (view _ hA hp1 _ hmsz fun y => ?_) hK
      rw [mask_at]
      by_cases hX : y ∈ D.Xs i
      · rw [if_pos hX]
        by_cases hyx : y = x
        · subst hyx; rw [if_neg fun z => z.2 rfl, if_pos rfl, if_pos hX]
        · rw [if_pos ⟨hX, hyx⟩]
      · rw [if_neg hX, if_neg fun z => hX z.1]
        by_cases hyx : y = x
        · subst hyx; rw [if_pos rfl, if_neg hX]
        · rw [if_neg hyx]
    · by_cases hX : x ∈ D.Xs i
      · refine j.pure hc ho hi hr hF hS hmsz hn hM hs1 (view ((D.hs i).at x) (fun _ _ _ z => absurd hX z) hp1 _ hmsz fun y => ?_) hK
        rw [mask_at]
        by_cases hY : y ∈ D.Xs i
        · rw [if_pos hY]
          by_cases hyx : y = x
          · subst hyx; rw [if_neg fun z => z.2 rfl, if_pos rfl, if_pos hY]
          · rw [if_pos ⟨hY, hyx⟩]
        · rw [if_neg hY, if_neg fun z => hY z.1]
          by_cases hyx : y = x
          · subst hyx; exact absurd hX hY
          · rw [if_neg hyx]
      · refine j.pure (hv := (mask (D.Xs i) (D.hs i)).put x ((D.hs (jj + 1)).at x)) hc ho hi hr hF hS (by rw [H.size_put]; exact hmsz) hn hM hs2 (view _ hA hp2 _ (by rw [H.size_put]; exact hmsz) fun y => ?_) hK
        rw [H.at_put, mask_at]
        by_cases hyx : y = x
        · subst hyx
          rw [if_pos ⟨rfl, by rw [hmsz]; exact hxn⟩, if_neg fun z => z.2 rfl, if_pos rfl, if_neg hX]
        · rw [if_neg fun z => hyx z.1]
          by_cases hY : y ∈ D.Xs i
          · rw [if_pos hY, if_pos ⟨hY, hyx⟩]
          · rw [if_neg hY, if_neg fun z => hY z.1, if_neg hyx]

end Data
end Go.Abs
