/- The abstract interpreter, 2: what an operation does to the heap: nothing, a new object, an object turned, a row that is carried on by an append; that each keeps the relation. -/
import Derived.Test.YtcnahmgekicbdaaGreatAbs1
noncomputable section
namespace Go.Abs

inductive Eff where
  | none
  | new (A : AObj)
  | upd (i : Nat) (A : AObj)
  | grow (i : Nat) (A : AObj)

def Eff.apply (wm : Nat) (h : H) : Eff → Option H
  | .none => some h
  | .new A => bif A.own then some (h.push A) else Option.none
  | .upd i A => bif Nat.ble wm i && (h.at i).own then some (h.put i A) else Option.none
  | .grow i A => bif Nat.ble wm i && (h.at i).own && A.own then some ((h.put i .dead).push A) else Option.none

def Ren.add (ρ : Ren) (i : Nat) (p l : Nat × Nat) : Ren := ⟨fun j => if j = i then some p else ρ j, fun j => if j = i then l else ρ.lim j⟩
theorem Ren.le_add {ρ : Ren} {i : Nat} {p l : Nat × Nat} (h : ρ i = none) : ρ.le (ρ.add i p l) := fun j q e => by
  unfold Ren.add
  by_cases hj : j = i
  · subst hj; rw [h] at e; cases e
  · exact ⟨by simpa [if_neg hj] using e, by simp [if_neg hj]⟩
theorem Ren.add_same (ρ : Ren) (i : Nat) (p l : Nat × Nat) : ρ.add i p l i = some p := by simp [Ren.add]
theorem Ren.add_lim (ρ : Ren) (i : Nat) (p l : Nat × Nat) : (ρ.add i p l).lim i = l := by simp [Ren.add]
theorem Ren.add_old {ρ : Ren} {i j : Nat} {p l : Nat × Nat} (h : j ≠ i) : ρ.add i p l j = ρ j ∧ (ρ.add i p l).lim j = ρ.lim j := by simp [Ren.add, h]

structure Same (w w' : World) : Prop where
  os : w'.os = w.os
  tape : w'.tape = w.tape
  output : w'.output = w.output

/-- How the world has gone along. -/
def Eff.real (ρ : Ren) (h : H) (w : World) (ρ' : Ren) (w' : World) : Eff → Prop
  | .none => ρ' = ρ ∧ w'.heap = w.heap
  | .new A => ∃ l, ρ' = ρ.add h.size (w.heap.size, 0) l ∧ (∃ o, w'.heap = w.heap.push o) ∧ ObjR ρ' w' w.heap.size 0 l A
  | .upd i A => ρ' = ρ ∧ ∃ b d, ρ i = some (b, d) ∧ w'.heap.size = w.heap.size ∧ (∀ k, k ≠ b → w'.heap[k]? = w.heap[k]?) ∧ ObjR ρ' w' b d (ρ.lim i) A
  | .grow i A => ∃ b d, ρ i = some (b, d) ∧
      ((∃ d' l, ρ' = ρ.add h.size (b, d') l ∧ w'.heap.size = w.heap.size ∧ (∀ k, k ≠ b → w'.heap[k]? = w.heap[k]?) ∧ ObjR ρ' w' b d' l A) ∨
       (∃ l, ρ' = ρ.add h.size (w.heap.size, 0) l ∧ (∃ o, w'.heap = w.heap.push o) ∧ ObjR ρ' w' w.heap.size 0 l A))

theorem own_live {A : AObj} (h : A.own = true) : A.live = true := by cases A <;> simp_all [AObj.own, AObj.live]

theorem of_not_live {A : AObj} (h : ¬ A.live = true) : A = .dead := by cases A <;> simp_all [AObj.live]

theorem push_old {w w' : World} {o : Obj} (h : w'.heap = w.heap.push o) {k : Nat} (hk : k < w.heap.size) : w'.heap[k]? = w.heap[k]? := by
  rw [h, Array.getElem?_push, if_neg (by omega)]

theorem Rel.fresh {ρ : Ren} {h : H} {w : World} (r : Rel ρ h w) : ρ h.size = none := by
  cases e : ρ h.size with
  | none => rfl
  | some p => have := (r.dom _ p.1 p.2 e).1; omega

theorem rel_push {wm : Nat} {ρ : Ren} {h : H} {w w' : World} {A : AObj} {o : Obj} {l : Nat × Nat} (r : Rel ρ h w) (hwm : wm ≤ h.size) (s : Same w w') (hw : w'.heap = w.heap.push o)
    (hA : ObjR (ρ.add h.size (w.heap.size, 0) l) w' w.heap.size 0 l A) :
    Rel (ρ.add h.size (w.heap.size, 0) l) (h.push A) w' ∧ Stp wm ρ h w (ρ.add h.size (w.heap.size, 0) l) (h.push A) w' := by
  have hle := Ren.le_add (p := (w.heap.size, 0)) (l := l) r.fresh
  have hsz : w'.heap.size = w.heap.size + 1 := by rw [hw]; simp
  have hold : ∀ i b d, i ≠ h.size → (ρ.add h.size (w.heap.size, 0) l) i = some (b, d) → ρ i = some (b, d) := fun i b d hi e => by
    rwa [(Ren.add_old hi).1] at e
  have hnew : ∀ b d, (ρ.add h.size (w.heap.size, 0) l) h.size = some (b, d) → b = w.heap.size ∧ d = 0 := fun b d e => by
    rw [Ren.add_same] at e; cases e; exact ⟨rfl, rfl⟩
  have hat : ∀ i, i ≠ h.size → (h.push A).at i = h.at i := fun i hi => by rw [H.at_push, if_neg hi]
  have hatn : (h.push A).at h.size = A := by rw [H.at_push, if_pos rfl]
  refine ⟨⟨?_, ?_, ?_⟩, ⟨hle, by simp, ?_, ?_, ?_, s.os, s.tape, s.output, by omega, ?_, ?_⟩⟩
  · intro i b d e
    rw [H.size_push, hsz]
    by_cases hi : i = h.size
    · subst hi; have := hnew b d e; omega
    · have := r.dom i b d (hold i b d hi e); omega
  · intro i b d e
    by_cases hi : i = h.size
    · subst hi
      obtain ⟨rfl, rfl⟩ := hnew b d e
      rw [hatn, Ren.add_lim]; exact hA
    · have e0 := hold i b d hi e
      rw [hat i hi, (Ren.add_old hi).2]
      exact ((r.obj i b d e0).mono hle).world (push_old hw (r.dom i b d e0).2)
  · intro i j b d d' e e' ho hl
    by_cases hi : i = h.size
    · by_cases hj : j = h.size
      · omega
      · subst hi
        have h1 := hnew b d e
        have h2 := r.dom j b d' (hold j b d' hj e')
        omega
    · by_cases hj : j = h.size
      · subst hj
        have h1 := hnew b d' e'
        have h2 := r.dom i b d (hold i b d hi e)
        omega
      · rw [hat i hi] at ho
        rw [hat j hj] at hl
        exact r.inj i j b d d' (hold i b d hi e) (hold j b d' hj e') ho hl
  · intro i hi; exact hat i (by omega)
  · intro i hi ho; rwa [hat i (by omega)] at ho
  · intro i hi ho; rwa [hat i (by omega)] at ho
  · intro b hb _; exact push_old hw hb
  · intro i b d e e'
    by_cases hi : i = h.size
    · subst hi; exact ⟨Nat.le_refl _, .inl (by have := hnew b d e'; omega)⟩
    · rw [hold i b d hi e'] at e; cases e

theorem rel_upd {wm : Nat} {ρ : Ren} {h : H} {w w' : World} {i b d : Nat} {A : AObj} (r : Rel ρ h w) (hwm : wm ≤ i) (ho : (h.at i).own = true) (s : Same w w') (hi : ρ i = some (b, d))
    (hsz : w'.heap.size = w.heap.size) (hk : ∀ k, k ≠ b → w'.heap[k]? = w.heap[k]?) (hA : ObjR ρ w' b d (ρ.lim i) A) :
    Rel ρ (h.put i A) w' ∧ Stp wm ρ h w ρ (h.put i A) w' := by
  have hlt := (r.dom i b d hi).1
  have hat : ∀ j, j ≠ i → (h.put i A).at j = h.at j := fun j hj => by rw [H.at_put, if_neg (fun x => hj x.1)]
  have hati : (h.put i A).at i = A := by rw [H.at_put, if_pos ⟨rfl, hlt⟩]
  refine ⟨⟨?_, ?_, ?_⟩, ⟨Ren.le_refl ρ, by simp, ?_, ?_, ?_, s.os, s.tape, s.output, by omega, ?_, ?_⟩⟩
  · intro j b' d' e; have := r.dom j b' d' e; rw [H.size_put, hsz]; exact this
  · intro j b' d' e
    by_cases hj : j = i
    · subst hj; rw [hi] at e; cases e; rw [hati]; exact hA
    · rw [hat j hj]
      by_cases hb : b' = b
      · subst hb
        by_cases hl : (h.at j).live = true
        · exact absurd (r.inj i j b' d d' hi e ho hl).symm hj
        · rw [of_not_live hl]; trivial
      · exact (r.obj j b' d' e).world (hk b' hb)
  · intro j k b' d1 d2 e1 e2 h1 h2
    have h1' : (h.at j).own = true := by
      by_cases hj : j = i
      · subst hj; exact ho
      · rwa [hat j hj] at h1
    have h2' : (h.at k).live = true := by
      by_cases hj : k = i
      · subst hj; exact own_live ho
      · rwa [hat k hj] at h2
    exact r.inj j k b' d1 d2 e1 e2 h1' h2'
  · intro j hj; exact hat j (by omega)
  · intro j _ hj
    by_cases hji : j = i
    · subst hji; exact ho
    · rwa [hat j hji] at hj
  · intro j _ hj
    by_cases hji : j = i
    · subst hji; exact own_live ho
    · rwa [hat j hji] at hj
  · intro k _ hno
    refine hk k fun e => ?_
    subst e
    exact hno i d hwm hi ho
  · intro j b' d' e e'; rw [e] at e'; cases e'

/-- An object that is forgotten. -/
theorem rel_kill {ρ : Ren} {h : H} {w : World} {i : Nat} (r : Rel ρ h w) : Rel ρ (h.put i .dead) w := by
  have hd : ∀ j, (h.put i .dead).at j = h.at j ∨ (h.put i .dead).at j = .dead := fun j => by
    rw [H.at_put]; split
    · exact .inr rfl
    · exact .inl rfl
  refine ⟨fun j b d e => r.dom j b d e, fun j b d e => ?_, fun j k b d d' e e' h1 h2 => ?_⟩
  · rcases hd j with hx | hx
    · rw [hx]; exact r.obj j b d e
    · rw [hx]; trivial
  · rcases hd j with hx | hx
    · rcases hd k with hy | hy
      · rw [hx] at h1; rw [hy] at h2; exact r.inj j k b d d' e e' h1 h2
      · rw [hy] at h2; cases h2
    · rw [hx] at h1; cases h1

theorem rel_grow {wm : Nat} {ρ : Ren} {h : H} {w w' : World} {i b d d' : Nat} {l : Nat × Nat} {A : AObj} (r : Rel ρ h w) (hwm : wm ≤ i) (ho : (h.at i).own = true) (s : Same w w') (hi : ρ i = some (b, d))
    (hsz : w'.heap.size = w.heap.size) (hk : ∀ k, k ≠ b → w'.heap[k]? = w.heap[k]?) (hA : ObjR (ρ.add h.size (b, d') l) w' b d' l A) :
    Rel (ρ.add h.size (b, d') l) ((h.put i .dead).push A) w' ∧ Stp wm ρ h w (ρ.add h.size (b, d') l) ((h.put i .dead).push A) w' := by
  have hlt := r.dom i b d hi
  have hle := Ren.le_add (p := (b, d')) (l := l) r.fresh
  have hold : ∀ j b' e', j ≠ h.size → (ρ.add h.size (b, d') l) j = some (b', e') → ρ j = some (b', e') := fun j b' e' hj e => by
    rwa [(Ren.add_old hj).1] at e
  have hnew : ∀ b' e', (ρ.add h.size (b, d') l) h.size = some (b', e') → b' = b ∧ e' = d' := fun b' e' e => by
    rw [Ren.add_same] at e; cases e; exact ⟨rfl, rfl⟩
  have hat : ∀ j, j ≠ h.size → j ≠ i → ((h.put i .dead).push A).at j = h.at j := fun j hj hji => by
    rw [H.at_push, H.size_put, if_neg hj, H.at_put, if_neg (fun x => hji x.1)]
  have hati : ((h.put i .dead).push A).at i = .dead := by
    rw [H.at_push, H.size_put, if_neg (by omega), H.at_put, if_pos ⟨rfl, hlt.1⟩]
  have hatn : ((h.put i .dead).push A).at h.size = A := by rw [H.at_push, H.size_put, if_pos rfl]
  refine ⟨⟨?_, ?_, ?_⟩, ⟨hle, by simp, ?_, ?_, ?_, s.os, s.tape, s.output, by omega, ?_, ?_⟩⟩
  · intro j b' e' e
    rw [H.size_push, H.size_put, hsz]
    by_cases hj : j = h.size
    · subst hj; have := hnew b' e' e; omega
    · have := r.dom j b' e' (hold j b' e' hj e); omega
  · intro j b' e' e
    by_cases hj : j = h.size
    · subst hj
      obtain ⟨rfl, rfl⟩ := hnew b' e' e
      rw [hatn, Ren.add_lim]; exact hA
    · have e0 := hold j b' e' hj e
      rw [(Ren.add_old hj).2]
      by_cases hji : j = i
      · subst hji; rw [hati]; trivial
      · rw [hat j hj hji]
        by_cases hb : b' = b
        · subst hb
          by_cases hl : (h.at j).live = true
          · exact absurd (r.inj i j b' d e' hi e0 ho hl).symm hji
          · rw [of_not_live hl]; trivial
        · exact ((r.obj j b' e' e0).mono hle).world (hk b' hb)
  · intro j k b' d1 d2 e1 e2 h1 h2
    have hjd : j ≠ i := fun e => by subst e; rw [hati] at h1; cases h1
    have hkd : k ≠ i := fun e => by subst e; rw [hati] at h2; cases h2
    by_cases hj : j = h.size
    · by_cases hkk : k = h.size
      · omega
      · subst hj
        obtain ⟨rfl, rfl⟩ := hnew b' d1 e1
        rw [hat k hkk hkd] at h2
        exact absurd (r.inj i k b' d d2 hi (hold k b' d2 hkk e2) ho h2).symm hkd
    · rw [hat j hj hjd] at h1
      by_cases hkk : k = h.size
      · subst hkk
        obtain ⟨rfl, rfl⟩ := hnew b' d2 e2
        exact absurd (r.inj j i b' d1 d (hold j b' d1 hj e1) hi h1 (own_live ho)) hjd
      · rw [hat k hkk hkd] at h2
        exact r.inj j k b' d1 d2 (hold j b' d1 hj e1) (hold k b' d2 hkk e2) h1 h2
  · intro j hj; exact hat j (by omega) (by omega)
  · intro j hj hjo
    by_cases hji : j = i
    · subst hji; exact ho
    · rwa [hat j (by omega) hji] at hjo
  · intro j hj hjo
    by_cases hji : j = i
    · subst hji; exact own_live ho
    · rwa [hat j (by omega) hji] at hjo
  · intro k _ hno
    refine hk k fun e => ?_
    subst e
    exact hno i d hwm hi ho
  · intro j b' e' e e2
    by_cases hj : j = h.size
    · subst hj
      obtain ⟨rfl, rfl⟩ := hnew b' e' e2
      exact ⟨Nat.le_refl _, .inr ⟨i, d, hwm, hi, ho⟩⟩
    · rw [hold j b' e' hj e2] at e; cases e

theorem Eff.sound {wm : Nat} {ρ ρ' : Ren} {h h' : H} {w w' : World} {E : Eff} (r : Rel ρ h w) (hwm : wm ≤ h.size) (s : Same w w') (ha : E.apply wm h = some h') (hr : E.real ρ h w ρ' w') :
    Rel ρ' h' w' ∧ Stp wm ρ h w ρ' h' w' := by
  cases E with
  | none =>
    simp only [Eff.apply, Option.some.injEq] at ha
    subst ha
    obtain ⟨rfl, hw⟩ := hr
    have hb : ∀ k : Nat, w'.heap[k]? = w.heap[k]? := fun k => by rw [hw]
    refine ⟨⟨fun i b d e => by rw [hw]; exact r.dom i b d e, fun i b d e => (r.obj i b d e).world (hb b), r.inj⟩, ?_⟩
    exact ⟨Ren.le_refl _, Nat.le_refl _, fun _ _ => rfl, fun _ _ x => x, fun _ _ x => x, s.os, s.tape, s.output, by rw [hw]; exact Nat.le_refl _, fun b _ _ => hb b, fun i b d e e' => by rw [e] at e'; cases e'⟩
  | new A =>
    simp only [Eff.apply] at ha
    cases hA : A.own <;> rw [hA] at ha <;> simp at ha
    subst ha
    obtain ⟨l, rfl, ⟨o, hw⟩, hA⟩ := hr
    exact rel_push r hwm s hw hA
  | upd i A =>
    simp only [Eff.apply] at ha
    cases hc : (Nat.ble wm i && (h.at i).own) <;> rw [hc] at ha <;> simp at ha
    subst ha
    rw [Bool.and_eq_true] at hc
    obtain ⟨rfl, b, d, hi, hsz, hk, hA⟩ := hr
    exact rel_upd r (Nat.le_of_ble_eq_true hc.1) hc.2 s hi hsz hk hA
  | grow i A =>
    simp only [Eff.apply] at ha
    cases hc : (Nat.ble wm i && (h.at i).own && A.own) <;> rw [hc] at ha <;> simp at ha
    subst ha
    rw [Bool.and_eq_true, Bool.and_eq_true] at hc
    obtain ⟨b, d, hi, ⟨d', l, rfl, hsz, hk, hA⟩ | ⟨l, rfl, ⟨o, hw⟩, hA⟩⟩ := hr
    · exact rel_grow r (Nat.le_of_ble_eq_true hc.1.1) hc.1.2 s hi hsz hk hA
    · have r' := rel_kill (i := i) r
      have hsz : (h.put i .dead).size = h.size := rfl
      obtain ⟨a1, a2⟩ := rel_push (wm := wm) (A := A) r' hwm s hw hA
      refine ⟨a1, ⟨a2.ext, a2.size, fun j hj => ?_, fun j hj ho => ?_, fun j hj ho => ?_, a2.os, a2.tape, a2.output, a2.wsize, fun b hb hno => push_old hw hb, fun j b e e1 e2 => ?_⟩⟩
      · rw [a2.keep j hj, H.at_put, if_neg (fun x => by have := Nat.le_of_ble_eq_true hc.1.1; omega)]
      · have := a2.own j hj ho
        rw [H.at_put] at this
        split at this
        · cases this
        · exact this
      · have := a2.live j hj ho
        rw [H.at_put] at this
        split at this
        · cases this
        · exact this
      · obtain ⟨p, q⟩ := a2.newb j b e e1 e2
        refine ⟨p, q.imp id fun ⟨j', d', q1, q2, q3⟩ => ⟨j', d', q1, q2, ?_⟩⟩
        rw [H.at_put] at q3
        split at q3
        · cases q3
        · exact q3

end Go.Abs
