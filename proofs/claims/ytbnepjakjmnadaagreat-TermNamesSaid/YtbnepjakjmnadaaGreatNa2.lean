/- Names Part 2 of the proof. -/
import Derived.Laws.IdiomRangeMap
import Derived.Test.YtbnepjakjmnadaaGreatNa1
set_option linter.all false
set_option maxHeartbeats 2000000
section
noncomputable section
namespace Go.Abs
variable {P : Program} {ρ : Ren} {h : H} {w : World}
def arange (P : Program) (h : H) (t : TypeId) (x : Value) : Option (Value × Eff) :=
  match P.underlying t, x with
  | some .string, .string s => some (freshPtr h, .new (.strIter s 0))
  | some (.map _ _), .map none => some (freshPtr h, .new .iterNil)
  | some (.map _ _), .map (some i) => match h.at i with
    | .map _ clock => some (freshPtr h, .new (.iter i clock clock none))
    | _ => none
  | _, _ => none
def overV : Value := .tuple #[.bool false]
def oneLeft (es : List MapEntry) (since clk : Nat) (last : Option Nat) : Option (Option MapEntry) :=
  bif Nat.ble since clk then match es, last with
    | [], _ => some none
    | [e], none => bif Nat.blt e.born since then some (some e) else none
    | [e], some b => bif Nat.blt e.born since && Nat.beq e.born b then some none else none
    | _, _ => none
  else none
def anext (h : H) (it : Value) (isStr : Bool) : Option (Value × Eff) :=
  match it with
  | .pointer (some ⟨i, 0, none⟩) => match h.at i, isStr with
    | .strIter s pos, true => bif Nat.blt pos s.size then some (.tuple #[.bool true, goInt pos, .int .i32 (Utf8.decode s pos).1], .upd i (.strIter s (pos + (Utf8.decode s pos).2))) else some (overV, .none)
    | .iterNil, false => some (overV, .none)
    | .iter m since clk last, false => match h.at m with
      | .map es clock => match oneLeft es since clk last with
        | some none => some (overV, .none)
        | some (some e) => some (.tuple #[.bool true, e.key, e.val], .upd i (.iter m since clock (some e.born)))
        | none => none
      | _ => none
    | _, _ => none
  | _ => none
def efind (b : Nat) : List MapEntry → Option MapEntry
  | [] => none
  | e :: es => bif Nat.beq e.born b then some e else efind b es
def aentry (h : H) (it : Value) : Option Value :=
  match it with
  | .pointer (some ⟨i, 0, none⟩) => match h.at i with
    | .iter m _ clk (some s) => match h.at m with
      | .map es clock => bif Nat.beq clk clock then match efind s es with
          | some e => some (.tuple #[e.key, e.val])
          | none => none
        else none
      | _ => none
    | _ => none
  | _ => none
theorem lay_sound {s : Sem Value} {o : Obj} {A : AObj} (hs : s.run P w = .ok (.pointer (some ⟨w.heap.size, 0, none⟩)) (World.push w o)) (hA : ∀ l, ObjR (ρ.add h.size (w.heap.size, 0) l) (World.push w o) w.heap.size 0 l A) :
    OpOK P ρ h w (do pure (.value (← s))) (.val (freshPtr h)) (.new A) :=
  ⟨_, World.push w o, same_push _, ⟨(0, 0), rfl, ⟨o, rfl⟩, hA (0, 0)⟩, _, fresh_ptr w _, by simp [hs]⟩
theorem push_new (w : World) (o : Obj) : (World.push w o).heap[w.heap.size]? = some o := by
  show (w.heap.push o)[w.heap.size]? = some o
  simp
theorem range_sound (r : Rel ρ h w) {t : TypeId} {x x' v : Value} {E : Eff} (hx : VR ρ x x') (ha : arange P h t x = some (v, E)) :
    OpOK P ρ h w (do pure (.value (← Instr.range t x'))) (.val v) E := by
  unfold arange at ha
  split at ha
  · rename_i s hu
    cases ha
    cases hx with
    | string _ =>
      refine lay_sound (o := .stringIter s 0) ?_ fun l => ⟨rfl, push_new _ _⟩
      simp [Instr.range, run_underlying hu]; rfl
  · rename_i hu
    cases ha
    cases hx
    refine lay_sound (o := .mapIter none 0 #[] 0) ?_ fun l => ⟨rfl, push_new _ _⟩
    simp [Instr.range, run_underlying hu]; rfl
  · rename_i i hu
    split at ha
    · rename_i es clock hat
      cases ha
      cases hx with
      | @map _ b hi =>
        have ho := r.obj _ _ _ hi
        rw [hat] at ho
        obtain ⟨_, es', hw, _⟩ := ho
        refine lay_sound (o := .mapIter (some b) clock #[] clock) ?_ fun l => ⟨rfl, b, #[], (Ren.le_add r.fresh _ _ hi).1, push_new _ _, (fun s e => by cases e), fun _ => rfl⟩
        simp [Instr.range, run_underlying hu, getObj, Sem.run, hw]; rfl
    · cases ha
  · cases ha
theorem next_at1 {P : Program} {w : World} (ty : TypeId) {b bm since c0 : Nat} {seen : Array Nat} {es : Array MapEntry} {clock : Nat} (hb : w.heap[b]? = some (.mapIter (some bm) since seen c0)) (hm : w.heap[bm]? = some (.map es clock))
    (hold : ∀ x ∈ es.toList, x.born < since) (hsc : since ≤ c0) :
    ((leftOf es seen).size = 0 ∧ (Instr.next (.pointer (some ⟨b, 0, none⟩)) false ty).run P w = .ok overV w) ∨
    ∃ e ∈ (leftOf es seen).toList, ∃ w1 : World, w1.heap = w.heap ∧ Same w w1 ∧ (Instr.next (.pointer (some ⟨b, 0, none⟩)) false ty).run P w = .ok (.tuple #[.bool true, e.key, e.val]) (w1.putObj b (.mapIter (some bm) since (seen.push e.born) clock)) := by
  simp only [Instr.next, getObj, Sem.run_bind, Sem.run, hb, hm, Result.andThen, next_test_false seen es since c0 hold hsc, Bool.false_eq_true, if_false]
  unfold leftOf
  have hmem : ∀ x ∈ (Array.filter (fun e => !seen.contains e.born) es).toList, x.born < since := fun x hx => hold x (by simp at hx ⊢; exact hx.1)
  generalize Array.filter (fun e => !seen.contains e.born) es = L at hmem ⊢
  have e1 : L.filter (fun x => decide (x.born < since)) = L := Array.filter_eq_self.2 (fun x hx => by simpa using hmem x (by simpa using hx))
  have e2 : L.filter (fun x => decide (x.born ≥ since)) = #[] := by
    rw [Array.filter_eq_empty_iff]
    intro x hx
    have := hmem x (by simpa using hx)
    simp
    omega
  simp only [e1, e2, Array.append_empty]
  by_cases h0 : L.size = 0
  · left
    have : L = #[] := Array.eq_empty_of_size_eq_zero h0
    subst this
    refine ⟨rfl, ?_⟩
    simp [choose, Sem.run, Question.forced, overV]
  · right
    have hne : L.isEmpty = false := by simp [Array.isEmpty, h0]
    simp only [hne, Bool.false_eq_true, if_false, Array.empty_append, Array.size_map]
    have hch : ∃ (j : Nat) (w1 : World), j < L.size ∧ w1.heap = w.heap ∧ Same w w1 ∧ (choose (Question.mapNext L.size)).run P w = .ok j w1 := by
      by_cases hf : L.size ≤ 1
      · exact ⟨0, w, by omega, rfl, Same.refl w, by simp [choose, Sem.run, Question.forced, hf]⟩
      · exact ⟨_, w.drew, Nat.mod_lt _ (by omega), rfl, ⟨rfl, rfl, rfl⟩, by
          simp only [choose, Sem.run, Question.forced, decide_eq_true_eq, hf, if_false, Question.cut]
          rfl⟩
    obtain ⟨j, w1, hj, hh, hal, hrun⟩ := hch
    refine ⟨L[j], by simp, w1, hh, hal, ?_⟩
    have hset : ∀ (o' : Obj), (setObj b o').run P w1 = .ok () (w1.putObj b o') := fun o' => by
      have hlt : w1.heap[b]? = some (.mapIter (some bm) since seen c0) := by rw [hh]; exact hb
      simp [setObj, Sem.run, hlt, World.putObj]
    simp only [hrun, Array.getElem?_map, Array.getElem?_eq_getElem hj, Option.map_some, Sem.run_bind, hset, Result.andThen]
    rfl
theorem EL.nil_inv {es' : List MapEntry} (e : EL ρ [] es') : es' = [] := by cases e; rfl
theorem EL.one_inv {e0 : MapEntry} {es' : List MapEntry} (e : EL ρ [e0] es') : ∃ e', es' = [e'] ∧ e'.key = e0.key ∧ plain e0.key = true ∧ e'.born = e0.born ∧ VR ρ e0.val e'.val := by
  cases e with
  | cons hk hp hb hv t => cases t; exact ⟨_, rfl, hk, hp, hb, hv⟩
theorem oneLeft_spec {es : List MapEntry} {since clk : Nat} {last : Option Nat} {r : Option MapEntry} (h : oneLeft es since clk last = some r) : since ≤ clk ∧
    ((es = [] ∧ r = none) ∨ ∃ e, es = [e] ∧ e.born < since ∧ ((last = none ∧ r = some e) ∨ (last = some e.born ∧ r = none))) := by
  unfold oneLeft at h
  cases hc : Nat.ble since clk <;> rw [hc] at h <;> simp only [cond_true, cond_false] at h
  · cases h
  · refine ⟨Nat.le_of_ble_eq_true hc, ?_⟩
    split at h
    · cases h; exact .inl ⟨rfl, rfl⟩
    · rename_i e
      cases hb : Nat.blt e.born since <;> rw [hb] at h <;> simp only [cond_true, cond_false] at h
      · cases h
      · cases h; exact .inr ⟨_, rfl, by rwa [Nat.blt_eq] at hb, .inl ⟨rfl, rfl⟩⟩
    · rename_i e b
      cases hb : Nat.blt e.born since <;> rw [hb] at h <;> simp only [Bool.true_and, Bool.false_and, cond_false] at h
      · cases h
      · cases hq : Nat.beq e.born b <;> rw [hq] at h <;> simp only [cond_true, cond_false] at h
        · cases h
        · cases h; exact .inr ⟨_, rfl, by rwa [Nat.blt_eq] at hb, .inr ⟨by rw [Nat.eq_of_beq_eq_true hq], rfl⟩⟩
    · cases h
theorem next_sound (r : Rel ρ h w) {it it' v : Value} {b : Bool} {E : Eff} (t : TypeId) (hx : VR ρ it it') (ha : anext h it b = some (v, E)) :
    OpOK P ρ h w (do pure (.value (← Instr.next it' b t))) (.val v) E := by
  unfold anext at ha
  split at ha
  · rename_i i
    cases hx with
    | @ptr _ bb d _ hi =>
      have ho := r.obj _ _ _ hi
      have hlt := (r.dom _ _ _ hi).2
      split at ha
      · rename_i s pos hat
        rw [hat] at ho
        obtain ⟨rfl, hw⟩ := ho
        cases hc : Nat.blt pos s.size <;> rw [hc] at ha <;> simp only [cond_true, cond_false] at ha
        · cases ha
          have hn : ¬ pos < s.size := fun z => by rw [← Nat.blt_eq] at z; rw [z] at hc; cases hc
          refine OpOK.val_bind (v' := overV) (VR.plain_refl rfl) ?_
          simp [Instr.next, getObj, Sem.run, hw, hn, overV]
        · cases ha
          rw [Nat.blt_eq] at hc
          refine ⟨ρ, { w with heap := w.heap.setIfInBounds bb (.stringIter s (pos + (Utf8.decode s pos).2)) }, ⟨rfl, rfl, rfl⟩, ⟨rfl, bb, 0, hi, by simp, fun k hk => by simp [Array.getElem?_setIfInBounds_ne (Ne.symm hk)], rfl, by simp [hlt]⟩,
            .tuple #[.bool true, goInt pos, .int .i32 (Utf8.decode s pos).1], VR.plain_refl rfl, ?_⟩
          simp [Instr.next, getObj, setObj, Sem.run, hw, hc]
      · rename_i hat
        rw [hat] at ho
        obtain ⟨rfl, hw⟩ := ho
        cases ha
        refine OpOK.val_bind (v' := overV) (VR.plain_refl rfl) ?_
        simp [Instr.next, getObj, Sem.run, hw, overV]
      · rename_i m since clk last hat
        rw [hat] at ho
        obtain ⟨rfl, m', seen, hm, hw, hback, hnil⟩ := ho
        split at ha
        · rename_i es clock hatm
          have hom := r.obj _ _ _ hm
          rw [hatm] at hom
          obtain ⟨_, es', hwm, hes⟩ := hom
          split at ha
          · rename_i hone
            cases ha
            obtain ⟨hsc, hh⟩ := oneLeft_spec hone
            refine OpOK.val_bind (v' := overV) (VR.plain_refl rfl) ?_
            have hold : ∀ x ∈ es'.toList, x.born < since := by
              rcases hh with ⟨rfl, _⟩ | ⟨e, rfl, he, _⟩
              · rw [EL.nil_inv hes]; intro x hx; cases hx
              · obtain ⟨e', h1, _, _, h4, _⟩ := EL.one_inv hes
                rw [h1]; intro x hx; simp at hx; subst hx; omega
            have hz : (leftOf es' seen).size = 0 := by
              unfold leftOf
              rcases hh with ⟨rfl, _⟩ | ⟨e, rfl, he, (⟨_, h0⟩ | ⟨hl, _⟩)⟩
              · have : es' = #[] := by simpa using EL.nil_inv hes
                subst this; rfl
              · cases h0
              · obtain ⟨e', h1, _, _, h4, _⟩ := EL.one_inv hes
                have h2 : es' = #[e'] := by rw [← Array.toArray_toList (xs := es'), h1]
                subst h2
                have hs := hback _ hl
                have hin : seen.contains e'.born = true := by
                  rw [h4, Array.contains_iff_mem]
                  rw [Array.back?_eq_getElem?] at hs
                  exact Array.mem_of_getElem? hs
                simp [hin]
                simpa using hin
            rcases next_at1 (P := P) t hw hwm hold hsc with ⟨_, hr⟩ | ⟨e', he', _⟩
            · simp only [Nat.zero_add, Nat.add_zero] at *
              simp [hr]
            · have := Array.length_toList ▸ List.length_pos_of_mem he'
              omega
          · rename_i e hone
            cases ha
            obtain ⟨hsc, hh⟩ := oneLeft_spec hone
            rcases hh with ⟨_, h0⟩ | ⟨e0, rfl, he, (⟨hl, h0⟩ | ⟨_, h0⟩)⟩
            · cases h0
            · cases h0
              obtain ⟨e', h1, hk, hp, hb, hv⟩ := EL.one_inv hes
              have hseen := hnil hl
              subst hseen
              have h2 : es' = #[e'] := by rw [← Array.toArray_toList (xs := es'), h1]
              have hold : ∀ x ∈ es'.toList, x.born < since := by
                rw [h1]; intro x hx; simp at hx; subst hx; omega
              rcases next_at1 (P := P) t hw hwm hold hsc with ⟨hz, _⟩ | ⟨x, hx, w1, hw1, hsame, hr⟩
              · subst h2; simp [leftOf] at hz
              · have hx' : x = e' := by subst h2; simpa [leftOf] using hx
                subst hx'
                have hlt' : bb < w1.heap.size := by rw [hw1]; exact hlt
                refine ⟨ρ, w1.putObj bb (.mapIter (some m') since (#[].push x.born) clock), ⟨hsame.os, hsame.tape, hsame.output⟩, ⟨rfl, bb, 0, hi, by rw [World.putObj_size, hw1], fun k hk => by rw [World.putObj_heap_other hk, hw1], rfl, m', _, hm, World.putObj_heap_same hlt', fun s hs => (by cases hs; simp [hb]), fun z => (by cases z)⟩,
                  .tuple #[.bool true, x.key, x.val], ?_, ?_⟩
                · refine .tuple _ _ rfl fun j y y' p q => ?_
                  match j, p, q with
                  | 0, p, q => simp at p q; subst p q; exact .bool true
                  | 1, p, q => simp at p q; subst p q; rw [hk]; exact VR.plain_refl hp
                  | 2, p, q => simp at p q; subst p q; exact hv
                  | j + 3, p, q => simp at p
                · simp [hr]
            · cases h0
          · cases ha
        · cases ha
      · cases ha
  · cases ha
theorem efind_sound {es es' : List MapEntry} (e : EL ρ es es') {b : Nat} {x : MapEntry} (hf : efind b es = some x) : ∃ x', es'.find? (fun e => e.born == b) = some x' ∧ x'.key = x.key ∧ plain x.key = true ∧ VR ρ x.val x'.val ∧ x'.born = b ∧ x' ∈ es' := by
  induction e with
  | nil => cases hf
  | @cons y y' es es' hk hp hb hv t ih =>
    simp only [efind] at hf
    cases hc : Nat.beq y.born b <;> rw [hc] at hf <;> simp only [cond_true, cond_false] at hf
    · obtain ⟨x', h1, h2⟩ := ih hf
      have hne : (y'.born == b) = false := by rw [hb]; rw [beq_decide] at hc; simpa using hc
      exact ⟨x', by rw [List.find?_cons, hne]; exact h1, h2.1, h2.2.1, h2.2.2.1, h2.2.2.2.1, List.mem_cons_of_mem _ h2.2.2.2.2⟩
    · cases hf
      have heq : (y'.born == b) = true := by rw [hb]; simpa using Nat.eq_of_beq_eq_true hc
      exact ⟨y', by rw [List.find?_cons, heq], hk, hp, hv, by rw [hb]; exact Nat.eq_of_beq_eq_true hc, by simp⟩
theorem entry_sound (r : Rel ρ h w) {it it' v : Value} (hx : VR ρ it it') (ha : aentry h it = some v) : ∃ v', VR ρ v v' ∧ (Instr.entry it').run P w = .ok v' w := by
  unfold aentry at ha
  split at ha
  · rename_i i
    cases hx with
    | @ptr _ bb d _ hi =>
      have ho := r.obj _ _ _ hi
      split at ha
      · rename_i m since clk s hat
        rw [hat] at ho
        obtain ⟨rfl, m', seen, hm, hw, hback, _⟩ := ho
        split at ha
        · rename_i es clock hatm
          have hom := r.obj _ _ _ hm
          rw [hatm] at hom
          obtain ⟨_, es', hwm, hes⟩ := hom
          cases hc : Nat.beq clk clock <;> rw [hc] at ha <;> simp only [cond_true, cond_false] at ha
          · cases ha
          · have hc := Nat.eq_of_beq_eq_true hc
            subst hc
            split at ha
            · rename_i e hf
              cases ha
              obtain ⟨e', f1, f2, f3, f4, _⟩ := efind_sound hes hf
              have hb := hback s rfl
              refine ⟨.tuple #[e'.key, e'.val], ?_, ?_⟩
              · refine .tuple _ _ rfl fun j x x' a b => ?_
                match j, a, b with
                | 0, a, b => simp at a b; subst a b; rw [f2]; exact VR.plain_refl f3
                | 1, a, b => simp at a b; subst a b; exact f4
                | j + 2, a, b => simp at a
              · have hfa : es'.find? (fun e => e.born == s) = some e' := by rw [← Array.find?_toList]; exact f1
                simp [Instr.entry, getObj, Sem.run, hw, hb, hwm, hfa]
            · cases ha
        · cases ha
      · cases ha
  · cases ha
end Go.Abs
end
end
section
noncomputable section
namespace Go.Abs
variable {ρ : Ren} {h : H} {w : World}
structure Ctx where
  P : Program
  fns : Tr Func
  ok : ∀ f fn, fns.get f = some fn → P.funcs[f]? = some fn ∧ fn.body.isSome = true ∧ (fn.name == "runtime.NumGoroutine") = false
  orc : FuncId → Option Value
  orcOK : ∀ f v, orc f = some v → plain v = true ∧ ∀ w : World, CallsIn Fence.wide 0 P f #[] w (fun e w' => e = .returned v ∧ RowKit.Below w.heap.size w w')
  orcA : FuncId → Array Value → H → Option (Value × AObj) := fun _ _ _ => none
  orcAOK : ∀ f args h v A, orcA f args h = some (v, A) → ∀ ρ args' (w : World), Rel ρ h w → VRs ρ args args' → CallsIn Fence.wide 0 P f args' w (fun e w' => ∃ v' p l, e = .returned v' ∧
    RowKit.Below w.heap.size w w' ∧ w.heap.size ≤ p ∧ p < w'.heap.size ∧ VR (ρ.add h.size (p, 0) l) v v' ∧ ObjR (ρ.add h.size (p, 0) l) w' p 0 l A) := by intros; contradiction
def evs (ev : Operand → Option Value) : List Operand → Option (List Value)
  | [] => some []
  | x :: xs => match ev x, evs ev xs with
    | some v, some vs => some (v :: vs)
    | _, _ => none
def evp (ev : Operand → Option Value) : List (Nat × Operand) → Option (List (Nat × Value))
  | [] => some []
  | (i, x) :: xs => match ev x, evp ev xs with
    | some v, some vs => some ((i, v) :: vs)
    | _, _ => none
def evo (ev : Operand → Option Value) : Option Operand → Option (Option Value)
  | none => some none
  | some x => match ev x with
    | some v => some (some v)
    | none => none
def EvR (ρ : Ren) (ev : Operand → Option Value) (ev' : Operand → Value) : Prop := ∀ x v, ev x = some v → VR ρ v (ev' x)
theorem evs_sound {ev : Operand → Option Value} {ev' : Operand → Value} (he : EvR ρ ev ev') : ∀ (xs : List Operand) vs, evs ev xs = some vs → LR ρ vs (xs.map ev') := by
  intro xs
  induction xs with
  | nil => intro vs hv; simp only [evs, Option.some.injEq] at hv; subst hv; exact LR.nil
  | cons x xs ih =>
    intro vs hv
    simp only [evs] at hv
    split at hv
    · rename_i v vs' e1 e2
      cases hv
      exact LR.cons (he x v e1) (ih vs' e2)
    · cases hv
theorem evp_sound {ev : Operand → Option Value} {ev' : Operand → Value} (he : EvR ρ ev ev') : ∀ (xs : List (Nat × Operand)) vs, evp ev xs = some vs →
    vs.length = (xs.map fun p : Nat × Operand => (p.1, ev' p.2)).length ∧ ∀ (i : Nat) p p', vs[i]? = some p → (xs.map fun p : Nat × Operand => (p.1, ev' p.2))[i]? = some p' → p'.1 = p.1 ∧ VR ρ p.2 p'.2 := by
  intro xs
  induction xs with
  | nil => intro vs hv; simp only [evp, Option.some.injEq] at hv; subst hv; exact ⟨rfl, fun i p p' a => by simp at a⟩
  | cons x xs ih =>
    intro vs hv
    obtain ⟨j, x⟩ := x
    simp only [evp] at hv
    split at hv
    · rename_i v vs' e1 e2
      cases hv
      obtain ⟨i1, i2⟩ := ih vs' e2
      refine ⟨by simpa using i1, fun i p p' a b => ?_⟩
      cases i with
      | zero => simp at a b; subst a b; exact ⟨rfl, he x v e1⟩
      | succ i => exact i2 i p p' (by simpa using a) (by simpa using b)
    · cases hv
theorem evo_sound {ev : Operand → Option Value} {ev' : Operand → Value} (he : EvR ρ ev ev') {x : Option Operand} {v : Option Value} (hv : evo ev x = some v) : OptR ρ v (x.map ev') := by
  cases x with
  | none => simp only [evo, Option.some.injEq] at hv; subst hv; trivial
  | some x =>
    simp only [evo] at hv
    split at hv
    · rename_i u e; cases hv; exact he x u e
    · cases hv
def acall (X : Ctx) (h : H) (f : Value) (args : List Value) : Option (AN × Eff) :=
  match f with
  | .func (.func g) first cap => match X.fns.get g with
    | some _ => some (.enter g (first.toList ++ args ++ cap.toList).toArray, .none)
    | none => none
  | .func (.yield l) _ _ => match h.at l with
    | .loop _ _ _ _ ps _ _ _ => bif Nat.beq args.length ps.toList.length then some (.round l args.toArray, .none) else none
    | _ => none
  | _ => none
theorem run_callFunc {X : Ctx} {f : FuncId} {fn : Func} {args : Array Value} (hf : X.fns.get f = some fn) : (callFunc f args).run X.P w = .ok (.enter f args) w := by
  obtain ⟨h1, h2, h3⟩ := X.ok f fn hf
  have hb : ¬ fn.body = none := by intro hh; rw [hh] at h2; cases h2
  have hn : ¬ fn.name = "runtime.NumGoroutine" := by simpa using h3
  simp [callFunc, h1, hn, hb]
theorem call_sound {X : Ctx} {f f' : Value} {args args' : List Value} {nx : AN} {E : Eff} (r : Rel ρ h w) (hf : VR ρ f f') (hargs : LR ρ args args') (ha : acall X h f args = some (nx, E)) :
    OpOK X.P ρ h w (do let d ← Deferred.ofValue f' args'.toArray; invoke d.target d.args) nx E := by
  unfold acall at ha
  split at ha
  · rename_i g first cap
    split at ha
    · rename_i fn hfn
      cases ha
      cases hf with
      | func _ _ _ first' cap' hy hx1 hx2 h1 h2 =>
        refine ⟨ρ, w, Same.refl w, ⟨rfl, rfl⟩, (first'.toList ++ args' ++ cap'.toList).toArray, ?_, ?_⟩
        · have e1 : LR ρ first.toList first'.toList := VRs.list ⟨hx1, h1⟩
          have e2 : LR ρ cap.toList cap'.toList := VRs.list ⟨hx2, h2⟩
          exact ((e1.append hargs).append e2).arr
        · have := run_callFunc (w := w) (args := first' ++ args'.toArray ++ cap') hfn
          have e : (first'.toList ++ args' ++ cap'.toList).toArray = first' ++ args'.toArray ++ cap' := by apply Array.toList_inj.1; simp
          rw [e, ← this]
          simp [Deferred.ofValue, invoke]
    · cases ha
  · rename_i l u1 u2
    split at ha
    · rename_i st pd fr n ps as_ bd df hat
      cases hn : Nat.beq args.length ps.toList.length <;> rw [show ps.toList.length = ps.size from Array.length_toList] at hn <;> simp [hn] at ha
      obtain ⟨rfl, rfl⟩ := ha
      have hn := Nat.eq_of_beq_eq_true hn
      cases hf with
      | func _ _ _ first' cap' hy => exact absurd rfl (hy l)
      | yield hi =>
        rename_i b
        have ho := r.obj _ _ _ hi
        rw [hat] at ho
        obtain ⟨_, fn, tmps, df', hw, hfr, hdf⟩ := ho
        refine ⟨ρ, w, Same.refl w, ⟨rfl, rfl⟩, b, _, args'.toArray, hi, hw, hargs.arr, ?_⟩
        have hsz : ¬ (args'.length ≠ ps.size) := by rw [← hargs.1]; omega
        have hg : (getObj b).run X.P w = .ok (.loop { state := st, pending := pd, fn := fn, tmps := tmps, params := ps, assign := as_, body := bd, defers := df' }) w := by
          simp [getObj, Sem.run, hw]
        simp only [Deferred.ofValue, invoke, Instr.yield, Instr.getLoop, Sem.run_bind, Sem.run_pure, Result.andThen_ok, hg]
        rw [if_neg (by simpa using hsz)]
        simp
    · cases ha
  · cases ha
def aassert (P : Program) (x : Value) (t : TypeId) (ok : Bool) : Option Value :=
  match P.underlying t with
  | some (.interface _) => none
  | some _ =>
    match x with
    | .iface u v => bif Nat.beq u t then some (bif ok then .tuple #[v, .bool true] else v) else bif ok then (match zeroP P t with | some z => some (.tuple #[z, .bool false]) | none => none) else none
    | .nilIface => bif ok then (match zeroP P t with | some z => some (.tuple #[z, .bool false]) | none => none) else none
    | _ => none
  | none => none
theorem assert_sound {P : Program} {x x' v : Value} {xt t : TypeId} {ok : Bool} (hx : VR ρ x x') (ha : aassert P x t ok = some v) : ∃ v', VR ρ v v' ∧ (Instr.typeAssert x' xt t ok).run P w = .ok v' w := by
  unfold aassert at ha
  split at ha
  · cases ha
  · rename_i d hni hu
    split at ha
    · rename_i u y
      cases hx with
      | iface _ _ y' hy =>
        cases hut : Nat.beq u t <;> rw [hut] at ha <;> simp at ha
        · cases ok <;> simp at ha
          split at ha
          · rename_i z hz
            cases ha
            obtain ⟨z1, z2, z3⟩ := zeroP_spec hz
            have hne : u ≠ t := fun e => by rw [e, Nat.beq_refl] at hut; cases hut
            refine ⟨_, VR.pair (VR.plain_refl z3) (.bool false), ?_⟩
            cases d <;> simp [Instr.typeAssert, run_underlying hu, hne, z1] at hni ⊢
          · cases ha
        · subst ha
          have hut := Nat.eq_of_beq_eq_true hut
          subst hut
          refine ⟨if ok then .tuple #[y', .bool true] else y', ?_, ?_⟩
          · cases ok
            · exact hy
            · exact VR.pair hy (.bool true)
          · cases d <;> cases ok <;> simp [Instr.typeAssert, run_underlying hu] at hni ⊢
    · cases hx
      cases ok <;> simp at ha
      split at ha
      · rename_i z hz
        cases ha
        obtain ⟨z1, z2, z3⟩ := zeroP_spec hz
        refine ⟨_, VR.pair (VR.plain_refl z3) (.bool false), ?_⟩
        cases d <;> simp [Instr.typeAssert, run_underlying hu, z1] at hni ⊢
      · cases ha
    · cases ha
  · cases ha
end Go.Abs
end
end
section
noncomputable section
namespace Go.Abs
variable {ρ : Ren} {h : H} {w : World}
def vN (v : Option Value) : Option (AN × Eff) :=
  match v with
  | some v => some (.val v, .none)
  | none => none
def vE (v : Option (Value × Eff)) : Option (AN × Eff) :=
  match v with
  | some (v, E) => some (.val v, E)
  | none => none
def sE (v : Option Eff) : Option (AN × Eff) :=
  match v with
  | some E => some (.skip, E)
  | none => none
def pN (v : Option AN) : Option (AN × Eff) :=
  match v with
  | some v => some (v, .none)
  | none => none
theorem vN_sound {P : Program} {v : Option Value} {nx : AN} {E : Eff} {s : Sem Value} (ha : vN v = some (nx, E)) (hs : ∀ x, v = some x → ∃ x', VR ρ x x' ∧ s.run P w = .ok x' w) :
    OpOK P ρ h w (do pure (.value (← s))) nx E := by
  unfold vN at ha
  split at ha
  · cases ha; obtain ⟨x', h1, h2⟩ := hs _ rfl; exact OpOK.val_bind h1 h2
  · cases ha
def abin (P : Program) (op : BinOp) (t : TypeId) (x y : Operand) (a b : Value) : Option (AN × Eff) :=
  bif plain a && plain b then pN (pval P (do eqGuard op t x y a b; binOp op t a b))
  else match op with
  | .eql => match nilEq P t a b with
    | some r => some (.val (.bool r), .none)
    | none => none
  | .neq => match nilEq P t a b with
    | some r => some (.val (.bool (!r)), .none)
    | none => none
  | _ => none
theorem nilEq_guard {P : Program} {t : TypeId} {a a' b b' : Value} {r : Bool} (ha : VR ρ a a') (hb : VR ρ b b') (hn : nilEq P t a b = some r) (op : BinOp) (x y : Operand) (hp : (plain a && plain b) = false) :
    (eqGuard op t x y a' b').run P w = .ok () w ∧ (op = .eql → binOp op t a' b' = do pure (.bool (← Op.equal t a' b'))) ∧ (op = .neq → binOp op t a' b' = do pure (.bool (!(← Op.equal t a' b')))) := by
  unfold nilEq at hn
  split at hn
  all_goals first
    | (cases hn; done)
    | (cases ha <;> cases hb <;> first
        | (exfalso; simp [plain, scalar] at hp; done)
        | (refine ⟨?_, fun e => ?_, fun e => ?_⟩
           · unfold eqGuard; cases op <;> rfl
           · subst e; rfl
           · subst e; rfl))
theorem bin_sound {P : Program} {op : BinOp} {t : TypeId} {x y : Operand} {a a' b b' : Value} {nx : AN} {E : Eff} (ha : VR ρ a a') (hb : VR ρ b b') (hr : abin P op t x y a b = some (nx, E)) :
    OpOK P ρ h w (do pure (.value (← (do eqGuard op t x y a' b'; binOp op t a' b' : Sem Value)))) nx E := by
  unfold abin at hr
  cases hp : (plain a && plain b) <;> rw [hp] at hr
  · simp only [cond_false] at hr
    split at hr
    · split at hr
      · rename_i r hn
        cases hr
        obtain ⟨g1, g2, _⟩ := nilEq_guard (w := w) ha hb hn .eql x y hp
        have he := nilEq_sound (w := w) ha hb hn
        exact OpOK.val_bind (.bool r) (by simp only [Sem.run_bind, g1, Result.andThen_ok, g2 rfl, he]; rfl)
      · cases hr
    · split at hr
      · rename_i r hn
        cases hr
        obtain ⟨g1, _, g2⟩ := nilEq_guard (w := w) ha hb hn .neq x y hp
        have he := nilEq_sound (w := w) ha hb hn
        exact OpOK.val_bind (.bool (!r)) (by simp only [Sem.run_bind, g1, Result.andThen_ok, g2 rfl, he]; rfl)
      · cases hr
    · cases hr
  · simp only [cond_true] at hr
    rw [Bool.and_eq_true] at hp
    rw [VR.plain_eq hp.1 ha, VR.plain_eq hp.2 hb]
    unfold pN at hr
    split at hr
    · rename_i v e; cases hr; exact pval_sound e
    · cases hr
def allPlain (vs : List Value) : Bool := vs.all plain
theorem LR.plain_eq {xs ys : List Value} (hv : LR ρ xs ys) (h : allPlain xs = true) : ys = xs := by
  apply List.ext_getElem hv.1.symm
  intro i h1 h2
  unfold allPlain at h
  rw [List.all_eq_true] at h
  exact VR.plain_eq (h _ (List.getElem_mem h2)) (hv.2 i _ _ (List.getElem?_eq_getElem h2) (List.getElem?_eq_getElem h1))
def abuiltin (P : Program) (h : H) (b : Builtin) (ts : Array TypeId) (ty : TypeId) (args : List Value) : Option (AN × Eff) :=
  match b, args with
  | .append, [s, x] => vE (aappend P h ts s x)
  | .len, [x] => match ts.toList with
    | t :: _ => vN (alen P h t x)
    | [] => none
  | .copy, [d, s] => match ts.toList with
    | t :: _ => vE (acopy P h t d s)
    | [] => none
  | .clear, [x] => match ts.toList with
    | t :: _ => match aclear P h t x with
      | some E => some (.val (.tuple #[]), E)
      | none => none
    | [] => none
  | .delete, [m, k] => match ts.toList with
    | t :: _ => match adelete P h t m k with
      | some E => some (.val (.tuple #[]), E)
      | none => none
    | [] => none
  | .min, vs => bif allPlain vs then pN (pval P (Builtin.min_ ts ty vs.toArray)) else none
  | .max, vs => bif allPlain vs then pN (pval P (Builtin.max_ ts ty vs.toArray)) else none
  | .recover, [] => some (.recov, .none)
  | _, _ => none
theorem vE_sound {P : Program} {v : Option (Value × Eff)} {nx : AN} {E : Eff} {s : Sem Next} (ha : vE v = some (nx, E)) (hs : ∀ x E, v = some (x, E) → OpOK P ρ h w s (.val x) E) : OpOK P ρ h w s nx E := by
  unfold vE at ha
  split at ha
  · cases ha; exact hs _ _ rfl
  · cases ha
theorem sE_sound {P : Program} {v : Option Eff} {nx : AN} {E : Eff} {s : Sem Next} (ha : sE v = some (nx, E)) (hs : ∀ E, v = some E → OpOK P ρ h w s .skip E) : OpOK P ρ h w s nx E := by
  unfold sE at ha
  split at ha
  · cases ha; exact hs _ rfl
  · cases ha
theorem pN_sound {P : Program} {v : Option AN} {nx : AN} {E : Eff} {s : Sem Next} (ha : pN v = some (nx, E)) (hs : ∀ x, v = some x → OpOK P ρ h w s x .none) : OpOK P ρ h w s nx E := by
  unfold pN at ha
  split at ha
  · cases ha; exact hs _ rfl
  · cases ha
theorem LR.one {x : Value} {ys : List Value} (h : LR ρ [x] ys) : ∃ y, ys = [y] ∧ VR ρ x y := by
  match ys, h with
  | [y], h => exact ⟨y, rfl, h.2 0 x y rfl rfl⟩
  | [], h => exact absurd h.1 (by simp)
  | _ :: _ :: _, h => exact absurd h.1 (by simp)
theorem LR.two {x x2 : Value} {ys : List Value} (h : LR ρ [x, x2] ys) : ∃ y y2, ys = [y, y2] ∧ VR ρ x y ∧ VR ρ x2 y2 := by
  match ys, h with
  | [y, y2], h => exact ⟨y, y2, rfl, h.2 0 x y rfl rfl, h.2 1 x2 y2 rfl rfl⟩
  | [], h => exact absurd h.1 (by simp)
  | [_], h => exact absurd h.1 (by simp)
  | _ :: _ :: _ :: _, h => exact absurd h.1 (by simp)
theorem builtin_sound {P : Program} {b : Builtin} {ts : Array TypeId} {ty : TypeId} {cs : Array Bool} {args args' : List Value} {nx : AN} {E : Eff} (r : Rel ρ h w) (hargs : LR ρ args args')
    (ha : abuiltin P h b ts ty args = some (nx, E)) : OpOK P ρ h w (builtin b ts ty cs args'.toArray) nx E := by
  unfold abuiltin at ha
  split at ha
  · obtain ⟨s', x', rfl, h1, h2⟩ := LR.two hargs
    exact vE_sound ha fun _ _ e => append_sound r h1 h2 e
  · obtain ⟨x', rfl, h1⟩ := LR.one hargs
    split at ha
    · rename_i t rest e
      have ht : ts[0]? = some t := by rw [← Array.getElem?_toList, e]; rfl
      exact vN_sound ha fun _ e => len_sound ht r h1 e
    · cases ha
  · obtain ⟨s', x', rfl, h1, h2⟩ := LR.two hargs
    split at ha
    · rename_i t rest e
      have ht : ts[0]? = some t := by rw [← Array.getElem?_toList, e]; rfl
      exact vE_sound ha fun _ _ e => copy_sound ht r h1 h2 e
    · cases ha
  · obtain ⟨x', rfl, h1⟩ := LR.one hargs
    split at ha
    · rename_i t rest e
      have ht : ts[0]? = some t := by rw [← Array.getElem?_toList, e]; rfl
      split at ha
      · rename_i E e; cases ha; exact clear_sound ht r h1 e
      · cases ha
    · cases ha
  · obtain ⟨s', x', rfl, h1, h2⟩ := LR.two hargs
    split at ha
    · rename_i t rest e
      have ht : ts[0]? = some t := by rw [← Array.getElem?_toList, e]; rfl
      split at ha
      · rename_i E e; cases ha; exact delete_sound ht r h1 h2 e
      · cases ha
    · cases ha
  · cases hp : allPlain args <;> rw [hp] at ha <;> simp at ha
    rw [hargs.plain_eq hp]
    exact pN_sound ha fun _ e => pval_sound e
  · cases hp : allPlain args <;> rw [hp] at ha <;> simp at ha
    rw [hargs.plain_eq hp]
    exact pN_sound ha fun _ e => pval_sound e
  · cases ha
    exact ⟨ρ, w, Same.refl w, ⟨rfl, rfl⟩, rfl⟩
  · cases ha
def isYield : Fn → Bool
  | .yield _ => true
  | _ => false
def bytesOf : List Value → Option (List UInt8)
  | [] => some []
  | .int .u8 n :: r => match bytesOf r with
    | some l => some (UInt8.ofNat n.toNat :: l)
    | none => none
  | _ => none
def abytes (P : Program) (h : H) (s d : TypeId) (x : Value) : Option Value :=
  match P.underlying s, P.underlying d, x with
  | some (.slice e), some .string, .slice (some ⟨i, o, none⟩) n _ => match P.underlying e, h.at i with
    | some (.int .u8), .row cs _ _ => bif Nat.ble 1 n && Nat.ble (o + n) cs.length then (match bytesOf ((cs.drop o).take n) with
      | some l => some (.string ⟨l.toArray⟩)
      | none => none) else none
    | _, _ => none
  | _, _, _ => none
theorem run_forIn_list {P : Program} {w : World} {β : Type} (f : Value → β → Sem (ForInStep β)) (g : β → Value → β) : ∀ (l : List Value) (b : β), (∀ c ∈ l, ∀ b, (f c b).run P w = .ok (.yield (g b c)) w) → (forIn l b f).run P w = .ok (l.foldl g b) w := by
  intro l
  induction l with
  | nil => intro b _; simp
  | cons a l ih =>
    intro b h
    rw [List.forIn_cons]
    simp only [Sem.run_bind, h a (by simp) b, Result.andThen_ok]
    exact ih (g b a) fun c hc => h c (by simp [hc])
theorem bytesOf_all : ∀ {cs : List Value} {l : List UInt8}, bytesOf cs = some l → (∀ c ∈ cs, ∃ n, c = .int .u8 n) ∧ ∀ acc : ByteArray, cs.foldl (fun (b : ByteArray) c => match c with
    | .int .u8 n => b.push (UInt8.ofNat n.toNat)
    | _ => b) acc = ⟨acc.data ++ l.toArray⟩ := by
  intro cs
  induction cs with
  | nil => intro l h; cases h; exact ⟨fun c hc => (by cases hc), fun acc => (by simp)⟩
  | cons c cs ih =>
    intro l h
    unfold bytesOf at h
    split at h
    · rename_i h1; cases h1
    · rename_i n r h1
      cases h1
      split at h
      · rename_i l' e
        cases h
        obtain ⟨i1, i2⟩ := ih e
        refine ⟨fun c hc => ?_, fun acc => ?_⟩
        · rcases List.mem_cons.1 hc with z | z
          · exact ⟨n, z⟩
          · exact i1 c z
        · rw [List.foldl_cons, i2]
          show ByteArray.mk ((acc.data.push _) ++ _) = _
          simp
      · cases h
    · cases h
theorem bytes_sound {P : Program} {ρ : Ren} {h : H} {w : World} {s d : TypeId} {x x' v : Value} (r : Rel ρ h w) (hx : VR ρ x x') (ha : abytes P h s d x = some v) : ∃ v', VR ρ v v' ∧ (convert s d x').run P w = .ok v' w := by
  unfold abytes at ha
  split at ha
  · rename_i e i o n c hs hd
    split at ha
    · rename_i cs own k he hat
      cases hc : (Nat.ble 1 n && Nat.ble (o + n) cs.length) <;> rw [hc] at ha <;> simp only [cond_true, cond_false] at ha
      · cases ha
      · rw [Bool.and_eq_true] at hc
        have hn1 := Nat.le_of_ble_eq_true hc.1
        have hle := Nat.le_of_ble_eq_true hc.2
        split at ha
        · rename_i l hl
          cases ha
          cases hx with
          | sliceE _ o' _ hi hc1 => omega
          | slice _ _ _ c' hi hcap =>
            rename_i b dd
            have ho := r.obj _ _ _ hi
            rw [hat] at ho
            obtain ⟨vs', hl', hcell, hvs⟩ := row_cells (o := o) (n := n) ho hle
            have hlc := run_loadCellsFrom (P := P) (w := w) ⟨b, dd + o, none⟩ (fun j => vs'.getD j undef) n 0 #[] (fun j hj => by rw [addr_add]; have := hcell j hj; rw [Nat.zero_add]; exact this)
            have e1 : (List.range n).map (fun j => vs'.getD (0 + j) undef) = vs' := by
              apply List.ext_getElem (by simp [hl'])
              intro j h1 h2
              simp [h2]
            rw [e1] at hlc
            obtain ⟨b1, b2⟩ := bytesOf_all hl
            have hvl := hvs.list
            have heq : vs' = (cs.drop o).take n := by
              apply List.ext_getElem?
              intro j
              cases hj : ((cs.drop o).take n)[j]? with
              | none =>
                rw [List.getElem?_eq_none_iff] at hj ⊢
                have := hvl.1
                simp at this hj ⊢; omega
              | some u =>
                have hjl : j < vs'.length := by
                  have h1 := (List.getElem?_eq_some_iff.1 hj).1
                  have := hvl.1
                  simp at this h1 ⊢; omega
                obtain ⟨z, hz⟩ : ∃ z, vs'[j]? = some z := ⟨vs'[j], by simp [hjl]⟩
                have h3 := hvl.2 j u z (by simpa using hj) (by simpa using hz)
                obtain ⟨n', en⟩ := b1 u (List.mem_of_getElem? hj)
                subst en
                cases h3
                exact hz
            refine ⟨.string ⟨l.toArray⟩, .string _, ?_⟩
            have hrun := run_forIn_list (P := P) (w := w) (fun c (r : ByteArray) => (match c with
              | .int .u8 n => pure (.yield (r.push (UInt8.ofNat n.toNat)))
              | _ => do
                stuck "bytesToString: byte expected"
                pure (.yield r) : Sem (ForInStep ByteArray))) (fun (b : ByteArray) c => match c with
              | .int .u8 n => b.push (UInt8.ofNat n.toNat)
              | _ => b) vs' ByteArray.empty (fun c hc b => by
                rw [heq] at hc
                obtain ⟨n', rfl⟩ := b1 c hc
                simp)
            rw [heq, b2] at hrun
            have e2 : (⟨ByteArray.empty.data ++ l.toArray⟩ : ByteArray) = ⟨l.toArray⟩ := by
              show ByteArray.mk (#[] ++ l.toArray) = _
              simp
            rw [e2, ← heq] at hrun
            simp only [convert, run_underlying hs, run_underlying hd, run_underlying he, Sem.run_bind, Sem.run_pure, Result.andThen_ok, Conv.bytesToString, loadCells, hlc]
            simp only [List.append_toArray, List.nil_append, List.forIn_toArray] at hrun ⊢
            exact Eq.trans (congrArg (fun z : Result ByteArray => z.andThen fun a w' => Result.ok (Value.string a) w') hrun) (by simp)
        · cases ha
    · cases ha
  · cases ha
def amethod (P : Program) (t : TypeId) (name : String) : Option FuncId :=
  match P.info? t, P.underlying t with
  | some i, some (.struct _) => match i.methods.find? (·.name == name) with
    | some m => match m.path.toList, m.func with
      | [], some (f, false) => some f
      | _, _ => none
    | none => none
  | _, _ => none
def ainvoke (X : Ctx) (r : Value) (name : String) (args : List Value) : Option (AN × Eff) :=
  match r with
  | .iface t v => match amethod X.P t name with
    | some f => match X.fns.get f with
      | some _ => some (.enter f (v :: args).toArray, .none)
      | none => none
    | none => none
  | _ => none
theorem invoke_sound {X : Ctx} {ρ : Ren} {h : H} {w : World} {r r' : Value} {name : String} {args args' : List Value} {nx : AN} {E : Eff} (hr : VR ρ r r') (hargs : LR ρ args args') (ha : ainvoke X r name args = some (nx, E)) :
    OpOK X.P ρ h w (invoke (.fn (.method name) #[]) (#[r'] ++ args'.toArray)) nx E := by
  unfold ainvoke at ha
  split at ha
  · rename_i t v
    split at ha
    · rename_i f hm
      split at ha
      · rename_i fn hfn
        cases ha
        cases hr with
        | iface _ _ v' hv =>
        refine ⟨ρ, w, Same.refl w, ⟨rfl, rfl⟩, (v' :: args').toArray, ?_, ?_⟩
        · have : LR ρ ([v] ++ args) ([v'] ++ args') := LR.append ⟨rfl, fun i a b e1 e2 => by
            cases i with
            | zero => simp at e1 e2; subst e1 e2; exact hv
            | succ i => simp at e1⟩ hargs
          exact this.arr
        · unfold amethod at hm
          split at hm
          · rename_i inf fs hi hu
            split at hm
            · rename_i m hfm
              split at hm
              · rename_i f' hp hfu
                cases hm
                have hc := run_callFunc (w := w) (args := (v' :: args').toArray) hfn
                have ht : (typeInfo t).run X.P w = .ok inf w := by simp [typeInfo, program, Sem.run, hi]
                have hx : (#[Value.iface t v'] ++ args'.toArray).extract 1 (#[Value.iface t v'] ++ args'.toArray).size = args'.toArray := by
                  apply Array.toList_inj.1; simp
                have hz : (#[Value.iface t v'] ++ args'.toArray)[0]? = some (Value.iface t v') := by simp
                have hcons : #[v'] ++ args'.toArray = (v' :: args').toArray := by simp
                obtain ⟨k, hk⟩ : ∃ k, X.P.types.size + Made.depth = k + 1 := ⟨X.P.types.size + 99, rfl⟩
                have hmr : (method (k + 1) t v' name).run X.P w = .ok (f, v') w := by
                  unfold method
                  simp [ht, hfm, hp, hfu, follow, receiverAt, run_underlying hu, Place.get]
                simp only [invoke, hz, callMethod, Sem.run_bind, Sem.run_pure, Result.andThen_ok]
                have hpr : (program).run X.P w = .ok X.P w := by simp [program, Sem.run]
                simp only [hpr, Result.andThen_ok, hk, hmr, hx, hcons]
                exact hc
              · cases hm
            · cases hm
          · cases hm
      · cases ha
    · cases ha
  · cases ha
def aop (X : Ctx) (h : H) (ev : Operand → Option Value) (o : Oper) : Option (AN × Eff) :=
  match o.op with
  | .move x | .assign x => vN (ev x)
  | .pick c a b => match ev c with
    | some (.bool true) => vN (ev a)
    | some (.bool false) => vN (ev b)
    | _ => none
  | .alloc t => match zeroP X.P t with
    | some z => some (.val (freshPtr h), .new (.row z.cells.toList true 0))
    | none => none
  | .box _ x => match ev x with
    | some v => some (.val (freshPtr h), .new (.row v.cells.toList true 0))
    | none => none
  | .build t ps => match evp ev ps.toList with
    | some ps => vN (abuild X.P t ps)
    | none => none
  | .buildSlice t n ps => match evp ev ps.toList with
    | some ps => vE (aslit X.P h t n ps)
    | none => none
  | .load t x => match ev x with
    | some v => vN (aload X.P h t v)
    | none => none
  | .store t a x => match ev a, ev x with
    | some a, some x => sE (astore X.P h t a x)
    | _, _ => none
  | .nilCheck x => match ev x with
    | some (.pointer (some a)) => some (.val (.pointer (some a)), .none)
    | _ => none
  | .binOp op t x y _ => match ev x, ev y with
    | some a, some b => abin X.P op t x y a b
    | _, _ => none
  | .unOp op _ x => match ev x with
    | some a => bif plain a then pN (pval X.P (Op.unary op a)) else none
    | none => none
  | .convert s d x => match ev x with
    | some a => bif plain a then pN (pval X.P (convert s d a)) else vN (abytes X.P h s d a)
    | none => none
  | .makeInterface t x => match ev x, X.P.underlying t with
    | some _, some (.interface _) => none
    | some v, some _ => some (.val (.iface t v), .none)
    | _, _ => none
  | .makeFunc fn first cap => bif isYield fn then none else match evs ev first.toList, evs ev cap.toList with
    | some vs, some us => some (.val (.func fn vs.toArray us.toArray), .none)
    | _, _ => none
  | .makeMap _ none => some (.val (.map (some h.size)), .new (.map [] 0))
  | .makeSlice t l c => match ev l, ev c with
    | some l, some c => vE (amake X.P h t l c)
    | _, _ => none
  | .slice t x lo hi mx => match ev x, evo ev lo, evo ev hi, evo ev mx with
    | some x, some lo, some hi, some mx => bif plain x && not (isSl x) then (match lo, hi, mx with
        | lo, hi, mx => bif allPlain (lo.toList ++ hi.toList ++ mx.toList) then pN (pval X.P (Instr.sliceAt t x lo hi mx)) else none)
      else vN (aslice X.P h t x lo hi mx)
    | _, _, _, _ => none
  | .fieldAddr s x f => match ev x with
    | some v => vN (afield X.P s v f)
    | none => none
  | .field t x f => match ev x with
    | some v => vN (afieldV X.P t v f)
    | none => none
  | .indexAddr t x i => match ev x, ev i with
    | some x, some i => vN (aindex X.P t x i)
    | _, _ => none
  | .index t x i => match ev x, ev i with
    | some x, some i => bif plain x && plain i then pN (pval X.P (Instr.index t x i)) else vN (aindexV X.P t x i)
    | _, _ => none
  | .lookup t m k ok => match ev m, ev k with
    | some m, some k => vN (alookup X.P h t m k ok)
    | _, _ => none
  | .mapUpdate t m k x | .insert t m k x => match ev m, ev k, ev x with
    | some m, some k, some x => sE (amapUpdate X.P h t m k x)
    | _, _, _ => none
  | .mapEntry t m k => match ev m, ev k with
    | some m, some k => vE (amapEntry X.P h t m k)
    | _, _ => none
  | .entryStore _ m s x => match ev m, ev s, ev x with
    | some m, some s, some x => sE (aentryStore h m s x)
    | _, _, _ => none
  | .typeAssert x _ t ok => match ev x with
    | some x => vN (aassert X.P x t ok)
    | none => none
  | .extract x k => match ev x with
    | some x => vN (aextract x k)
    | none => none
  | .call c => match c.callee, evs ev c.args.toList with
    | .builtin b, some args => abuiltin X.P h b c.argTypes o.type args
    | .value f, some args => match ev f with
      | some f => acall X h f args
      | none => none
    | .invoke r name, some args => match ev r with
      | some r => ainvoke X r name args
      | none => none
    | _, _ => none
  | .defer c => match c.callee, evs ev c.args.toList with
    | .value f, some args => match ev f with
      | some (.func (.func g) first cap) => some (.dfr { target := .fn (.func g) cap, args := first ++ args.toArray }, .none)
      | _ => none
    | _, _ => none
  | .panic x => match ev x with
    | some (.iface t v) => some (.panic (.iface t v), .none)
    | _ => none
  | .range t x => match ev x with
    | some x => vE (arange X.P h t x)
    | none => none
  | .next it b => match ev it with
    | some it => vE (anext h it b)
    | none => none
  | .entry it => match ev it with
    | some it => vN (aentry h it)
    | none => none
  | _ => none
theorem map_arr {α β : Type} (f : α → β) (xs : Array α) : (xs.toList.map f).toArray = xs.map f := by cases xs; simp
theorem OptR.plain_eq {v v' : Option Value} (h : OptR ρ v v') (hp : allPlain v.toList = true) : v' = v := by
  cases v <;> cases v' <;> simp [OptR, allPlain] at h hp ⊢
  exact VR.plain_eq hp h
set_option maxHeartbeats 1000000 in
theorem aop_sound {X : Ctx} {ev : Operand → Option Value} {ev' : Operand → Value} {o : Oper} {nx : AN} {E : Eff} (r : Rel ρ h w) (he : EvR ρ ev ev') (ha : aop X h ev o = some (nx, E)) :
    OpOK X.P ρ h w (execOp ev' o) nx E := by
  unfold aop at ha
  split at ha
  · rename_i x ho
    unfold vN at ha
    split at ha
    · rename_i v e; cases ha; exact OpOK.val (he x v e) (by simp [execOp, ho])
    · cases ha
  · rename_i x ho
    unfold vN at ha
    split at ha
    · rename_i v e; cases ha; exact OpOK.val (he x v e) (by simp [execOp, ho])
    · cases ha
  · rename_i c a b ho
    split at ha
    · rename_i e
      have hc := he c _ e
      generalize hcc : ev' c = cv at hc
      cases hc
      unfold vN at ha
      split at ha
      · rename_i v e; cases ha; exact OpOK.val (he a v e) (by simp [execOp, ho, hcc, asBool])
      · cases ha
    · rename_i e
      have hc := he c _ e
      generalize hcc : ev' c = cv at hc
      cases hc
      unfold vN at ha
      split at ha
      · rename_i v e; cases ha; exact OpOK.val (he b v e) (by simp [execOp, ho, hcc, asBool])
      · cases ha
    · cases ha
  · -- alloc
    rename_i t ho
    split at ha
    · rename_i z hz; cases ha; unfold execOp; rw [ho]; exact alloc_sound r hz
    · cases ha
  · rename_i t x ho
    split at ha
    · rename_i v e; cases ha; unfold execOp; rw [ho]; exact box_sound r t (he x v e)
    · cases ha
  · rename_i t ps ho
    split at ha
    · rename_i vs e
      obtain ⟨q1, q2⟩ := evp_sound he _ _ e
      unfold execOp; rw [ho]
      refine vN_sound ha fun x hx => ?_
      obtain ⟨x', h1, h2⟩ := build_sound (w := w) q1 q2 hx
      have e3 : (ps.toList.map fun p : Nat × Operand => (p.1, ev' p.2)).toArray = ps.map fun p : Nat × Operand => (p.1, ev' p.2) := map_arr _ _
      rw [e3] at h2
      exact ⟨x', h1, h2⟩
    · cases ha
  · rename_i t n ps ho
    split at ha
    · rename_i vs e
      obtain ⟨q1, q2⟩ := evp_sound he _ _ e
      unfold execOp; rw [ho]
      refine vE_sound ha fun x E hx => ?_
      have := slit_sound r q1 q2 hx
      have e3 : (ps.toList.map fun p : Nat × Operand => (p.1, ev' p.2)).toArray = ps.map fun p : Nat × Operand => (p.1, ev' p.2) := map_arr _ _
      rw [e3] at this
      exact this
    · cases ha
  · rename_i t x ho
    split at ha
    · rename_i v e; unfold execOp; rw [ho]; exact vN_sound ha fun _ hx => load_sound r (he x v e) hx
    · cases ha
  · rename_i t a x ho
    split at ha
    · rename_i u v e1 e2; unfold execOp; rw [ho]; exact sE_sound ha fun _ hx => store_sound r (he a u e1) (he x v e2) hx
    · cases ha
  · rename_i x ho
    split at ha
    · rename_i a e
      cases ha
      have hx := he x _ e
      generalize hxx : ev' x = xv at hx
      cases hx with
      | ptr o hi => exact OpOK.val (.ptr o hi) (by simp [execOp, ho, hxx])
    · cases ha
  · rename_i op t x y yt ho
    split at ha
    · rename_i a b e1 e2; unfold execOp; rw [ho]; exact bin_sound (he x a e1) (he y b e2) ha
    · cases ha
  · rename_i op t x ho
    split at ha
    · rename_i a e
      cases hp : plain a <;> rw [hp] at ha <;> simp at ha
      unfold execOp; rw [ho]; dsimp only; rw [VR.plain_eq hp (he x a e)]
      exact pN_sound ha fun _ hx => pval_sound hx
    · cases ha
  · rename_i s d x ho
    split at ha
    · rename_i a e
      cases hp : plain a <;> rw [hp] at ha <;> simp at ha
      · unfold vN at ha
        split at ha
        · rename_i v e2
          cases ha
          obtain ⟨v', h1, h2⟩ := bytes_sound r (he x a e) e2
          exact OpOK.val h1 (by simp [execOp, ho, h2])
        · cases ha
      · unfold execOp; rw [ho]; dsimp only; rw [VR.plain_eq hp (he x a e)]
        exact pN_sound ha fun _ hx => pval_sound hx
    · cases ha
  · rename_i t x ho
    split at ha
    · cases ha
    · rename_i v d hni e1 e2
      cases ha
      refine OpOK.val (.iface t _ _ (he x v e1)) ?_
      cases d <;> simp [execOp, ho, Instr.makeInterface, run_underlying e2] at hni ⊢
    · cases ha
  · rename_i fn first cap ho
    cases hy : isYield fn <;> rw [hy] at ha <;> simp at ha
    split at ha
    · rename_i vs us e1 e2
      cases ha
      have q1 := (evs_sound he _ _ e1).arr
      have q2 := (evs_sound he _ _ e2).arr
      refine OpOK.val (.func fn _ _ (first.map ev') (cap.map ev') (fun l hl => by subst hl; cases hy) (by simpa using q1.1) (by simpa using q2.1)
        (fun i v v' a b => q1.2 i v v' a (by simpa using b)) (fun i v v' a b => q2.2 i v v' a (by simpa using b))) (by simp [execOp, ho, Instr.makeFunc])
    · cases ha
  · rename_i t ho
    cases ha
    refine ⟨ρ.add h.size (w.heap.size, 0) (0, 0), World.push w (.map #[] 0), same_push _, ⟨_, rfl, ⟨_, rfl⟩, rfl, #[], push_at _, .nil⟩, .map (some w.heap.size), .map (Ren.add_same ρ h.size _ _), ?_⟩
    simp [execOp, ho, Instr.makeMap]; rfl
  · rename_i t l c ho
    split at ha
    · rename_i u v e1 e2; unfold execOp; rw [ho]; exact vE_sound ha fun _ _ hx => make_sound r (he l u e1) (he c v e2) hx
    · cases ha
  · rename_i t x lo hi mx ho
    split at ha
    · rename_i v lo' hi' mx' e1 e2 e3 e4
      have q1 := he x v e1
      have q2 := evo_sound he e2
      have q3 := evo_sound he e3
      have q4 := evo_sound he e4
      unfold execOp; rw [ho]
      cases hp : (plain v && not (isSl v)) <;> rw [hp] at ha
      · simp only [cond_false] at ha
        exact vN_sound ha fun _ hx => slice_sound r q1 q2 q3 q4 hx
      · simp only [cond_true] at ha
        rw [Bool.and_eq_true] at hp
        cases hq : allPlain (lo'.toList ++ hi'.toList ++ mx'.toList) <;> rw [hq] at ha <;> simp only [cond_false, cond_true] at ha
        · cases ha
        · simp only [allPlain, List.all_append, Bool.and_eq_true] at hq
          dsimp only
          rw [VR.plain_eq hp.1 q1, OptR.plain_eq q2 hq.1.1, OptR.plain_eq q3 hq.1.2, OptR.plain_eq q4 hq.2]
          exact pN_sound ha fun _ hx => pval_sound hx
    · cases ha
  · rename_i s x f ho
    split at ha
    · rename_i v e; unfold execOp; rw [ho]; exact vN_sound ha fun _ hx => field_sound (he x v e) hx
    · cases ha
  · rename_i t x f ho
    split at ha
    · rename_i v e; unfold execOp; rw [ho]; exact vN_sound ha fun _ hx => fieldV_sound (he x v e) hx
    · cases ha
  · rename_i t x i ho
    split at ha
    · rename_i u v e1 e2; unfold execOp; rw [ho]; exact vN_sound ha fun _ hx => index_sound (he x u e1) (he i v e2) hx
    · cases ha
  · rename_i t x i ho
    split at ha
    · rename_i u v e1 e2
      unfold execOp; rw [ho]
      cases hp : (plain u && plain v) <;> rw [hp] at ha <;> simp only [cond_false, cond_true] at ha
      · exact vN_sound ha fun _ hx => indexV_sound (he x u e1) (he i v e2) hx
      · rw [Bool.and_eq_true] at hp
        dsimp only
        rw [VR.plain_eq hp.1 (he x u e1), VR.plain_eq hp.2 (he i v e2)]
        exact pN_sound ha fun _ hx => pval_sound hx
    · cases ha
  · rename_i t m k ok ho
    split at ha
    · rename_i u v e1 e2; unfold execOp; rw [ho]; exact vN_sound ha fun _ hx => lookup_sound r (he m u e1) (he k v e2) hx
    · cases ha
  · rename_i t m k x ho
    split at ha
    · rename_i u v y e1 e2 e3; unfold execOp; rw [ho]; exact sE_sound ha fun _ hx => mapUpdate_sound r (he m u e1) (he k v e2) (he x y e3) hx
    · cases ha
  · rename_i t m k x ho
    split at ha
    · rename_i u v y e1 e2 e3; unfold execOp; rw [ho]; exact sE_sound ha fun _ hx => mapUpdate_sound r (he m u e1) (he k v e2) (he x y e3) hx
    · cases ha
  · rename_i t m k ho
    split at ha
    · rename_i u v e1 e2; unfold execOp; rw [ho]; exact vE_sound ha fun _ _ hx => mapEntry_sound r (he m u e1) (he k v e2) hx
    · cases ha
  · rename_i t m s x ho
    split at ha
    · rename_i u v y e1 e2 e3; unfold execOp; rw [ho]; exact sE_sound ha fun _ hx => entryStore_sound r (he m u e1) (he s v e2) (he x y e3) hx
    · cases ha
  · rename_i x xt t ok ho
    split at ha
    · rename_i v e; unfold execOp; rw [ho]; exact vN_sound ha fun _ hx => assert_sound (he x v e) hx
    · cases ha
  · rename_i x k ho
    split at ha
    · rename_i v e; unfold execOp; rw [ho]; exact vN_sound ha fun _ hx => extract_sound (he x v e) hx
    · cases ha
  · rename_i c ho
    split at ha
    · rename_i b args e1 e2
      have q := evs_sound he _ _ e2
      have := builtin_sound (ts := c.argTypes) (ty := o.type) (cs := c.args.map fun | .const _ => true | _ => false) r q ha
      unfold execOp; rw [ho]
      have e3 : (c.args.toList.map ev').toArray = c.args.map ev' := map_arr _ _
      rw [e3] at this
      show OpOK X.P ρ h w (do let d ← resolve ev' c o.type; invoke d.target d.args) nx E
      unfold resolve
      rw [e1]
      exact this
    · rename_i f args e1 e2
      have q := evs_sound he _ _ e2
      split at ha
      · rename_i fv e4
        have := call_sound r (he f fv e4) q ha
        unfold execOp; rw [ho]
        have e3 : (c.args.toList.map ev').toArray = c.args.map ev' := map_arr _ _
        rw [e3] at this
        show OpOK X.P ρ h w (do let d ← resolve ev' c o.type; invoke d.target d.args) nx E
        unfold resolve
        rw [e1]
        exact this
      · cases ha
    · rename_i rr name args e1 e2
      have q := evs_sound he _ _ e2
      split at ha
      · rename_i rv e4
        have := invoke_sound (w := w) (h := h) (he rr rv e4) q ha
        unfold execOp; rw [ho]
        have e3 : (c.args.toList.map ev').toArray = c.args.map ev' := map_arr _ _
        rw [e3] at this
        show OpOK X.P ρ h w (do let d ← resolve ev' c o.type; invoke d.target d.args) nx E
        unfold resolve
        rw [e1]
        exact this
      · cases ha
    · cases ha
  · rename_i c ho
    split at ha
    · rename_i f args e1 e2
      have q := evs_sound he _ _ e2
      split at ha
      · rename_i g first cap e4
        cases ha
        have hf := he f _ e4
        generalize hff : ev' f = fv at hf
        cases hf with
        | func _ _ _ first' cap' hy hx1 hx2 h1 h2 =>
          refine ⟨ρ, w, Same.refl w, ⟨rfl, rfl⟩, { target := .fn (.func g) cap', args := first' ++ c.args.map ev' }, ⟨⟨g, cap, cap', rfl, rfl, hx2, h2⟩, ?_⟩, ?_⟩
          · have e5 : LR ρ first.toList first'.toList := VRs.list ⟨hx1, h1⟩
            have := (e5.append q).arr
            have e6 : (first.toList ++ args).toArray = first ++ args.toArray := by apply Array.toList_inj.1; simp
            have e7 : (first'.toList ++ c.args.toList.map ev').toArray = first' ++ c.args.map ev' := by apply Array.toList_inj.1; simp
            rwa [e6, e7] at this
          · simp [execOp, ho, resolve, e1, hff, Deferred.ofValue]
      · cases ha
    · cases ha
  · rename_i x ho
    split at ha
    · rename_i t v e
      cases ha
      have hx := he x _ e
      generalize hxx : ev' x = xv at hx
      cases hx with
      | iface _ _ v' hv => exact ⟨ρ, w, Same.refl w, ⟨rfl, rfl⟩, .iface t v', .iface t v v' hv, by simp [execOp, ho, hxx, Instr.panic]⟩
    · cases ha
  · rename_i t x ho
    split at ha
    · rename_i v e; unfold execOp; rw [ho]; exact vE_sound ha fun _ _ hx => range_sound r (he x v e) hx
    · cases ha
  · rename_i it b ho
    split at ha
    · rename_i v e; unfold execOp; rw [ho]; exact vE_sound ha fun _ _ hx => next_sound r o.type (he it v e) hx
    · cases ha
  · rename_i it ho
    split at ha
    · rename_i v e; unfold execOp; rw [ho]; exact vN_sound ha fun _ hx => entry_sound r (he it v e) hx
    · cases ha
  · cases ha
end Go.Abs
end
end
