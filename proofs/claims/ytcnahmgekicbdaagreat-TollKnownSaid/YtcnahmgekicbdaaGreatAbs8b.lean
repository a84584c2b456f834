/- The abstract interpreter, 8b: iterators. -/
import Derived.Test.YtcnahmgekicbdaaGreatAbs8
noncomputable section
namespace Go.Abs
variable {P : Program} {ρ : Ren} {h : H} {w : World}

def arange (P : Program) (h : H) (t : TypeId) (x : Value) : Option (Value × Eff) :=
  match P.underlying t, x with
  | some .string, .string s => some (freshPtr h, .new (.strIter s 0))
  | some (.map _ _), .map none => some (freshPtr h, .new .iterNil)
  | some (.map _ _), .map (some i) => match h.at i with
    | .map _ clock => some (freshPtr h, .new (.iter i clock clock none))
    | _ => none
  | _, _ => none

def overV : Value := .tuple #[.bool false]
def anext (h : H) (it : Value) (isStr : Bool) : Option (Value × Eff) :=
  match it with
  | .pointer (some ⟨i, 0, none⟩) => match h.at i, isStr with
    | .strIter s pos, true => bif Nat.blt pos s.size then some (.tuple #[.bool true, goInt pos, .int .i32 (Utf8.decode s pos).1], .upd i (.strIter s (pos + (Utf8.decode s pos).2))) else some (overV, .none)
    | .iterNil, false => some (overV, .none)
    | _, _ => none
  | _ => none

def efind (b : Nat) : List MapEntry → Option MapEntry
  | [] => none
  | e :: es => bif Nat.beq e.born b then some e else efind b es
def aentry (h : H) (it : Value) : Option Value :=
  match it with
  | .pointer (some ⟨i, 0, none⟩) => match h.at i with
    | .iter m _ clk (some s) => match h.at m with
      | .map es clock => bif Nat.beq clk clock then match efind s es with
          | some e => some (.tuple #[e.key, e.val])
          | none => none
        else none
      | _ => none
    | _ => none
  | _ => none

theorem lay_sound {s : Sem Value} {o : Obj} {A : AObj} (hs : s.run P w = .ok (.pointer (some ⟨w.heap.size, 0, none⟩)) (World.push w o)) (hA : ∀ l, ObjR (ρ.add h.size (w.heap.size, 0) l) (World.push w o) w.heap.size 0 l A) :
    OpOK P ρ h w (do pure (.value (← s))) (.val (freshPtr h)) (.new A) :=
  ⟨_, World.push w o, same_push _, ⟨(0, 0), rfl, ⟨o, rfl⟩, hA (0, 0)⟩, _, fresh_ptr w _, by simp [hs]⟩

theorem push_new (w : World) (o : Obj) : (World.push w o).heap[w.heap.size]? = some o := by
  show (w.heap.push o)[w.heap.size]? = some o
  simp

theorem range_sound (r : Rel ρ h w) {t : TypeId} {x x' v : Value} {E : Eff} (hx : VR ρ x x') (ha : arange P h t x = some (v, E)) :
    OpOK P ρ h w (do pure (.value (← Instr.range t x'))) (.val v) E := by
  unfold arange at ha
  split at ha
  · rename_i s hu
    cases ha
    cases hx with
    | string _ =>
      refine lay_sound (o := .stringIter s 0) ?_ fun l => ⟨rfl, push_new _ _⟩
      simp [Instr.range, run_underlying hu]; rfl
  · rename_i hu
    cases ha
    cases hx
    refine lay_sound (o := .mapIter none 0 #[] 0) ?_ fun l => ⟨rfl, push_new _ _⟩
    simp [Instr.range, run_underlying hu]; rfl
  · rename_i i hu
    split at ha
    · rename_i es clock hat
      cases ha
      cases hx with
      | @map _ b hi =>
        have ho := r.obj _ _ _ hi
        rw [hat] at ho
        obtain ⟨_, es', hw, _⟩ := ho
        refine lay_sound (o := .mapIter (some b) clock #[] clock) ?_ fun l => ⟨rfl, b, #[], (Ren.le_add r.fresh _ _ hi).1, push_new _ _, (fun s e => by cases e), fun _ => rfl⟩
        simp [Instr.range, run_underlying hu, getObj, Sem.run, hw]; rfl
    · cases ha
  · cases ha

theorem next_sound (r : Rel ρ h w) {it it' v : Value} {b : Bool} {E : Eff} (t : TypeId) (hx : VR ρ it it') (ha : anext h it b = some (v, E)) :
    OpOK P ρ h w (do pure (.value (← Instr.next it' b t))) (.val v) E := by
  unfold anext at ha
  split at ha
  · rename_i i
    cases hx with
    | @ptr _ bb d _ hi =>
      have ho := r.obj _ _ _ hi
      have hlt := (r.dom _ _ _ hi).2
      split at ha
      · rename_i s pos hat
        rw [hat] at ho
        obtain ⟨rfl, hw⟩ := ho
        cases hc : Nat.blt pos s.size <;> rw [hc] at ha <;> simp only [cond_true, cond_false] at ha
        · cases ha
          have hn : ¬ pos < s.size := fun z => by rw [← Nat.blt_eq] at z; rw [z] at hc; cases hc
          refine OpOK.val_bind (v' := overV) (VR.plain_refl rfl) ?_
          simp [Instr.next, getObj, Sem.run, hw, hn, overV]
        · cases ha
          rw [Nat.blt_eq] at hc
          refine ⟨ρ, { w with heap := w.heap.setIfInBounds bb (.stringIter s (pos + (Utf8.decode s pos).2)) }, ⟨rfl, rfl, rfl⟩, ⟨rfl, bb, 0, hi, by simp, fun k hk => by simp [Array.getElem?_setIfInBounds_ne (Ne.symm hk)], rfl, by simp [hlt]⟩,
            .tuple #[.bool true, goInt pos, .int .i32 (Utf8.decode s pos).1], VR.plain_refl rfl, ?_⟩
          simp [Instr.next, getObj, setObj, Sem.run, hw, hc]
      · rename_i hat
        rw [hat] at ho
        obtain ⟨rfl, hw⟩ := ho
        cases ha
        refine OpOK.val_bind (v' := overV) (VR.plain_refl rfl) ?_
        simp [Instr.next, getObj, Sem.run, hw, overV]
      · cases ha
  · cases ha

theorem efind_sound {es es' : List MapEntry} (e : EL ρ es es') {b : Nat} {x : MapEntry} (hf : efind b es = some x) : ∃ x', es'.find? (fun e => e.born == b) = some x' ∧ x'.key = x.key ∧ plain x.key = true ∧ VR ρ x.val x'.val ∧ x'.born = b ∧ x' ∈ es' := by
  induction e with
  | nil => cases hf
  | @cons y y' es es' hk hp hb hv t ih =>
    simp only [efind] at hf
    cases hc : Nat.beq y.born b <;> rw [hc] at hf <;> simp only [cond_true, cond_false] at hf
    · obtain ⟨x', h1, h2⟩ := ih hf
      have hne : (y'.born == b) = false := by rw [hb]; rw [beq_decide] at hc; simpa using hc
      exact ⟨x', by rw [List.find?_cons, hne]; exact h1, h2.1, h2.2.1, h2.2.2.1, h2.2.2.2.1, List.mem_cons_of_mem _ h2.2.2.2.2⟩
    · cases hf
      have heq : (y'.born == b) = true := by rw [hb]; simpa using Nat.eq_of_beq_eq_true hc
      exact ⟨y', by rw [List.find?_cons, heq], hk, hp, hv, by rw [hb]; exact Nat.eq_of_beq_eq_true hc, by simp⟩

theorem entry_sound (r : Rel ρ h w) {it it' v : Value} (hx : VR ρ it it') (ha : aentry h it = some v) : ∃ v', VR ρ v v' ∧ (Instr.entry it').run P w = .ok v' w := by
  unfold aentry at ha
  split at ha
  · rename_i i
    cases hx with
    | @ptr _ bb d _ hi =>
      have ho := r.obj _ _ _ hi
      split at ha
      · rename_i m since clk s hat
        rw [hat] at ho
        obtain ⟨rfl, m', seen, hm, hw, hback, _⟩ := ho
        split at ha
        · rename_i es clock hatm
          have hom := r.obj _ _ _ hm
          rw [hatm] at hom
          obtain ⟨_, es', hwm, hes⟩ := hom
          cases hc : Nat.beq clk clock <;> rw [hc] at ha <;> simp only [cond_true, cond_false] at ha
          · cases ha
          · have hc := Nat.eq_of_beq_eq_true hc
            subst hc
            split at ha
            · rename_i e hf
              cases ha
              obtain ⟨e', f1, f2, f3, f4, _⟩ := efind_sound hes hf
              have hb := hback s rfl
              refine ⟨.tuple #[e'.key, e'.val], ?_, ?_⟩
              · refine .tuple _ _ rfl fun j x x' a b => ?_
                match j, a, b with
                | 0, a, b => simp at a b; subst a b; rw [f2]; exact VR.plain_refl f3
                | 1, a, b => simp at a b; subst a b; exact f4
                | j + 2, a, b => simp at a
              · have hfa : es'.find? (fun e => e.born == s) = some e' := by rw [← Array.find?_toList]; exact f1
                simp [Instr.entry, getObj, Sem.run, hw, hb, hwm, hfa]
            · cases ha
        · cases ha
      · cases ha
  · cases ha

end Go.Abs
