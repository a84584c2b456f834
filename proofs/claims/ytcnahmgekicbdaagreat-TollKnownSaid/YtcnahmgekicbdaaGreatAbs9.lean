/- The abstract interpreter, 9: one operation. -/
import Derived.Test.YtcnahmgekicbdaaGreatAbs8b
noncomputable section
namespace Go.Abs
variable {ρ : Ren} {h : H} {w : World}

structure Ctx where
  P : Program
  fns : Tr Func
  ok : ∀ f fn, fns.get f = some fn → P.funcs[f]? = some fn ∧ fn.body.isSome = true ∧ (fn.name == "runtime.NumGoroutine") = false
  /-- Functions without parameters of which it is known already what they answer. -/
  orc : FuncId → Option Value
  orcOK : ∀ f v, orc f = some v → plain v = true ∧ ∀ w : World, CallsIn Fence.wide 0 P f #[] w (fun e w' => e = .returned v ∧ RowKit.Below w.heap.size w w')

def evs (ev : Operand → Option Value) : List Operand → Option (List Value)
  | [] => some []
  | x :: xs => match ev x, evs ev xs with
    | some v, some vs => some (v :: vs)
    | _, _ => none

def evp (ev : Operand → Option Value) : List (Nat × Operand) → Option (List (Nat × Value))
  | [] => some []
  | (i, x) :: xs => match ev x, evp ev xs with
    | some v, some vs => some ((i, v) :: vs)
    | _, _ => none

def evo (ev : Operand → Option Value) : Option Operand → Option (Option Value)
  | none => some none
  | some x => match ev x with
    | some v => some (some v)
    | none => none

def EvR (ρ : Ren) (ev : Operand → Option Value) (ev' : Operand → Value) : Prop := ∀ x v, ev x = some v → VR ρ v (ev' x)

theorem evs_sound {ev : Operand → Option Value} {ev' : Operand → Value} (he : EvR ρ ev ev') : ∀ (xs : List Operand) vs, evs ev xs = some vs → LR ρ vs (xs.map ev') := by
  intro xs
  induction xs with
  | nil => intro vs hv; simp only [evs, Option.some.injEq] at hv; subst hv; exact LR.nil
  | cons x xs ih =>
    intro vs hv
    simp only [evs] at hv
    split at hv
    · rename_i v vs' e1 e2
      cases hv
      exact LR.cons (he x v e1) (ih vs' e2)
    · cases hv

theorem evp_sound {ev : Operand → Option Value} {ev' : Operand → Value} (he : EvR ρ ev ev') : ∀ (xs : List (Nat × Operand)) vs, evp ev xs = some vs →
    vs.length = (xs.map fun p : Nat × Operand => (p.1, ev' p.2)).length ∧ ∀ (i : Nat) p p', vs[i]? = some p → (xs.map fun p : Nat × Operand => (p.1, ev' p.2))[i]? = some p' → p'.1 = p.1 ∧ VR ρ p.2 p'.2 := by
  intro xs
  induction xs with
  | nil => intro vs hv; simp only [evp, Option.some.injEq] at hv; subst hv; exact ⟨rfl, fun i p p' a => by simp at a⟩
  | cons x xs ih =>
    intro vs hv
    obtain ⟨j, x⟩ := x
    simp only [evp] at hv
    split at hv
    · rename_i v vs' e1 e2
      cases hv
      obtain ⟨i1, i2⟩ := ih vs' e2
      refine ⟨by simpa using i1, fun i p p' a b => ?_⟩
      cases i with
      | zero => simp at a b; subst a b; exact ⟨rfl, he x v e1⟩
      | succ i => exact i2 i p p' (by simpa using a) (by simpa using b)
    · cases hv

theorem evo_sound {ev : Operand → Option Value} {ev' : Operand → Value} (he : EvR ρ ev ev') {x : Option Operand} {v : Option Value} (hv : evo ev x = some v) : OptR ρ v (x.map ev') := by
  cases x with
  | none => simp only [evo, Option.some.injEq] at hv; subst hv; trivial
  | some x =>
    simp only [evo] at hv
    split at hv
    · rename_i u e; cases hv; exact he x u e
    · cases hv

/-! ### Calls -/
def acall (X : Ctx) (h : H) (f : Value) (args : List Value) : Option (AN × Eff) :=
  match f with
  | .func (.func g) first cap => match X.fns.get g with
    | some _ => some (.enter g (first.toList ++ args ++ cap.toList).toArray, .none)
    | none => none
  | .func (.yield l) _ _ => match h.at l with
    | .loop _ _ _ _ ps _ _ _ => bif Nat.beq args.length ps.toList.length then some (.round l args.toArray, .none) else none
    | _ => none
  | _ => none

theorem run_callFunc {X : Ctx} {f : FuncId} {fn : Func} {args : Array Value} (hf : X.fns.get f = some fn) : (callFunc f args).run X.P w = .ok (.enter f args) w := by
  obtain ⟨h1, h2, h3⟩ := X.ok f fn hf
  have hb : ¬ fn.body = none := by intro hh; rw [hh] at h2; cases h2
  have hn : ¬ fn.name = "runtime.NumGoroutine" := by simpa using h3
  simp [callFunc, h1, hn, hb]

theorem call_sound {X : Ctx} {f f' : Value} {args args' : List Value} {nx : AN} {E : Eff} (r : Rel ρ h w) (hf : VR ρ f f') (hargs : LR ρ args args') (ha : acall X h f args = some (nx, E)) :
    OpOK X.P ρ h w (do let d ← Deferred.ofValue f' args'.toArray; invoke d.target d.args) nx E := by
  unfold acall at ha
  split at ha
  · rename_i g first cap
    split at ha
    · rename_i fn hfn
      cases ha
      cases hf with
      | func _ _ _ first' cap' hy hx1 hx2 h1 h2 =>
        refine ⟨ρ, w, Same.refl w, ⟨rfl, rfl⟩, (first'.toList ++ args' ++ cap'.toList).toArray, ?_, ?_⟩
        · have e1 : LR ρ first.toList first'.toList := VRs.list ⟨hx1, h1⟩
          have e2 : LR ρ cap.toList cap'.toList := VRs.list ⟨hx2, h2⟩
          exact ((e1.append hargs).append e2).arr
        · have := run_callFunc (w := w) (args := first' ++ args'.toArray ++ cap') hfn
          have e : (first'.toList ++ args' ++ cap'.toList).toArray = first' ++ args'.toArray ++ cap' := by apply Array.toList_inj.1; simp
          rw [e, ← this]
          simp [Deferred.ofValue, invoke]
    · cases ha
  · rename_i l u1 u2
    split at ha
    · rename_i st pd fr n ps as bd df hat
      cases hn : Nat.beq args.length ps.toList.length <;> rw [show ps.toList.length = ps.size from Array.length_toList] at hn <;> simp [hn] at ha
      obtain ⟨rfl, rfl⟩ := ha
      have hn := Nat.eq_of_beq_eq_true hn
      cases hf with
      | func _ _ _ first' cap' hy => exact absurd rfl (hy l)
      | yield hi =>
        rename_i b
        have ho := r.obj _ _ _ hi
        rw [hat] at ho
        obtain ⟨_, fn, tmps, df', hw, hfr, hdf⟩ := ho
        refine ⟨ρ, w, Same.refl w, ⟨rfl, rfl⟩, b, _, args'.toArray, hi, hw, hargs.arr, ?_⟩
        have hsz : ¬ (args'.length ≠ ps.size) := by rw [← hargs.1]; omega
        have hg : (getObj b).run X.P w = .ok (.loop { state := st, pending := pd, fn := fn, tmps := tmps, params := ps, assign := as, body := bd, defers := df' }) w := by
          simp [getObj, Sem.run, hw]
        simp only [Deferred.ofValue, invoke, Instr.yield, Instr.getLoop, Sem.run_bind, Sem.run_pure, Result.andThen_ok, hg]
        rw [if_neg (by simpa using hsz)]
        simp
    · cases ha
  · cases ha

/-! ### Assertions -/
def aassert (P : Program) (x : Value) (t : TypeId) (ok : Bool) : Option Value :=
  match P.underlying t with
  | some (.interface _) => none
  | some _ =>
    match x with
    | .iface u v => bif Nat.beq u t then some (bif ok then .tuple #[v, .bool true] else v) else bif ok then (match zeroP P t with | some z => some (.tuple #[z, .bool false]) | none => none) else none
    | .nilIface => bif ok then (match zeroP P t with | some z => some (.tuple #[z, .bool false]) | none => none) else none
    | _ => none
  | none => none

theorem assert_sound {P : Program} {x x' v : Value} {xt t : TypeId} {ok : Bool} (hx : VR ρ x x') (ha : aassert P x t ok = some v) : ∃ v', VR ρ v v' ∧ (Instr.typeAssert x' xt t ok).run P w = .ok v' w := by
  unfold aassert at ha
  split at ha
  · cases ha
  · rename_i d hni hu
    split at ha
    · rename_i u y
      cases hx with
      | iface _ _ y' hy =>
        cases hut : Nat.beq u t <;> rw [hut] at ha <;> simp at ha
        · cases ok <;> simp at ha
          split at ha
          · rename_i z hz
            cases ha
            obtain ⟨z1, z2, z3⟩ := zeroP_spec hz
            have hne : u ≠ t := fun e => by rw [e, Nat.beq_refl] at hut; cases hut
            refine ⟨_, VR.pair (VR.plain_refl z3) (.bool false), ?_⟩
            cases d <;> simp [Instr.typeAssert, run_underlying hu, hne, z1] at hni ⊢
          · cases ha
        · subst ha
          have hut := Nat.eq_of_beq_eq_true hut
          subst hut
          refine ⟨if ok then .tuple #[y', .bool true] else y', ?_, ?_⟩
          · cases ok
            · exact hy
            · exact VR.pair hy (.bool true)
          · cases d <;> cases ok <;> simp [Instr.typeAssert, run_underlying hu] at hni ⊢
    · cases hx
      cases ok <;> simp at ha
      split at ha
      · rename_i z hz
        cases ha
        obtain ⟨z1, z2, z3⟩ := zeroP_spec hz
        refine ⟨_, VR.pair (VR.plain_refl z3) (.bool false), ?_⟩
        cases d <;> simp [Instr.typeAssert, run_underlying hu, z1] at hni ⊢
      · cases ha
    · cases ha
  · cases ha

end Go.Abs
