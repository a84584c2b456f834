/- The abstract interpreter, 13: regions that draw their order. -/
import Derived.Test.YtcnahmgekicbdaaGreatAbs12
noncomputable section
namespace Go.Abs
variable {ρ : Ren} {w : World}

/-! ### An operation looks at its operands alone -/
theorem evs_congr {ev ev2 : Operand → Option Value} : ∀ (l : List Operand), (∀ x ∈ l, ev x = ev2 x) → evs ev l = evs ev2 l := by
  intro l
  induction l with
  | nil => intro _; rfl
  | cons x l ih => intro hl; simp only [evs, hl x (by simp), ih (fun y hy => hl y (by simp [hy]))]
theorem evp_congr {ev ev2 : Operand → Option Value} : ∀ (l : List (Nat × Operand)), (∀ x ∈ l.map (·.2), ev x = ev2 x) → evp ev l = evp ev2 l := by
  intro l
  induction l with
  | nil => intro _; rfl
  | cons x l ih => intro hl; obtain ⟨i, x⟩ := x; simp only [evp, hl x (by simp), ih (fun y hy => hl y (by simp at hy ⊢; exact .inr hy))]
theorem evo_congr {ev ev2 : Operand → Option Value} (x : Option Operand) (h : ∀ y ∈ x.toArray, ev y = ev2 y) : evo ev x = evo ev2 x := by
  cases x with
  | none => rfl
  | some x => simp only [evo, h x (by simp)]

theorem aop_congr (X : Ctx) (h : H) {ev ev2 : Operand → Option Value} (o : Oper) (he : ∀ x ∈ o.op.operands, ev x = ev2 x) : aop X h ev o = aop X h ev2 o := by
  unfold aop
  cases hop : o.op <;> rw [hop] at he <;> simp only [Op.operands] at he <;> dsimp only
  case build t ps => rw [evp_congr ps.toList (fun x hx => he x (by simpa using hx))]
  case buildSlice t n ps => rw [evp_congr ps.toList (fun x hx => he x (by simpa using hx))]
  case makeFunc fn a b => rw [evs_congr a.toList (fun x hx => he x (by simp at hx ⊢; exact .inl hx)), evs_congr b.toList (fun x hx => he x (by simp at hx ⊢; exact .inr hx))]
  case slice t x lo hi mx =>
    rw [he x (by simp), evo_congr lo (fun y hy => he y (by simp at hy ⊢; simp [hy])), evo_congr hi (fun y hy => he y (by simp at hy ⊢; simp [hy])), evo_congr mx (fun y hy => he y (by simp at hy ⊢; simp [hy]))]
  case call c =>
    rw [evs_congr c.args.toList (fun x hx => he x (by unfold Call.operands; simp at hx ⊢; exact .inr hx))]
    cases hc : c.callee with
    | value f =>
      have hf := he f (by unfold Call.operands; rw [hc]; simp)
      cases evs ev2 c.args.toList <;> simp only [hf]
    | invoke r m => cases evs ev2 c.args.toList <;> rfl
    | builtin b => cases evs ev2 c.args.toList <;> rfl
  case defer c =>
    rw [evs_congr c.args.toList (fun x hx => he x (by unfold Call.operands; simp at hx ⊢; exact .inr hx))]
    cases hc : c.callee with
    | value f =>
      have hf := he f (by unfold Call.operands; rw [hc]; simp)
      cases evs ev2 c.args.toList <;> simp only [hf]
    | invoke r m => cases evs ev2 c.args.toList <;> rfl
    | builtin b => cases evs ev2 c.args.toList <;> rfl
  case makeMap t r => cases r <;> rfl
  all_goals first
    | rfl
    | (simp at he; simp only [he]; done)
    | (simp at he; simp only [he.1, he.2]; done)
    | (simp at he; simp only [he.1, he.2.1, he.2.2]; done)

end Go.Abs
