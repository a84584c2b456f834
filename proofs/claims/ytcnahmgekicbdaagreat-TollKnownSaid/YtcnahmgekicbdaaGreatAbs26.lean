/- The abstract interpreter, 26: whatever it answers is so. -/
import Derived.Test.YtcnahmgekicbdaaGreatAbs25
noncomputable section
namespace Go.Abs
variable {X : Ctx} {pur : FuncId → Bool} {ih : Job → Option Res}

/-- What a run answers is so. -/
theorem run_sound (hm : X.P.follows .mixedOrders = true) (k : Nat) : ∀ (j : Job) (r : Res), ev (cfg X pur) k j = some r → JobOK X j r := by
  induction k with
  | zero => intro j r h; cases h
  | succ k ihk =>
    have HK := ev_keep (C := cfg X pur) cfg_keep k
    have hdraw : ∀ n wm rd (ops : Array Oper) s s', (cfg X pur).draw (ev (cfg X pur) k) n wm rd ops.toList s = some s' →
        ∀ id ρ a w F, wm ≤ s.h.size → Inv ρ n s a w → FR' ρ rd F → (Code.region id ops true).wpIn F 0 X.P (PostC wm n ρ s.h w .normal s') a w := by
      intro n wm rd ops s s' hr id ρ a w F hwm hi hF
      have hr : adraw X pur (ev (cfg X pur) k) n wm ops.toList s = some s' := hr
      obtain ⟨soft, incs, Xs, tl, hp, h1⟩ := adraw_some hr
      obtain ⟨D, d1, d2, d3, d4, d5⟩ := adraw_data (rd := rd) ihk HK hp h1 hwm
      have hi2 : Inv ρ n { fr := D.fs 0, ds := s.ds, h := D.hs 0 } a w := ⟨by rw [d1]; exact hi.rel, by rw [d2]; exact hi.fr, hi.ds⟩
      have := D.region hm hi2 hF id
      rw [d1, d3, d4] at this
      exact wpIn_mono this fun e' a' w' ⟨ρ', q1, q2, q3⟩ => ⟨ρ', q1, ⟨q2.rel, q2.fr, by rw [d5]; exact q2.ds⟩, q3⟩
    intro j r h
    have h' : evF (cfg X pur) (ev (cfg X pur) k) j = some r := h
    exact evF_sound (C := cfg X pur) (evMap_sound ihk (ev_w k)) hdraw ihk h'

end Go.Abs
