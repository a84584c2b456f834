/- Judges Part 10 of the proof. -/
import Derived.Test.YtcnahmgekicbdaaGreatJa9
set_option linter.all false
set_option maxHeartbeats 2000000
section
noncomputable section
namespace Go.Proofs.YtcnahmgekicbdaaGreat
open Go.Abs Go.RowKit
set_option maxRecDepth 100000 in
theorem works_run : isTrue (ev C0 3000 (.call 15 #[] 0 ⟨.nil, 0⟩)) = true := by kernel_rfl
theorem works_true (w : World) : Calls Tryz.prog 15 #[] w fun e w' => e = .returned (.bool true) ∧ Below w.heap.size w w' := closed_true XX rfl works_run w
noncomputable def XW : Ctx := { XX with
  orc := fun f => bif Nat.beq f 15 then some (.bool true) else none
  orcOK := fun f v h => by
    cases hb : Nat.beq f 15 <;> rw [hb] at h
    · cases h
    · cases h
      rw [Nat.eq_of_beq_eq_true hb]
      exact ⟨rfl, fun w => callsIn_wide.2 (works_true w)⟩ }
end Go.Proofs.YtcnahmgekicbdaaGreat
end
end
