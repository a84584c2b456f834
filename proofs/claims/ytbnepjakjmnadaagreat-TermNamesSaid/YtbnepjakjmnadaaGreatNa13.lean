/- Names Part 13 of the proof. -/
import Derived.Test.YtbnepjakjmnadaaGreatNa12
set_option linter.all false
set_option maxHeartbeats 2000000
section
noncomputable section
namespace Go.Proofs.YtbnepjakjmnadaaGreat
open Go.Abs Go.RowKit
theorem works_true (w : World) : Calls Tryz.prog 14 #[] w fun e w' => e = .returned (.bool true) ∧ Below w.heap.size w w' :=
  cuts2_true XK rfl Tryz.func14 rfl (c := bodyOf Tryz.f14)
    (Cuts2.seg2 (pos := 0) 3 pc1 (Cuts2.seg2 (pos := 3) 2 pc2 (Cuts2.seg2 (pos := 5) 1 pc3 (Cuts2.seg2 (pos := 6) 1 pc4 (Cuts2.seg2 (pos := 7) 1 pc5 (Cuts2.seg2 (pos := 8) 1 pc6 (Cuts2.seg2 (pos := 9) 1 pc7 (Cuts2.seg2 (pos := 10) 1 pc8 (.last (k := 3000) pcl))))))))) w
noncomputable def XW : Ctx := { XK with
  orc := fun f => bif Nat.beq f 14 then some (.bool true) else none
  orcOK := fun f v h => by
    cases hb : Nat.beq f 14 <;> rw [hb] at h
    · cases h
    · cases h
      rw [Nat.eq_of_beq_eq_true hb]
      exact ⟨rfl, fun w => callsIn_wide.2 (works_true w)⟩ }
end Go.Proofs.YtbnepjakjmnadaaGreat
end
end
