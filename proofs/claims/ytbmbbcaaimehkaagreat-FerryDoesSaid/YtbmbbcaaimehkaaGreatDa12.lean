/- WeighDoes returns true, whatever the number of machines, the world and the deed. No condition. Part 12 of the proof. -/
import Derived.Test.YtbmbbcaaimehkaaGreatDa11
set_option linter.all false
set_option maxHeartbeats 2000000
section
noncomputable section
namespace Go.Proofs.YtbmbbcaaimehkaaGreat
open Go.YR Go.RowKit
set_option maxRecDepth 100000 in
theorem Zvf:isTrue (ev C0 3000 (.call 14 #[] 0 ⟨.nil,0⟩))=true:=Kq0
theorem Zrl (w:World):Calls Tryz.prog 14 #[] w fun e w'=>e= .returned (.bool true)∧Below w.heap.size w w':=Zqw XX rfl Zvf w
noncomputable def XW:Ctx:= {XX with
 orc:=fun f=>bif Nat.beq f 14 then some (.bool true) else none
 ZFE:=fun f v h=>by
  cases hb:Nat.beq f 14 <;> rw [hb] at h
  ·cases h
  ·cases h;rw [Nb0 hb];exact⟨rfl,fun w=>callsIn_wide.2 (Zrl w)⟩}
end Go.Proofs.YtbmbbcaaimehkaaGreat
end
end
