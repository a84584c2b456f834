/- Plays Part 12 of the proof. -/
import Derived.Test.YtbmbbcaaimehkaaGreatPa11
set_option linter.all false
set_option maxHeartbeats 2000000
section
noncomputable section
namespace Go.Proofs.YtbmbbcaaimehkaaGreat
open Go.YT Go.RowKit
set_option maxRecDepth 100000 in
theorem ZvF:isTrue (ev C0 3000 (.call 14 #[] 0 ⟨.nil,0⟩))=true:=Kq0
theorem ZrJ (w:World):Calls Tryz.prog 14 #[] w fun e w'=>e= .returned (.bool true)∧Below w.heap.size w w':=ZqU XX rfl ZvF w
noncomputable def XW:Ctx:= {XX with
 orc:=fun f=>bif Nat.beq f 14 then some (.bool true) else none
 ZGh:=fun f v h=>by
  cases hb:Nat.beq f 14 <;> rw [hb] at h
  ·cases h
  ·cases h;rw [Nb0 hb];exact⟨rfl,fun w=>callsIn_wide.2 (ZrJ w)⟩}
end Go.Proofs.YtbmbbcaaimehkaaGreat
end
end
