/- Kept Part 11 of the proof. -/
import Derived.Test.YtekpjgmhkkjhgaaWa10
set_option linter.all false
set_option maxHeartbeats 2000000
section
noncomputable section
namespace Go.Proofs.Ytekpjgmhkkjhgaa
open Go.Yw Go.RowKit
set_option maxRecDepth 100000 in
theorem Zrz:isTrue (ev C0 3000 (.call 14 #[] 0 ⟨.nil,0⟩))=true:=Kq0
theorem ZoA (w:World):Calls Try.prog 14 #[] w fun e w'=>e= .returned (.bool true)∧Below w.heap.size w w':=Zn5 XX rfl Zrz w
noncomputable def XW:Ctx:= {XX with
 orc:=fun f=>bif Nat.beq f 14 then some (.bool true) else none
 ZzR:=fun f v h=>by
  cases hb:Nat.beq f 14 <;> rw [hb] at h
  ·cases h
  ·cases h;rw [Nb0 hb];exact⟨rfl,fun w=>callsIn_wide.2 (ZoA w)⟩}
end Go.Proofs.Ytekpjgmhkkjhgaa
end
end
