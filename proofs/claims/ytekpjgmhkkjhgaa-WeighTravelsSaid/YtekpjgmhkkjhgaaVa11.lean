/- Travels Part 11 of the proof. -/
import Derived.Test.YtekpjgmhkkjhgaaVa10
set_option linter.all false
section
noncomputable section
namespace Go.Proofs.Ytekpjgmhkkjhgaa
open Go.YD Go.RowKit
set_option maxRecDepth 100000 in
theorem ZrV:isTrue (ev C0 3000 (.call 14 #[] 0 ⟨.nil,0⟩))=true:=Kq0
theorem ZoM (w:World):Calls Try.prog 14 #[] w fun e w'=>e= .returned (.bool true)∧Below w.heap.size w w':=Zoe XX rfl ZrV w
noncomputable def XW:Ctx:= {XX with
 orc:=fun f=>bif Nat.beq f 14 then some (.bool true) else none
 ZzH:=fun f v h=>by
  cases hb:Nat.beq f 14 <;> rw [hb] at h
  ·cases h
  ·cases h;rw [Nb0 hb];exact⟨rfl,fun w=>callsIn_wide.2 (ZoM w)⟩}
end Go.Proofs.Ytekpjgmhkkjhgaa
end
end
