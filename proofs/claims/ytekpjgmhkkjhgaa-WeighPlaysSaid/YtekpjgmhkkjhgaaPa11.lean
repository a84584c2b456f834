/- Plays Part 11 of the proof. -/
import Derived.Test.YtekpjgmhkkjhgaaPa10
set_option linter.all false
section
noncomputable section
namespace Go.Proofs.Ytekpjgmhkkjhgaa
open Go.YD Go.RowKit
set_option maxRecDepth 100000 in
theorem Zr1:isTrue (ev C0 3000 (.call 14 #[] 0 ⟨.nil,0⟩))=true:=Kq0
theorem Zo0 (w:World):Calls Try.prog 14 #[] w fun e w'=>e= .returned (.bool true)∧Below w.heap.size w w':=Zoy XX rfl Zr1 w
noncomputable def XW:Ctx:= {XX with
 orc:=fun f=>bif Nat.beq f 14 then some (.bool true) else none
 ZAw:=fun f v h=>by
  cases hb:Nat.beq f 14 <;> rw [hb] at h
  ·cases h
  ·cases h;rw [Nat.eq_of_beq_eq_true hb];exact⟨rfl,fun w=>callsIn_wide.2 (Zo0 w)⟩}
end Go.Proofs.Ytekpjgmhkkjhgaa
end
end
