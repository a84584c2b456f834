/- Last Part 11 of the proof. -/
import Derived.Test.YtekpjgmhkkjhgaaKa10
set_option linter.all false
section
noncomputable section
namespace Go.Proofs.Ytekpjgmhkkjhgaa
open Go.Yz Go.RowKit
set_option maxRecDepth 100000 in
theorem ZqU:isTrue (ev C0 3000 (.call 14 #[] 0 ⟨.nil,0⟩))=true:=by kernel_rfl
theorem ZnZ (w:World):Calls Try.prog 14 #[] w fun e w'=>e= .returned (.bool true)∧Below w.heap.size w w':=Znv XX rfl ZqU w
noncomputable def XW:Ctx:= {XX with
 orc:=fun f=>bif Nat.beq f 14 then some (.bool true) else none
 ZyB:=fun f v h=>by
  cases hb:Nat.beq f 14 <;> rw [hb] at h
  ·cases h
  ·cases h;rw [Nat.eq_of_beq_eq_true hb];exact⟨rfl,fun w=>callsIn_wide.2 (ZnZ w)⟩}
end Go.Proofs.Ytekpjgmhkkjhgaa
end
end
