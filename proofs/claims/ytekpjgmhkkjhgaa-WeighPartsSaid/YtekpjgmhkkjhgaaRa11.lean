/- Parts Part 11 of the proof. -/
import Derived.Test.YtekpjgmhkkjhgaaRa10
set_option linter.all false
section
noncomputable section
namespace Go.Proofs.Ytekpjgmhkkjhgaa
open Go.Yq Go.RowKit
set_option maxRecDepth 100000 in
theorem ZpX:isTrue (ev C0 3000 (.call 14 #[] 0 ⟨.nil,0⟩))=true:=by kernel_rfl
theorem Zm9 (w:World):Calls Try.prog 14 #[] w fun e w'=>e= .returned (.bool true)∧Below w.heap.size w w':=ZmK XX rfl ZpX w
noncomputable def XW:Ctx:= {XX with
 orc:=fun f=>bif Nat.beq f 14 then some (.bool true) else none
 Zxl:=fun f v h=>by
  cases hb:Nat.beq f 14 <;> rw [hb] at h
  ·cases h
  ·cases h;rw [Nat.eq_of_beq_eq_true hb];exact⟨rfl,fun w=>callsIn_wide.2 (Zm9 w)⟩}
end Go.Proofs.Ytekpjgmhkkjhgaa
end
end
