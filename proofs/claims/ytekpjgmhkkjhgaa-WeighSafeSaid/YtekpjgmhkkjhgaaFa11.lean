/- Safe Part 11 of the proof. -/
import Derived.Test.YtekpjgmhkkjhgaaFa10
set_option linter.all false
section
noncomputable section
namespace Go.Proofs.Ytekpjgmhkkjhgaa
open Go.Yo Go.RowKit
set_option maxRecDepth 100000 in
theorem Zpw:isTrue (ev C0 3000 (.call 14 #[] 0 ⟨.nil,0⟩))=true:=by kernel_rfl
theorem ZmO (w:World):Calls Try.prog 14 #[] w fun e w'=>e= .returned (.bool true)∧Below w.heap.size w w':=Zmk XX rfl Zpw w
noncomputable def XW:Ctx:= {XX with
 orc:=fun f=>bif Nat.beq f 14 then some (.bool true) else none
 ZwX:=fun f v h=>by
  cases hb:Nat.beq f 14 <;> rw [hb] at h
  ·cases h
  ·cases h;rw [Nat.eq_of_beq_eq_true hb];exact⟨rfl,fun w=>callsIn_wide.2 (ZmO w)⟩}
end Go.Proofs.Ytekpjgmhkkjhgaa
end
end
