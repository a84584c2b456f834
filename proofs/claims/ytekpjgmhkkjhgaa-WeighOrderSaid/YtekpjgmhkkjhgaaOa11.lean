/- Order Part 11 of the proof. -/
import Derived.Test.YtekpjgmhkkjhgaaOa10
set_option linter.all false
set_option maxHeartbeats 2000000
section
noncomputable section
namespace Go.Proofs.Ytekpjgmhkkjhgaa
open Go.Yw Go.RowKit
set_option maxRecDepth 100000 in
theorem Zq4:isTrue (ev C0 3000 (.call 14 #[] 0 ⟨.nil,0⟩))=true:=by kernel_rfl
theorem Zn0 (w:World):Calls Try.prog 14 #[] w fun e w'=>e= .returned (.bool true)∧Below w.heap.size w w':=Znw XX rfl Zq4 w
noncomputable def XW:Ctx:= {XX with
 orc:=fun f=>bif Nat.beq f 14 then some (.bool true) else none
 Zyu:=fun f v h=>by
  cases hb:Nat.beq f 14 <;> rw [hb] at h
  ·cases h
  ·cases h;rw [Nat.eq_of_beq_eq_true hb];exact⟨rfl,fun w=>callsIn_wide.2 (Zn0 w)⟩}
end Go.Proofs.Ytekpjgmhkkjhgaa
end
end
