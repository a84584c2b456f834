/- Part 11. -/
import Derived.Test.YtcnahmgekicbdaaGreatDb10
set_option linter.all false
set_option maxHeartbeats 2000000
section
noncomputable section
namespace Go.Proofs.YtcnahmgekicbdaaGreat
open Go.Xv Go.RowKit
set_option maxRecDepth 100000 in
theorem Zwa:isTrue (ev C0 3000 (.call 15 #[] 0 ⟨.nil,0⟩))=true:=Kq0
theorem Zsn (w:World):Calls Tryz.prog 15 #[] w fun e w'=>e= .returned (.bool true)/\Below w.heap.size w w':=ZrF XX rfl Zwa w
noncomputable def XW:Ctx:= {XX with
 orc:=fun f=>bif Nat.beq f 15 then some (.bool true) else none
 ZIy:=fun f v h=>by
  cases hb:Nat.beq f 15 <;> rw [hb] at h
  ·cases h
  ·cases h;rw [Nb0 hb];exact⟨rfl,fun w=>callsIn_wide.2 (Zsn w)⟩}
end Go.Proofs.YtcnahmgekicbdaaGreat
end
end
