/- Part 14. -/
import Derived.Test.YtbnepjakjmnadaaGreatCa13
set_option linter.all false
set_option maxHeartbeats 2000000
section
noncomputable section
namespace Go.Proofs.YtbnepjakjmnadaaGreat
open Go.Yj Go.RowKit
theorem ZmP (w:World):CallsIn base 0 Tryz.prog 14 #[] w fun e w'=>e= .returned (.bool true)∧Below w.heap.size w w':=
 Zn2 XK rfl (by decide) Tryz.func14 rfl (c:=Ky Tryz.f14)
  (UQ.ZkQ (pos:=0) 3 pc1 (UQ.ZkQ (pos:=3) 2 pc2 (UQ.ZkQ (pos:=5) 1 pc3 (UQ.ZkQ (pos:=6) 1 pc4 (UQ.ZkQ (pos:=7) 1 pc5 (UQ.ZkQ (pos:=8) 1 pc6 (UQ.ZkQ (pos:=9) 1 pc7 (UQ.ZkQ (pos:=10) 1 pc8 (.last (k:=3000) pcl))))))))) w
noncomputable def XW:Ctx:= {XK with
 orc:=fun f=>bif Nat.beq f 14 then some (.bool true) else none
 ZrE:=fun f v h=>by
  cases hb:Nat.beq f 14 <;> rw [hb] at h
  ·cases h
  ·cases h;rw [Nb0 hb];exact⟨rfl,fun w=>ZmP w⟩}
end Go.Proofs.YtbnepjakjmnadaaGreat
end
end
