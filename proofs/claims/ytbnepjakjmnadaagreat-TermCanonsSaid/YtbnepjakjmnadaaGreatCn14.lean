/- Part 14. -/
import Derived.Test.YtbnepjakjmnadaaGreatCn13
set_option linter.all false
set_option maxHeartbeats 2000000
section
noncomputable section
namespace Go.Proofs.YtbnepjakjmnadaaGreat
open Go.ZK Go.RowKit
def ZqC(w:GY):CallsIn base 0 Tryz.prog 14 #[] w fun e w'=>e=.returned (.bool true)/\Below w.heap.size w w':=
 ZrU XK rfl (by decide) Tryz.func14 rfl (c:=Zae Tryz.f14)
  (Wi.Zn8 (pos:=0) 3 pc1 (Wi.Zn8 (pos:=3) 2 pc2 (Wi.Zn8 (pos:=5) 1 pc3 (Wi.Zn8 (pos:=6) 1 pc4 (Wi.Zn8 (pos:=7) 1 pc5 (Wi.Zn8 (pos:=8) 1 pc6 (Wi.Zn8 (pos:=9) 1 pc7 (Wi.Zn8 (pos:=10) 1 pc8 (.last (k:=3000) pcl))))))))) w
noncomputable def XW:Ctx:= {XK with
 orc:=fun f=>bif Nat.beq f 14 then some (.bool true) else none
 ZwL:=fun f v h=>by
  cases hb:Nat.beq f 14<;>rw[hb]at h
  ·cases h
  ·cases h;rw[Nb0 hb];exact⟨rfl,fun w=>ZqC w⟩}
end Go.Proofs.YtbnepjakjmnadaaGreat
end
end
