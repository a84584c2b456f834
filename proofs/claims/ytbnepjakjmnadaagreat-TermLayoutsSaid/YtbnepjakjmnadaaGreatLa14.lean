/- Part 14. -/
import Derived.Test.YtbnepjakjmnadaaGreatLa13
set_option linter.all false
set_option maxHeartbeats 2000000
section
noncomputable section
namespace Go.Proofs.YtbnepjakjmnadaaGreat
open Go.ZP Go.RowKit
def Zq8(w:V3):CallsIn base 0 Tryz.prog 14 #[] w fun e w'=>e=.returned (.bool true)/\Below w.heap.size w w':=
 Zst XK rfl (by decide) Tryz.func14 rfl (c:=Zas Tryz.f14)
  (WB.Zox (pos:=0) 3 pc1 (WB.Zox (pos:=3) 2 pc2 (WB.Zox (pos:=5) 1 pc3 (WB.Zox (pos:=6) 1 pc4 (WB.Zox (pos:=7) 1 pc5 (WB.Zox (pos:=8) 1 pc6 (WB.Zox (pos:=9) 1 pc7 (WB.Zox (pos:=10) 1 pc8 (.last (k:=3000) pcl))))))))) w
noncomputable def XW:Ctx:= {XK with
 orc:=fun f=>bif Nat.beq f 14 then some (.bool true) else none
 Zxl:=fun f v h=>by
  cases hb:Nat.beq f 14<;>rw[hb]at h
  ·cases h
  ·cases h;rw[Nb0 hb];exact⟨rfl,fun w=>Zq8 w⟩}
end Go.Proofs.YtbnepjakjmnadaaGreat
end
end
