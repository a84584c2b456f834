/- Part 14. -/
import Derived.Test.YtbnepjakjmnadaaGreatFp13
set_option linter.all false
set_option maxHeartbeats 2000000
section
noncomputable section
namespace Go.Proofs.YtbnepjakjmnadaaGreat
open Go.ZF Go.RowKit
def ZrW(w:V9):CallsIn base 0 Tryz.prog 14 #[] w fun e w'=>e=.returned (.bool true)/\Below w.heap.size w w':=
 Ztf XK rfl (by decide) Tryz.func14 rfl (c:=ZaL Tryz.f14)
  (WV.Zpm (pos:=0) 3 pc1 (WV.Zpm (pos:=3) 2 pc2 (WV.Zpm (pos:=5) 1 pc3 (WV.Zpm (pos:=6) 1 pc4 (WV.Zpm (pos:=7) 1 pc5 (WV.Zpm (pos:=8) 1 pc6 (WV.Zpm (pos:=9) 1 pc7 (WV.Zpm (pos:=10) 1 pc8 (.last (k:=3000) pcl))))))))) w
noncomputable def XW:Ctx:= {XK with
 orc:=fun f=>bif Nat.beq f 14 then some (.bool true) else none
 Zys:=fun f v h=>by
  cases hb:Nat.beq f 14<;>rw[hb]at h
  ·cases h
  ·cases h;rw[Nb0 hb];exact⟨rfl,fun w=>ZrW w⟩}
end Go.Proofs.YtbnepjakjmnadaaGreat
end
end
