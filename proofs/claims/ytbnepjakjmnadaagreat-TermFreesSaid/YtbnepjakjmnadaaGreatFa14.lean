/- Part 14. -/
import Derived.Test.YtbnepjakjmnadaaGreatFa13
set_option linter.all false
set_option maxHeartbeats 2000000
section
noncomputable section
namespace Go.Proofs.YtbnepjakjmnadaaGreat
open Go.ZY Go.RowKit
def Zrb(w:GS):CallsIn base 0 Tryz.prog 14 #[] w fun e w'=>e=.returned (.bool true)/\Below w.heap.size w w':=
 Zsw XK rfl (by decide) Tryz.func14 rfl (c:=Zad Tryz.f14)
  (Wl.Zoz (pos:=0) 3 pc1 (Wl.Zoz (pos:=3) 2 pc2 (Wl.Zoz (pos:=5) 1 pc3 (Wl.Zoz (pos:=6) 1 pc4 (Wl.Zoz (pos:=7) 1 pc5 (Wl.Zoz (pos:=8) 1 pc6 (Wl.Zoz (pos:=9) 1 pc7 (Wl.Zoz (pos:=10) 1 pc8 (.last (k:=3000) pcl))))))))) w
noncomputable def XW:Ctx:= {XK with
 orc:=fun f=>bif Nat.beq f 14 then some (.bool true) else none
 Zw1:=fun f v h=>by
  cases hb:Nat.beq f 14<;>rw[hb]at h
  ·cases h
  ·cases h;rw[Nb0 hb];exact⟨rfl,fun w=>Zrb w⟩}
end Go.Proofs.YtbnepjakjmnadaaGreat
end
end
