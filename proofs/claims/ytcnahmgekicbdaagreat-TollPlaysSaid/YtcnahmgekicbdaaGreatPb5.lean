/- Part 5. -/
import Derived.Laws.IdiomRangeMap
import Derived.Test.YtcnahmgekicbdaaGreatPb4
set_option linter.all false
set_option maxHeartbeats 2000000
section
noncomputable section
namespace Go.Xr
section
variable {X:Ctx} {ih:JY ->Option XU} {ρ:Ren} {w:World}
section
variable {C:Cfg} (HI:∀ j r,ih j=some r ->XJ C.X j r) (HW:∀ j r,ih j=some r ->ZF8 j r)
include HI HW in
theorem ZpV:ZHW C ih:=by
 intro c n wm rd s r mi hmi h;cases h
end
end
section
variable {X:Ctx} {Ql:FuncId ->Bool} {ih:JY ->Option XU}
theorem ZkD (hm:X.P.follows .mixedOrders=true) (k:Nat):∀ (j:JY) (r:XU),ev (cfg X Ql) k j=some r ->XJ X j r:=by
 induction k with
 | zero=>intro j r h;cases h
 | succ k ihk=>
   have HK:=ZFe (C:=cfg X Ql) ZBW k
   have Zpi:∀ n wm rd (ops:Array Oper) s s',(cfg X Ql).draw (ev (cfg X Ql) k) n wm rd ops.toList s=some s' ->
    ∀ id ρ a w F,wm <=s.h.size ->Inv ρ n s a w ->FR' ρ rd F ->(Code.region id ops true).wpIn F 0 X.P (Ur wm n ρ s.h w .normal s') a w:=by
    intro n wm rd ops s s' hr id ρ a w F Yb hi hF;have hr:ZqE X Ql (ev (cfg X Ql) k) n wm ops.toList s=some s':=hr;obtain⟨soft,Xv,Xs,tl,hp,h1⟩:=Zd8 hr;obtain⟨D,d1,d2,d3,d4,d5⟩:=ZsP (rd:=rd) ihk HK hp h1 Yb;have hi2:Inv ρ n {fr:=D.fs 0,ds:=s.ds,h:=D.hs 0} a w:= ⟨by rw [d1];exact hi.rel,by rw [d2];exact hi.fr,hi.ds⟩
    have:=D.region hm hi2 hF id;rw [d1,d3,d4] at this;exact wpIn_mono this fun e' a' w' ⟨ρ',q1,q2,q3⟩=>⟨ρ',q1,⟨q2.rel,q2.fr,by rw [d5];exact q2.ds⟩,q3⟩
   intro j r h;have h':evF (cfg X Ql) (ev (cfg X Ql) k) j=some r:=h;exact ZvV (C:=cfg X Ql) (ZpV ihk (Z0W k)) Zpi ihk h'
end
end Go.Xr
end
end
