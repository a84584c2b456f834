/- Plays Part 5 of the proof. -/
import Derived.Laws.IdiomRangeMap
import Derived.Test.YtbmbbcaaimehkaaGreatPa4
set_option linter.all false
set_option maxHeartbeats 2000000
section
noncomputable section
namespace Go.YT
variable {X:Ctx} {ih:Jq ->Option Xd} {ρ:Ren} {w:World}
section
variable {C:Cfg} (HI:∀ j r,ih j=some r ->Y1 C.X j r) (HW:∀ j r,ih j=some r ->ZF2 j r)
include HI HW in
theorem ZqK:ZHu C ih:=by
 intro c n wm rd s r mi hmi h;cases h
end
end Go.YT
end
end
section
noncomputable section
namespace Go.YT
variable {X:Ctx} {Xp:FuncId ->Bool} {ih:Jq ->Option Xd}
theorem Zgc (hm:X.P.follows .mixedOrders=true) (k:Nat):∀ (j:Jq) (r:Xd),ev (cfg X Xp) k j=some r ->Y1 X j r:=by
 induction k with
 | zero=>intro j r h;cases h
 | succ k ihk=>
   have HK:=ZFe (C:=cfg X Xp) ZB3 k
   have Zqj:∀ n wm rd (ops:Array Oper) s s',(cfg X Xp).draw (ev (cfg X Xp) k) n wm rd ops.toList s=some s' ->
    ∀ id ρ a w F,wm <=s.h.size ->Inv ρ n s a w ->FR' ρ rd F ->(Code.region id ops true).wpIn F 0 X.P (J2 wm n ρ s.h w .normal s') a w:=by
    intro n wm rd ops s s' hr id ρ a w F Z0 hi hF;have hr:Zrj X Xp (ev (cfg X Xp) k) n wm ops.toList s=some s':=hr;obtain⟨soft,YI,Xs,tl,hp,h1⟩:=ZeF hr;obtain⟨D,d1,d2,d3,d4,d5⟩:=ZtD (rd:=rd) ihk HK hp h1 Z0;have hi2:Inv ρ n {fr:=D.fs 0,ds:=s.ds,h:=D.hs 0} a w:= ⟨by rw [d1];exact hi.rel,by rw [d2];exact hi.fr,hi.ds⟩
    have:=D.region hm hi2 hF id;rw [d1,d3,d4] at this;exact wpIn_mono this fun e' a' w' ⟨ρ',q1,q2,q3⟩=>⟨ρ',q1,⟨q2.rel,q2.fr,by rw [d5];exact q2.ds⟩,q3⟩
   intro j r h;have h':evF (cfg X Xp) (ev (cfg X Xp) k) j=some r:=h;exact ZwI (C:=cfg X Xp) (ZqK ihk (ZWH k)) Zqj ihk h'
end Go.YT
end
end
