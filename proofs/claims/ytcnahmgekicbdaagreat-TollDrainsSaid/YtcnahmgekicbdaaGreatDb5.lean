/- Part 5. -/
import Derived.Laws.IdiomRangeMap
import Derived.Test.YtcnahmgekicbdaaGreatDb4
set_option linter.all false
set_option maxHeartbeats 2000000
section
noncomputable section
namespace Go.Xv
section
variable {X:Ctx} {ih:J7 ->Option XU} {ρ:Ren} {w:World}
section
variable {C:Cfg} (HI:∀ j r,ih j=some r ->XK C.X j r) (HW:∀ j r,ih j=some r ->ZH7 j r)
include HI HW in
theorem Zrn:ZJQ C ih:=by
 intro c n wm rd s r mi hmi h;cases h
end
end
section
variable {X:Ctx} {Qp:FuncId ->Bool} {ih:J7 ->Option XU}
theorem ZlF (hm:X.P.follows .mixedOrders=true) (k:Nat):∀ (j:J7) (r:XU),ev (cfg X Qp) k j=some r ->XK X j r:=by
 induction k with
 | zero=>intro j r h;cases h
 | succ k ihk=>
   have HK:=ZHa (C:=cfg X Qp) ZDT k
   have ZqQ:∀ n wm rd (ops:Array Oper) s s',(cfg X Qp).draw (ev (cfg X Qp) k) n wm rd ops.toList s=some s' ->
    ∀ id ρ a w F,wm <=s.h.size ->Inv ρ n s a w ->FR' ρ rd F ->(Code.region id ops true).wpIn F 0 X.P (UD wm n ρ s.h w .normal s') a w:=by
    intro n wm rd ops s s' hr id ρ a w F Ye hi hF;have hr:Zr6 X Qp (ev (cfg X Qp) k) n wm ops.toList s=some s':=hr;obtain⟨soft,Xz,Xs,tl,hp,h1⟩:=ZeW hr;obtain⟨D,d1,d2,d3,d4,d5⟩:=Zuf (rd:=rd) ihk HK hp h1 Ye;have hi2:Inv ρ n {fr:=D.fs 0,ds:=s.ds,h:=D.hs 0} a w:= ⟨by rw [d1];exact hi.rel,by rw [d2];exact hi.fr,hi.ds⟩
    have:=D.region hm hi2 hF id;rw [d1,d3,d4] at this;exact wpIn_mono this fun e' a' w' ⟨ρ',q1,q2,q3⟩=>⟨ρ',q1,⟨q2.rel,q2.fr,by rw [d5];exact q2.ds⟩,q3⟩
   intro j r h;have h':evF (cfg X Qp) (ev (cfg X Qp) k) j=some r:=h;exact Zxv (C:=cfg X Qp) (Zrn ihk (Z3p k)) ZqQ ihk h'
end
end Go.Xv
end
end
