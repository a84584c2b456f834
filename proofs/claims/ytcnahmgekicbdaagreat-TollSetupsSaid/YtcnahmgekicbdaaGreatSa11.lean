/- Setups Part 11 of the proof. -/
import Derived.Test.YtcnahmgekicbdaaGreatSa10
set_option linter.all false
set_option maxHeartbeats 2000000
section
noncomputable section
namespace Go.Proofs.YtcnahmgekicbdaaGreat
open Go.Abs Go.Lf
theorem f15_ok {h : H} {r : Bool} (hL : f15L = some r) : Pure XX 15 #[] h (.bool r) := by
  cases hL
  intro wm
  have e : ev (cfg XW fun _ => false) 1 (.call 15 #[] wm h) = some (.fin (.ret (.bool true)) h) := rfl
  exact run_sound (X := XW) mixed 1 _ _ e
end Go.Proofs.YtcnahmgekicbdaaGreat
end
end
section
set_option linter.unusedVariables false
set_option linter.unusedSimpArgs false
namespace Go.Proofs.YtcnahmgekicbdaaGreat
open Go.Lf
def f13L (F : Nat) (p0 : TollSetup) (p1 : Int) : Option Bool :=
  (f14L p0).bind fun x3 => (bif (!x3) then (f15L).bind fun x4 => some x4 else (f34L F p0).bind fun x5 => (f35L F p0 p1).bind fun x6 => (f36L F p0 p1).bind fun x12 => (f17L F p0).bind fun x18 => (bif (((x5 == 0) != x18) || ((x5 != 0) && (x5 != 2))) then some false else (f17L F p0).bind fun x19 => (gd (!(!x19)) (f33L p0 p1) default).bind fun x20 => (bif ((!x19) || (!x20)) then (gd ((((x6.2 == 2) && (x12.2 == 2)) && ((x6.1.length : Int) == 0)) && ((x12.1.length : Int) == 0)) (f15L) default).bind fun x21 => some (((((x6.2 == 2) && (x12.2 == 2)) && ((x6.1.length : Int) == 0)) && ((x12.1.length : Int) == 0)) && x21) else (bif ((x6.2 == 0) && (x12.2 == 0)) then (f37L F p0 p1).bind fun x23 => (f22L F x6.1 x23).bind fun x29 => (bif x29 then (f38L F p0 p1).bind fun x31 => (f22L F x12.1 x31).bind fun x37 => (gd x37 (f15L) default).bind fun x38 => some (x37 && x38) else (gd false (f15L) default).bind fun x39 => some (false && x39)) else (bif false then (f38L F p0 p1).bind fun x41 => (f22L F x12.1 x41).bind fun x47 => (gd x47 (f15L) default).bind fun x48 => some (x47 && x48) else some false)))))
end Go.Proofs.YtcnahmgekicbdaaGreat
end
section
set_option linter.unusedVariables false
set_option linter.unusedSimpArgs false
set_option maxRecDepth 20000
noncomputable section
namespace Go.Proofs.YtcnahmgekicbdaaGreat
open Go.Abs Go.Lf
theorem f13_wf {F : Nat} {wm : Nat} {h : H} {p0 : TollSetup} {p1 : Int} {pa0_0 : Option Addr} {pc0_0 : Nat} {r : Bool} (hwm : wm ≤ h.size) (hsp0_0 : Sl rTollSpot wm h pa0_0 pc0_0 p0.spots) (hL : f13L F p0 p1 = some r) :
    WR XX 13 #[.agg [.int .i64 p0.machines, .slice pa0_0 p0.spots.length pc0_0].toArray, .int .i64 p1] wm h (CP (fun (v : Value) (Gb : List (Ast wm)) => v = .bool r ∧ Gb = []) [] h) := by
 refine bg Tryz.ntmps13 hwm Hold.nil ?_
 intro T hT hS
 unfold f13L at hL
 refine r3 ?_
 rintro _ h2 ⟨b1, eb1, rfl, hS⟩
 refine r6 ?_
 refine r1 ?_
 obtain ⟨x3, hx3, hL⟩ := bind_some hL
 refine WO.cp gN rfl (Ent.fn has14 (evs_cons lk evs_nil)) (WR.pureC rfl (f14_wf (Nat.le_refl _) (hS.slu hsp0_0) hx3)) ?_
 refine r3 ?_
 refine cn hL ?_ ?_
 · intro hc hL
   refine r2 ?_
   obtain ⟨x4, hx4, hL⟩ := bind_some hL
   refine WO.cp gN rfl (Ent.fn has15 evs_nil) (f15_ok hx4) ?_
   refine r4 ?_
   refine r1 ?_
   exact rt hL hT hS
 · intro hc hL
   refine r4 ?_
   refine r1 ?_
   obtain ⟨x5, hx5, hL⟩ := bind_some hL
   refine WO.cp gN rfl (Ent.fn has34 (evs_cons lk evs_nil)) (WR.pureC rfl (f34_wf (Nat.le_refl _) (hS.slu hsp0_0) hx5)) ?_
   refine r6 ?_
   refine r1 ?_
   obtain ⟨x6, hx6, hL⟩ := bind_some hL
   refine WO.cl gN rfl (Ent.fn has35 (evs_cons lk (evs_cons lk evs_nil))) hS .n (fun g' hz hf hO => f35_wf (by rw [hz]; exact hS.hw) ((hS.sl hsp0_0).mono hf) hx6) ?_
   rintro _ h10 _ ⟨a7, n8, c9, rfl, rfl⟩ hS
   obtain rfl := hS.on k0
   refine r8 ?_
   refine r3 ?_
   obtain ⟨x12, hx12, hL⟩ := bind_some hL
   refine WO.cl gN rfl (Ent.fn has36 (evs_cons lk (evs_cons lk evs_nil))) hS .n (fun g' hz hf hO => f36_wf (by rw [hz]; exact hS.hw) ((hS.sl hsp0_0).mono hf) hx12) ?_
   rintro _ h16 _ ⟨a13, n14, c15, rfl, rfl⟩ hS
   obtain rfl := hS.on k0
   refine r12 ?_
   refine r1 ?_
   obtain ⟨x18, hx18, hL⟩ := bind_some hL
   refine WO.cp gN rfl (Ent.fn has17 (evs_cons lk evs_nil)) (WR.pureC rfl (f17_wf (Nat.le_refl _) (hS.slu hsp0_0) hx18)) ?_
   refine WO.w gN rfl (av_bin lk lk (abin_neqB und4)) ?_
   refine r6 ?_
   refine WO.gv (GuardIs.no rfl rfl rfl (fs4 rfl (fskip rfl fh))) rfl (fun hg => (av_and (evG (fs2 rfl fh) rfl hg) (evGU2 fh hg) lk)) ?_
   refine r3 ?_
   refine cn hL ?_ ?_
   · intro hc hL
     refine r6 ?_
     refine r1 ?_
     exact rt hL hT hS
   · intro hc hL
     refine r6 ?_
     obtain ⟨x19, hx19, hL⟩ := bind_some hL
     refine WO.cp gN rfl (Ent.fn has17 (evs_cons lk evs_nil)) (WR.pureC rfl (f17_wf (Nat.le_refl _) (hS.slu hsp0_0) hx19)) ?_
     refine r4 ?_
     obtain ⟨x20, hx20, hL⟩ := gd_some hL
     refine WO.gcp (GuardIs.no rfl rfl rfl (fs2 rfl fh)) rfl (fun hg => (Ent.fn has33 (evs_cons (evG (fskip rfl fh) rfl hg) (evs_cons (evG fh rfl hg) evs_nil)))) (fun hg => f33_ok (hS.slu hsp0_0) (hx20 hg)) ?_
     refine r4 ?_
     refine cn hL ?_ ?_
     · intro hc hL
       refine r16 ?_
       refine r3 ?_
       obtain ⟨x21, hx21, hL⟩ := gd_some hL
       refine WO.gcp (GuardIs.yes rfl rfl rfl fh) rfl (fun hg => (Ent.fn has15 evs_nil)) (fun hg => f15_ok (hx21 hg)) ?_
       refine r6 ?_
       exact rt hL hT hS
     · intro hc hL
       refine r12 ?_
       refine r2 ?_
       refine WO.gsplit (GuardIs.yes rfl rfl rfl (fs2 rfl (fskip rfl fh))) (fun hk22 => ?_) (fun hk22 => ?_)
       · replace hL := cond_tt hk22 hL
         obtain ⟨x23, hx23, hL⟩ := bind_some hL
         refine WO.cl (GuardIs.on (GuardIs.yes rfl rfl rfl (fs2 rfl (fskip rfl fh))) hk22) rfl (Ent.fn has37 (evs_cons (evG (fskip rfl fh) rfl hk22) (evs_cons (evG fh rfl hk22) evs_nil))) hS .n (fun g' hz hf hO => f37_wf (by rw [hz]; exact hS.hw) ((hS.sl hsp0_0).mono hf) hx23) ?_
         rintro _ h27 _ ⟨a24, n25, c26, rfl, rfl⟩ hS
         obtain rfl := hS.on k0
         obtain ⟨x29, hx29, hL⟩ := bind_some hL
         refine WO.cp (GuardIs.on (GuardIs.yes rfl rfl rfl (fs4 rfl fh)) hk22) rfl (Ent.fn has22 (evs_cons (evG (fs2 rfl (fskip rfl fh)) rfl hk22) (evs_cons lk evs_nil))) (WR.pureC rfl (f22_wf (Nat.le_refl _) (hS.ord k2) (hS.ord k0) hx29)) ?_
         refine WO.w gN rfl (av_pkT lk hk22 lk) ?_
         refine r4 ?_
         refine WO.gsplit (GuardIs.yes rfl rfl rfl (fs2 rfl (fskip rfl fh))) (fun hk30 => ?_) (fun hk30 => ?_)
         · replace hL := cond_tt hk30 hL
           obtain ⟨x31, hx31, hL⟩ := bind_some hL
           refine WO.cl (GuardIs.on (GuardIs.yes rfl rfl rfl (fs2 rfl (fskip rfl fh))) hk30) rfl (Ent.fn has38 (evs_cons (evG (fskip rfl fh) rfl hk30) (evs_cons (evG fh rfl hk30) evs_nil))) hS .n (fun g' hz hf hO => f38_wf (by rw [hz]; exact hS.hw) ((hS.sl hsp0_0).mono hf) hx31) ?_
           rintro _ h35 _ ⟨a32, n33, c34, rfl, rfl⟩ hS
           obtain rfl := hS.on k0
           obtain ⟨x37, hx37, hL⟩ := bind_some hL
           refine WO.cp (GuardIs.on (GuardIs.yes rfl rfl rfl (fs4 rfl fh)) hk30) rfl (Ent.fn has22 (evs_cons (evG (fs2 rfl (fskip rfl fh)) rfl hk30) (evs_cons lk evs_nil))) (WR.pureC rfl (f22_wf (Nat.le_refl _) (hS.ord k2) (hS.ord k0) hx37)) ?_
           refine WO.w gN rfl (av_pkT lk hk30 lk) ?_
           refine r1 ?_
           obtain ⟨x38, hx38, hL⟩ := gd_some hL
           refine WO.gcp (GuardIs.yes rfl rfl rfl fh) rfl (fun hg => (Ent.fn has15 evs_nil)) (fun hg => f15_ok (hx38 hg)) ?_
           refine r4 ?_
           refine r1 ?_
           exact rt hL hT hS
         · replace hL := cond_ff hk30 hL
           refine WO.offO (GuardIs.yes rfl rfl rfl (fs2 rfl (fskip rfl fh))) hk30 rfl ?_
           refine WO.offO (GuardIs.yes rfl rfl rfl (fs4 rfl fh)) hk30 rfl ?_
           refine WO.w gN rfl (av_pkF lk hk30 lk) ?_
           refine r1 ?_
           obtain ⟨x39, hx39, hL⟩ := gd_some hL
           refine WO.gcp (GuardIs.yes rfl rfl rfl fh) rfl (fun hg => (Ent.fn has15 evs_nil)) (fun hg => f15_ok (hx39 hg)) ?_
           refine r4 ?_
           refine r1 ?_
           exact rt hL hT hS
       · replace hL := cond_ff hk22 hL
         refine WO.offO (GuardIs.yes rfl rfl rfl (fs2 rfl (fskip rfl fh))) hk22 rfl ?_
         refine WO.offO (GuardIs.yes rfl rfl rfl (fs4 rfl fh)) hk22 rfl ?_
         refine WO.w gN rfl (av_pkF lk hk22 lk) ?_
         refine r4 ?_
         refine WO.gsplit (GuardIs.yes rfl rfl rfl (fs2 rfl (fskip rfl fh))) (fun hk40 => ?_) (fun hk40 => ?_)
         · replace hL := cond_tt hk40 hL
           obtain ⟨x41, hx41, hL⟩ := bind_some hL
           refine WO.cl (GuardIs.on (GuardIs.yes rfl rfl rfl (fs2 rfl (fskip rfl fh))) hk40) rfl (Ent.fn has38 (evs_cons (evG (fskip rfl fh) rfl hk40) (evs_cons (evG fh rfl hk40) evs_nil))) hS .n (fun g' hz hf hO => f38_wf (by rw [hz]; exact hS.hw) ((hS.sl hsp0_0).mono hf) hx41) ?_
           rintro _ h45 _ ⟨a42, n43, c44, rfl, rfl⟩ hS
           obtain rfl := hS.on k0
           obtain ⟨x47, hx47, hL⟩ := bind_some hL
           refine WO.cp (GuardIs.on (GuardIs.yes rfl rfl rfl (fs4 rfl fh)) hk40) rfl (Ent.fn has22 (evs_cons (evG (fs2 rfl (fskip rfl fh)) rfl hk40) (evs_cons lk evs_nil))) (WR.pureC rfl (f22_wf (Nat.le_refl _) (hS.ord k1) (hS.ord k0) hx47)) ?_
           refine WO.w gN rfl (av_pkT lk hk40 lk) ?_
           refine r1 ?_
           obtain ⟨x48, hx48, hL⟩ := gd_some hL
           refine WO.gcp (GuardIs.yes rfl rfl rfl fh) rfl (fun hg => (Ent.fn has15 evs_nil)) (fun hg => f15_ok (hx48 hg)) ?_
           refine r4 ?_
           refine r1 ?_
           exact rt hL hT hS
         · replace hL := cond_ff hk40 hL
           refine WO.offO (GuardIs.yes rfl rfl rfl (fs2 rfl (fskip rfl fh))) hk40 rfl ?_
           refine WO.offO (GuardIs.yes rfl rfl rfl (fs4 rfl fh)) hk40 rfl ?_
           refine WO.w gN rfl (av_pkF lk hk40 lk) ?_
           refine r1 ?_
           refine WO.offO (GuardIs.yes rfl rfl rfl fh) hk40 rfl ?_
           refine WO.w gN rfl (av_pkF lk hk40 lk) ?_
           refine r4 ?_
           exact rt hL hT hS
theorem f13_ok {F : Nat} {h : H} {p0 : TollSetup} {p1 : Int} {pa0_0 : Option Addr} {pc0_0 : Nat} {r : Bool} (hsp0_0 : Sl rTollSpot h.size h pa0_0 pc0_0 p0.spots) (hL : f13L F p0 p1 = some r) : Pure XX 13 #[.agg [.int .i64 p0.machines, .slice pa0_0 p0.spots.length pc0_0].toArray, .int .i64 p1] h (.bool r) :=
 WR.pureC rfl (f13_wf (Nat.le_refl _) hsp0_0 hL)
end Go.Proofs.YtcnahmgekicbdaaGreat
end
end
section
set_option linter.unusedVariables false
set_option linter.unusedSimpArgs false
namespace Go.Proofs.YtcnahmgekicbdaaGreat
open Go.Lf
end Go.Proofs.YtcnahmgekicbdaaGreat
end
section
set_option linter.unusedVariables false
set_option linter.unusedSimpArgs false
set_option maxRecDepth 20000
noncomputable section
namespace Go.Proofs.YtcnahmgekicbdaaGreat
open Go.Abs Go.Lf
end Go.Proofs.YtcnahmgekicbdaaGreat
end
end
section
set_option linter.unusedVariables false
set_option linter.unusedSimpArgs false
namespace Go.Proofs.YtcnahmgekicbdaaGreat
open Go.Lf
end Go.Proofs.YtcnahmgekicbdaaGreat
end
section
set_option linter.unusedVariables false
set_option linter.unusedSimpArgs false
set_option maxRecDepth 20000
noncomputable section
namespace Go.Proofs.YtcnahmgekicbdaaGreat
open Go.Abs Go.Lf
end Go.Proofs.YtcnahmgekicbdaaGreat
end
end
section

end
section
namespace Go.Lf
theorem w64_succ {k : Nat} (h : k < 4611686018427387904) : w64 ((k : Int) + 1) = ((k + 1 : Nat) : Int) := by
  rw [w64_id (by omega) (by omega)]; rfl
theorem app_ok {α : Type} {by_ : Nat} {xs ys : List α} (h : xs.length + ys.length ≤ 1000000) (hb : by_ ≤ 1000) : app by_ xs ys = some (xs ++ ys) :=
  app_eq (Nat.le_trans (Nat.mul_le_mul (show 2 * (xs.length + ys.length) + 1000 ≤ 2001000 by omega) hb) (by decide))
def iter {α β σ : Type} (g : Nat → α → σ → (σ → Option β) → Option β) (d : σ → Option β) : Nat → List α → σ → Option β
  | _, [], s => d s
  | i, x :: l, s => g i x s (fun s' => iter g d (i + 1) l s')
end Go.Lf
end
section
set_option linter.unusedVariables false
set_option linter.unusedSimpArgs false
namespace Go.Proofs.YtcnahmgekicbdaaGreat
open Go.Lf
section
variable {β γ : Type}
theorem loop_traj {body : γ → (γ → Option β) → Option β} {r : Option β} (S : Nat → γ) {n F : Nat} (hF : n < F) (hb : ∀ k, k < n → ∀ next, body (S k) next = next (S (k + 1))) (he : ∀ next, body (S n) next = r) : loop F body (S 0) = r := by
  have : ∀ j F, j ≤ n → n - j < F → loop F body (S j) = r := by
    intro j F hj hF
    obtain ⟨d, hd⟩ : ∃ d, d = n - j := ⟨_, rfl⟩
    induction d generalizing j F with
    | zero =>
      have : j = n := by omega
      subst this
      cases F with
      | zero => omega
      | succ F => rw [loop_succ]; exact he _
    | succ d ih =>
      cases F with
      | zero => omega
      | succ F => rw [loop_succ, hb j (by omega)]; exact ih (j + 1) F (by omega) (by omega) (by omega)
  exact this 0 F (Nat.zero_le _) (by omega)
theorem loop_any {body : γ → (γ → Option β) → Option β} {r1 r2 : Option β} (S : Nat → γ) (c : Nat → Bool) {n F : Nat} (hF : n < F) (hb : ∀ k, k < n → ∀ next, body (S k) next = bif c k then r1 else next (S (k + 1))) (he : ∀ next, body (S n) next = r2) : loop F body (S 0) = bif (List.range n).any c then r1 else r2 := by
  cases h : (List.range n).any c with
  | false =>
    rw [List.any_eq_false] at h
    refine loop_traj S hF (fun k hk next => ?_) he
    have := h k (List.mem_range.2 hk)
    rw [hb k hk, Bool.eq_false_iff.2 this]; rfl
  | true =>
    have hex : ∃ k, k < n ∧ c k = true := by
      obtain ⟨k, h1, h2⟩ := List.any_eq_true.1 h
      exact ⟨k, List.mem_range.1 h1, h2⟩
    have hm : ∃ m, (m < n ∧ c m = true) ∧ ∀ k, k < m → c k = false := by
      obtain ⟨k, hk⟩ := hex
      induction k using Nat.strongRecOn with
      | _ k ih =>
        by_cases hz : ∃ j, j < k ∧ c j = true
        · obtain ⟨j, h1, h2⟩ := hz
          exact ih j h1 ⟨by omega, h2⟩
        · exact ⟨k, hk, fun j hj => Bool.eq_false_iff.2 fun q => hz ⟨j, hj, q⟩⟩
    obtain ⟨m, ⟨h1, h2⟩, h3⟩ := hm
    refine loop_traj S (n := m) (by omega) (fun k hk next => ?_) (fun next => ?_)
    · rw [hb k (by omega), h3 k hk]; rfl
    · rw [hb m h1, h2]; rfl
end
theorem w64s {k : Nat} (h : k < 4611686018427387904) : w64 ((k : Int) + 1) = ((k + 1 : Nat) : Int) := w64_succ h
theorem lt_nat_t {k n : Nat} (h : k < n) : decide ((k : Int) < (n : Int)) = true := decide_eq_true (by omega)
theorem lt_nat_f (n : Nat) : decide ((n : Int) < (n : Int)) = false := decide_eq_false (by omega)
theorem geti_k {α : Type} {l : List α} {k : Nat} (h : k < l.length) : geti l (k : Int) = some l[k] := by rw [geti_nat, List.getElem?_eq_getElem h]
theorem ne_refl {α : Type} [BEq α] [LawfulBEq α] (a : α) : (a != a) = false := by simp
end Go.Proofs.YtcnahmgekicbdaaGreat
end
section
set_option linter.unusedVariables false
set_option linter.unusedSimpArgs false
namespace Go.Proofs.YtcnahmgekicbdaaGreat
open Go.Lf
theorem loop_tr {β γ : Type} {body : γ → (γ → Option β) → Option β} {r : Option β} {s0 : γ} (S : Nat → γ) (h0 : S 0 = s0) {n F : Nat} (hF : n < F) (hb : ∀ k, k < n → ∀ next, body (S k) next = next (S (k + 1))) (he : ∀ next, body (S n) next = r) : loop F body s0 = r := h0 ▸ loop_traj S hF hb he
theorem geti_d {α : Type} {l : List α} {k : Nat} (d : α) (h : k < l.length) : geti l (k : Int) = some (l.getD k d) := by
  rw [geti_k h, List.getD_eq_getElem?_getD, List.getElem?_eq_getElem h]; rfl
theorem bne_dec (a b : Int) : (a != b) = decide (a ≠ b) := by
  by_cases h : a = b <;> simp [h]
theorem beq_dec (a b : Int) : (a == b) = decide (a = b) := by
  by_cases h : a = b <;> simp [h]
theorem first_of {c : Nat → Prop} {n : Nat} (h : c n) : ∃ m, m ≤ n ∧ c m ∧ ∀ k, k < m → ¬ c k := by
  induction n using Nat.strongRecOn with
  | _ n ih =>
    by_cases hz : ∃ j, j < n ∧ c j
    · obtain ⟨j, h1, h2⟩ := hz
      obtain ⟨m, q1, q2, q3⟩ := ih j h1 h2
      exact ⟨m, by omega, q2, q3⟩
    · exact ⟨n, Nat.le_refl _, h, fun k hk q => hz ⟨k, hk, q⟩⟩
theorem pigeon : ∀ (n : Nat) (f : Nat → Nat), (∀ i, i ≤ n → f i < n) → ∃ i j, i < j ∧ j ≤ n ∧ f i = f j := by
  intro n
  induction n with
  | zero => intro f h; exact absurd (h 0 (Nat.le_refl _)) (Nat.not_lt_zero _)
  | succ n ih =>
    intro f h
    by_cases hz : ∃ i, i ≤ n ∧ f i = f (n + 1)
    · obtain ⟨i, h1, h2⟩ := hz
      exact ⟨i, n + 1, by omega, Nat.le_refl _, h2⟩
    · have hne : ∀ i, i ≤ n → f i ≠ f (n + 1) := fun i hi q => hz ⟨i, hi, q⟩
      have hl := h (n + 1) (Nat.le_refl _)
      obtain ⟨i, j, h1, h2, h3⟩ := ih (fun i => if f i < f (n + 1) then f i else f i - 1) (fun i hi => by
        have := h i (by omega)
        have := hne i hi
        by_cases q : f i < f (n + 1)
        · rw [if_pos q]; omega
        · rw [if_neg q]; omega)
      refine ⟨i, j, h1, by omega, ?_⟩
      have a1 := hne i (by omega)
      have a2 := hne j h2
      by_cases q1 : f i < f (n + 1) <;> by_cases q2 : f j < f (n + 1)
      · rwa [if_pos q1, if_pos q2] at h3
      · rw [if_pos q1, if_neg q2] at h3; omega
      · rw [if_neg q1, if_pos q2] at h3; omega
      · rw [if_neg q1, if_neg q2] at h3; omega
section
variable {β γ : Type} {R : β → Prop}
end
theorem ge0_nat (k : Nat) : decide ((k : Int) ≥ 0) = true := decide_eq_true (by omega)
noncomputable def ifc {α : Sort _} (c : Prop) (a b : α) : α := @ite α c (Classical.propDecidable c) a b
theorem ifc_pos {α : Sort _} {c : Prop} (h : c) {a b : α} : ifc c a b = a := by unfold ifc; exact if_pos h
theorem ifc_neg {α : Sort _} {c : Prop} (h : ¬ c) {a b : α} : ifc c a b = b := by unfold ifc; exact if_neg h
theorem loop_if {β γ : Type} {body : γ → (γ → Option β) → Option β} {r1 r2 : Option β} {s0 : γ} (S : Nat → γ) (h0 : S 0 = s0) (c : Nat → Prop) {n F : Nat} (hF : n < F)
    (hb : ∀ k, k < n → ∀ next, body (S k) next = ifc (c k) (next (S (k + 1))) r1) (he : ∀ next, body (S n) next = r2) : loop F body s0 = ifc (∀ k, k < n → c k) r2 r1 := by
  by_cases hall : ∀ k, k < n → c k
  · rw [ifc_pos hall]
    exact loop_tr S h0 hF (fun k hk next => by rw [hb k hk, ifc_pos (hall k hk)]) he
  · rw [ifc_neg hall]
    have hz : ∃ k, k < n ∧ ¬ c k := Classical.byContradiction fun q => hall fun p hp => Classical.byContradiction fun q2 => q ⟨p, hp, q2⟩
    obtain ⟨k0, hk0⟩ := hz
    obtain ⟨m, _, hm, hlt⟩ := first_of (c := fun k => k < n ∧ ¬ c k) hk0
    exact loop_tr S h0 (n := m) (by omega) (fun k hk next => by rw [hb k (by omega), ifc_pos (Classical.byContradiction fun q => hlt k hk ⟨by omega, q⟩)]) (fun next => by rw [hb m hm.1, ifc_neg hm.2])
theorem any_range_get {α : Type} (l : List α) (c : α → Bool) (d : α) : (List.range l.length).any (fun k => c (l.getD k d)) = l.any c := by
  rw [Bool.eq_iff_iff, List.any_eq_true, List.any_eq_true]
  constructor
  · rintro ⟨k, h1, h2⟩
    have hk := List.mem_range.1 h1
    rw [List.getD_eq_getElem?_getD, List.getElem?_eq_getElem hk] at h2
    exact ⟨_, List.getElem_mem hk, h2⟩
  · rintro ⟨x, h1, h2⟩
    obtain ⟨k, hk, rfl⟩ := List.getElem_of_mem h1
    exact ⟨k, List.mem_range.2 hk, by rw [List.getD_eq_getElem?_getD, List.getElem?_eq_getElem hk]; exact h2⟩
theorem app8 {xs ys : List Int} (h : xs.length + ys.length ≤ 1000000) : app 8 xs ys = some (xs ++ ys) := app_ok h (by decide)
def sortI (l : List Int) : List Int := l.mergeSort fun x y => decide (x ≤ y)
theorem sort_f58 {l : List Int} (h : l.length ≤ 1000000) : f58L l = some (sortI l) := by
  unfold f58L sortI
  rw [Nat.ble_eq_true_of_le h]; rfl
theorem sortI_perm (l : List Int) : (sortI l).Perm l := List.mergeSort_perm _ _
theorem sortI_sorted (l : List Int) : (sortI l).Pairwise (· ≤ ·) := by
  have := List.pairwise_mergeSort (le := fun x y : Int => decide (x ≤ y)) (fun a b c h1 h2 => by simp at *; omega) (fun a b => by simp; omega) l
  exact this.imp fun h => by simpa using h
theorem sortI_of_perm {l l' : List Int} (h : l.Perm l') (hs : l'.Pairwise (· ≤ ·)) : sortI l = l' :=
  List.Perm.eq_of_pairwise (le := (· ≤ ·)) (fun a b _ _ h1 h2 => by omega) (sortI_sorted l) hs ((sortI_perm l).trans h)
end Go.Proofs.YtcnahmgekicbdaaGreat
end
section
set_option linter.unusedVariables false
set_option linter.unusedSimpArgs false
namespace Go.Proofs.YtcnahmgekicbdaaGreat
open Go.Lf
def inn (w : TollSetup) (q : Int) : Int := (w.spots.getD q.toNat default).in_
def up (w : TollSetup) : Nat → Int → Int
  | 0, q => q
  | k + 1, q => if q < 0 then q else up w k (inn w q)
theorem up_neg {w : TollSetup} {q : Int} (h : q < 0) (k : Nat) : up w k q = q := by
  cases k with
  | zero => rfl
  | succ k => show (if q < 0 then q else _) = q; rw [if_pos h]
theorem up_succ (w : TollSetup) (k : Nat) (q : Int) : up w (k + 1) q = if up w k q < 0 then up w k q else inn w (up w k q) := by
  induction k generalizing q with
  | zero => rfl
  | succ k ih =>
    show (if q < 0 then q else up w (k + 1) (inn w q)) = _
    by_cases h : q < 0
    · rw [if_pos h, up_neg h, if_pos h]
    · rw [if_neg h, ih]
      show _ = if (if q < 0 then q else up w k (inn w q)) < 0 then _ else _
      rw [if_neg h]
      show _ = if _ then (if q < 0 then q else up w k (inn w q)) else inn w (if q < 0 then q else up w k (inn w q))
      rw [if_neg h]
theorem up_add (w : TollSetup) (a b : Nat) (q : Int) : up w (a + b) q = up w b (up w a q) := by
  induction a generalizing q with
  | zero => rw [Nat.zero_add]; rfl
  | succ a ih =>
    rw [show a + 1 + b = (a + b) + 1 by omega]
    show (if q < 0 then q else up w (a + b) (inn w q)) = up w b (if q < 0 then q else up w a (inn w q))
    by_cases h : q < 0
    · rw [if_pos h, if_pos h, up_neg h]
    · rw [if_neg h, if_neg h, ih]
theorem up_stays {w : TollSetup} {q : Int} {a : Nat} (h : up w a q < 0) {b : Nat} (hb : a ≤ b) : up w b q < 0 := by
  obtain ⟨d, rfl⟩ : ∃ d, b = a + d := ⟨b - a, by omega⟩
  rw [up_add, up_neg h]; exact h
def okN (w : TollSetup) (q : Int) : Prop := -1 ≤ q ∧ q < (w.spots.length : Int)
instance (w : TollSetup) (q : Int) : Decidable (okN w q) := by unfold okN; infer_instance
structure Inn (w : TollSetup) : Prop where
  rng : ∀ p : Nat, p < w.spots.length → okN w (inn w p)
  acy : ∀ p : Nat, p < w.spots.length → up w w.spots.length p < 0
theorem Inn.up {w : TollSetup} (h : Inn w) {q : Int} (hq : okN w q) (k : Nat) : okN w (up w k q) := by
  induction k with
  | zero => exact hq
  | succ k ih =>
    rw [up_succ]
    by_cases h2 : Proofs.YtcnahmgekicbdaaGreat.up w k q < 0
    · rw [if_pos h2]; exact ih
    · rw [if_neg h2]
      have := h.rng (Proofs.YtcnahmgekicbdaaGreat.up w k q).toNat (by have := ih.2; omega)
      rwa [Int.toNat_of_nonneg (by omega)] at this
theorem acy_iff {w : TollSetup} (hr : ∀ p : Nat, p < w.spots.length → okN w (inn w p)) : (∀ p : Nat, p < w.spots.length → up w w.spots.length p < 0) ↔ ∀ p : Nat, p < w.spots.length → ∀ j, j ≤ w.spots.length → up w (j + 1) p ≠ (p : Int) := by
  constructor
  · intro h p hp j hj e
    have : ∀ m : Nat, up w (m * (j + 1)) p = (p : Int) := fun m => by
      induction m with
      | zero => rw [Nat.zero_mul]; rfl
      | succ m ih => rw [Nat.succ_mul, up_add, ih, e]
    have h2 := up_stays (h p hp) (b := w.spots.length * (j + 1)) (Nat.le_mul_of_pos_right _ (by omega))
    rw [this] at h2; omega
  · intro h p hp
    rcases Int.lt_or_le (up w w.spots.length p) 0 with q | q
    · exact q
    · exfalso
      have hk : ∀ k, k ≤ w.spots.length → 0 ≤ up w k p := fun k hk => by
        rcases Int.lt_or_le (up w k p) 0 with z | z
        · have := up_stays z hk; omega
        · exact z
      have hok : ∀ k, okN w (up w k p) := fun k => by
        induction k with
        | zero => exact ⟨by show (-1 : Int) ≤ (p : Int); omega, by show (p : Int) < _; omega⟩
        | succ k ih =>
          rw [up_succ]
          by_cases h2 : up w k p < 0
          · rw [if_pos h2]; exact ih
          · rw [if_neg h2]
            have := hr (up w k p).toNat (by have := ih.2; omega)
            rwa [Int.toNat_of_nonneg (by omega)] at this
      obtain ⟨i, j, h1, h2, h3⟩ := pigeon w.spots.length (fun k => (up w k p).toNat) fun k hk' => by
        have := (hok k).2; have := hk k hk'; omega
      have e : up w i p = up w j p := by have := hk i (by omega); have := hk j h2; omega
      have hi := hk i (by omega)
      have := h (up w i p).toNat (by have := (hok i).2; omega) (j - i - 1) (by omega)
      apply this
      rw [Int.toNat_of_nonneg hi, show j - i - 1 + 1 = j - i by omega, ← up_add, show i + (j - i) = j by omega, e]
theorem okN_nat {w : TollSetup} {q : Int} (h : okN w q) (h2 : ¬ q < 0) : ∃ k : Nat, q = (k : Int) ∧ k < w.spots.length := ⟨q.toNat, by omega, by have := h.2; omega⟩
def spt (w : TollSetup) (p : Nat) : TollSpot := w.spots.getD p default
theorem spt_geti {w : TollSetup} {p : Nat} (hp : p < w.spots.length) : geti w.spots (p : Int) = some (spt w p) := geti_d default hp
theorem spt_in (w : TollSetup) (p : Nat) : (spt w p).in_ = inn w (p : Int) := by unfold spt inn; rw [Int.toNat_natCast]
end Go.Proofs.YtcnahmgekicbdaaGreat
end
section
set_option linter.unusedVariables false
set_option linter.unusedSimpArgs false
namespace Go.Proofs.YtcnahmgekicbdaaGreat
open Go.Lf
def Wth (w : TollSetup) (p x : Nat) : Prop := ∃ j, up w j (x : Int) = (p : Int)
theorem Wth.bound {w : TollSetup} (hi : Inn w) {p x : Nat} (hx : x < w.spots.length) (h : Wth w p x) : ∃ j, j < w.spots.length ∧ up w j (x : Int) = (p : Int) := by
  obtain ⟨j, e⟩ := h
  refine ⟨j, Classical.byContradiction fun q => ?_, e⟩
  have := up_stays (hi.acy x hx) (show w.spots.length ≤ j by omega)
  omega
def wthB (w : TollSetup) (p x : Nat) : Bool := (List.range w.spots.length).any fun j => up w j (x : Int) == (p : Int)
theorem wthB_iff {w : TollSetup} (hi : Inn w) {p x : Nat} (hx : x < w.spots.length) : wthB w p x = true ↔ Wth w p x := by
  unfold wthB
  rw [List.any_eq_true]
  constructor
  · rintro ⟨j, _, e⟩; exact ⟨j, beq_iff_eq.1 e⟩
  · intro h
    obtain ⟨j, hj, e⟩ := h.bound hi hx
    exact ⟨j, List.mem_range.2 hj, beq_iff_eq.2 e⟩
def withK (w : TollSetup) (p k : Nat) : List Int := ((List.range k).filter (wthB w p)).map Int.ofNat
def withL (w : TollSetup) (p : Nat) : List Int := withK w p w.spots.length
theorem withK_succ (w : TollSetup) (p k : Nat) : withK w p (k + 1) = withK w p k ++ (if wthB w p k then [(k : Int)] else []) := by
  unfold withK
  rw [List.range_succ, List.filter_append, List.map_append]
  congr 1
  by_cases h : wthB w p k = true
  · rw [if_pos h, List.filter_cons, if_pos h]; rfl
  · rw [if_neg h, List.filter_cons, if_neg h]; rfl
theorem withK_len (w : TollSetup) (p k : Nat) : (withK w p k).length ≤ k := by
  unfold withK
  rw [List.length_map]
  have := List.length_filter_le (wthB w p) (List.range k)
  rwa [List.length_range] at this
theorem withL_mem {w : TollSetup} (hi : Inn w) {p : Nat} {y : Int} : y ∈ withL w p ↔ ∃ x : Nat, y = (x : Int) ∧ x < w.spots.length ∧ Wth w p x := by
  unfold withL withK
  rw [List.mem_map]
  constructor
  · rintro ⟨x, h1, rfl⟩
    obtain ⟨h2, h3⟩ := List.mem_filter.1 h1
    have := List.mem_range.1 h2
    exact ⟨x, rfl, this, (wthB_iff hi this).1 h3⟩
  · rintro ⟨x, rfl, h1, h2⟩
    exact ⟨x, List.mem_filter.2 ⟨List.mem_range.2 h1, (wthB_iff hi h1).2 h2⟩, rfl⟩
theorem withL_sorted (w : TollSetup) (p : Nat) : (withL w p).Pairwise (· ≤ ·) := by
  unfold withL withK
  rw [List.pairwise_map]
  exact (List.pairwise_lt_range.filter _).imp fun {a b} h => by show (a : Int) ≤ (b : Int); omega
theorem withL_nodup (w : TollSetup) (p : Nat) : (withL w p).Nodup := by
  unfold withL withK
  exact List.Pairwise.map _ (fun a b h q => h (by have : ((a : Nat) : Int) = ((b : Nat) : Int) := q; omega)) (List.nodup_range.filter _)
def desc (w : TollSetup) : Nat → Nat → List Int
  | 0, _ => []
  | d + 1, v => (v : Int) :: (List.range w.spots.length).flatMap fun k : Nat => if inn w (k : Int) = (v : Int) then desc w d k else []
def Shal (w : TollSetup) (d v : Nat) : Prop := ∀ k, k < w.spots.length → ∀ j, d ≤ j → up w j (k : Int) ≠ (v : Int)
theorem Shal.all {w : TollSetup} (hi : Inn w) {v : Nat} : Shal w w.spots.length v := fun k hk j hj q => by
  have := up_stays (hi.acy k hk) hj
  omega
theorem up_step {w : TollSetup} {x k v : Nat} {j : Nat} (h1 : up w j (x : Int) = (k : Int)) (h2 : inn w (k : Int) = (v : Int)) : up w (j + 1) (x : Int) = (v : Int) := by
  rw [up_succ, h1, if_neg (by omega), h2]
theorem Shal.kid {w : TollSetup} {d v k : Nat} (h : Shal w (d + 1) v) (h2 : inn w (k : Int) = (v : Int)) : Shal w d k := fun x hx j hj q => h x hx (j + 1) (by omega) (up_step q h2)
theorem desc_mem {w : TollSetup} (hi : Inn w) : ∀ d v, v < w.spots.length → Shal w d v → ∀ y : Int, y ∈ desc w d v ↔ ∃ x : Nat, y = (x : Int) ∧ x < w.spots.length ∧ Wth w v x := by
  intro d
  induction d with
  | zero => intro v hv hs; exact absurd rfl (hs v hv 0 (Nat.le_refl _))
  | succ d ih =>
    intro v hv hs y
    unfold desc
    rw [List.mem_cons, List.mem_flatMap]
    constructor
    · rintro (h | ⟨k, hk, h⟩)
      · exact ⟨v, h, hv, 0, rfl⟩
      · by_cases e : inn w (k : Int) = (v : Int)
        · rw [if_pos e] at h
          obtain ⟨x, h1, h2, j, h3⟩ := (ih k (List.mem_range.1 hk) (hs.kid e) y).1 h
          exact ⟨x, h1, h2, j + 1, up_step h3 e⟩
        · rw [if_neg e] at h; cases h
    · rintro ⟨x, rfl, hx, j, hj⟩
      cases j with
      | zero => exact .inl hj
      | succ j =>
        right
        rw [up_succ] at hj
        by_cases hn : up w j (x : Int) < 0
        · rw [if_pos hn] at hj; omega
        · rw [if_neg hn] at hj
          obtain ⟨k, e, hk⟩ := okN_nat (hi.up (q := (x : Int)) ⟨by omega, by omega⟩ j) hn
          rw [e] at hj
          refine ⟨k, List.mem_range.2 hk, ?_⟩
          rw [if_pos hj]
          exact (ih k hk (hs.kid hj) _).2 ⟨x, rfl, hx, j, e⟩
theorem no_cycle {w : TollSetup} (hi : Inn w) {v j : Nat} (hv : v < w.spots.length) (hj : 0 < j) : up w j (v : Int) ≠ (v : Int) := by
  intro e
  have h : ∀ m, up w (m * j) (v : Int) = (v : Int) := by
    intro m
    induction m with
    | zero => rw [Nat.zero_mul]; rfl
    | succ m ih => rw [Nat.succ_mul, up_add, ih, e]
  have := h w.spots.length
  have h2 := up_stays (hi.acy v hv) (show w.spots.length ≤ w.spots.length * j from Nat.le_mul_of_pos_right _ hj)
  omega
theorem desc_nodup {w : TollSetup} (hi : Inn w) : ∀ d v, v < w.spots.length → Shal w d v → (desc w d v).Nodup := by
  intro d
  induction d with
  | zero => intro v hv hs; exact absurd rfl (hs v hv 0 (Nat.le_refl _))
  | succ d ih =>
    intro v hv hs
    unfold desc
    rw [List.nodup_cons]
    refine ⟨fun h => ?_, ?_⟩
    · obtain ⟨k, hk, h⟩ := List.mem_flatMap.1 h
      by_cases e : inn w (k : Int) = (v : Int)
      · rw [if_pos e] at h
        obtain ⟨x, h1, h2, j, h3⟩ := (desc_mem hi d k (List.mem_range.1 hk) (hs.kid e) _).1 h
        have : x = v := by omega
        subst this
        exact no_cycle hi hv (Nat.succ_pos j) (up_step h3 e)
      · rw [if_neg e] at h; cases h
    · unfold List.Nodup
      rw [List.pairwise_flatMap]
      refine ⟨fun k hk => ?_, ?_⟩
      · by_cases e : inn w (k : Int) = (v : Int)
        · rw [if_pos e]; exact ih k (List.mem_range.1 hk) (hs.kid e)
        · rw [if_neg e]; exact List.Pairwise.nil
      · refine List.Pairwise.imp_of_mem (R := (· < ·)) (fun {a b} ha hb hab y hy z hz e => ?_) List.pairwise_lt_range
        subst e
        by_cases ea : inn w (a : Int) = (v : Int)
        · rw [if_pos ea] at hy
          by_cases eb : inn w (b : Int) = (v : Int)
          · rw [if_pos eb] at hz
            obtain ⟨x, h1, h2, j1, h3⟩ := (desc_mem hi d a (List.mem_range.1 ha) (hs.kid ea) _).1 hy
            obtain ⟨x', h1', h2', j2, h4⟩ := (desc_mem hi d b (List.mem_range.1 hb) (hs.kid eb) _).1 hz
            have : x = x' := by omega
            subst this
            have u1 := up_step h3 ea
            have u2 := up_step h4 eb
            rcases Nat.lt_trichotomy j1 j2 with q | q | q
            · rw [show j2 + 1 = (j1 + 1) + (j2 - j1) by omega, up_add, u1] at u2
              exact no_cycle hi hv (by omega) u2
            · subst q; rw [h3] at h4; omega
            · rw [show j1 + 1 = (j2 + 1) + (j1 - j2) by omega, up_add, u2] at u1
              exact no_cycle hi hv (by omega) u1
          · rw [if_neg eb] at hz; cases hz
        · rw [if_neg ea] at hy; cases hy
theorem desc_perm {w : TollSetup} (hi : Inn w) {v : Nat} (hv : v < w.spots.length) : (desc w w.spots.length v).Perm (withL w v) :=
  (List.perm_ext_iff_of_nodup (desc_nodup hi _ v hv (Shal.all hi)) (withL_nodup w v)).2 fun a => by rw [desc_mem hi _ v hv (Shal.all hi), withL_mem hi]
theorem desc_sort {w : TollSetup} (hi : Inn w) {v : Nat} (hv : v < w.spots.length) : sortI (desc w w.spots.length v) = withL w v := sortI_of_perm (desc_perm hi hv) (withL_sorted w v)
theorem desc_len {w : TollSetup} (hi : Inn w) {v : Nat} (hv : v < w.spots.length) : (desc w w.spots.length v).length ≤ w.spots.length := by
  rw [(desc_perm hi hv).length_eq]; exact withK_len _ _ _
def kids (w : TollSetup) (d v k : Nat) : List Int := (List.range k).flatMap fun k : Nat => if inn w (k : Int) = (v : Int) then desc w d k else []
theorem kids_succ (w : TollSetup) (d v k : Nat) : kids w d v (k + 1) = kids w d v k ++ (if inn w (k : Int) = (v : Int) then desc w d k else []) := by
  unfold kids
  rw [List.range_succ, List.flatMap_append]; simp
theorem kids_le {w : TollSetup} {d v : Nat} {a b : Nat} (h : a ≤ b) : (kids w d v a).length ≤ (kids w d v b).length := by
  obtain ⟨c, rfl⟩ : ∃ c, b = a + c := ⟨b - a, by omega⟩
  induction c with
  | zero => exact Nat.le_refl _
  | succ c ih =>
    rw [show a + (c + 1) = (a + c) + 1 by omega, kids_succ, List.length_append]
    have := ih (by omega); omega
theorem gather0 {F : Nat} (hF : 1000 ≤ F) {w : TollSetup} (h8 : w.spots.length ≤ 8)
    {B : Int → (Int × List Int → Option (List Int)) → Int × List Int → (Int × List Int → Option (List Int)) → Option (List Int)}
    {R : Int × List Int → (Int × List Int → Option (List Int)) → Option (List Int)}
    (hR : ∀ v l next, R (v, l) next = (app 8 l [v]).bind fun z => loop F (B v next) (0, z))
    (hB : ∀ v next k l nx, B v next (k, l) nx = bif decide (k < (w.spots.length : Int)) then (geti w.spots k).bind fun x => (bif x.in_ == v then (next (k, l)).bind fun p => (bif !true then some p else nx (w64 (k + 1), p)) else nx (w64 (k + 1), l)) else some l) :
    ∀ d v l F', d < F' → v < w.spots.length → Shal w d v → l.length + (desc w d v).length ≤ 800000 → loop F' R ((v : Int), l) = some (l ++ desc w d v) := by
  intro d
  induction d with
  | zero => intro v l F' _ hv hs; exact absurd rfl (hs v hv 0 (Nat.le_refl _))
  | succ d ih =>
    intro v l F' hF' hv hs hlen
    have ed : desc w (d + 1) v = (v : Int) :: kids w d v w.spots.length := rfl
    rw [ed, List.length_cons] at hlen
    cases F' with
    | zero => omega
    | succ F' =>
      rw [loop_succ, hR, app8 (by rw [List.length_singleton]; omega)]
      simp only [Option.bind_some]
      refine loop_tr (fun k => ((k : Int), l ++ [(v : Int)] ++ kids w d v k)) (by simp [kids]) (n := w.spots.length) (by omega) (fun k hk next => ?_) (fun next => ?_)
      · have hle := kids_le (w := w) (d := d) (v := v) (show k + 1 ≤ w.spots.length by omega)
        rw [kids_succ] at hle ⊢
        rw [hB, lt_nat_t hk, cond_true, spt_geti hk]
        simp only [Option.bind_some]
        rw [spt_in]
        by_cases e : inn w (k : Int) = (v : Int)
        · rw [beq_dec, decide_eq_true e, cond_true, if_pos e]
          rw [if_pos e, List.length_append] at hle
          rw [ih k _ F' (by omega) hk (hs.kid e) (by simp only [List.length_append, List.length_singleton]; omega)]
          simp only [Option.bind_some, Bool.not_true, cond_false]
          rw [w64s (by omega), ← List.append_assoc]
        · rw [beq_dec, decide_eq_false e, cond_false, if_neg e, List.append_nil, w64s (by omega)]
      · rw [hB, lt_nat_f, cond_false, ed, List.append_assoc]; rfl
theorem gather {F : Nat} (hF : 1000 ≤ F) {w : TollSetup} (hi : Inn w) (h8 : w.spots.length ≤ 8) {v : Nat} (hv : v < w.spots.length) : loop F (f35_r0 F w) ((v : Int), []) = some (desc w w.spots.length v) := by
  have := gather0 (F := F) hF h8 (B := fun v next => f35_b0 w v next) (R := f35_r0 F w) (fun v l next => rfl) (fun v next k l nx => rfl) w.spots.length v [] F (by omega) hv (Shal.all hi) (by have := desc_len hi hv; simp; omega)
  rw [this]; rfl
end Go.Proofs.YtcnahmgekicbdaaGreat
end
section
set_option linter.unusedVariables false
set_option linter.unusedSimpArgs false
namespace Go.Proofs.YtcnahmgekicbdaaGreat
open Go.Lf
structure Shp (s : TollSetup) : Prop where
  m1 : 1 ≤ s.machines
  m2 : s.machines ≤ 4
  p1 : 1 ≤ s.spots.length
  p2 : s.spots.length ≤ 8
  at_ : ∀ p, p < s.spots.length → 0 ≤ (spt s p).at_ ∧ (spt s p).at_ < s.machines
  inn : Inn s
def Ends (s : TollSetup) (p : Nat) : Prop := ∃ m, m ≤ s.spots.length ∧ up s (m + 1) (p : Int) < 0
section
variable {F : Nat} {s : TollSetup}
theorem okN_up (hr : ∀ p : Nat, p < s.spots.length → okN s (inn s p)) {p : Nat} (hp : p < s.spots.length) : ∀ k, okN s (up s k (p : Int)) := by
  intro k
  induction k with
  | zero => exact ⟨by show (-1 : Int) ≤ (p : Int); omega, by show (p : Int) < _; omega⟩
  | succ k ih =>
    rw [up_succ]
    by_cases h2 : up s k p < 0
    · rw [if_pos h2]; exact ih
    · rw [if_neg h2]
      obtain ⟨j, e, hj⟩ := okN_nat ih h2
      rw [e]; exact hr j hj
theorem ends_iff (hr : ∀ p : Nat, p < s.spots.length → okN s (inn s p)) : (∀ p, p < s.spots.length → Ends s p) ↔ ∀ p : Nat, p < s.spots.length → up s s.spots.length (p : Int) < 0 := by
  constructor
  · intro h
    refine (acy_iff hr).2 fun p hp j hj e => ?_
    obtain ⟨m, hm, he⟩ := h p hp
    have : ∀ k : Nat, up s (k * (j + 1)) p = (p : Int) := fun k => by
      induction k with
      | zero => rw [Nat.zero_mul]; rfl
      | succ k ih => rw [Nat.succ_mul, up_add, ih, e]
    have h2 := up_stays he (b := (m + 1) * (j + 1)) (Nat.le_mul_of_pos_right _ (by omega))
    rw [this] at h2; omega
  · intro h p hp
    exact ⟨s.spots.length, Nat.le_refl _, up_stays (h p hp) (by omega)⟩
theorem chain_prog (hF : 1000 ≤ F) (h8 : s.spots.length ≤ 8) (hr : ∀ p : Nat, p < s.spots.length → okN s (inn s p)) {p : Nat} (hp : p < s.spots.length) (v30 : Int) (next : Int × Int → Option Int) :
    loop F (f34_b2 s (p : Int) next) (inn s (p : Int), v30, 0, false) = ifc (Ends s p) (next (((p + 1 : Nat) : Int), v30)) (some 2) := by
  have e0 : (inn s (p : Int), v30, (0 : Int), false) = (up s (0 + 1) p, v30, ((0 : Nat) : Int), false) := by
    rw [up_succ]; show _ = (if ((p : Int)) < 0 then _ else _, _); rw [if_neg (by omega)]; rfl
  obtain ⟨m, hm, hs, hlt⟩ := first_of (c := fun k => s.spots.length ≤ k ∨ up s (k + 1) p < 0) (n := s.spots.length) (.inl (by omega))
  have hj : ∀ j, j < m → j < s.spots.length ∧ ¬ up s (j + 1) p < 0 := fun j hj => by
    have := hlt j hj
    exact ⟨Classical.byContradiction fun z => this (.inl (by omega)), fun q => this (.inr q)⟩
  refine loop_tr (fun j => (up s (j + 1) p, v30, (j : Int), false)) e0.symm (n := m) (by omega) (fun j hjm nx => ?_) (fun nx => ?_)
  · obtain ⟨a1, a2⟩ := hj j hjm
    obtain ⟨k, e, hk⟩ := okN_nat (okN_up hr hp (j + 1)) a2
    unfold f34_b2
    dsimp only
    rw [up_succ s (j + 1), if_neg a2, e, ge0_nat, cond_true, w64s (by omega), decide_eq_false (by omega), spt_geti hk]
    simp only [cond_false, Bool.not_true, Option.bind_some]
    rw [spt_in]
  · unfold f34_b2
    dsimp only
    by_cases h2 : up s (m + 1) p < 0
    · rw [decide_eq_false (show ¬ up s (m + 1) p ≥ 0 by omega), cond_false, ifc_pos ⟨m, hm, h2⟩]
      unfold f34_j0
      dsimp only
      rw [cond_false, w64s (by omega)]
    · have hml : m = s.spots.length := by rcases hs with z | z; · omega
                                          · exact absurd z h2
      obtain ⟨k, e, hk⟩ := okN_nat (okN_up hr hp (m + 1)) h2
      have hne : ¬ Ends s p := by
        rintro ⟨j, h1, h3⟩
        have := up_stays h3 (show j + 1 ≤ m + 1 by omega)
        exact h2 this
      rw [e, ge0_nat, cond_true, w64s (by omega), decide_eq_true (show ((m + 1 : Nat) : Int) > (s.spots.length : Int) by omega), ifc_neg hne]
      rfl
theorem loop_cyc (hF : 1000 ≤ F) (h8 : s.spots.length ≤ 8) (hr : ∀ p : Nat, p < s.spots.length → okN s (inn s p)) {p : Nat} (hp : p < s.spots.length) (next : Int → Option Bool) :
    loop F (f17_b2 s (p : Int) next) (inn s (p : Int), 0) = ifc (∀ j, j ≤ s.spots.length → up s (j + 1) p ≠ (p : Int)) (next ((p + 1 : Nat) : Int)) (some false) := by
  have hok := okN_up hr hp
  have e0 : (inn s (p : Int), (0 : Int)) = (up s (0 + 1) p, ((0 : Nat) : Int)) := by
    rw [up_succ]; show _ = (if ((p : Int)) < 0 then _ else _, _); rw [if_neg (by omega)]; rfl
  obtain ⟨m, hm, hs, hlt⟩ := first_of (c := fun k => s.spots.length < k ∨ up s (k + 1) p < 0 ∨ up s (k + 1) p = (p : Int)) (n := s.spots.length + 1) (.inl (by omega))
  have hj : ∀ j, j < m → j ≤ s.spots.length ∧ ¬ up s (j + 1) p < 0 ∧ up s (j + 1) p ≠ (p : Int) := fun j hj => by
    have := hlt j hj
    exact ⟨Classical.byContradiction fun z => this (.inl (by omega)), fun q => this (.inr (.inl q)), fun q => this (.inr (.inr q))⟩
  refine loop_tr (fun j => (up s (j + 1) p, (j : Int))) e0.symm (n := m) (by omega) (fun j hjm nx => ?_) (fun nx => ?_)
  · obtain ⟨a1, a2, a3⟩ := hj j hjm
    obtain ⟨k, e, hk⟩ := okN_nat (hok (j + 1)) a2
    unfold f17_b2
    dsimp only
    rw [up_succ s (j + 1), if_neg a2]
    rw [e] at a3 ⊢
    rw [decide_eq_true (show (j : Int) ≤ (s.spots.length : Int) by omega), ge0_nat, Bool.and_self, cond_true, beq_dec, decide_eq_false a3, cond_false, spt_geti hk]
    simp only [Option.bind_some]
    rw [w64s (by omega), spt_in]
  · unfold f17_b2
    dsimp only
    by_cases h1 : s.spots.length < m
    · rw [decide_eq_false (show ¬ (m : Int) ≤ (s.spots.length : Int) by omega), Bool.false_and, cond_false, w64s (by omega), ifc_pos fun j q1 => (hj j (by omega)).2.2]
    · by_cases h2 : up s (m + 1) p < 0
      · rw [decide_eq_false (show ¬ up s (m + 1) p ≥ 0 by omega), Bool.and_false, cond_false, w64s (by omega), ifc_pos]
        intro j q1 q2
        rcases Nat.lt_or_ge j m with z | z
        · exact (hj j z).2.2 q2
        · have := up_stays h2 (show m + 1 ≤ j + 1 by omega); omega
      · have h3 : up s (m + 1) p = (p : Int) := by
          rcases hs with z | z | z
          · exact absurd z h1
          · exact absurd z h2
          · exact z
        rw [decide_eq_true (show (m : Int) ≤ (s.spots.length : Int) by omega), h3, ge0_nat, Bool.and_self, cond_true, beq_dec, decide_eq_true rfl, cond_true, ifc_neg fun z => z m (by omega) h3]
def Rng (s : TollSetup) (p : Nat) : Prop := (0 ≤ (spt s p).at_ ∧ (spt s p).at_ < s.machines) ∧ okN s (inn s (p : Int))
def Bnd (s : TollSetup) : Prop := 1 ≤ s.machines ∧ s.machines ≤ 4 ∧ 1 ≤ s.spots.length ∧ s.spots.length ≤ 8
theorem bnd_dec (s : TollSetup) : ((((decide (s.machines < 1)) || (decide (s.machines > 4))) || (decide ((s.spots.length : Int) < 1))) || (decide ((s.spots.length : Int) > 8))) = true ↔ ¬ Bnd s := by
  unfold Bnd
  simp only [Bool.or_eq_true, decide_eq_true_eq]
  omega
theorem shp_iff : Shp s ↔ Bnd s ∧ (∀ p, p < s.spots.length → Rng s p) ∧ ∀ p : Nat, p < s.spots.length → up s s.spots.length (p : Int) < 0 :=
  ⟨fun h => ⟨⟨h.m1, h.m2, h.p1, h.p2⟩, fun p hp => ⟨h.at_ p hp, h.inn.rng p hp⟩, h.inn.acy⟩, fun h => ⟨h.1.1, h.1.2.1, h.1.2.2.1, h.1.2.2.2, fun p hp => (h.2.1 p hp).1, ⟨fun p hp => (h.2.1 p hp).2, h.2.2⟩⟩⟩
theorem setup_ref (hF : 1000 ≤ F) (s : TollSetup) : f17L F s = ifc (Shp s) (some true) (some false) := by
  unfold f17L
  rcases Classical.em (¬ Bnd s) with hb | hb
  · rw [(bnd_dec s).2 hb, cond_true, ifc_neg fun z => hb (shp_iff.1 z).1]
  have hb := Classical.not_not.1 hb
  rw [Bool.eq_false_iff.2 fun z => (bnd_dec s).1 z hb, cond_false]
  have h8 := hb.2.2.2
  have e1 := loop_if (body := f17_b0 F s) (r1 := some false) (r2 := loop F (f17_b1 F s) 0) (s0 := (0 : Int)) (fun k => (k : Int)) rfl (Rng s) (n := s.spots.length) (F := F) (by omega) (fun k hk next => by
    unfold f17_b0
    rw [lt_nat_t hk, cond_true, spt_geti hk]
    simp only [Option.bind_some]
    rw [spt_in]
    by_cases r : Rng s k
    · have r1 := r.1.1; have r2 := r.1.2; have r3 := r.2.1; have r4 := r.2.2
      rw [ifc_pos r, decide_eq_false (by omega), decide_eq_false (by omega), decide_eq_false (by omega), decide_eq_false (by omega)]
      simp only [Bool.or_self, cond_false]
      rw [w64s (by omega)]
    · rw [ifc_neg r]
      have : ((((decide ((spt s k).at_ < 0)) || (decide ((spt s k).at_ ≥ s.machines))) || (decide (inn s (k : Int) < (-1)))) || (decide (inn s (k : Int) ≥ (s.spots.length : Int)))) = true := by
        rw [← Bool.not_eq_false]
        intro z
        simp only [Bool.or_eq_false_iff, decide_eq_false_iff_not] at z
        exact r ⟨⟨by omega, by omega⟩, by omega, by omega⟩
      rw [this, cond_true]) (fun next => by
    unfold f17_b0
    rw [lt_nat_f, cond_false])
  rw [e1]
  by_cases hr : ∀ p, p < s.spots.length → Rng s p
  · have hr' : ∀ p : Nat, p < s.spots.length → okN s (inn s p) := fun p hp => (hr p hp).2
    have e2 := loop_if (body := f17_b1 F s) (r1 := some false) (r2 := some true) (s0 := (0 : Int)) (fun k => (k : Int)) rfl (fun p : Nat => ∀ j, j ≤ s.spots.length → up s (j + 1) p ≠ (p : Int)) (n := s.spots.length) (F := F) (by omega) (fun k hk next => by
      unfold f17_b1
      rw [lt_nat_t hk, cond_true, spt_geti hk]
      simp only [Option.bind_some]
      rw [spt_in]
      exact loop_cyc hF h8 hr' hk next) (fun next => by
      unfold f17_b1
      rw [lt_nat_f, cond_false])
    rw [ifc_pos hr, e2]
    by_cases ha : ∀ p : Nat, p < s.spots.length → up s s.spots.length (p : Int) < 0
    · rw [ifc_pos (shp_iff.2 ⟨hb, hr, ha⟩), ifc_pos ((acy_iff hr').1 ha)]
    · rw [ifc_neg fun z => ha (shp_iff.1 z).2.2, ifc_neg fun z => ha ((acy_iff hr').2 z)]
  · rw [ifc_neg hr, ifc_neg fun z => hr (shp_iff.1 z).2.1]
theorem check_prog (hF : 1000 ≤ F) (s : TollSetup) : f34L F s = ifc (Shp s) (some 0) (some 2) := by
  unfold f34L
  rcases Classical.em (¬ Bnd s) with hb | hb
  · rw [(bnd_dec s).2 hb, cond_true, ifc_neg fun z => hb (shp_iff.1 z).1]
  have hb := Classical.not_not.1 hb
  rw [Bool.eq_false_iff.2 fun z => (bnd_dec s).1 z hb, cond_false]
  have h8 := hb.2.2.2
  have e1 := loop_if (body := f34_b0 F s) (r1 := some 2) (r2 := loop F (f34_b1 F s) (0, 0)) (s0 := (0 : Int)) (fun k => (k : Int)) rfl (Rng s) (n := s.spots.length) (F := F) (by omega) (fun k hk next => by
    unfold f34_b0 f54L
    rw [lt_nat_t hk, cond_true, spt_geti hk]
    simp only [Option.bind_some]
    rw [spt_in]
    by_cases r1 : 0 ≤ (spt s k).at_ ∧ (spt s k).at_ < s.machines
    · rw [decide_eq_false (show ¬ (spt s k).at_ < 0 by omega), decide_eq_false (show ¬ (spt s k).at_ ≥ s.machines by omega)]
      simp only [Bool.or_self, Bool.not_false, Bool.true_and, Bool.false_or]
      by_cases r2 : inn s (k : Int) = -1
      · rw [r2, ne_refl, gd_false]
        simp only [Option.bind_some, Bool.false_and, cond_false]
        rw [w64s (by omega), ifc_pos ⟨r1, by rw [r2]; unfold okN; omega⟩]
      · rw [bne_dec, decide_eq_true r2, gd_true]
        simp only [Option.bind_some, Bool.true_and]
        by_cases r3 : 0 ≤ inn s (k : Int) ∧ inn s (k : Int) < (s.spots.length : Int)
        · rw [decide_eq_true (show inn s (k : Int) ≥ 0 from r3.1), decide_eq_true r3.2, Bool.and_self, Bool.not_true, cond_false, w64s (by omega), ifc_pos ⟨r1, by unfold okN; omega⟩]
        · have : (decide (inn s (k : Int) ≥ 0) && decide (inn s (k : Int) < (s.spots.length : Int))) = false := by
            rw [← Bool.not_eq_true]; intro z
            simp only [Bool.and_eq_true, decide_eq_true_eq] at z
            exact r3 ⟨z.1, z.2⟩
          rw [this, Bool.not_false, cond_true, ifc_neg]
          rintro ⟨_, a, b⟩
          exact r3 ⟨by omega, b⟩
    · have : (decide ((spt s k).at_ < 0) || decide ((spt s k).at_ ≥ s.machines)) = true := by
        rw [← Bool.not_eq_false]; intro z
        simp only [Bool.or_eq_false_iff, decide_eq_false_iff_not] at z
        exact r1 ⟨by omega, by omega⟩
      rw [this]
      simp only [Bool.not_true, Bool.false_and, gd_false, Option.bind_some, Bool.true_or, cond_true]
      rw [ifc_neg fun z => r1 z.1]) (fun next => by
    unfold f34_b0
    rw [lt_nat_f, cond_false])
  rw [e1]
  by_cases hr : ∀ p, p < s.spots.length → Rng s p
  · have hr' : ∀ p : Nat, p < s.spots.length → okN s (inn s p) := fun p hp => (hr p hp).2
    have e2 := loop_if (body := f34_b1 F s) (r1 := some 2) (r2 := some 0) (s0 := ((0 : Int), (0 : Int))) (fun k => ((k : Int), (0 : Int))) rfl (Ends s) (n := s.spots.length) (F := F) (by omega) (fun k hk next => by
      unfold f34_b1
      dsimp only
      rw [lt_nat_t hk, cond_true, spt_geti hk]
      simp only [Option.bind_some]
      rw [spt_in]
      exact chain_prog hF h8 hr' hk 0 next) (fun next => by
      unfold f34_b1
      dsimp only
      rw [lt_nat_f, cond_false])
    rw [ifc_pos hr, e2]
    by_cases ha : ∀ p : Nat, p < s.spots.length → up s s.spots.length (p : Int) < 0
    · rw [ifc_pos (shp_iff.2 ⟨hb, hr, ha⟩), ifc_pos ((ends_iff hr').2 ha)]
    · rw [ifc_neg fun z => ha (shp_iff.1 z).2.2, ifc_neg fun z => ha ((ends_iff hr').1 z)]
  · rw [ifc_neg hr, ifc_neg fun z => hr (shp_iff.1 z).2.1]
end
end Go.Proofs.YtcnahmgekicbdaaGreat
end
section
set_option linter.unusedVariables false
set_option linter.unusedSimpArgs false
namespace Go.Proofs.YtcnahmgekicbdaaGreat
open Go.Lf
def arK (s : TollSetup) (p : Nat) (k : Nat) : List Int := (List.range k).map fun j => up s (j + 1) (p : Int)
theorem arK_succ (s : TollSetup) (p k : Nat) : arK s p (k + 1) = arK s p k ++ [up s (k + 1) (p : Int)] := by
  unfold arK; rw [List.range_succ, List.map_append]; rfl
theorem arK_len (s : TollSetup) (p k : Nat) : (arK s p k).length = k := by unfold arK; rw [List.length_map, List.length_range]
section
variable {F : Nat} {s : TollSetup}
theorem place_iff (s : TollSetup) (p : Int) : (decide (p ≥ 0) && decide (p < (s.spots.length : Int))) = true ↔ ∃ k : Nat, p = (k : Int) ∧ k < s.spots.length := by
  rw [Bool.and_eq_true, decide_eq_true_eq, decide_eq_true_eq]
  constructor
  · rintro ⟨a, b⟩; exact ⟨p.toNat, by omega, by omega⟩
  · rintro ⟨k, rfl, h⟩; omega
theorem place_t {k : Nat} (h : k < s.spots.length) : (decide ((k : Int) ≥ 0) && decide ((k : Int) < (s.spots.length : Int))) = true := (place_iff s k).2 ⟨k, rfl, h⟩
theorem up1 {p : Nat} : up s (0 + 1) (p : Int) = inn s (p : Int) := by
  rw [up_succ]; show (if ((p : Int)) < 0 then _ else _) = _; rw [if_neg (by omega)]; rfl
theorem around (hF : 1000 ≤ F) (hS : Shp s) {p : Nat} (hp : p < s.spots.length) :
    ∃ L, f38L F s (p : Int) = some L ∧ f36L F s (p : Int) = some (L, 0) ∧ L.length ≤ 8 ∧ ∀ q : Nat, ((q : Int) ∈ L ↔ ∃ j, up s (j + 1) (p : Int) = (q : Int)) := by
  obtain ⟨m, hm, hs, hlt⟩ := first_of (c := fun k => up s (k + 1) (p : Int) < 0) (n := s.spots.length) (up_stays (hS.inn.acy p hp) (by omega))
  have h8 := hS.p2
  refine ⟨arK s p m, ?_, ?_, by rw [arK_len]; omega, fun q => ?_⟩
  · unfold f38L
    rw [spt_geti hp]
    simp only [Option.bind_some]
    rw [spt_in]
    refine loop_tr (fun k => (arK s p k, up s (k + 1) (p : Int))) (by show (arK s p 0, up s (0 + 1) (p : Int)) = _; rw [up1]; rfl) (n := m) (by omega) (fun k hk next => ?_) (fun next => ?_)
    · have h2 := hlt k hk
      obtain ⟨j, e, hj⟩ := okN_nat (hS.inn.up (q := (p : Int)) ⟨by omega, by omega⟩ (k + 1)) h2
      unfold f38_b0
      dsimp only
      rw [up_succ s (k + 1), if_neg h2, arK_succ, e, ge0_nat, cond_true, app8 (by rw [arK_len, List.length_singleton]; omega), spt_geti hj]
      simp only [Option.bind_some]
      rw [spt_in]
    · unfold f38_b0
      dsimp only
      rw [decide_eq_false (by omega), cond_false]
  · unfold f36L f54L
    rw [check_prog hF, ifc_pos hS, spt_geti hp, place_t hp]
    simp only [Option.bind_some, ne_refl, Bool.not_false, gd_true, Bool.not_true, Bool.or_false, cond_false]
    rw [spt_in]
    refine loop_tr (fun k => (up s (k + 1) (p : Int), arK s p k)) (by show (up s (0 + 1) (p : Int), arK s p 0) = _; rw [up1]; rfl) (n := m) (by omega) (fun k hk next => ?_) (fun next => ?_)
    · have h2 := hlt k hk
      obtain ⟨j, e, hj⟩ := okN_nat (hS.inn.up (q := (p : Int)) ⟨by omega, by omega⟩ (k + 1)) h2
      unfold f36_b0
      dsimp only
      rw [up_succ s (k + 1), if_neg h2, arK_succ, e, ge0_nat, cond_true, app8 (by rw [arK_len, List.length_singleton]; omega), spt_geti hj]
      simp only [Option.bind_some, Bool.not_true, cond_false]
      rw [spt_in]
    · unfold f36_b0
      dsimp only
      rw [decide_eq_false (by omega), cond_false]; rfl
  · unfold arK
    rw [List.mem_map]
    constructor
    · rintro ⟨j, _, e⟩; exact ⟨j, e⟩
    · rintro ⟨j, e⟩
      refine ⟨j, List.mem_range.2 (Classical.byContradiction fun z => ?_), e⟩
      have := up_stays hs (show m + 1 ≤ j + 1 by omega)
      omega
theorem lies (hF : 1000 ≤ F) (hS : Shp s) {p : Nat} (hp : p < s.spots.length) (q : Nat) : f31L F s (p : Int) (q : Int) = some (wthB s q p) := by
  obtain ⟨L, e1, _, hl, hm⟩ := around hF hS hp
  have hW : Wth s q p ↔ p = q ∨ (q : Int) ∈ L := by
    rw [hm]
    constructor
    · rintro ⟨j, e⟩
      cases j with
      | zero => left; have : (p : Int) = (q : Int) := e; omega
      | succ j => exact .inr ⟨j, e⟩
    · rintro (rfl | ⟨j, e⟩)
      · exact ⟨0, rfl⟩
      · exact ⟨j + 1, e⟩
  unfold f31L
  by_cases h : p = q
  · subst h
    rw [beq_self_eq_true, cond_true, (wthB_iff hS.inn hp).2 ⟨0, rfl⟩]
  · rw [beq_dec, decide_eq_false (by omega), cond_false, e1]
    simp only [Option.bind_some]
    rw [show (0 : Int) = ((0 : Nat) : Int) from rfl]
    rw [loop_any (fun k => (k : Int)) (fun k => L.getD k 0 == (q : Int)) (r1 := some true) (r2 := some false) (n := L.length) (by omega) (fun k hk next => by
      unfold f31_b0
      rw [lt_nat_t hk, cond_true, geti_d 0 hk]
      simp only [Option.bind_some]
      rw [w64s (by omega)]) (fun next => by
      unfold f31_b0
      rw [lt_nat_f, cond_false])]
    rw [any_range_get L (fun x => x == (q : Int)) 0]
    have : L.any (fun x => x == (q : Int)) = wthB s q p := by
      rw [Bool.eq_iff_iff, wthB_iff hS.inn hp, hW, List.any_eq_true]
      constructor
      · rintro ⟨x, h1, h2⟩; right; rwa [← beq_iff_eq.1 h2]
      · rintro (h1 | h1)
        · exact absurd h1 h
        · exact ⟨_, h1, beq_self_eq_true _⟩
    rw [this]
    cases wthB s q p <;> rfl
theorem within_ref (hF : 1000 ≤ F) (hS : Shp s) {p : Nat} (hp : p < s.spots.length) : f37L F s (p : Int) = some (withL s p) := by
  have h8 := hS.p2
  unfold f37L
  refine loop_tr (fun k => (withK s p k, (k : Int))) rfl (n := s.spots.length) (by omega) (fun k hk next => ?_) (fun next => ?_)
  · unfold f37_b0
    dsimp only
    rw [lt_nat_t hk, cond_true, lies hF hS hk p, withK_succ]
    simp only [Option.bind_some]
    cases h : wthB s p k with
    | true =>
      have := withK_len s p k
      rw [cond_true, app8 (by rw [List.length_singleton]; omega)]
      simp only [Option.bind_some]
      unfold f37_j0
      rw [w64s (by omega)]; rfl
    | false =>
      rw [cond_false]
      unfold f37_j0
      rw [w64s (by omega)]
      simp
  · unfold f37_b0
    dsimp only
    rw [lt_nat_f, cond_false]; rfl
theorem within_prog (hF : 1000 ≤ F) (hS : Shp s) {p : Nat} (hp : p < s.spots.length) : f35L F s (p : Int) = some (withL s p, 0) := by
  unfold f35L f54L
  rw [check_prog hF, ifc_pos hS, place_t hp]
  simp only [Option.bind_some, ne_refl, Bool.not_false, gd_true, Bool.not_true, Bool.or_false, cond_false]
  rw [gather hF hS.inn hS.p2 hp]
  simp only [Option.bind_some]
  have h8 := hS.p2
  rw [sort_f58 (by have := desc_len hS.inn hp; omega)]
  simp only [Option.bind_some]
  rw [desc_sort hS.inn hp]
theorem ints_refl {l : List Int} (h : l.length < F) (h2 : l.length ≤ 1000000) : f22L F l l = some true := by
  unfold f22L
  rw [ne_refl, cond_false]
  refine loop_tr (fun k => (k : Int)) rfl (n := l.length) h (fun k hk next => ?_) (fun next => ?_)
  · unfold f22_b0
    rw [lt_nat_t hk, cond_true, geti_d 0 hk]
    simp only [Option.bind_some]
    rw [ne_refl, cond_false, w64s (by omega)]
  · unfold f22_b0
    rw [lt_nat_f, cond_false]
end
theorem TollSetups_law {F : Nat} (hF : 1000 ≤ F) (s : TollSetup) (p : Int) : f13L F s p = some true := by
  unfold f13L f14L
  simp only [Option.bind_some]
  by_cases h30 : (s.spots.length : Int) ≤ 30
  · rw [decide_eq_true h30]
    simp only [Bool.not_true, cond_false]
    rw [check_prog hF, setup_ref hF]
    by_cases hS : Shp s
    · rw [ifc_pos hS, ifc_pos hS]
      by_cases hp : (decide (p ≥ 0) && decide (p < (s.spots.length : Int))) = true
      · obtain ⟨k, rfl, hk⟩ := (place_iff s p).1 hp
        obtain ⟨L, e1, e2, hl, _⟩ := around hF hS hk
        have hw : (withL s k).length ≤ 8 := by have := withK_len s k s.spots.length; have := hS.p2; unfold withL; omega
        rw [within_prog hF hS hk, within_ref hF hS hk, e1, e2]
        unfold f33L
        rw [place_t hk]
        simp only [Option.bind_some, beq_self_eq_true, Bool.not_true, ne_refl, gd_true, Bool.not_false, Bool.or_false, Bool.false_and, cond_false, Bool.and_self, cond_true]
        rw [ints_refl (by omega) (by omega)]
        simp only [Option.bind_some, cond_true]
        rw [ints_refl (by omega) (by omega)]
        simp only [Option.bind_some, gd_true]
        rfl
      · have hp := Bool.eq_false_iff.2 hp
        unfold f35L f36L f33L f54L
        rw [check_prog hF, ifc_pos hS, hp]
        simp only [Option.bind_some, beq_self_eq_true, Bool.not_true, ne_refl, gd_true, Bool.not_false, Bool.or_false, Bool.or_true, Bool.false_and, cond_false, Bool.and_self, cond_true]
        rfl
    · unfold f35L f36L
      rw [check_prog hF, ifc_neg hS, ifc_neg hS]
      rfl
  · rw [decide_eq_false h30]
    rfl
end Go.Proofs.YtcnahmgekicbdaaGreat
end
