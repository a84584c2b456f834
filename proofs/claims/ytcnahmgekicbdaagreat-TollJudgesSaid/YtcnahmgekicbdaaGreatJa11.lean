/- Judges Part 11 of the proof. -/
import Derived.Test.YtcnahmgekicbdaaGreatJa10
set_option linter.all false
set_option maxHeartbeats 2000000
section
noncomputable section
namespace Go.Proofs.YtcnahmgekicbdaaGreat
open Go.Abs Go.Lf
theorem f15_ok {h : H} {r : Bool} (hL : f15L = some r) : Pure XX 15 #[] h (.bool r) := by
  cases hL
  intro wm
  have e : ev (cfg XW fun _ => false) 1 (.call 15 #[] wm h) = some (.fin (.ret (.bool true)) h) := rfl
  exact run_sound (X := XW) mixed 1 _ _ e
end Go.Proofs.YtcnahmgekicbdaaGreat
end
end
section
set_option linter.unusedVariables false
set_option linter.unusedSimpArgs false
namespace Go.Proofs.YtcnahmgekicbdaaGreat
open Go.Lf
def f28_b0 (F : Nat) (p0 : TollSetup) (p1 : (List TollEvent)) : Int → (Int → Option (Int × Int)) → Option (Int × Int) := fun v9 next11 =>
  (bif decide (v9 < (p1.length : Int)) then (geti p1 v9).bind fun x12 => (slL p1 0 v9).bind fun z18 => (f53L F p0 z18 x12).bind fun x22 => (bif decide (x22 > 0) then some (v9, x22) else next11 (w64 (v9 + 1))) else some ((-1), 0))
def f28L (F : Nat) (p0 : TollSetup) (p1 : (List TollEvent)) : Option (Int × Int) :=
  loop F (f28_b0 F p0 p1) 0
def f52L (F : Nat) (p0 : Story) (p1 : TollEvent) : Option Int :=
  (f78L F p0 p1.place).bind fun x5 => (bif (x5 && (p1.deed != 6)) then some 1 else (f79L F p0 p1).bind fun x6 => (bif x6 then some 2 else (f80L F p0 p1).bind fun x7 => (bif x7 then some 3 else (f81L F p0 p1).bind fun x8 => (bif x8 then some 4 else (f82L F p0 p1).bind fun x9 => (bif x9 then some 5 else some 0)))))
end Go.Proofs.YtcnahmgekicbdaaGreat
end
section
set_option linter.unusedVariables false
set_option linter.unusedSimpArgs false
set_option maxRecDepth 20000
noncomputable section
namespace Go.Proofs.YtcnahmgekicbdaaGreat
open Go.Abs Go.Lf
theorem f28_wf {F : Nat} {wm : Nat} {h : H} {p0 : TollSetup} {p1 : (List TollEvent)} {pa0_0 : Option Addr} {pc0_0 : Nat} {pa1_0 : Option Addr} {pc1_0 : Nat} {r : (Int × Int)} (hwm : wm ≤ h.size) (hsp0_0 : Sl rTollSpot wm h pa0_0 pc0_0 p0.spots) (hsp1_0 : Sl rTollEvent wm h pa1_0 pc1_0 p1) (hL : f28L F p0 p1 = some r) :
    WR XX 28 #[.agg [.int .i64 p0.machines, .slice pa0_0 p0.spots.length pc0_0].toArray, .slice pa1_0 p1.length pc1_0] wm h (CP (fun (v : Value) (Gb : List (Ast wm)) => v = .tuple [.int .i64 r.1, .int .i64 r.2].toArray ∧ Gb = []) [] h) := by
 refine bg Tryz.ntmps28 hwm Hold.nil ?_
 intro T hT hS
 unfold f28L at hL
 refine r3 ?_
 rintro _ h2 ⟨b1, eb1, rfl, hS⟩
 refine r12 ?_
 refine r1 ?_
 refine WC.loop (WL.lift hL (fun (v9 : Int) (s : Fs) => ∃ (fr4 : Fr) (h3 : H), s = ⟨fr4, [], h3, none⟩ ∧ Sp wm T h [bx wm b1 [.int .i64 p0.machines, .slice pa0_0 p0.spots.length pc0_0]] h3 ∧ fr4.at 1 = .slice pa1_0 p1.length pc1_0 ∧ fr4.at 2 = .pointer (some ⟨b1, 0, none⟩) ∧ fr4.at 9 = .slice pa1_0 p1.length pc1_0 ∧ fr4.at 10 = .int .i64 (p1.length : Int) ∧ fr4.at 11 = .int .i64 v9) ⟨_, _, rfl, hS.only (.c k0 .n), las⟩ ?_)
 clear hL hS
 rintro next11 v9 s hnext11 hL ⟨fr4, h3, rfl, hS, e5, e6, e7, e8, e10⟩
 dsimp only [f28_b0] at hL
 refine r6 ?_
 refine cn hL ?_ ?_
 · intro hc hL
   refine r6 ?_
   refine r1 ?_
   obtain ⟨x12, hx12, hL⟩ := bind_some hL
   obtain ⟨b13, o14, _, hab13, hAb13, hBb13, hFb13⟩ := Sl.at_ hsp1_0 hx12
   refine WO.w gN rfl (av_ixn und34 size64 lk lk rfl hab13 hx12) ?_
   refine WO.w gN rfl (av_ldA agg64 size64 (evT fh rfl) (At.fz hS.fz hBb13 hAb13) (j := 0) rfl rfl (ws := [.int .i64 x12.deed, .int .i64 x12.place, .int .i64 x12.other, .int .i64 x12.n]) rfl) ?_
   refine r1 ?_
   rintro _ h16 ⟨b15, eb15, rfl, hS⟩
   refine r2 ?_
   rintro h17 hS
   refine r3 ?_
   refine WC.drawX mixed (by kernel_rfl) ?_
   refine r3 ?_
   obtain ⟨z18, hz18, hL⟩ := bind_some hL
   refine WX.he gN rfl (s_slcF (hS.sl hsp1_0) rfl und34 size64 (evT (fskip rfl fh) rfl) (evT fh rfl) hz18) ?_ rfl
   rintro _ ⟨a19, c20, rfl, hv21⟩
   have hsa19 := hv21.sl hsp1_0
   refine r1 ?_
   obtain ⟨x22, hx22, hL⟩ := bind_some hL
   refine WX.cp gN rfl (Ent.fn has53 (evs_cons lk (evs_cons lk (evs_cons lk evs_nil)))) (WR.pureC rfl (f53_wf (Nat.le_refl _) (hS.slu hsp0_0) (hS.slu hsa19) hx22)) ?_ rfl rfl
   refine r8 ?_
   refine r1 ?_
   refine cn hL ?_ ?_
   · intro hc hL
     refine r12 ?_
     refine r2 ?_
     have hr := Option.some.inj hL
     subst hr
     exact RetK.gen (vs := [.int .i64 v9, .int .i64 x22]) rfl (ares_tmp lk (ares_tmp lk ares_nil)) rfl ⟨_, ⟨rfl, rfl⟩, hT ▸ hS.only .n⟩
   · intro hc hL
     refine r6 ?_
     refine r1 ?_
     exact LoopK.nrm (hnext11 _ _ hL ⟨_, _, rfl, hS.only (.c k1 .n), las⟩)
 · intro hc hL
   refine r12 ?_
   have hr := Option.some.inj hL
   subst hr
   exact RetK.gen (vs := [.int .i64 (-1), .int .i64 0]) rfl (ares_tmp lk (ares_tmp lk ares_nil)) rfl ⟨_, ⟨rfl, rfl⟩, hT ▸ hS.only .n⟩
theorem f52_wf {F : Nat} {wm : Nat} {h : H} {p0 : Story} {p1 : TollEvent} {pa0_0 : Option Addr} {pc0_0 : Nat} {pa0_1 : Option Addr} {pc0_1 : Nat} {r : Int} (hwm : wm ≤ h.size) (hsp0_0 : Sl rTollSpot wm h pa0_0 pc0_0 p0.setup.spots) (hsp0_1 : Sl rTollEvent wm h pa0_1 pc0_1 p0.before) (hL : f52L F p0 p1 = some r) :
    WR XX 52 #[.agg [.int .i64 p0.setup.machines, .slice pa0_0 p0.setup.spots.length pc0_0, .slice pa0_1 p0.before.length pc0_1].toArray, .agg [.int .i64 p1.deed, .int .i64 p1.place, .int .i64 p1.other, .int .i64 p1.n].toArray] wm h (CP (fun (v : Value) (Gb : List (Ast wm)) => v = .int .i64 r ∧ Gb = []) [] h) := by
 refine bg Tryz.ntmps52 hwm Hold.nil ?_
 intro T hT hS
 unfold f52L at hL
 refine r3 ?_
 rintro _ h2 ⟨b1, eb1, rfl, hS⟩
 refine r1 ?_
 rintro _ h4 ⟨b3, eb3, rfl, hS⟩
 refine r8 ?_
 refine r2 ?_
 obtain ⟨x5, hx5, hL⟩ := bind_some hL
 refine WO.cp gN rfl (Ent.fn has78 (evs_cons lk (evs_cons lk evs_nil))) (WR.pureC rfl (f78_wf (Nat.le_refl _) (hS.slu hsp0_0) (hS.slu hsp0_1) hx5)) ?_
 refine r8 ?_
 refine cn hL ?_ ?_
 · intro hc hL
   refine r8 ?_
   exact rt hL hT hS
 · intro hc hL
   refine r4 ?_
   obtain ⟨x6, hx6, hL⟩ := bind_some hL
   refine WO.cp gN rfl (Ent.fn has79 (evs_cons lk (evs_cons lk evs_nil))) (WR.pureC rfl (f79_wf (Nat.le_refl _) (hS.slu hsp0_0) (hS.slu hsp0_1) hx6)) ?_
   refine r3 ?_
   refine cn hL ?_ ?_
   · intro hc hL
     refine r8 ?_
     exact rt hL hT hS
   · intro hc hL
     refine r4 ?_
     obtain ⟨x7, hx7, hL⟩ := bind_some hL
     refine WO.cp gN rfl (Ent.fn has80 (evs_cons lk (evs_cons lk evs_nil))) (WR.pureC rfl (f80_wf (Nat.le_refl _) (hS.slu hsp0_0) (hS.slu hsp0_1) hx7)) ?_
     refine r3 ?_
     refine cn hL ?_ ?_
     · intro hc hL
       refine r8 ?_
       exact rt hL hT hS
     · intro hc hL
       refine r4 ?_
       obtain ⟨x8, hx8, hL⟩ := bind_some hL
       refine WO.cp gN rfl (Ent.fn has81 (evs_cons lk (evs_cons lk evs_nil))) (WR.pureC rfl (f81_wf (Nat.le_refl _) (hS.slu hsp0_0) (hS.slu hsp0_1) hx8)) ?_
       refine r3 ?_
       refine cn hL ?_ ?_
       · intro hc hL
         refine r8 ?_
         exact rt hL hT hS
       · intro hc hL
         refine r4 ?_
         obtain ⟨x9, hx9, hL⟩ := bind_some hL
         refine WO.cp gN rfl (Ent.fn has82 (evs_cons lk (evs_cons lk evs_nil))) (WR.pureC rfl (f82_wf (Nat.le_refl _) (hS.slu hsp0_0) (hS.slu hsp0_1) hx9)) ?_
         refine r3 ?_
         refine cn hL ?_ ?_
         · intro hc hL
           refine r8 ?_
           exact rt hL hT hS
         · intro hc hL
           refine r8 ?_
           refine r1 ?_
           exact rt hL hT hS
end Go.Proofs.YtcnahmgekicbdaaGreat
end
end
section
set_option linter.unusedVariables false
set_option linter.unusedSimpArgs false
namespace Go.Proofs.YtcnahmgekicbdaaGreat
open Go.Lf
def f26_j0 : Int × Int → Option (Int × Int × Int) := fun (v22, v24) =>
  some (v22, v24, 0)
def f26_b1 (F : Nat) (p0 : TollSetup) (p1 : (List TollEvent)) : Int × Int × Int → (Int × Int × Int → Option (Int × Int × Int)) → Option (Int × Int × Int) := fun (v30, v32, v36) next38 =>
  (bif decide (v36 < (p1.length : Int)) then (geti p1 v36).bind fun x39 => (slL p1 0 v36).bind fun z45 => (f52L F (Story.mk p0 z45) x39).bind fun x49 => (bif decide (x49 > 0) then (f26_j0) (v36, x49) else next38 (v30, x49, w64 (v36 + 1))) else (f26_j0) (v30, v32))
def f26_b0 (F : Nat) (p0 : TollSetup) (p1 : (List TollEvent)) : Int → (Int → Option (Int × Int × Int)) → Option (Int × Int × Int) := fun v10 next12 =>
  (bif decide (v10 < (p1.length : Int)) then (geti p1 v10).bind fun x13 => (f51L p0 x13).bind fun x19 => (bif (!x19) then some (0, 0, 2) else next12 (w64 (v10 + 1))) else loop F (f26_b1 F p0 p1) ((-1), 0, 0))
def f26L (F : Nat) (p0 : TollSetup) (p1 : (List TollEvent)) : Option (Int × Int × Int) :=
  (f34L F p0).bind fun x3 => (bif ((x3 != 0) || (decide ((p1.length : Int) > 400))) then some (0, 0, 2) else loop F (f26_b0 F p0 p1) 0)
end Go.Proofs.YtcnahmgekicbdaaGreat
end
section
set_option linter.unusedVariables false
set_option linter.unusedSimpArgs false
set_option maxRecDepth 20000
noncomputable section
namespace Go.Proofs.YtcnahmgekicbdaaGreat
open Go.Abs Go.Lf
theorem f26_wf {F : Nat} {wm : Nat} {h : H} {p0 : TollSetup} {p1 : (List TollEvent)} {pa0_0 : Option Addr} {pc0_0 : Nat} {pa1_0 : Option Addr} {pc1_0 : Nat} {r : (Int × Int × Int)} (hwm : wm ≤ h.size) (hsp0_0 : Sl rTollSpot wm h pa0_0 pc0_0 p0.spots) (hsp1_0 : Sl rTollEvent wm h pa1_0 pc1_0 p1) (hL : f26L F p0 p1 = some r) :
    WR XX 26 #[.agg [.int .i64 p0.machines, .slice pa0_0 p0.spots.length pc0_0].toArray, .slice pa1_0 p1.length pc1_0] wm h (CP (fun (v : Value) (Gb : List (Ast wm)) => v = .tuple [.int .i64 r.1, .int .i64 r.2.1, .int .i64 r.2.2].toArray ∧ Gb = []) [] h) := by
 refine bg Tryz.ntmps26 hwm Hold.nil ?_
 intro T hT hS
 unfold f26L at hL
 refine r3 ?_
 rintro _ h2 ⟨b1, eb1, rfl, hS⟩
 refine r4 ?_
 refine r1 ?_
 refine WC.scope ?_
 refine r4 ?_
 obtain ⟨x3, hx3, hL⟩ := bind_some hL
 refine WO.cp gN rfl (Ent.fn has34 (evs_cons lk evs_nil)) (WR.pureC rfl (f34_wf (Nat.le_refl _) (hS.slu hsp0_0) hx3)) ?_
 refine r8 ?_
 refine cn hL ?_ ?_
 · intro hc hL
   refine r8 ?_
   refine r1 ?_
   refine ScpK.ret ?_
   have hr := Option.some.inj hL
   subst hr
   exact RetK.gen (vs := [.int .i64 0, .int .i64 0, .int .i64 2]) rfl (ares_tmp lk (ares_tmp lk (ares_tmp lk ares_nil))) rfl ⟨_, ⟨rfl, rfl⟩, hT ▸ hS.only .n⟩
 · intro hc hL
   refine r8 ?_
   refine r3 ?_
   refine WC.loop (WL.lift hL (fun (v10 : Int) (s : Fs) => ∃ (fr5 : Fr) (h4 : H), s = ⟨fr5, [], h4, none⟩ ∧ Sp wm T h [bx wm b1 [.int .i64 p0.machines, .slice pa0_0 p0.spots.length pc0_0]] h4 ∧ fr5.at 1 = .slice pa1_0 p1.length pc1_0 ∧ fr5.at 2 = .pointer (some ⟨b1, 0, none⟩) ∧ fr5.at 21 = .slice pa1_0 p1.length pc1_0 ∧ fr5.at 22 = .int .i64 (p1.length : Int) ∧ fr5.at 23 = .int .i64 v10) ⟨_, _, rfl, hS.only (.c k0 .n), las⟩ ?_)
   clear hL hS
   rintro next12 v10 s hnext12 hL ⟨fr5, h4, rfl, hS, e6, e7, e8, e9, e11⟩
   dsimp only [f26_b0] at hL
   refine r6 ?_
   refine cn hL ?_ ?_
   · intro hc hL
     refine r6 ?_
     obtain ⟨x13, hx13, hL⟩ := bind_some hL
     obtain ⟨b14, o15, _, hab14, hAb14, hBb14, hFb14⟩ := Sl.at_ hsp1_0 hx13
     refine WO.w gN rfl (av_ixn und34 size64 lk lk rfl hab14 hx13) ?_
     refine WO.w gN rfl (av_ldA agg64 size64 (evT fh rfl) (At.fz hS.fz hBb14 hAb14) (j := 0) rfl rfl (ws := [.int .i64 x13.deed, .int .i64 x13.place, .int .i64 x13.other, .int .i64 x13.n]) rfl) ?_
     refine r1 ?_
     rintro _ h17 ⟨b16, eb16, rfl, hS⟩
     refine r1 ?_
     rintro h18 hS
     refine r6 ?_
     obtain ⟨x19, hx19, hL⟩ := bind_some hL
     refine WO.cp gN rfl (Ent.fn has51 (evs_cons lk (evs_cons lk evs_nil))) (WR.pureC rfl (f51_wf (Nat.le_refl _) (hS.slu hsp0_0) hx19)) ?_
     refine r3 ?_
     refine cn hL ?_ ?_
     · intro hc hL
       refine r12 ?_
       refine r1 ?_
       refine ScpK.ret ?_
       have hr := Option.some.inj hL
       subst hr
       exact RetK.gen (vs := [.int .i64 0, .int .i64 0, .int .i64 2]) rfl (ares_tmp lk (ares_tmp lk (ares_tmp lk ares_nil))) rfl ⟨_, ⟨rfl, rfl⟩, hT ▸ hS.only .n⟩
     · intro hc hL
       refine r6 ?_
       refine r1 ?_
       exact LoopK.nrm (hnext12 _ _ hL ⟨_, _, rfl, hS.only (.c k1 .n), las⟩)
   · intro hc hL
     refine r12 ?_
     refine WC.label ?_
     refine r1 ?_
     refine WC.seqJ (r := r) (fun (p : Int × Int) (s : Fs) => match p with | (v22, v24) => ∃ (fr21 : Fr) (h20 : H), s = ⟨fr21, [], h20, none⟩ ∧ Sp wm T h [] h20 ∧ fr21.at 9 = .int .i64 v22 ∧ fr21.at 10 = .int .i64 v24) (f26_j0) ?_ ?_
     · clear hL hS
       rintro ⟨v22, v24⟩ s hL ⟨fr21, h20, rfl, hS, e23, e25⟩
       dsimp only [f26_j0] at hL
       refine r8 ?_
       refine r2 ?_
       refine ScpK.ret ?_
       have hr := Option.some.inj hL
       subst hr
       exact RetK.gen (vs := [.int .i64 v22, .int .i64 v24, .int .i64 0]) rfl (ares_tmp lk (ares_tmp lk (ares_tmp lk ares_nil))) rfl ⟨_, ⟨rfl, rfl⟩, hT ▸ hS.only .n⟩
     · skip
       refine r8 ?_
       refine WC.loop (WL.lift hL (fun (p : Int × Int × Int) (s : Fs) => match p with | (v30, v32, v36) => ∃ (fr27 : Fr) (h26 : H), s = ⟨fr27, [], h26, none⟩ ∧ Sp wm T h [bx wm b1 [.int .i64 p0.machines, .slice pa0_0 p0.spots.length pc0_0]] h26 ∧ fr27.at 1 = .slice pa1_0 p1.length pc1_0 ∧ fr27.at 2 = .pointer (some ⟨b1, 0, none⟩) ∧ fr27.at 9 = .int .i64 v30 ∧ fr27.at 10 = .int .i64 v32 ∧ fr27.at 32 = .slice pa1_0 p1.length pc1_0 ∧ fr27.at 33 = .int .i64 (p1.length : Int) ∧ fr27.at 34 = .int .i64 v36) ⟨_, _, rfl, hS.only (.c k0 .n), las⟩ ?_)
       clear hL hS
       rintro next38 ⟨v30, v32, v36⟩ s hnext38 hL ⟨fr27, h26, rfl, hS, e28, e29, e31, e33, e34, e35, e37⟩
       dsimp only [f26_b1] at hL
       refine r6 ?_
       refine cn hL ?_ ?_
       · intro hc hL
         refine r6 ?_
         refine r1 ?_
         obtain ⟨x39, hx39, hL⟩ := bind_some hL
         obtain ⟨b40, o41, _, hab40, hAb40, hBb40, hFb40⟩ := Sl.at_ hsp1_0 hx39
         refine WO.w gN rfl (av_ixn und34 size64 lk lk rfl hab40 hx39) ?_
         refine WO.w gN rfl (av_ldA agg64 size64 (evT fh rfl) (At.fz hS.fz hBb40 hAb40) (j := 0) rfl rfl (ws := [.int .i64 x39.deed, .int .i64 x39.place, .int .i64 x39.other, .int .i64 x39.n]) rfl) ?_
         refine r1 ?_
         rintro _ h43 ⟨b42, eb42, rfl, hS⟩
         refine r2 ?_
         rintro h44 hS
         refine r3 ?_
         refine WC.drawX mixed (by kernel_rfl) ?_
         refine r3 ?_
         obtain ⟨z45, hz45, hL⟩ := bind_some hL
         refine WX.he gN rfl (s_slcF (hS.sl hsp1_0) rfl und34 size64 (evT (fskip rfl fh) rfl) (evT fh rfl) hz45) ?_ rfl
         rintro _ ⟨a46, c47, rfl, hv48⟩
         have hsa46 := hv48.sl hsp1_0
         refine WX.w gN rfl (av_bld bld106 (evp_cons lk (evp_cons lk evp_nil)) rfl (cs' := [.int .i64 p0.machines, .slice pa0_0 p0.spots.length pc0_0, .slice a46 z45.length c47]) rfl) ?_ rfl
         refine r1 ?_
         obtain ⟨x49, hx49, hL⟩ := bind_some hL
         refine WX.cp gN rfl (Ent.fn has52 (evs_cons lk (evs_cons lk evs_nil))) (WR.pureC rfl (f52_wf (Nat.le_refl _) (p0 := (Story.mk p0 z45)) (hS.slu hsp0_0) (hS.slu hsa46) hx49)) ?_ rfl rfl
         refine r8 ?_
         refine r1 ?_
         refine cn hL ?_ ?_
         · intro hc hL
           refine r6 ?_
           refine r1 ?_
           refine BlkK.other rfl ?_
           refine r3 ?_
           exact SeqJ.nrm _ hL ⟨_, _, rfl, hS.only .n, las⟩
         · intro hc hL
           refine r6 ?_
           refine r1 ?_
           exact LoopK.nrm (hnext38 _ _ hL ⟨_, _, rfl, hS.only (.c k1 .n), las⟩)
       · intro hc hL
         refine r4 ?_
         exact SeqJ.nrm _ hL ⟨_, _, rfl, hS.only .n, las⟩
end Go.Proofs.YtcnahmgekicbdaaGreat
end
end
section
set_option linter.unusedVariables false
set_option linter.unusedSimpArgs false
namespace Go.Proofs.YtcnahmgekicbdaaGreat
open Go.Lf
def f5L (F : Nat) (p0 : TollSetup) (p1 : (List TollEvent)) : Option Bool :=
  (f14L p0).bind fun x3 => (bif ((!x3) || (decide ((p1.length : Int) > 450))) then (f15L).bind fun x4 => some x4 else (f26L F p0 p1).bind fun x5 => (f17L F p0).bind fun x6 => (gd (!(!x6)) (f27L F p0 p1) default).bind fun x7 => (bif ((!x6) || (!x7)) then (gd (((x5.2.2 == 2) && (x5.1 == 0)) && (x5.2.1 == 0)) (f15L) default).bind fun x8 => some ((((x5.2.2 == 2) && (x5.1 == 0)) && (x5.2.1 == 0)) && x8) else (f28L F p0 p1).bind fun x9 => (gd (((x5.2.2 == 0) && (x5.1 == x9.1)) && (x5.2.1 == x9.2)) (f15L) default).bind fun x10 => some ((((x5.2.2 == 0) && (x5.1 == x9.1)) && (x5.2.1 == x9.2)) && x10)))
end Go.Proofs.YtcnahmgekicbdaaGreat
end
section
set_option linter.unusedVariables false
set_option linter.unusedSimpArgs false
set_option maxRecDepth 20000
noncomputable section
namespace Go.Proofs.YtcnahmgekicbdaaGreat
open Go.Abs Go.Lf
theorem f5_wf {F : Nat} {wm : Nat} {h : H} {p0 : TollSetup} {p1 : (List TollEvent)} {pa0_0 : Option Addr} {pc0_0 : Nat} {pa1_0 : Option Addr} {pc1_0 : Nat} {r : Bool} (hwm : wm ≤ h.size) (hsp0_0 : Sl rTollSpot wm h pa0_0 pc0_0 p0.spots) (hsp1_0 : Sl rTollEvent wm h pa1_0 pc1_0 p1) (hL : f5L F p0 p1 = some r) :
    WR XX 5 #[.agg [.int .i64 p0.machines, .slice pa0_0 p0.spots.length pc0_0].toArray, .slice pa1_0 p1.length pc1_0] wm h (CP (fun (v : Value) (Gb : List (Ast wm)) => v = .bool r ∧ Gb = []) [] h) := by
 refine bg Tryz.ntmps5 hwm Hold.nil ?_
 intro T hT hS
 unfold f5L at hL
 refine r3 ?_
 rintro _ h2 ⟨b1, eb1, rfl, hS⟩
 refine r6 ?_
 refine r1 ?_
 obtain ⟨x3, hx3, hL⟩ := bind_some hL
 refine WO.cp gN rfl (Ent.fn has14 (evs_cons lk evs_nil)) (WR.pureC rfl (f14_wf (Nat.le_refl _) (hS.slu hsp0_0) hx3)) ?_
 refine r8 ?_
 refine cn hL ?_ ?_
 · intro hc hL
   refine r2 ?_
   obtain ⟨x4, hx4, hL⟩ := bind_some hL
   refine WO.cp gN rfl (Ent.fn has15 evs_nil) (f15_ok hx4) ?_
   refine r4 ?_
   refine r1 ?_
   exact rt hL hT hS
 · intro hc hL
   refine r6 ?_
   obtain ⟨x5, hx5, hL⟩ := bind_some hL
   refine WO.cp gN rfl (Ent.fn has26 (evs_cons lk (evs_cons lk evs_nil))) (WR.pureC rfl (f26_wf (Nat.le_refl _) (hS.slu hsp0_0) (hS.slu hsp1_0) hx5)) ?_
   refine r12 ?_
   refine r1 ?_
   obtain ⟨x6, hx6, hL⟩ := bind_some hL
   refine WO.cp gN rfl (Ent.fn has17 (evs_cons lk evs_nil)) (WR.pureC rfl (f17_wf (Nat.le_refl _) (hS.slu hsp0_0) hx6)) ?_
   refine r4 ?_
   obtain ⟨x7, hx7, hL⟩ := gd_some hL
   refine WO.gcp (GuardIs.no rfl rfl rfl (fs2 rfl fh)) rfl (fun hg => (Ent.fn has27 (evs_cons (evG (fskip rfl fh) rfl hg) (evs_cons (evG fh rfl hg) evs_nil)))) (fun hg => f27_ok (hS.slu hsp0_0) (hS.slu hsp1_0) (hx7 hg)) ?_
   refine r4 ?_
   refine cn hL ?_ ?_
   · intro hc hL
     refine r12 ?_
     refine r1 ?_
     obtain ⟨x8, hx8, hL⟩ := gd_some hL
     refine WO.gcp (GuardIs.yes rfl rfl rfl fh) rfl (fun hg => (Ent.fn has15 evs_nil)) (fun hg => f15_ok (hx8 hg)) ?_
     refine r6 ?_
     exact rt hL hT hS
   · intro hc hL
     refine r6 ?_
     obtain ⟨x9, hx9, hL⟩ := bind_some hL
     refine WO.cp gN rfl (Ent.fn has28 (evs_cons lk (evs_cons lk evs_nil))) (WR.pureC rfl (f28_wf (Nat.le_refl _) (hS.slu hsp0_0) (hS.slu hsp1_0) hx9)) ?_
     refine r16 ?_
     refine r6 ?_
     obtain ⟨x10, hx10, hL⟩ := gd_some hL
     refine WO.gcp (GuardIs.yes rfl rfl rfl fh) rfl (fun hg => (Ent.fn has15 evs_nil)) (fun hg => f15_ok (hx10 hg)) ?_
     refine r4 ?_
     refine r1 ?_
     exact rt hL hT hS
theorem f5_ok {F : Nat} {h : H} {p0 : TollSetup} {p1 : (List TollEvent)} {pa0_0 : Option Addr} {pc0_0 : Nat} {pa1_0 : Option Addr} {pc1_0 : Nat} {r : Bool} (hsp0_0 : Sl rTollSpot h.size h pa0_0 pc0_0 p0.spots) (hsp1_0 : Sl rTollEvent h.size h pa1_0 pc1_0 p1) (hL : f5L F p0 p1 = some r) : Pure XX 5 #[.agg [.int .i64 p0.machines, .slice pa0_0 p0.spots.length pc0_0].toArray, .slice pa1_0 p1.length pc1_0] h (.bool r) :=
 WR.pureC rfl (f5_wf (Nat.le_refl _) hsp0_0 hsp1_0 hL)
end Go.Proofs.YtcnahmgekicbdaaGreat
end
end
section

end
section
namespace Go.Lf
theorem w64_succ {k : Nat} (h : k < 4611686018427387904) : w64 ((k : Int) + 1) = ((k + 1 : Nat) : Int) := by
  rw [w64_id (by omega) (by omega)]; rfl
theorem app_ok {α : Type} {by_ : Nat} {xs ys : List α} (h : xs.length + ys.length ≤ 1000000) (hb : by_ ≤ 1000) : app by_ xs ys = some (xs ++ ys) :=
  app_eq (Nat.le_trans (Nat.mul_le_mul (show 2 * (xs.length + ys.length) + 1000 ≤ 2001000 by omega) hb) (by decide))
def iter {α β σ : Type} (g : Nat → α → σ → (σ → Option β) → Option β) (d : σ → Option β) : Nat → List α → σ → Option β
  | _, [], s => d s
  | i, x :: l, s => g i x s (fun s' => iter g d (i + 1) l s')
end Go.Lf
end
section
set_option linter.unusedVariables false
set_option linter.unusedSimpArgs false
namespace Go.Proofs.YtcnahmgekicbdaaGreat
open Go.Lf
section
variable {β γ : Type}
theorem loop_traj {body : γ → (γ → Option β) → Option β} {r : Option β} (S : Nat → γ) {n F : Nat} (hF : n < F) (hb : ∀ k, k < n → ∀ next, body (S k) next = next (S (k + 1))) (he : ∀ next, body (S n) next = r) : loop F body (S 0) = r := by
  have : ∀ j F, j ≤ n → n - j < F → loop F body (S j) = r := by
    intro j F hj hF
    obtain ⟨d, hd⟩ : ∃ d, d = n - j := ⟨_, rfl⟩
    induction d generalizing j F with
    | zero =>
      have : j = n := by omega
      subst this
      cases F with
      | zero => omega
      | succ F => rw [loop_succ]; exact he _
    | succ d ih =>
      cases F with
      | zero => omega
      | succ F => rw [loop_succ, hb j (by omega)]; exact ih (j + 1) F (by omega) (by omega) (by omega)
  exact this 0 F (Nat.zero_le _) (by omega)
theorem loop_any {body : γ → (γ → Option β) → Option β} {r1 r2 : Option β} (S : Nat → γ) (c : Nat → Bool) {n F : Nat} (hF : n < F) (hb : ∀ k, k < n → ∀ next, body (S k) next = bif c k then r1 else next (S (k + 1))) (he : ∀ next, body (S n) next = r2) : loop F body (S 0) = bif (List.range n).any c then r1 else r2 := by
  cases h : (List.range n).any c with
  | false =>
    rw [List.any_eq_false] at h
    refine loop_traj S hF (fun k hk next => ?_) he
    have := h k (List.mem_range.2 hk)
    rw [hb k hk, Bool.eq_false_iff.2 this]; rfl
  | true =>
    have hex : ∃ k, k < n ∧ c k = true := by
      obtain ⟨k, h1, h2⟩ := List.any_eq_true.1 h
      exact ⟨k, List.mem_range.1 h1, h2⟩
    have hm : ∃ m, (m < n ∧ c m = true) ∧ ∀ k, k < m → c k = false := by
      obtain ⟨k, hk⟩ := hex
      induction k using Nat.strongRecOn with
      | _ k ih =>
        by_cases hz : ∃ j, j < k ∧ c j = true
        · obtain ⟨j, h1, h2⟩ := hz
          exact ih j h1 ⟨by omega, h2⟩
        · exact ⟨k, hk, fun j hj => Bool.eq_false_iff.2 fun q => hz ⟨j, hj, q⟩⟩
    obtain ⟨m, ⟨h1, h2⟩, h3⟩ := hm
    refine loop_traj S (n := m) (by omega) (fun k hk next => ?_) (fun next => ?_)
    · rw [hb k (by omega), h3 k hk]; rfl
    · rw [hb m h1, h2]; rfl
end
theorem w64s {k : Nat} (h : k < 4611686018427387904) : w64 ((k : Int) + 1) = ((k + 1 : Nat) : Int) := w64_succ h
theorem lt_nat_t {k n : Nat} (h : k < n) : decide ((k : Int) < (n : Int)) = true := decide_eq_true (by omega)
theorem lt_nat_f (n : Nat) : decide ((n : Int) < (n : Int)) = false := decide_eq_false (by omega)
theorem geti_k {α : Type} {l : List α} {k : Nat} (h : k < l.length) : geti l (k : Int) = some l[k] := by rw [geti_nat, List.getElem?_eq_getElem h]
theorem ne_refl {α : Type} [BEq α] [LawfulBEq α] (a : α) : (a != a) = false := by simp
end Go.Proofs.YtcnahmgekicbdaaGreat
end
section
set_option linter.unusedVariables false
set_option linter.unusedSimpArgs false
namespace Go.Proofs.YtcnahmgekicbdaaGreat
open Go.Lf
theorem loop_tr {β γ : Type} {body : γ → (γ → Option β) → Option β} {r : Option β} {s0 : γ} (S : Nat → γ) (h0 : S 0 = s0) {n F : Nat} (hF : n < F) (hb : ∀ k, k < n → ∀ next, body (S k) next = next (S (k + 1))) (he : ∀ next, body (S n) next = r) : loop F body s0 = r := h0 ▸ loop_traj S hF hb he
theorem geti_d {α : Type} {l : List α} {k : Nat} (d : α) (h : k < l.length) : geti l (k : Int) = some (l.getD k d) := by
  rw [geti_k h, List.getD_eq_getElem?_getD, List.getElem?_eq_getElem h]; rfl
theorem bne_dec (a b : Int) : (a != b) = decide (a ≠ b) := by
  by_cases h : a = b <;> simp [h]
theorem beq_dec (a b : Int) : (a == b) = decide (a = b) := by
  by_cases h : a = b <;> simp [h]
theorem first_of {c : Nat → Prop} {n : Nat} (h : c n) : ∃ m, m ≤ n ∧ c m ∧ ∀ k, k < m → ¬ c k := by
  induction n using Nat.strongRecOn with
  | _ n ih =>
    by_cases hz : ∃ j, j < n ∧ c j
    · obtain ⟨j, h1, h2⟩ := hz
      obtain ⟨m, q1, q2, q3⟩ := ih j h1 h2
      exact ⟨m, by omega, q2, q3⟩
    · exact ⟨n, Nat.le_refl _, h, fun k hk q => hz ⟨k, hk, q⟩⟩
theorem pigeon : ∀ (n : Nat) (f : Nat → Nat), (∀ i, i ≤ n → f i < n) → ∃ i j, i < j ∧ j ≤ n ∧ f i = f j := by
  intro n
  induction n with
  | zero => intro f h; exact absurd (h 0 (Nat.le_refl _)) (Nat.not_lt_zero _)
  | succ n ih =>
    intro f h
    by_cases hz : ∃ i, i ≤ n ∧ f i = f (n + 1)
    · obtain ⟨i, h1, h2⟩ := hz
      exact ⟨i, n + 1, by omega, Nat.le_refl _, h2⟩
    · have hne : ∀ i, i ≤ n → f i ≠ f (n + 1) := fun i hi q => hz ⟨i, hi, q⟩
      have hl := h (n + 1) (Nat.le_refl _)
      obtain ⟨i, j, h1, h2, h3⟩ := ih (fun i => if f i < f (n + 1) then f i else f i - 1) (fun i hi => by
        have := h i (by omega)
        have := hne i hi
        by_cases q : f i < f (n + 1)
        · rw [if_pos q]; omega
        · rw [if_neg q]; omega)
      refine ⟨i, j, h1, by omega, ?_⟩
      have a1 := hne i (by omega)
      have a2 := hne j h2
      by_cases q1 : f i < f (n + 1) <;> by_cases q2 : f j < f (n + 1)
      · rwa [if_pos q1, if_pos q2] at h3
      · rw [if_pos q1, if_neg q2] at h3; omega
      · rw [if_neg q1, if_pos q2] at h3; omega
      · rw [if_neg q1, if_neg q2] at h3; omega
section
variable {β γ : Type} {R : β → Prop}
end
theorem ge0_nat (k : Nat) : decide ((k : Int) ≥ 0) = true := decide_eq_true (by omega)
noncomputable def ifc {α : Sort _} (c : Prop) (a b : α) : α := @ite α c (Classical.propDecidable c) a b
theorem ifc_pos {α : Sort _} {c : Prop} (h : c) {a b : α} : ifc c a b = a := by unfold ifc; exact if_pos h
theorem ifc_neg {α : Sort _} {c : Prop} (h : ¬ c) {a b : α} : ifc c a b = b := by unfold ifc; exact if_neg h
theorem loop_if {β γ : Type} {body : γ → (γ → Option β) → Option β} {r1 r2 : Option β} {s0 : γ} (S : Nat → γ) (h0 : S 0 = s0) (c : Nat → Prop) {n F : Nat} (hF : n < F)
    (hb : ∀ k, k < n → ∀ next, body (S k) next = ifc (c k) (next (S (k + 1))) r1) (he : ∀ next, body (S n) next = r2) : loop F body s0 = ifc (∀ k, k < n → c k) r2 r1 := by
  by_cases hall : ∀ k, k < n → c k
  · rw [ifc_pos hall]
    exact loop_tr S h0 hF (fun k hk next => by rw [hb k hk, ifc_pos (hall k hk)]) he
  · rw [ifc_neg hall]
    have hz : ∃ k, k < n ∧ ¬ c k := Classical.byContradiction fun q => hall fun p hp => Classical.byContradiction fun q2 => q ⟨p, hp, q2⟩
    obtain ⟨k0, hk0⟩ := hz
    obtain ⟨m, _, hm, hlt⟩ := first_of (c := fun k => k < n ∧ ¬ c k) hk0
    exact loop_tr S h0 (n := m) (by omega) (fun k hk next => by rw [hb k (by omega), ifc_pos (Classical.byContradiction fun q => hlt k hk ⟨by omega, q⟩)]) (fun next => by rw [hb m hm.1, ifc_neg hm.2])
theorem any_range_get {α : Type} (l : List α) (c : α → Bool) (d : α) : (List.range l.length).any (fun k => c (l.getD k d)) = l.any c := by
  rw [Bool.eq_iff_iff, List.any_eq_true, List.any_eq_true]
  constructor
  · rintro ⟨k, h1, h2⟩
    have hk := List.mem_range.1 h1
    rw [List.getD_eq_getElem?_getD, List.getElem?_eq_getElem hk] at h2
    exact ⟨_, List.getElem_mem hk, h2⟩
  · rintro ⟨x, h1, h2⟩
    obtain ⟨k, hk, rfl⟩ := List.getElem_of_mem h1
    exact ⟨k, List.mem_range.2 hk, by rw [List.getD_eq_getElem?_getD, List.getElem?_eq_getElem hk]; exact h2⟩
theorem getD_get {α : Type} {l : List α} {k : Nat} {d : α} (h : k < l.length) : l.getD k d = l[k] := by
  rw [List.getD_eq_getElem?_getD, List.getElem?_eq_getElem h]; rfl
theorem app8 {xs ys : List Int} (h : xs.length + ys.length ≤ 1000000) : app 8 xs ys = some (xs ++ ys) := app_ok h (by decide)
end Go.Proofs.YtcnahmgekicbdaaGreat
end
section
set_option linter.unusedVariables false
set_option linter.unusedSimpArgs false
namespace Go.Proofs.YtcnahmgekicbdaaGreat
open Go.Lf
def inn (w : TollSetup) (q : Int) : Int := (w.spots.getD q.toNat default).in_
def up (w : TollSetup) : Nat → Int → Int
  | 0, q => q
  | k + 1, q => if q < 0 then q else up w k (inn w q)
theorem up_neg {w : TollSetup} {q : Int} (h : q < 0) (k : Nat) : up w k q = q := by
  cases k with
  | zero => rfl
  | succ k => show (if q < 0 then q else _) = q; rw [if_pos h]
theorem up_succ (w : TollSetup) (k : Nat) (q : Int) : up w (k + 1) q = if up w k q < 0 then up w k q else inn w (up w k q) := by
  induction k generalizing q with
  | zero => rfl
  | succ k ih =>
    show (if q < 0 then q else up w (k + 1) (inn w q)) = _
    by_cases h : q < 0
    · rw [if_pos h, up_neg h, if_pos h]
    · rw [if_neg h, ih]
      show _ = if (if q < 0 then q else up w k (inn w q)) < 0 then _ else _
      rw [if_neg h]
      show _ = if _ then (if q < 0 then q else up w k (inn w q)) else inn w (if q < 0 then q else up w k (inn w q))
      rw [if_neg h]
theorem up_add (w : TollSetup) (a b : Nat) (q : Int) : up w (a + b) q = up w b (up w a q) := by
  induction a generalizing q with
  | zero => rw [Nat.zero_add]; rfl
  | succ a ih =>
    rw [show a + 1 + b = (a + b) + 1 by omega]
    show (if q < 0 then q else up w (a + b) (inn w q)) = up w b (if q < 0 then q else up w a (inn w q))
    by_cases h : q < 0
    · rw [if_pos h, if_pos h, up_neg h]
    · rw [if_neg h, if_neg h, ih]
theorem up_stays {w : TollSetup} {q : Int} {a : Nat} (h : up w a q < 0) {b : Nat} (hb : a ≤ b) : up w b q < 0 := by
  obtain ⟨d, rfl⟩ : ∃ d, b = a + d := ⟨b - a, by omega⟩
  rw [up_add, up_neg h]; exact h
def okN (w : TollSetup) (q : Int) : Prop := -1 ≤ q ∧ q < (w.spots.length : Int)
instance (w : TollSetup) (q : Int) : Decidable (okN w q) := by unfold okN; infer_instance
structure Inn (w : TollSetup) : Prop where
  rng : ∀ p : Nat, p < w.spots.length → okN w (inn w p)
  acy : ∀ p : Nat, p < w.spots.length → up w w.spots.length p < 0
theorem Inn.up {w : TollSetup} (h : Inn w) {q : Int} (hq : okN w q) (k : Nat) : okN w (up w k q) := by
  induction k with
  | zero => exact hq
  | succ k ih =>
    rw [up_succ]
    by_cases h2 : Proofs.YtcnahmgekicbdaaGreat.up w k q < 0
    · rw [if_pos h2]; exact ih
    · rw [if_neg h2]
      have := h.rng (Proofs.YtcnahmgekicbdaaGreat.up w k q).toNat (by have := ih.2; omega)
      rwa [Int.toNat_of_nonneg (by omega)] at this
theorem acy_iff {w : TollSetup} (hr : ∀ p : Nat, p < w.spots.length → okN w (inn w p)) : (∀ p : Nat, p < w.spots.length → up w w.spots.length p < 0) ↔ ∀ p : Nat, p < w.spots.length → ∀ j, j ≤ w.spots.length → up w (j + 1) p ≠ (p : Int) := by
  constructor
  · intro h p hp j hj e
    have : ∀ m : Nat, up w (m * (j + 1)) p = (p : Int) := fun m => by
      induction m with
      | zero => rw [Nat.zero_mul]; rfl
      | succ m ih => rw [Nat.succ_mul, up_add, ih, e]
    have h2 := up_stays (h p hp) (b := w.spots.length * (j + 1)) (Nat.le_mul_of_pos_right _ (by omega))
    rw [this] at h2; omega
  · intro h p hp
    rcases Int.lt_or_le (up w w.spots.length p) 0 with q | q
    · exact q
    · exfalso
      have hk : ∀ k, k ≤ w.spots.length → 0 ≤ up w k p := fun k hk => by
        rcases Int.lt_or_le (up w k p) 0 with z | z
        · have := up_stays z hk; omega
        · exact z
      have hok : ∀ k, okN w (up w k p) := fun k => by
        induction k with
        | zero => exact ⟨by show (-1 : Int) ≤ (p : Int); omega, by show (p : Int) < _; omega⟩
        | succ k ih =>
          rw [up_succ]
          by_cases h2 : up w k p < 0
          · rw [if_pos h2]; exact ih
          · rw [if_neg h2]
            have := hr (up w k p).toNat (by have := ih.2; omega)
            rwa [Int.toNat_of_nonneg (by omega)] at this
      obtain ⟨i, j, h1, h2, h3⟩ := pigeon w.spots.length (fun k => (up w k p).toNat) fun k hk' => by
        have := (hok k).2; have := hk k hk'; omega
      have e : up w i p = up w j p := by have := hk i (by omega); have := hk j h2; omega
      have hi := hk i (by omega)
      have := h (up w i p).toNat (by have := (hok i).2; omega) (j - i - 1) (by omega)
      apply this
      rw [Int.toNat_of_nonneg hi, show j - i - 1 + 1 = j - i by omega, ← up_add, show i + (j - i) = j by omega, e]
theorem okN_nat {w : TollSetup} {q : Int} (h : okN w q) (h2 : ¬ q < 0) : ∃ k : Nat, q = (k : Int) ∧ k < w.spots.length := ⟨q.toNat, by omega, by have := h.2; omega⟩
def spt (w : TollSetup) (p : Nat) : TollSpot := w.spots.getD p default
theorem spt_geti {w : TollSetup} {p : Nat} (hp : p < w.spots.length) : geti w.spots (p : Int) = some (spt w p) := geti_d default hp
theorem spt_in (w : TollSetup) (p : Nat) : (spt w p).in_ = inn w (p : Int) := by unfold spt inn; rw [Int.toNat_natCast]
end Go.Proofs.YtcnahmgekicbdaaGreat
end
section
set_option linter.unusedVariables false
set_option linter.unusedSimpArgs false
namespace Go.Proofs.YtcnahmgekicbdaaGreat
open Go.Lf
def Wth (w : TollSetup) (p x : Nat) : Prop := ∃ j, up w j (x : Int) = (p : Int)
theorem Wth.bound {w : TollSetup} (hi : Inn w) {p x : Nat} (hx : x < w.spots.length) (h : Wth w p x) : ∃ j, j < w.spots.length ∧ up w j (x : Int) = (p : Int) := by
  obtain ⟨j, e⟩ := h
  refine ⟨j, Classical.byContradiction fun q => ?_, e⟩
  have := up_stays (hi.acy x hx) (show w.spots.length ≤ j by omega)
  omega
def wthB (w : TollSetup) (p x : Nat) : Bool := (List.range w.spots.length).any fun j => up w j (x : Int) == (p : Int)
theorem wthB_iff {w : TollSetup} (hi : Inn w) {p x : Nat} (hx : x < w.spots.length) : wthB w p x = true ↔ Wth w p x := by
  unfold wthB
  rw [List.any_eq_true]
  constructor
  · rintro ⟨j, _, e⟩; exact ⟨j, beq_iff_eq.1 e⟩
  · intro h
    obtain ⟨j, hj, e⟩ := h.bound hi hx
    exact ⟨j, List.mem_range.2 hj, beq_iff_eq.2 e⟩
end Go.Proofs.YtcnahmgekicbdaaGreat
end
section
set_option linter.unusedVariables false
set_option linter.unusedSimpArgs false
namespace Go.Proofs.YtcnahmgekicbdaaGreat
open Go.Lf
structure Shp (s : TollSetup) : Prop where
  m1 : 1 ≤ s.machines
  m2 : s.machines ≤ 4
  p1 : 1 ≤ s.spots.length
  p2 : s.spots.length ≤ 8
  at_ : ∀ p, p < s.spots.length → 0 ≤ (spt s p).at_ ∧ (spt s p).at_ < s.machines
  inn : Inn s
def Ends (s : TollSetup) (p : Nat) : Prop := ∃ m, m ≤ s.spots.length ∧ up s (m + 1) (p : Int) < 0
section
variable {F : Nat} {s : TollSetup}
theorem okN_up (hr : ∀ p : Nat, p < s.spots.length → okN s (inn s p)) {p : Nat} (hp : p < s.spots.length) : ∀ k, okN s (up s k (p : Int)) := by
  intro k
  induction k with
  | zero => exact ⟨by show (-1 : Int) ≤ (p : Int); omega, by show (p : Int) < _; omega⟩
  | succ k ih =>
    rw [up_succ]
    by_cases h2 : up s k p < 0
    · rw [if_pos h2]; exact ih
    · rw [if_neg h2]
      obtain ⟨j, e, hj⟩ := okN_nat ih h2
      rw [e]; exact hr j hj
theorem ends_iff (hr : ∀ p : Nat, p < s.spots.length → okN s (inn s p)) : (∀ p, p < s.spots.length → Ends s p) ↔ ∀ p : Nat, p < s.spots.length → up s s.spots.length (p : Int) < 0 := by
  constructor
  · intro h
    refine (acy_iff hr).2 fun p hp j hj e => ?_
    obtain ⟨m, hm, he⟩ := h p hp
    have : ∀ k : Nat, up s (k * (j + 1)) p = (p : Int) := fun k => by
      induction k with
      | zero => rw [Nat.zero_mul]; rfl
      | succ k ih => rw [Nat.succ_mul, up_add, ih, e]
    have h2 := up_stays he (b := (m + 1) * (j + 1)) (Nat.le_mul_of_pos_right _ (by omega))
    rw [this] at h2; omega
  · intro h p hp
    exact ⟨s.spots.length, Nat.le_refl _, up_stays (h p hp) (by omega)⟩
theorem chain_prog (hF : 1000 ≤ F) (h8 : s.spots.length ≤ 8) (hr : ∀ p : Nat, p < s.spots.length → okN s (inn s p)) {p : Nat} (hp : p < s.spots.length) (v30 : Int) (next : Int × Int → Option Int) :
    loop F (f34_b2 s (p : Int) next) (inn s (p : Int), v30, 0, false) = ifc (Ends s p) (next (((p + 1 : Nat) : Int), v30)) (some 2) := by
  have e0 : (inn s (p : Int), v30, (0 : Int), false) = (up s (0 + 1) p, v30, ((0 : Nat) : Int), false) := by
    rw [up_succ]; show _ = (if ((p : Int)) < 0 then _ else _, _); rw [if_neg (by omega)]; rfl
  obtain ⟨m, hm, hs, hlt⟩ := first_of (c := fun k => s.spots.length ≤ k ∨ up s (k + 1) p < 0) (n := s.spots.length) (.inl (by omega))
  have hj : ∀ j, j < m → j < s.spots.length ∧ ¬ up s (j + 1) p < 0 := fun j hj => by
    have := hlt j hj
    exact ⟨Classical.byContradiction fun z => this (.inl (by omega)), fun q => this (.inr q)⟩
  refine loop_tr (fun j => (up s (j + 1) p, v30, (j : Int), false)) e0.symm (n := m) (by omega) (fun j hjm nx => ?_) (fun nx => ?_)
  · obtain ⟨a1, a2⟩ := hj j hjm
    obtain ⟨k, e, hk⟩ := okN_nat (okN_up hr hp (j + 1)) a2
    unfold f34_b2
    dsimp only
    rw [up_succ s (j + 1), if_neg a2, e, ge0_nat, cond_true, w64s (by omega), decide_eq_false (by omega), spt_geti hk]
    simp only [cond_false, Bool.not_true, Option.bind_some]
    rw [spt_in]
  · unfold f34_b2
    dsimp only
    by_cases h2 : up s (m + 1) p < 0
    · rw [decide_eq_false (show ¬ up s (m + 1) p ≥ 0 by omega), cond_false, ifc_pos ⟨m, hm, h2⟩]
      unfold f34_j0
      dsimp only
      rw [cond_false, w64s (by omega)]
    · have hml : m = s.spots.length := by rcases hs with z | z; · omega
                                          · exact absurd z h2
      obtain ⟨k, e, hk⟩ := okN_nat (okN_up hr hp (m + 1)) h2
      have hne : ¬ Ends s p := by
        rintro ⟨j, h1, h3⟩
        have := up_stays h3 (show j + 1 ≤ m + 1 by omega)
        exact h2 this
      rw [e, ge0_nat, cond_true, w64s (by omega), decide_eq_true (show ((m + 1 : Nat) : Int) > (s.spots.length : Int) by omega), ifc_neg hne]
      rfl
theorem loop_cyc (hF : 1000 ≤ F) (h8 : s.spots.length ≤ 8) (hr : ∀ p : Nat, p < s.spots.length → okN s (inn s p)) {p : Nat} (hp : p < s.spots.length) (next : Int → Option Bool) :
    loop F (f17_b2 s (p : Int) next) (inn s (p : Int), 0) = ifc (∀ j, j ≤ s.spots.length → up s (j + 1) p ≠ (p : Int)) (next ((p + 1 : Nat) : Int)) (some false) := by
  have hok := okN_up hr hp
  have e0 : (inn s (p : Int), (0 : Int)) = (up s (0 + 1) p, ((0 : Nat) : Int)) := by
    rw [up_succ]; show _ = (if ((p : Int)) < 0 then _ else _, _); rw [if_neg (by omega)]; rfl
  obtain ⟨m, hm, hs, hlt⟩ := first_of (c := fun k => s.spots.length < k ∨ up s (k + 1) p < 0 ∨ up s (k + 1) p = (p : Int)) (n := s.spots.length + 1) (.inl (by omega))
  have hj : ∀ j, j < m → j ≤ s.spots.length ∧ ¬ up s (j + 1) p < 0 ∧ up s (j + 1) p ≠ (p : Int) := fun j hj => by
    have := hlt j hj
    exact ⟨Classical.byContradiction fun z => this (.inl (by omega)), fun q => this (.inr (.inl q)), fun q => this (.inr (.inr q))⟩
  refine loop_tr (fun j => (up s (j + 1) p, (j : Int))) e0.symm (n := m) (by omega) (fun j hjm nx => ?_) (fun nx => ?_)
  · obtain ⟨a1, a2, a3⟩ := hj j hjm
    obtain ⟨k, e, hk⟩ := okN_nat (hok (j + 1)) a2
    unfold f17_b2
    dsimp only
    rw [up_succ s (j + 1), if_neg a2]
    rw [e] at a3 ⊢
    rw [decide_eq_true (show (j : Int) ≤ (s.spots.length : Int) by omega), ge0_nat, Bool.and_self, cond_true, beq_dec, decide_eq_false a3, cond_false, spt_geti hk]
    simp only [Option.bind_some]
    rw [w64s (by omega), spt_in]
  · unfold f17_b2
    dsimp only
    by_cases h1 : s.spots.length < m
    · rw [decide_eq_false (show ¬ (m : Int) ≤ (s.spots.length : Int) by omega), Bool.false_and, cond_false, w64s (by omega), ifc_pos fun j q1 => (hj j (by omega)).2.2]
    · by_cases h2 : up s (m + 1) p < 0
      · rw [decide_eq_false (show ¬ up s (m + 1) p ≥ 0 by omega), Bool.and_false, cond_false, w64s (by omega), ifc_pos]
        intro j q1 q2
        rcases Nat.lt_or_ge j m with z | z
        · exact (hj j z).2.2 q2
        · have := up_stays h2 (show m + 1 ≤ j + 1 by omega); omega
      · have h3 : up s (m + 1) p = (p : Int) := by
          rcases hs with z | z | z
          · exact absurd z h1
          · exact absurd z h2
          · exact z
        rw [decide_eq_true (show (m : Int) ≤ (s.spots.length : Int) by omega), h3, ge0_nat, Bool.and_self, cond_true, beq_dec, decide_eq_true rfl, cond_true, ifc_neg fun z => z m (by omega) h3]
def Rng (s : TollSetup) (p : Nat) : Prop := (0 ≤ (spt s p).at_ ∧ (spt s p).at_ < s.machines) ∧ okN s (inn s (p : Int))
def Bnd (s : TollSetup) : Prop := 1 ≤ s.machines ∧ s.machines ≤ 4 ∧ 1 ≤ s.spots.length ∧ s.spots.length ≤ 8
theorem bnd_dec (s : TollSetup) : ((((decide (s.machines < 1)) || (decide (s.machines > 4))) || (decide ((s.spots.length : Int) < 1))) || (decide ((s.spots.length : Int) > 8))) = true ↔ ¬ Bnd s := by
  unfold Bnd
  simp only [Bool.or_eq_true, decide_eq_true_eq]
  omega
theorem shp_iff : Shp s ↔ Bnd s ∧ (∀ p, p < s.spots.length → Rng s p) ∧ ∀ p : Nat, p < s.spots.length → up s s.spots.length (p : Int) < 0 :=
  ⟨fun h => ⟨⟨h.m1, h.m2, h.p1, h.p2⟩, fun p hp => ⟨h.at_ p hp, h.inn.rng p hp⟩, h.inn.acy⟩, fun h => ⟨h.1.1, h.1.2.1, h.1.2.2.1, h.1.2.2.2, fun p hp => (h.2.1 p hp).1, ⟨fun p hp => (h.2.1 p hp).2, h.2.2⟩⟩⟩
theorem setup_ref (hF : 1000 ≤ F) (s : TollSetup) : f17L F s = ifc (Shp s) (some true) (some false) := by
  unfold f17L
  rcases Classical.em (¬ Bnd s) with hb | hb
  · rw [(bnd_dec s).2 hb, cond_true, ifc_neg fun z => hb (shp_iff.1 z).1]
  have hb := Classical.not_not.1 hb
  rw [Bool.eq_false_iff.2 fun z => (bnd_dec s).1 z hb, cond_false]
  have h8 := hb.2.2.2
  have e1 := loop_if (body := f17_b0 F s) (r1 := some false) (r2 := loop F (f17_b1 F s) 0) (s0 := (0 : Int)) (fun k => (k : Int)) rfl (Rng s) (n := s.spots.length) (F := F) (by omega) (fun k hk next => by
    unfold f17_b0
    rw [lt_nat_t hk, cond_true, spt_geti hk]
    simp only [Option.bind_some]
    rw [spt_in]
    by_cases r : Rng s k
    · have r1 := r.1.1; have r2 := r.1.2; have r3 := r.2.1; have r4 := r.2.2
      rw [ifc_pos r, decide_eq_false (by omega), decide_eq_false (by omega), decide_eq_false (by omega), decide_eq_false (by omega)]
      simp only [Bool.or_self, cond_false]
      rw [w64s (by omega)]
    · rw [ifc_neg r]
      have : ((((decide ((spt s k).at_ < 0)) || (decide ((spt s k).at_ ≥ s.machines))) || (decide (inn s (k : Int) < (-1)))) || (decide (inn s (k : Int) ≥ (s.spots.length : Int)))) = true := by
        rw [← Bool.not_eq_false]
        intro z
        simp only [Bool.or_eq_false_iff, decide_eq_false_iff_not] at z
        exact r ⟨⟨by omega, by omega⟩, by omega, by omega⟩
      rw [this, cond_true]) (fun next => by
    unfold f17_b0
    rw [lt_nat_f, cond_false])
  rw [e1]
  by_cases hr : ∀ p, p < s.spots.length → Rng s p
  · have hr' : ∀ p : Nat, p < s.spots.length → okN s (inn s p) := fun p hp => (hr p hp).2
    have e2 := loop_if (body := f17_b1 F s) (r1 := some false) (r2 := some true) (s0 := (0 : Int)) (fun k => (k : Int)) rfl (fun p : Nat => ∀ j, j ≤ s.spots.length → up s (j + 1) p ≠ (p : Int)) (n := s.spots.length) (F := F) (by omega) (fun k hk next => by
      unfold f17_b1
      rw [lt_nat_t hk, cond_true, spt_geti hk]
      simp only [Option.bind_some]
      rw [spt_in]
      exact loop_cyc hF h8 hr' hk next) (fun next => by
      unfold f17_b1
      rw [lt_nat_f, cond_false])
    rw [ifc_pos hr, e2]
    by_cases ha : ∀ p : Nat, p < s.spots.length → up s s.spots.length (p : Int) < 0
    · rw [ifc_pos (shp_iff.2 ⟨hb, hr, ha⟩), ifc_pos ((acy_iff hr').1 ha)]
    · rw [ifc_neg fun z => ha (shp_iff.1 z).2.2, ifc_neg fun z => ha ((acy_iff hr').2 z)]
  · rw [ifc_neg hr, ifc_neg fun z => hr (shp_iff.1 z).2.1]
theorem check_prog (hF : 1000 ≤ F) (s : TollSetup) : f34L F s = ifc (Shp s) (some 0) (some 2) := by
  unfold f34L
  rcases Classical.em (¬ Bnd s) with hb | hb
  · rw [(bnd_dec s).2 hb, cond_true, ifc_neg fun z => hb (shp_iff.1 z).1]
  have hb := Classical.not_not.1 hb
  rw [Bool.eq_false_iff.2 fun z => (bnd_dec s).1 z hb, cond_false]
  have h8 := hb.2.2.2
  have e1 := loop_if (body := f34_b0 F s) (r1 := some 2) (r2 := loop F (f34_b1 F s) (0, 0)) (s0 := (0 : Int)) (fun k => (k : Int)) rfl (Rng s) (n := s.spots.length) (F := F) (by omega) (fun k hk next => by
    unfold f34_b0 f54L
    rw [lt_nat_t hk, cond_true, spt_geti hk]
    simp only [Option.bind_some]
    rw [spt_in]
    by_cases r1 : 0 ≤ (spt s k).at_ ∧ (spt s k).at_ < s.machines
    · rw [decide_eq_false (show ¬ (spt s k).at_ < 0 by omega), decide_eq_false (show ¬ (spt s k).at_ ≥ s.machines by omega)]
      simp only [Bool.or_self, Bool.not_false, Bool.true_and, Bool.false_or]
      by_cases r2 : inn s (k : Int) = -1
      · rw [r2, ne_refl, gd_false]
        simp only [Option.bind_some, Bool.false_and, cond_false]
        rw [w64s (by omega), ifc_pos ⟨r1, by rw [r2]; unfold okN; omega⟩]
      · rw [bne_dec, decide_eq_true r2, gd_true]
        simp only [Option.bind_some, Bool.true_and]
        by_cases r3 : 0 ≤ inn s (k : Int) ∧ inn s (k : Int) < (s.spots.length : Int)
        · rw [decide_eq_true (show inn s (k : Int) ≥ 0 from r3.1), decide_eq_true r3.2, Bool.and_self, Bool.not_true, cond_false, w64s (by omega), ifc_pos ⟨r1, by unfold okN; omega⟩]
        · have : (decide (inn s (k : Int) ≥ 0) && decide (inn s (k : Int) < (s.spots.length : Int))) = false := by
            rw [← Bool.not_eq_true]; intro z
            simp only [Bool.and_eq_true, decide_eq_true_eq] at z
            exact r3 ⟨z.1, z.2⟩
          rw [this, Bool.not_false, cond_true, ifc_neg]
          rintro ⟨_, a, b⟩
          exact r3 ⟨by omega, b⟩
    · have : (decide ((spt s k).at_ < 0) || decide ((spt s k).at_ ≥ s.machines)) = true := by
        rw [← Bool.not_eq_false]; intro z
        simp only [Bool.or_eq_false_iff, decide_eq_false_iff_not] at z
        exact r1 ⟨by omega, by omega⟩
      rw [this]
      simp only [Bool.not_true, Bool.false_and, gd_false, Option.bind_some, Bool.true_or, cond_true]
      rw [ifc_neg fun z => r1 z.1]) (fun next => by
    unfold f34_b0
    rw [lt_nat_f, cond_false])
  rw [e1]
  by_cases hr : ∀ p, p < s.spots.length → Rng s p
  · have hr' : ∀ p : Nat, p < s.spots.length → okN s (inn s p) := fun p hp => (hr p hp).2
    have e2 := loop_if (body := f34_b1 F s) (r1 := some 2) (r2 := some 0) (s0 := ((0 : Int), (0 : Int))) (fun k => ((k : Int), (0 : Int))) rfl (Ends s) (n := s.spots.length) (F := F) (by omega) (fun k hk next => by
      unfold f34_b1
      dsimp only
      rw [lt_nat_t hk, cond_true, spt_geti hk]
      simp only [Option.bind_some]
      rw [spt_in]
      exact chain_prog hF h8 hr' hk 0 next) (fun next => by
      unfold f34_b1
      dsimp only
      rw [lt_nat_f, cond_false])
    rw [ifc_pos hr, e2]
    by_cases ha : ∀ p : Nat, p < s.spots.length → up s s.spots.length (p : Int) < 0
    · rw [ifc_pos (shp_iff.2 ⟨hb, hr, ha⟩), ifc_pos ((ends_iff hr').2 ha)]
    · rw [ifc_neg fun z => ha (shp_iff.1 z).2.2, ifc_neg fun z => ha ((ends_iff hr').1 z)]
  · rw [ifc_neg hr, ifc_neg fun z => hr (shp_iff.1 z).2.1]
end
end Go.Proofs.YtcnahmgekicbdaaGreat
end
section
set_option linter.unusedVariables false
set_option linter.unusedSimpArgs false
namespace Go.Proofs.YtcnahmgekicbdaaGreat
open Go.Lf
def arK (s : TollSetup) (p : Nat) (k : Nat) : List Int := (List.range k).map fun j => up s (j + 1) (p : Int)
theorem arK_succ (s : TollSetup) (p k : Nat) : arK s p (k + 1) = arK s p k ++ [up s (k + 1) (p : Int)] := by
  unfold arK; rw [List.range_succ, List.map_append]; rfl
theorem arK_len (s : TollSetup) (p k : Nat) : (arK s p k).length = k := by unfold arK; rw [List.length_map, List.length_range]
section
variable {F : Nat} {s : TollSetup}
theorem place_iff (s : TollSetup) (p : Int) : (decide (p ≥ 0) && decide (p < (s.spots.length : Int))) = true ↔ ∃ k : Nat, p = (k : Int) ∧ k < s.spots.length := by
  rw [Bool.and_eq_true, decide_eq_true_eq, decide_eq_true_eq]
  constructor
  · rintro ⟨a, b⟩; exact ⟨p.toNat, by omega, by omega⟩
  · rintro ⟨k, rfl, h⟩; omega
theorem place_t {k : Nat} (h : k < s.spots.length) : (decide ((k : Int) ≥ 0) && decide ((k : Int) < (s.spots.length : Int))) = true := (place_iff s k).2 ⟨k, rfl, h⟩
theorem up1 {p : Nat} : up s (0 + 1) (p : Int) = inn s (p : Int) := by
  rw [up_succ]; show (if ((p : Int)) < 0 then _ else _) = _; rw [if_neg (by omega)]; rfl
theorem around (hF : 1000 ≤ F) (hS : Shp s) {p : Nat} (hp : p < s.spots.length) :
    ∃ L, f38L F s (p : Int) = some L ∧ f36L F s (p : Int) = some (L, 0) ∧ L.length ≤ 8 ∧ ∀ q : Nat, ((q : Int) ∈ L ↔ ∃ j, up s (j + 1) (p : Int) = (q : Int)) := by
  obtain ⟨m, hm, hs, hlt⟩ := first_of (c := fun k => up s (k + 1) (p : Int) < 0) (n := s.spots.length) (up_stays (hS.inn.acy p hp) (by omega))
  have h8 := hS.p2
  refine ⟨arK s p m, ?_, ?_, by rw [arK_len]; omega, fun q => ?_⟩
  · unfold f38L
    rw [spt_geti hp]
    simp only [Option.bind_some]
    rw [spt_in]
    refine loop_tr (fun k => (arK s p k, up s (k + 1) (p : Int))) (by show (arK s p 0, up s (0 + 1) (p : Int)) = _; rw [up1]; rfl) (n := m) (by omega) (fun k hk next => ?_) (fun next => ?_)
    · have h2 := hlt k hk
      obtain ⟨j, e, hj⟩ := okN_nat (hS.inn.up (q := (p : Int)) ⟨by omega, by omega⟩ (k + 1)) h2
      unfold f38_b0
      dsimp only
      rw [up_succ s (k + 1), if_neg h2, arK_succ, e, ge0_nat, cond_true, app8 (by rw [arK_len, List.length_singleton]; omega), spt_geti hj]
      simp only [Option.bind_some]
      rw [spt_in]
    · unfold f38_b0
      dsimp only
      rw [decide_eq_false (by omega), cond_false]
  · unfold f36L f54L
    rw [check_prog hF, ifc_pos hS, spt_geti hp, place_t hp]
    simp only [Option.bind_some, ne_refl, Bool.not_false, gd_true, Bool.not_true, Bool.or_false, cond_false]
    rw [spt_in]
    refine loop_tr (fun k => (up s (k + 1) (p : Int), arK s p k)) (by show (up s (0 + 1) (p : Int), arK s p 0) = _; rw [up1]; rfl) (n := m) (by omega) (fun k hk next => ?_) (fun next => ?_)
    · have h2 := hlt k hk
      obtain ⟨j, e, hj⟩ := okN_nat (hS.inn.up (q := (p : Int)) ⟨by omega, by omega⟩ (k + 1)) h2
      unfold f36_b0
      dsimp only
      rw [up_succ s (k + 1), if_neg h2, arK_succ, e, ge0_nat, cond_true, app8 (by rw [arK_len, List.length_singleton]; omega), spt_geti hj]
      simp only [Option.bind_some, Bool.not_true, cond_false]
      rw [spt_in]
    · unfold f36_b0
      dsimp only
      rw [decide_eq_false (by omega), cond_false]; rfl
  · unfold arK
    rw [List.mem_map]
    constructor
    · rintro ⟨j, _, e⟩; exact ⟨j, e⟩
    · rintro ⟨j, e⟩
      refine ⟨j, List.mem_range.2 (Classical.byContradiction fun z => ?_), e⟩
      have := up_stays hs (show m + 1 ≤ j + 1 by omega)
      omega
theorem lies (hF : 1000 ≤ F) (hS : Shp s) {p : Nat} (hp : p < s.spots.length) (q : Nat) : f31L F s (p : Int) (q : Int) = some (wthB s q p) := by
  obtain ⟨L, e1, _, hl, hm⟩ := around hF hS hp
  have hW : Wth s q p ↔ p = q ∨ (q : Int) ∈ L := by
    rw [hm]
    constructor
    · rintro ⟨j, e⟩
      cases j with
      | zero => left; have : (p : Int) = (q : Int) := e; omega
      | succ j => exact .inr ⟨j, e⟩
    · rintro (rfl | ⟨j, e⟩)
      · exact ⟨0, rfl⟩
      · exact ⟨j + 1, e⟩
  unfold f31L
  by_cases h : p = q
  · subst h
    rw [beq_self_eq_true, cond_true, (wthB_iff hS.inn hp).2 ⟨0, rfl⟩]
  · rw [beq_dec, decide_eq_false (by omega), cond_false, e1]
    simp only [Option.bind_some]
    rw [show (0 : Int) = ((0 : Nat) : Int) from rfl]
    rw [loop_any (fun k => (k : Int)) (fun k => L.getD k 0 == (q : Int)) (r1 := some true) (r2 := some false) (n := L.length) (by omega) (fun k hk next => by
      unfold f31_b0
      rw [lt_nat_t hk, cond_true, geti_d 0 hk]
      simp only [Option.bind_some]
      rw [w64s (by omega)]) (fun next => by
      unfold f31_b0
      rw [lt_nat_f, cond_false])]
    rw [any_range_get L (fun x => x == (q : Int)) 0]
    have : L.any (fun x => x == (q : Int)) = wthB s q p := by
      rw [Bool.eq_iff_iff, wthB_iff hS.inn hp, hW, List.any_eq_true]
      constructor
      · rintro ⟨x, h1, h2⟩; right; rwa [← beq_iff_eq.1 h2]
      · rintro (h1 | h1)
        · exact absurd h1 h
        · exact ⟨_, h1, beq_self_eq_true _⟩
    rw [this]
    cases wthB s q p <;> rfl
end
end Go.Proofs.YtcnahmgekicbdaaGreat
end
section
set_option linter.unusedVariables false
set_option linter.unusedSimpArgs false
namespace Go.Proofs.YtcnahmgekicbdaaGreat
open Go.Lf
def Pl (w : TollSetup) (p : Int) : Prop := ∃ k : Nat, p = (k : Int) ∧ k < w.spots.length
structure Told (w : TollSetup) (e : TollEvent) : Prop where
  pl : Pl w e.place
  n0 : 0 ≤ e.n
  dd : ((e.deed = 1 ∨ e.deed = 2) ∧ Pl w e.other) ∨ ((e.deed = 3 ∨ e.deed = 4) ∧ Pl w e.other ∧ e.n = 0) ∨ ((e.deed = 5 ∨ e.deed = 6) ∧ e.other = 0 ∧ e.n = 0)
theorem pl_t {w : TollSetup} {p : Int} (h : Pl w p) : (decide (p ≥ 0) && decide (p < (w.spots.length : Int))) = true := (place_iff w p).2 h
theorem pl_f {w : TollSetup} {p : Int} (h : ¬ Pl w p) : (decide (p ≥ 0) && decide (p < (w.spots.length : Int))) = false := Bool.eq_false_iff.2 fun z => h ((place_iff w p).1 z)
theorem seven (d : Int) : d = 1 ∨ d = 2 ∨ d = 3 ∨ d = 4 ∨ d = 5 ∨ d = 6 ∨ (d ≠ 1 ∧ d ≠ 2 ∧ d ≠ 3 ∧ d ≠ 4 ∧ d ≠ 5 ∧ d ≠ 6) := by omega
theorem beq_f {a b : Int} (h : a ≠ b) : (a == b) = false := by rw [beq_dec, decide_eq_false h]
section
variable {F : Nat} {w : TollSetup} {d p o n : Int}
theorem told12 (h : d = 1 ∨ d = 2) (hp : Pl w p) (hn : 0 ≤ n) : Told w ⟨d, p, o, n⟩ ↔ Pl w o :=
  ⟨fun z => by have := z.dd; dsimp only at this; rcases this with q | q | q; exact q.2; all_goals (rcases q.1 with q | q <;> omega), fun z => ⟨hp, hn, .inl ⟨h, z⟩⟩⟩
theorem told34 (h : d = 3 ∨ d = 4) (hp : Pl w p) (hn : 0 ≤ n) : Told w ⟨d, p, o, n⟩ ↔ Pl w o ∧ n = 0 :=
  ⟨fun z => by have := z.dd; dsimp only at this; rcases this with q | q | q; omega; exact q.2; omega, fun z => ⟨hp, hn, .inr (.inl ⟨h, z⟩)⟩⟩
theorem told56 (h : d = 5 ∨ d = 6) (hp : Pl w p) (hn : 0 ≤ n) : Told w ⟨d, p, o, n⟩ ↔ o = 0 ∧ n = 0 :=
  ⟨fun z => by have := z.dd; dsimp only at this; rcases this with q | q | q; omega; omega; exact q.2, fun z => ⟨hp, hn, .inr (.inr ⟨h, z⟩)⟩⟩
theorem told_no (h : d ≠ 1 ∧ d ≠ 2 ∧ d ≠ 3 ∧ d ≠ 4 ∧ d ≠ 5 ∧ d ≠ 6) : ¬ Told w ⟨d, p, o, n⟩ := fun z => by
  have := z.dd; dsimp only at this; omega
theorem pl_if (w : TollSetup) (o : Int) : some (decide (o ≥ 0) && decide (o < (w.spots.length : Int))) = ifc (Pl w o) (some true) (some false) := by
  by_cases h : Pl w o
  · rw [pl_t h, ifc_pos h]
  · rw [pl_f h, ifc_neg h]
theorem ifc_iff {α : Type} {a b : Prop} (h : a ↔ b) (x y : α) : ifc a x y = ifc b x y := by rw [propext h]
theorem told_prog (w : TollSetup) (e : TollEvent) : f51L w e = ifc (Told w e) (some true) (some false) := by
  obtain ⟨d, p, o, n⟩ := e
  by_cases hp : Pl w p
  · by_cases hn : n < 0
    · rw [ifc_neg fun z => by have := z.n0; dsimp only at this; omega]
      unfold f51L f54L
      simp only [Option.bind_some]
      rw [decide_eq_true hn, Bool.or_true, cond_true]
    have hn0 : 0 ≤ n := by omega
    unfold f51L f51_j0 f51_j1 f51_j2 f54L
    simp only [Option.bind_some]
    rw [pl_t hp, decide_eq_false hn]
    simp only [Bool.not_true, Bool.or_false, cond_false]
    rcases seven d with rfl | rfl | rfl | rfl | rfl | rfl | h
    · rw [ifc_iff (told12 (.inl rfl) hp hn0)]; exact pl_if w o
    · rw [ifc_iff (told12 (.inr rfl) hp hn0)]; exact pl_if w o
    · rw [ifc_iff (told34 (.inl rfl) hp hn0)]
      show some ((decide (o ≥ 0) && decide (o < (w.spots.length : Int))) && (n == 0)) = _
      by_cases h : Pl w o
      · rw [pl_t h, Bool.true_and, beq_dec]
        by_cases h2 : n = 0
        · rw [ifc_pos ⟨h, h2⟩, decide_eq_true h2]
        · rw [ifc_neg fun z => h2 z.2, decide_eq_false h2]
      · rw [pl_f h, ifc_neg fun z => h z.1]; rfl
    · rw [ifc_iff (told34 (.inr rfl) hp hn0)]
      show some ((decide (o ≥ 0) && decide (o < (w.spots.length : Int))) && (n == 0)) = _
      by_cases h : Pl w o
      · rw [pl_t h, Bool.true_and, beq_dec]
        by_cases h2 : n = 0
        · rw [ifc_pos ⟨h, h2⟩, decide_eq_true h2]
        · rw [ifc_neg fun z => h2 z.2, decide_eq_false h2]
      · rw [pl_f h, ifc_neg fun z => h z.1]; rfl
    · rw [ifc_iff (told56 (.inl rfl) hp hn0)]
      show some ((o == 0) && (n == 0)) = _
      rw [beq_dec, beq_dec, ← Bool.decide_and]
      by_cases h : o = 0 ∧ n = 0
      · rw [ifc_pos h, decide_eq_true h]
      · rw [ifc_neg h, decide_eq_false h]
    · rw [ifc_iff (told56 (.inr rfl) hp hn0)]
      show some ((o == 0) && (n == 0)) = _
      rw [beq_dec, beq_dec, ← Bool.decide_and]
      by_cases h : o = 0 ∧ n = 0
      · rw [ifc_pos h, decide_eq_true h]
      · rw [ifc_neg h, decide_eq_false h]
    · rw [ifc_neg (told_no h)]
      obtain ⟨h1, h2, h3, h4, h5, h6⟩ := h
      rw [beq_f h1, beq_f h2, beq_f h3, beq_f h4, beq_f h5, beq_f h6]; rfl
  · rw [ifc_neg fun z => hp z.pl]
    unfold f51L f54L
    simp only [Option.bind_some]
    rw [pl_f hp]; rfl
theorem told_ref {l : List TollEvent} {k : Nat} (hk : k < l.length) (h2 : l.length ≤ 1000000) (next : Int → Option Bool) : f27_b0 w l (k : Int) next = ifc (Told w (l.getD k default)) (next ((k + 1 : Nat) : Int)) (some false) := by
  unfold f27_b0
  rw [lt_nat_t hk, cond_true, geti_d default hk]
  simp only [Option.bind_some]
  obtain ⟨d, p, o, n⟩ := l.getD k default
  unfold f33L
  simp only [Option.bind_some]
  by_cases hp : Pl w p
  · by_cases hn : n < 0
    · rw [ifc_neg fun z => by have := z.n0; dsimp only at this; omega]
      rw [decide_eq_true hn, Bool.or_true, cond_true]
    have hn0 : 0 ≤ n := by omega
    unfold f27_j1 f27_j2 f27_j3 f27_j0 f33L
    simp only [Option.bind_some]
    rw [pl_t hp, decide_eq_false hn, w64s (by omega)]
    simp only [Bool.not_true, Bool.or_false, cond_false]
    have g12 : (bif (!(decide (o ≥ 0) && decide (o < (w.spots.length : Int)))) then some false else next ((k + 1 : Nat) : Int)) = ifc (Pl w o) (next ((k + 1 : Nat) : Int)) (some false) := by
      by_cases h : Pl w o
      · rw [pl_t h, ifc_pos h]; rfl
      · rw [pl_f h, ifc_neg h]; rfl
    have g34 : (bif ((!(decide (o ≥ 0) && decide (o < (w.spots.length : Int)))) || (n != 0)) then some false else next ((k + 1 : Nat) : Int)) = ifc (Pl w o ∧ n = 0) (next ((k + 1 : Nat) : Int)) (some false) := by
      by_cases h : Pl w o
      · rw [pl_t h, bne_dec]
        by_cases h2 : n = 0
        · rw [ifc_pos ⟨h, h2⟩, decide_eq_false (fun z => z h2)]; rfl
        · rw [ifc_neg fun z => h2 z.2, decide_eq_true h2]; rfl
      · rw [pl_f h, ifc_neg fun z => h z.1]; rfl
    have g56 : (bif ((o != 0) || (n != 0)) then some false else next ((k + 1 : Nat) : Int)) = ifc (o = 0 ∧ n = 0) (next ((k + 1 : Nat) : Int)) (some false) := by
      rw [bne_dec, bne_dec]
      by_cases h : o = 0
      · by_cases h2 : n = 0
        · rw [ifc_pos ⟨h, h2⟩, decide_eq_false (fun z => z h), decide_eq_false (fun z => z h2)]; rfl
        · rw [ifc_neg fun z => h2 z.2, decide_eq_true h2, Bool.or_true]; rfl
      · rw [ifc_neg fun z => h z.1, decide_eq_true h]; rfl
    rcases seven d with rfl | rfl | rfl | rfl | rfl | rfl | h
    · rw [ifc_iff (told12 (.inl rfl) hp hn0)]; exact g12
    · rw [ifc_iff (told12 (.inr rfl) hp hn0)]; exact g12
    · rw [ifc_iff (told34 (.inl rfl) hp hn0)]; exact g34
    · rw [ifc_iff (told34 (.inr rfl) hp hn0)]; exact g34
    · rw [ifc_iff (told56 (.inl rfl) hp hn0)]; exact g56
    · rw [ifc_iff (told56 (.inr rfl) hp hn0)]; exact g56
    · rw [ifc_neg (told_no h)]
      obtain ⟨h1, h2, h3, h4, h5, h6⟩ := h
      rw [beq_f h1, beq_f h2, beq_f h3, beq_f h4, beq_f h5, beq_f h6]; rfl
  · rw [ifc_neg fun z => hp z.pl]
    rw [pl_f hp]; rfl
def All (w : TollSetup) (l : List TollEvent) : Prop := ∀ k, k < l.length → Told w (l.getD k default)
theorem events_ref (hF : 100000 ≤ F) {l : List TollEvent} (hl : l.length ≤ 450) : f27L F w l = ifc (All w l) (some (decide ((l.length : Int) ≤ 400))) (some false) := by
  unfold f27L All
  exact loop_if (fun k => (k : Int)) rfl (fun k => Told w (l.getD k default)) (n := l.length) (F := F) (by omega) (fun k hk next => told_ref hk (by omega) next) (fun next => by
    unfold f27_b0
    rw [lt_nat_f, cond_false])
theorem cP_succ {l : List TollEvent} {k : Nat} (h : k < l.length) (f : TollEvent → Bool) : ((l.take (k + 1)).countP f : Nat) = (l.take k).countP f + (if f (l.getD k default) = true then 1 else 0) := by
  rw [List.take_succ_eq_append_getElem h, List.countP_append, getD_get h]
  congr 1
  rw [List.countP_cons, List.countP_nil, Nat.zero_add]
theorem many_ok (hF : 100000 ≤ F) {l : List TollEvent} (hl : l.length ≤ 450) (e : TollEvent) : f110L F (Story.mk w l) e = some ((l.countP (eqTollEvent e) : Nat) : Int) := by
  unfold f110L
  refine loop_tr (fun k => ((((l.take k).countP (eqTollEvent e) : Nat) : Int), (k : Int))) rfl (n := l.length) (by omega) (fun k hk next => ?_) (fun next => ?_)
  · have hc := List.countP_le_length (p := eqTollEvent e) (l := l.take k)
    rw [List.length_take] at hc
    unfold f110_b0
    dsimp only
    rw [lt_nat_t hk, cond_true, geti_d default hk, cP_succ hk]
    simp only [Option.bind_some]
    unfold f110_j0
    cases h : eqTollEvent e (l.getD k default) with
    | true => rw [cond_true, if_pos rfl, w64s (by omega), w64s (by omega)]
    | false => rw [cond_false, if_neg (by decide), w64s (by omega)]; rfl
  · unfold f110_b0
    dsimp only
    rw [lt_nat_f, cond_false, List.take_length]
def c3 (l : List TollEvent) (d p o : Int) : Nat := l.countP fun x => ((x.deed == d) && (x.place == p)) && (x.other == o)
theorem ahead_ok (hF : 100000 ≤ F) {l : List TollEvent} (hl : l.length ≤ 450) (d p o : Int) : f32L F l d p o = some ((c3 l d p o : Nat) : Int) := by
  unfold f32L c3
  refine loop_tr (fun k => ((((l.take k).countP (fun x => ((x.deed == d) && (x.place == p)) && (x.other == o)) : Nat) : Int), (k : Int))) rfl (n := l.length) (by omega) (fun k hk next => ?_) (fun next => ?_)
  · have hc := List.countP_le_length (p := fun x : TollEvent => ((x.deed == d) && (x.place == p)) && (x.other == o)) (l := l.take k)
    rw [List.length_take] at hc
    unfold f32_b0
    dsimp only
    rw [lt_nat_t hk, cond_true, geti_d default hk, cP_succ hk]
    simp only [Option.bind_some]
    unfold f32_j0
    cases h : ((((l.getD k default).deed == d) && ((l.getD k default).place == p)) && ((l.getD k default).other == o)) with
    | true => rw [cond_true, if_pos rfl, w64s (by omega), w64s (by omega)]
    | false => rw [cond_false, if_neg (by decide), w64s (by omega)]; rfl
  · unfold f32_b0
    dsimp only
    rw [lt_nat_f, cond_false, List.take_length]
theorem numbered_ok (hF : 100000 ≤ F) {l : List TollEvent} (hl : l.length ≤ 450) (d n : Int) : f111L F (Story.mk w l) d n = some (l.any fun x => (x.deed == d) && (x.n == n)) := by
  unfold f111L
  rw [show (0 : Int) = ((0 : Nat) : Int) from rfl, loop_any (fun k => (k : Int)) (fun k => (fun x : TollEvent => (x.deed == d) && (x.n == n)) (l.getD k default)) (r1 := some true) (r2 := some false) (n := l.length) (by omega) (fun k hk next => by
    unfold f111_b0 f111_j0
    dsimp only
    rw [lt_nat_t hk, cond_true, geti_d default hk, ge0_nat]
    simp only [Option.bind_some]
    rw [w64s (by omega)]) (fun next => by
    unfold f111_b0 f111_j0
    dsimp only
    rw [lt_nat_f, cond_false]; rfl), any_range_get l (fun x => (x.deed == d) && (x.n == n)) default]
  cases l.any (fun x => (x.deed == d) && (x.n == n)) <;> rfl
theorem eq_c3 {l : List TollEvent} (ht : All w l) {d p o : Int} (hd : d = 3 ∨ d = 4 ∨ d = 5 ∨ d = 6) : l.countP (eqTollEvent ⟨d, p, o, 0⟩) = c3 l d p o := by
  unfold c3
  refine List.countP_congr fun x hx => ?_
  obtain ⟨k, hk, rfl⟩ := List.getElem_of_mem hx
  have h := ht k hk
  rw [getD_get hk] at h
  generalize l[k] = x at *
  have h2 := h.dd
  unfold eqTollEvent
  simp only [List.all_cons, List.all_nil, id, Bool.and_true, Bool.and_eq_true, beq_iff_eq]
  constructor
  · rintro ⟨a, b, c, _⟩; exact ⟨⟨a.symm, b.symm⟩, c.symm⟩
  · rintro ⟨⟨a, b⟩, c⟩
    exact ⟨a.symm, b.symm, c.symm, by rcases h2 with q | q | q; omega; exact q.2.2.symm; exact q.2.2.symm⟩
end
end Go.Proofs.YtcnahmgekicbdaaGreat
end
section
set_option linter.unusedVariables false
set_option linter.unusedSimpArgs false
namespace Go.Proofs.YtcnahmgekicbdaaGreat
open Go.Lf
def k1 (l : List TollEvent) (e : TollEvent) : Nat := l.countP fun x => ((x.deed == 1) && (x.n == e.n)) && ((e.deed == 1) || ((x.place == e.other) && (x.other == e.place)))
def k2 (l : List TollEvent) (e : TollEvent) : Nat := l.countP fun x => (x.deed == 2) && (x.n == e.n)
def kidsB (w : TollSetup) (l : List TollEvent) (p : Int) : Bool := (List.range w.spots.length).any fun q : Nat => (inn w (q : Int) == p) && decide (c3 l 6 (q : Int) 0 = 0)
def atW (w : TollSetup) (p : Int) : Int := (w.spots.getD p.toNat default).at_
def seeB (w : TollSetup) (l : List TollEvent) (e : TollEvent) : Bool := l.any fun x => ((x.deed == 4) && (atW w x.place == atW w e.place)) && wthB w x.other.toNat e.other.toNat
def ruleW (w : TollSetup) (l : List TollEvent) (e : TollEvent) : Int :=
  bif (e.deed != 6) && decide (c3 l 5 e.place 0 > 0) then 1
  else bif e.deed == 1 then (bif decide (k1 l e > 0) then 2 else 0)
  else bif e.deed == 2 then (bif decide (k1 l e = 0) || decide (k2 l e > 0) then 2 else bif seeB w l e then 5 else 0)
  else bif e.deed == 6 then (bif (decide (c3 l 5 e.place 0 = 0) || decide (c3 l 6 e.place 0 > 0)) || kidsB w l e.place then 3 else 0)
  else bif e.deed == 4 then (bif decide (c3 l 6 e.other 0 = 0) || decide (c3 l 4 e.place e.other ≥ c3 l 3 e.place e.other) then 4 else 0)
  else 0
def tail53 (F : Nat) (p0 : TollSetup) (p1 : List TollEvent) (p2 : TollEvent) (v11 v13 : Int) : Option Int :=
  (bif (p2.deed == 1) then (bif decide (v11 > 0) then some 2 else (f53_j2) ()) else (bif (p2.deed == 2) then (bif ((v11 == 0) || (decide (v13 > 0))) then some 2 else loop F (f53_b1 F p0 p1 p2) 0) else (bif (p2.deed == 6) then (f32L F p1 5 p2.place 0).bind fun x74 => (gd (!(x74 == 0)) (f32L F p1 6 p2.place 0) default).bind fun x75 => (bif ((x74 == 0) || (decide (x75 > 0))) then some 3 else (f83L F p0 p2.place).bind fun x76 => loop F (f53_b2 F p1 x76) 0) else (bif (p2.deed == 4) then (f32L F p1 6 p2.other 0).bind fun x94 => (gd (!(x94 == 0)) (f32L F p1 4 p2.place p2.other) default).bind fun x95 => (gd (!(x94 == 0)) (f32L F p1 3 p2.place p2.other) default).bind fun x96 => (bif ((x94 == 0) || (decide (x95 ≥ x96))) then some 4 else (f53_j2) ()) else (f53_j2) ()))))
theorem gt_nat (a : Nat) : decide ((a : Int) > 0) = decide (a > 0) := by
  by_cases h : a > 0
  · rw [decide_eq_true h, decide_eq_true (by omega)]
  · rw [decide_eq_false h, decide_eq_false (by omega)]
theorem eq_nat (a : Nat) : ((a : Int) == 0) = decide (a = 0) := by
  rw [beq_dec]
  by_cases h : a = 0
  · rw [decide_eq_true h, decide_eq_true (by omega)]
  · rw [decide_eq_false h, decide_eq_false (by omega)]
theorem ge_nat (a b : Nat) : decide ((a : Int) ≥ (b : Int)) = decide (a ≥ b) := by
  by_cases h : a ≥ b
  · rw [decide_eq_true h, decide_eq_true (by omega)]
  · rw [decide_eq_false h, decide_eq_false (by omega)]
theorem any_countP {α : Type} (l : List α) (f : α → Bool) : l.any f = decide (l.countP f > 0) := by
  rw [Bool.eq_iff_iff, decide_eq_true_eq, List.any_eq_true]
  exact (List.countP_pos_iff (p := f) (l := l)).symm
section
variable {F : Nat} {w : TollSetup}
theorem Told.pl_geti {e : TollEvent} (h : Told w e) : geti w.spots e.place = some (spt w e.place.toNat) ∧ (spt w e.place.toNat).at_ = atW w e.place := by
  obtain ⟨k, e1, hk⟩ := h.pl
  rw [e1, spt_geti hk]
  exact ⟨by rw [Int.toNat_natCast], rfl⟩
theorem kids_ref (hF : 100000 ≤ F) (h8 : w.spots.length ≤ 8) (p : Int) : f83L F w p = some (((List.range w.spots.length).filter fun q : Nat => inn w (q : Int) == p).map Int.ofNat) := by
  unfold f83L
  refine loop_tr (fun k => (((List.range k).filter fun q : Nat => inn w (q : Int) == p).map Int.ofNat, (k : Int))) rfl (n := w.spots.length) (by omega) (fun k hk next => ?_) (fun next => ?_)
  · have hl := List.length_filter_le (fun q : Nat => inn w (q : Int) == p) (List.range k)
    rw [List.length_range] at hl
    unfold f83_b0 f83_j0
    dsimp only
    rw [lt_nat_t hk, cond_true, spt_geti hk]
    simp only [Option.bind_some]
    rw [spt_in, List.range_succ, List.filter_append, List.map_append, w64s (by omega), List.filter_cons, List.filter_nil]
    cases h : (inn w (k : Int) == p) with
    | true =>
      rw [cond_true, if_pos rfl, app8 (by rw [List.length_map, List.length_singleton]; omega)]; rfl
    | false => rw [cond_false, if_neg (by decide), List.map_nil, List.append_nil]
  · unfold f83_b0
    dsimp only
    rw [lt_nat_f, cond_false]
theorem kids_loop (hF : 100000 ≤ F) {l : List TollEvent} (hl : l.length ≤ 450) {x76 : List Int} (hx : x76.length ≤ 8) : loop F (f53_b2 F l x76) 0 = bif x76.any (fun q => decide (c3 l 6 q 0 = 0)) then some 3 else some 0 := by
  rw [show (0 : Int) = ((0 : Nat) : Int) from rfl, loop_any (fun k => (k : Int)) (fun k => (fun q => decide (c3 l 6 q ((0 : Nat) : Int) = 0)) (x76.getD k 0)) (r1 := some 3) (r2 := some 0) (n := x76.length) (by omega) (fun k hk next => by
    unfold f53_b2
    rw [lt_nat_t hk, cond_true, geti_d 0 hk]
    simp only [Option.bind_some]
    rw [ahead_ok hF hl]
    simp only [Option.bind_some]
    rw [eq_nat, w64s (by omega)]; rfl) (fun next => by
    unfold f53_b2 f53_j2
    rw [lt_nat_f, cond_false])]
  rw [any_range_get x76 (fun q => decide (c3 l 6 q ((0 : Nat) : Int) = 0)) 0]
  rfl
theorem see_loop (hF : 100000 ≤ F) (hS : Shp w) {l : List TollEvent} (hl : l.length ≤ 450) (ht : All w l) {e : TollEvent} (he : Told w e) (hd : e.deed = 2) : loop F (f53_b1 F w l e) 0 = bif seeB w l e then some 5 else some 0 := by
  unfold seeB
  obtain ⟨a1, a2⟩ := he.pl_geti
  have ho : Pl w e.other := by have := he.dd; rcases this with q | q | q; exact q.2; exact q.2.1; omega
  obtain ⟨o, eo, ho⟩ := ho
  rw [show (0 : Int) = ((0 : Nat) : Int) from rfl, loop_any (fun k => (k : Int)) (fun k => (fun x : TollEvent => ((x.deed == 4) && (atW w x.place == atW w e.place)) && wthB w x.other.toNat e.other.toNat) (l.getD k default)) (r1 := some 5) (r2 := some 0) (n := l.length) (by omega) (fun k hk next => by
    have hx := ht k hk
    unfold f53_b1
    rw [lt_nat_t hk, cond_true, geti_d default hk]
    simp only [Option.bind_some]
    generalize l.getD k default = x at hx ⊢
    obtain ⟨b1, b2⟩ := hx.pl_geti
    cases h4 : (x.deed == 4) with
    | false =>
      simp only [gd_false, Bool.false_and, Option.bind_some, cond_false]
      rw [w64s (by omega)]
    | true =>
      have h4' : x.deed = 4 := by simpa using h4
      have hxo : Pl w x.other := by have := hx.dd; rcases this with q | q | q; omega; exact q.2.1; omega
      obtain ⟨y, ey, hy⟩ := hxo
      rw [gd_true, b1, gd_true, a1]
      simp only [Option.bind_some, Bool.true_and]
      rw [b2, a2]
      cases h5 : (atW w x.place == atW w e.place) with
      | false =>
        simp only [gd_false, Bool.false_and, Option.bind_some, cond_false]
        rw [w64s (by omega)]
      | true =>
        rw [gd_true, eo, ey, lies (by omega) hS ho y]
        simp only [Option.bind_some, Bool.true_and, Int.toNat_natCast]
        rw [w64s (by omega)]) (fun next => by
    unfold f53_b1 f53_j2
    rw [lt_nat_f, cond_false])]
  rw [any_range_get l (fun x : TollEvent => ((x.deed == 4) && (atW w x.place == atW w e.place)) && wthB w x.other.toNat e.other.toNat) default]
  rfl
theorem count_ref (hF : 100000 ≤ F) {l : List TollEvent} (hl : l.length ≤ 450) (e : TollEvent) : loop F (f53_b0 F w l e) (0, 0, 0) = tail53 F w l e ((k1 l e : Nat) : Int) ((k2 l e : Nat) : Int) := by
  refine loop_tr (fun k => (((k1 (l.take k) e : Nat) : Int), ((k2 (l.take k) e : Nat) : Int), (k : Int))) rfl (n := l.length) (by omega) (fun k hk next => ?_) (fun next => ?_)
  · have c1 : k1 (l.take k) e ≤ (l.take k).length := List.countP_le_length
    have c2 : k2 (l.take k) e ≤ (l.take k).length := List.countP_le_length
    rw [List.length_take] at c1 c2
    have s1 := cP_succ hk (fun x => ((x.deed == 1) && (x.n == e.n)) && ((e.deed == 1) || ((x.place == e.other) && (x.other == e.place))))
    have s2 := cP_succ hk (fun x => (x.deed == 2) && (x.n == e.n))
    change k1 (l.take (k + 1)) e = k1 (l.take k) e + _ at s1
    change k2 (l.take (k + 1)) e = k2 (l.take k) e + _ at s2
    unfold f53_b0 f53_j1 f53_j0
    dsimp only
    rw [lt_nat_t hk, cond_true, geti_d default hk, s1, s2]
    simp only [Option.bind_some]
    generalize l.getD k default = x
    rw [w64s (show k < _ by omega), w64s (show k1 (l.take k) e < _ by omega), w64s (show k2 (l.take k) e < _ by omega)]
    cases h1 : (((x.deed == 1) && (x.n == e.n)) && ((e.deed == 1) || ((x.place == e.other) && (x.other == e.place)))) <;> cases h2 : ((x.deed == 2) && (x.n == e.n)) <;> rfl
  · unfold f53_b0
    dsimp only
    rw [lt_nat_f, cond_false, List.take_length]
    rfl
theorem rule_ref (hF : 100000 ≤ F) (hS : Shp w) {l : List TollEvent} (hl : l.length ≤ 450) (ht : All w l) {e : TollEvent} (he : Told w e) : f53L F w l e = some (ruleW w l e) := by
  have h8 := hS.p2
  unfold f53L ruleW
  rw [ahead_ok hF hl]
  have hg : ∀ b : Bool, (gd b (some ((c3 l 5 e.place 0 : Nat) : Int)) default).bind (fun x5 => (bif (b && (decide (x5 > 0))) then some 1 else loop F (f53_b0 F w l e) (0, 0, 0))) = bif b && decide (c3 l 5 e.place 0 > 0) then some 1 else loop F (f53_b0 F w l e) (0, 0, 0) := fun b => by
    cases b with
    | false => rfl
    | true =>
      rw [gd_true]
      simp only [Option.bind_some]
      rw [gt_nat]
  rw [hg, count_ref hF hl]
  cases h0 : (e.deed != 6) && decide (c3 l 5 e.place 0 > 0) with
  | true => rfl
  | false =>
    simp only [cond_false]
    unfold tail53
    cases d1 : (e.deed == 1) with
    | true =>
      simp only [cond_true]
      rw [gt_nat]; cases decide (k1 l e > 0) <;> rfl
    | false =>
      simp only [cond_false]
      cases d2 : (e.deed == 2) with
      | true =>
        simp only [cond_true]
        rw [gt_nat, eq_nat, see_loop hF hS hl ht he (by simpa using d2)]
        cases (decide (k1 l e = 0) || decide (k2 l e > 0)) <;> cases seeB w l e <;> rfl
      | false =>
        simp only [cond_false]
        cases d6 : (e.deed == 6) with
        | true =>
          simp only [cond_true]
          rw [ahead_ok hF hl, ahead_ok hF hl, kids_ref hF h8]
          simp only [Option.bind_some]
          rw [eq_nat, kids_loop hF hl (by
            rw [List.length_map]
            have := List.length_filter_le (fun q : Nat => inn w (q : Int) == e.place) (List.range w.spots.length)
            rw [List.length_range] at this; omega), List.any_map, List.any_filter]
          have hk : (List.range w.spots.length).any (fun x => (inn w (x : Int) == e.place) && ((fun q => decide (c3 l 6 q 0 = 0)) ∘ Int.ofNat) x) = kidsB w l e.place := rfl
          rw [hk]
          cases h5 : decide (c3 l 5 e.place 0 = 0) with
          | true => rfl
          | false =>
            rw [Bool.not_false, gd_true]
            simp only [Option.bind_some, Bool.false_or]
            rw [gt_nat]
            cases decide (c3 l 6 e.place 0 > 0) <;> cases kidsB w l e.place <;> rfl
        | false =>
          simp only [cond_false]
          cases d4 : (e.deed == 4) with
          | true =>
            simp only [cond_true]
            rw [ahead_ok hF hl, ahead_ok hF hl, ahead_ok hF hl]
            simp only [Option.bind_some]
            rw [eq_nat]
            cases h5 : decide (c3 l 6 e.other 0 = 0) with
            | true => rfl
            | false =>
              rw [Bool.not_false, gd_true, gd_true]
              simp only [Option.bind_some, Bool.false_or]
              rw [ge_nat]
              cases decide (c3 l 4 e.place e.other ≥ c3 l 3 e.place e.other) <;> rfl
          | false => rfl
end
end Go.Proofs.YtcnahmgekicbdaaGreat
end
section
set_option linter.unusedVariables false
set_option linter.unusedSimpArgs false
namespace Go.Proofs.YtcnahmgekicbdaaGreat
open Go.Lf
section
variable {F : Nat} {w : TollSetup}
theorem fell_ok (hF : 100000 ≤ F) {l : List TollEvent} (hl : l.length ≤ 450) (ht : All w l) (p : Int) : f78L F ⟨w, l⟩ p = some (decide (c3 l 5 p 0 > 0)) := by
  unfold f78L
  rw [many_ok hF hl, eq_c3 ht (by omega)]
  simp only [Option.bind_some]
  rw [gt_nat]
theorem died_ok (hF : 100000 ≤ F) {l : List TollEvent} (hl : l.length ≤ 450) (ht : All w l) (p : Int) : f112L F ⟨w, l⟩ p = some (decide (c3 l 6 p 0 > 0)) := by
  unfold f112L
  rw [many_ok hF hl, eq_c3 ht (by omega)]
  simp only [Option.bind_some]
  rw [gt_nat]
theorem not_gt (a : Nat) : (!decide (a > 0)) = decide (a = 0) := by
  cases a with
  | zero => rfl
  | succ a => rfl
theorem says_ok (hF : 100000 ≤ F) {l : List TollEvent} (hl : l.length ≤ 450) (ht : All w l) {e : TollEvent} : f79L F ⟨w, l⟩ e = some (bif e.deed == 1 then decide (k1 l e > 0) else bif e.deed == 2 then decide (k1 l e = 0) || decide (k2 l e > 0) else false) := by
  unfold f79L
  cases d1 : (e.deed == 1) with
  | true =>
    simp only [cond_true]
    rw [numbered_ok hF hl]
    simp only [Option.bind_some]
    rw [any_countP]
    have : l.countP (fun x => (x.deed == 1) && (x.n == e.n)) = k1 l e := by
      unfold k1; rw [d1]
      exact List.countP_congr fun x _ => by simp
    rw [this]
  | false =>
    simp only [cond_false]
    cases d2 : (e.deed == 2) with
    | true =>
      simp only [cond_true]
      rw [numbered_ok hF hl, many_ok hF hl]
      simp only [Option.bind_some]
      rw [any_countP, eq_nat]
      have : l.countP (eqTollEvent ⟨1, e.other, e.place, e.n⟩) = k1 l e := by
        unfold k1; rw [d1]
        refine List.countP_congr fun x _ => ?_
        unfold eqTollEvent
        simp only [List.all_cons, List.all_nil, id, Bool.and_true, Bool.and_eq_true, beq_iff_eq, Bool.false_or]
        constructor
        · rintro ⟨a, b, c, d⟩; exact ⟨⟨a.symm, d.symm⟩, b.symm, c.symm⟩
        · rintro ⟨⟨a, d⟩, b, c⟩; exact ⟨a.symm, b.symm, c.symm, d.symm⟩
      rw [this]
      have : l.countP (fun x => (x.deed == 2) && (x.n == e.n)) = k2 l e := rfl
      rw [this]
      cases decide (k1 l e = 0) with
      | true => rfl
      | false => rw [Bool.not_false, gd_true]; rfl
    | false => rfl
theorem dies_ok (hF : 100000 ≤ F) (h8 : w.spots.length ≤ 8) {l : List TollEvent} (hl : l.length ≤ 450) (ht : All w l) {e : TollEvent} : f80L F ⟨w, l⟩ e = some (bif e.deed != 6 then false else (kidsB w l e.place || (decide (c3 l 5 e.place 0 = 0) || decide (c3 l 6 e.place 0 > 0)))) := by
  unfold f80L
  cases d6 : (e.deed != 6) with
  | true => rfl
  | false =>
    simp only [cond_false]
    have e0 : f80_j0 F ⟨w, l⟩ e (false, false) = some (decide (c3 l 5 e.place 0 = 0) || decide (c3 l 6 e.place 0 > 0)) := by
      unfold f80_j0
      dsimp only
      rw [cond_false, fell_ok hF hl ht, died_ok hF hl ht]
      simp only [Option.bind_some]
      rw [not_gt]
      cases decide (c3 l 5 e.place 0 = 0) with
      | true => rfl
      | false => rw [Bool.not_false, gd_true]; rfl
    have e1 : loop F (f80_b0 F ⟨w, l⟩ e) (0, false, false) = bif (List.range w.spots.length).any (fun q : Nat => (inn w (q : Int) == e.place) && decide (c3 l 6 (q : Int) 0 = 0)) then some true else f80_j0 F ⟨w, l⟩ e (false, false) := by
      refine loop_any (S := fun k => ((k : Int), false, false)) (fun q : Nat => (inn w (q : Int) == e.place) && decide (c3 l 6 (q : Int) 0 = 0)) (n := w.spots.length) (by omega) (fun k hk next => ?_) (fun next => ?_)
      · unfold f80_b0
        dsimp only
        rw [lt_nat_t hk, cond_true, spt_geti hk]
        simp only [Option.bind_some]
        rw [spt_in, w64s (by omega)]
        cases h : (inn w (k : Int) == e.place) with
        | false => rfl
        | true =>
          rw [cond_true, cond_false, died_ok hF hl ht]
          simp only [Option.bind_some]
          rw [not_gt]
          cases decide (c3 l 6 (k : Int) 0 = 0) <;> rfl
      · unfold f80_b0
        dsimp only
        rw [lt_nat_f, cond_false]
    rw [e1, e0]
    show (bif kidsB w l e.place then _ else _) = _
    cases kidsB w l e.place <;> rfl
theorem hears_ok (hF : 100000 ≤ F) {l : List TollEvent} (hl : l.length ≤ 450) (ht : All w l) {e : TollEvent} (he : Told w e) : f81L F ⟨w, l⟩ e = some (bif e.deed != 4 then false else decide (c3 l 6 e.other 0 = 0) || decide (c3 l 4 e.place e.other ≥ c3 l 3 e.place e.other)) := by
  unfold f81L
  cases d4 : (e.deed != 4) with
  | true => rfl
  | false =>
    have hd : e.deed = 4 := by simpa using d4
    have hn : e.n = 0 := by have := he.dd; rcases this with q | q | q; omega; exact q.2.2; exact q.2.2
    obtain ⟨d, p, o, n⟩ := e
    dsimp only at hd hn
    subst hd hn
    simp only [cond_false]
    rw [died_ok hF hl ht, many_ok hF hl, many_ok hF hl, eq_c3 ht (by omega), eq_c3 ht (by omega)]
    simp only [Option.bind_some]
    rw [not_gt]
    cases decide (c3 l 6 o 0 = 0) with
    | true => rfl
    | false =>
      rw [Bool.not_false, gd_true, gd_true]
      simp only [Option.bind_some, Bool.false_or]
      rw [ge_nat]
theorem walk82 (hF : 100000 ≤ F) (hS : Shp w) {l : List TollEvent} {q y : Nat} (hq : q < w.spots.length) (hne : y ≠ q) {x : TollEvent} (hx : x.other = (y : Int)) (v15 : Int) (next : Int × Bool → Option Bool) : loop F (f82_b1 ⟨w, l⟩ v15 next x) (inn w (q : Int), false, false) = bif wthB w y q then some true else next (w64 (v15 + 1), false) := by
  have h8 := hS.p2
  obtain ⟨m, hm, hs, hlt⟩ := first_of (c := fun k => up w (k + 1) (q : Int) < 0 ∨ up w (k + 1) (q : Int) = (y : Int)) (n := w.spots.length) (.inl (up_stays (hS.inn.acy q hq) (by omega)))
  have hj : ∀ j, j < m → ¬ up w (j + 1) (q : Int) < 0 ∧ up w (j + 1) (q : Int) ≠ (y : Int) := fun j hj => ⟨fun z => hlt j hj (.inl z), fun z => hlt j hj (.inr z)⟩
  refine loop_tr (fun k => (up w (k + 1) (q : Int), false, false)) (by show (up w (0 + 1) (q : Int), false, false) = _; rw [up1]) (n := m) (by omega) (fun k hk nx => ?_) (fun nx => ?_)
  · obtain ⟨h2, h3⟩ := hj k hk
    obtain ⟨j, e, hj⟩ := okN_nat (hS.inn.up (q := (q : Int)) ⟨by omega, by omega⟩ (k + 1)) h2
    unfold f82_b1
    dsimp only
    rw [up_succ w (k + 1), if_neg h2, hx]
    rw [e] at h3 ⊢
    rw [ge0_nat, cond_true, cond_false, beq_f h3, cond_false, Bool.not_true, cond_false, spt_geti hj]
    simp only [Option.bind_some]
    rw [spt_in]
  · unfold f82_b1 f82_j0
    dsimp only
    rcases hs with z | z
    · rw [decide_eq_false (show ¬ up w (m + 1) (q : Int) ≥ 0 by omega), cond_false, cond_false]
      have : wthB w y q = false := Bool.eq_false_iff.2 fun h => by
        obtain ⟨j, ej⟩ := (wthB_iff hS.inn hq).1 h
        cases j with
        | zero => have : (q : Int) = (y : Int) := ej; omega
        | succ j =>
          rcases Nat.lt_or_ge j m with zz | zz
          · exact (hj j zz).2 ej
          · have := up_stays z (show m + 1 ≤ j + 1 by omega); omega
      rw [this]; rfl
    · rw [z, ge0_nat, cond_true, cond_false, hx, beq_self_eq_true, (wthB_iff hS.inn hq).2 ⟨m + 1, z⟩]; rfl
theorem sees_ok (hF : 100000 ≤ F) (hS : Shp w) {l : List TollEvent} (hl : l.length ≤ 450) (ht : All w l) {e : TollEvent} (he : Told w e) : f82L F ⟨w, l⟩ e = some (bif e.deed != 2 then false else seeB w l e) := by
  unfold f82L
  cases d2 : (e.deed != 2) with
  | true => rfl
  | false =>
    have hd : e.deed = 2 := by simpa using d2
    simp only [cond_false]
    obtain ⟨a1, a2⟩ := he.pl_geti
    have ho : Pl w e.other := by have := he.dd; rcases this with q | q | q; exact q.2; exact q.2.1; omega
    obtain ⟨o, eo, ho⟩ := ho
    have e1 : loop F (f82_b0 F ⟨w, l⟩ e) (0, false) = bif (List.range l.length).any (fun k => (fun x : TollEvent => ((x.deed == 4) && (atW w x.place == atW w e.place)) && wthB w x.other.toNat e.other.toNat) (l.getD k default)) then some true else some false := by
      refine loop_any (S := fun k => ((k : Int), false)) (fun k => (fun x : TollEvent => ((x.deed == 4) && (atW w x.place == atW w e.place)) && wthB w x.other.toNat e.other.toNat) (l.getD k default)) (n := l.length) (by omega) (fun k hk next => ?_) (fun next => ?_)
      · have hx := ht k hk
        unfold f82_b0
        dsimp only
        rw [lt_nat_t hk, cond_true, geti_d default hk]
        simp only [Option.bind_some]
        generalize l.getD k default = x at hx ⊢
        obtain ⟨b1, b2⟩ := hx.pl_geti
        have hne : (x.deed != 4) = !(x.deed == 4) := rfl
        rw [hne]
        cases h4 : (x.deed == 4) with
        | false =>
          simp only [Bool.not_false, Bool.not_true, gd_false, Bool.true_or, Bool.false_and, Option.bind_some, cond_false, cond_true]
          rw [w64s (by omega)]
        | true =>
          have h4' : x.deed = 4 := by simpa using h4
          have hxo : Pl w x.other := by have := hx.dd; rcases this with q | q | q; omega; exact q.2.1; omega
          obtain ⟨y, ey, hy⟩ := hxo
          simp only [Bool.not_true, Bool.not_false]
          rw [gd_true, b1, gd_true, a1]
          simp only [Option.bind_some, Bool.true_and, Bool.false_or]
          rw [b2, a2]
          have hne2 : (atW w x.place != atW w e.place) = !(atW w x.place == atW w e.place) := rfl
          rw [hne2]
          cases h5 : (atW w x.place == atW w e.place) with
          | false =>
            simp only [Bool.not_false, cond_true, Bool.false_and, cond_false]
            rw [w64s (by omega)]
          | true =>
            simp only [Bool.not_true, cond_false, Bool.true_and]
            rw [eo, ey]
            simp only [Int.toNat_natCast]
            by_cases hyo : y = o
            · subst hyo
              rw [beq_self_eq_true, cond_true, (wthB_iff hS.inn ho).2 ⟨0, rfl⟩]; rfl
            · rw [beq_f (by omega), cond_false, spt_geti ho]
              simp only [Option.bind_some]
              rw [spt_in, walk82 hF hS ho hyo ey, w64s (by omega)]
      · unfold f82_b0
        dsimp only
        rw [lt_nat_f, cond_false]
    rw [e1, any_range_get l (fun x : TollEvent => ((x.deed == 4) && (atW w x.place == atW w e.place)) && wthB w x.other.toNat e.other.toNat) default]
    show (bif seeB w l e then _ else _) = _
    cases seeB w l e <;> rfl
theorem rule_prog (hF : 100000 ≤ F) (hS : Shp w) {l : List TollEvent} (hl : l.length ≤ 450) (ht : All w l) {e : TollEvent} (he : Told w e) : f52L F ⟨w, l⟩ e = some (ruleW w l e) := by
  unfold f52L ruleW
  rw [fell_ok hF hl ht, says_ok hF hl ht, dies_ok hF hS.p2 hl ht, hears_ok hF hl ht he, sees_ok hF hS hl ht he]
  simp only [Option.bind_some]
  obtain ⟨d, p, o, n⟩ := e
  dsimp only
  rw [Bool.and_comm (decide (c3 l 5 p 0 > 0)) (d != 6)]
  cases h0 : (d != 6) && decide (c3 l 5 p 0 > 0) with
  | true => rfl
  | false =>
    simp only [cond_false]
    rw [Bool.or_comm (kidsB w l p)]
    generalize kidsB w l p = z1
    generalize seeB w l ⟨d, p, o, n⟩ = z2
    generalize (decide (c3 l 5 p 0 = 0) || decide (c3 l 6 p 0 > 0)) = z3
    generalize (decide (c3 l 6 o 0 = 0) || decide (c3 l 4 p o ≥ c3 l 3 p o)) = z4
    generalize decide (k1 l ⟨d, p, o, n⟩ > 0) = z5
    generalize (decide (k1 l ⟨d, p, o, n⟩ = 0) || decide (k2 l ⟨d, p, o, n⟩ > 0)) = z6
    rcases seven d with rfl | rfl | rfl | rfl | rfl | rfl | h
    · cases z5 <;> rfl
    · cases z6 <;> cases z2 <;> rfl
    · rfl
    · cases z4 <;> rfl
    · rfl
    · cases z3 <;> cases z1 <;> rfl
    · exact absurd he (told_no h)
theorem ruleW_ge (w : TollSetup) (l : List TollEvent) (e : TollEvent) : 0 ≤ ruleW w l e := by
  unfold ruleW
  repeat' (first | decide | (rw [Bool.cond_eq_ite]; split))
theorem slT {α : Type} {l : List α} {k : Nat} (h : k ≤ l.length) : slL l 0 (k : Int) = some (l.take k) := by
  unfold slL
  rw [decide_eq_true (Int.le_refl 0), decide_eq_true (show (0 : Int) ≤ (k : Int) by omega), decide_eq_true (show (k : Int) ≤ (l.length : Int) by omega)]
  simp only [Bool.and_self, cond_true, Int.toNat_natCast]
  rfl
theorem All.take {l : List TollEvent} (h : All w l) (k : Nat) : All w (l.take k) := fun j hj => by
  rw [List.length_take] at hj
  have := h j (by omega)
  rwa [List.getD_eq_getElem?_getD, List.getElem?_take_of_lt (by omega), ← List.getD_eq_getElem?_getD]
theorem judge_both (hF : 100000 ≤ F) (hS : Shp w) {l : List TollEvent} (hl : l.length ≤ 450) (ht : All w l) : ∃ i r, f28L F w l = some (i, r) ∧ loop F (f26_b1 F w l) (-1, 0, 0) = some (i, r, 0) := by
  have hr : ∀ k, k < l.length → (slL l 0 (k : Int)).bind (fun z => f53L F w z (l.getD k default)) = some (ruleW w (l.take k) (l.getD k default)) ∧ f52L F ⟨w, l.take k⟩ (l.getD k default) = some (ruleW w (l.take k) (l.getD k default)) := fun k hk => by
    have hlt : (l.take k).length ≤ 450 := by rw [List.length_take]; omega
    rw [slT (by omega)]
    exact ⟨rule_ref hF hS hlt (ht.take k) (ht k hk), rule_prog hF hS hlt (ht.take k) (ht k hk)⟩
  by_cases hz : ∃ k, k < l.length ∧ ruleW w (l.take k) (l.getD k default) > 0
  · obtain ⟨k0, hk0⟩ := hz
    obtain ⟨m, _, ⟨hm, hc⟩, hlt⟩ := first_of (c := fun k => k < l.length ∧ ruleW w (l.take k) (l.getD k default) > 0) hk0
    have h0 : ∀ k, k < m → ruleW w (l.take k) (l.getD k default) = 0 := fun k hk => by
      have := ruleW_ge w (l.take k) (l.getD k default)
      have h2 : ¬ ruleW w (l.take k) (l.getD k default) > 0 := fun z => hlt k hk ⟨by omega, z⟩
      omega
    refine ⟨(m : Int), ruleW w (l.take m) (l.getD m default), ?_, ?_⟩
    · unfold f28L
      refine loop_tr (fun k => (k : Int)) rfl (n := m) (by omega) (fun k hk next => ?_) (fun next => ?_)
      · obtain ⟨e1, _⟩ := hr k (by omega)
        rw [slT (by omega)] at e1
        simp only [Option.bind_some] at e1
        unfold f28_b0
        rw [lt_nat_t (by omega), cond_true, geti_d default (by omega), slT (by omega)]
        simp only [Option.bind_some]
        rw [e1, h0 k hk]
        simp only [Option.bind_some]
        rw [w64s (by omega)]; rfl
      · obtain ⟨e1, _⟩ := hr m hm
        rw [slT (by omega)] at e1
        simp only [Option.bind_some] at e1
        unfold f28_b0
        rw [lt_nat_t hm, cond_true, geti_d default hm, slT (by omega)]
        simp only [Option.bind_some]
        rw [e1]
        simp only [Option.bind_some]
        rw [decide_eq_true hc]; rfl
    · refine loop_tr (fun k => ((-1 : Int), (0 : Int), (k : Int))) rfl (n := m) (by omega) (fun k hk next => ?_) (fun next => ?_)
      · obtain ⟨_, e2⟩ := hr k (by omega)
        unfold f26_b1
        dsimp only
        rw [lt_nat_t (by omega), cond_true, geti_d default (by omega), slT (by omega)]
        simp only [Option.bind_some]
        rw [e2, h0 k hk]
        simp only [Option.bind_some]
        rw [w64s (by omega)]; rfl
      · obtain ⟨_, e2⟩ := hr m hm
        unfold f26_b1 f26_j0
        dsimp only
        rw [lt_nat_t hm, cond_true, geti_d default hm, slT (by omega)]
        simp only [Option.bind_some]
        rw [e2]
        simp only [Option.bind_some]
        rw [decide_eq_true hc]; rfl
  · have h0 : ∀ k, k < l.length → ruleW w (l.take k) (l.getD k default) = 0 := fun k hk => by
      have := ruleW_ge w (l.take k) (l.getD k default)
      have h2 : ¬ ruleW w (l.take k) (l.getD k default) > 0 := fun z => hz ⟨k, hk, z⟩
      omega
    refine ⟨-1, 0, ?_, ?_⟩
    · unfold f28L
      refine loop_tr (fun k => (k : Int)) rfl (n := l.length) (by omega) (fun k hk next => ?_) (fun next => ?_)
      · obtain ⟨e1, _⟩ := hr k (by omega)
        rw [slT (by omega)] at e1
        simp only [Option.bind_some] at e1
        unfold f28_b0
        rw [lt_nat_t (by omega), cond_true, geti_d default (by omega), slT (by omega)]
        simp only [Option.bind_some]
        rw [e1, h0 k hk]
        simp only [Option.bind_some]
        rw [w64s (by omega)]; rfl
      · unfold f28_b0
        rw [lt_nat_f, cond_false]
    · refine loop_tr (fun k => ((-1 : Int), (0 : Int), (k : Int))) rfl (n := l.length) (by omega) (fun k hk next => ?_) (fun next => ?_)
      · obtain ⟨_, e2⟩ := hr k (by omega)
        unfold f26_b1
        dsimp only
        rw [lt_nat_t (by omega), cond_true, geti_d default (by omega), slT (by omega)]
        simp only [Option.bind_some]
        rw [e2, h0 k hk]
        simp only [Option.bind_some]
        rw [w64s (by omega)]; rfl
      · unfold f26_b1 f26_j0
        dsimp only
        rw [lt_nat_f, cond_false]
theorem told_loop (hF : 100000 ≤ F) {l : List TollEvent} (hl : l.length ≤ 450) : loop F (f26_b0 F w l) 0 = ifc (All w l) (loop F (f26_b1 F w l) (-1, 0, 0)) (some (0, 0, 2)) := by
  unfold All
  exact loop_if (fun k => (k : Int)) rfl (fun k => Told w (l.getD k default)) (n := l.length) (F := F) (by omega) (fun k hk next => by
    unfold f26_b0
    rw [lt_nat_t hk, cond_true, geti_d default hk]
    simp only [Option.bind_some]
    rw [told_prog, w64s (by omega)]
    by_cases h : Told w (l.getD k default)
    · rw [ifc_pos h, ifc_pos h]; rfl
    · rw [ifc_neg h, ifc_neg h]; rfl) (fun next => by
    unfold f26_b0
    rw [lt_nat_f, cond_false])
end
theorem TollJudges_law {F : Nat} (hF : 100000 ≤ F) (w : TollSetup) (l : List TollEvent) : f5L F w l = some true := by
  unfold f5L f14L
  simp only [Option.bind_some]
  by_cases hc : (!decide ((w.spots.length : Int) ≤ 30) || decide ((l.length : Int) > 450)) = true
  · rw [hc]; rfl
  · rw [Bool.eq_false_iff.2 hc, cond_false]
    have hl : l.length ≤ 450 := by
      rw [Bool.not_eq_true] at hc
      have := (Bool.or_eq_false_iff.1 hc).2
      have := of_decide_eq_false this
      omega
    unfold f26L
    rw [check_prog (by omega), setup_ref (by omega)]
    by_cases hS : Shp w
    · rw [ifc_pos hS, ifc_pos hS, events_ref hF hl, told_loop hF hl]
      by_cases ht : All w l
      · rw [ifc_pos ht, ifc_pos ht]
        by_cases h4 : (l.length : Int) ≤ 400
        · obtain ⟨i, r, e1, e2⟩ := judge_both hF hS hl ht
          rw [e1, e2, decide_eq_true h4, decide_eq_false (show ¬ (l.length : Int) > 400 by omega)]
          simp only [Option.bind_some, ne_refl, Bool.or_self, cond_false, Bool.not_true, Bool.not_false, gd_true, Bool.or_false, beq_self_eq_true, Bool.and_self]
          rfl
        · rw [decide_eq_false h4, decide_eq_true (show (l.length : Int) > 400 by omega)]; rfl
      · rw [ifc_neg ht, ifc_neg ht]
        cases decide ((l.length : Int) > 400) <;> rfl
    · rw [ifc_neg hS, ifc_neg hS]; rfl
end Go.Proofs.YtcnahmgekicbdaaGreat
end
