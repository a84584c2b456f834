/- Firsts Part 9 of the proof. -/
import Derived.Shelf.Sort.Plain
import Derived.Test.YtbmbbcaaimehkaaGreatFa8
set_option linter.all false
set_option maxHeartbeats 2000000
section
noncomputable section
namespace Go.Abs
open Go.Lf
variable {X : Ctx} {f : FuncId} {wm wm0 : Nat} {h : H} {i o c : Nat} {cs : List Value} {xs : List Int}
end Go.Abs
end
end
section
set_option maxRecDepth 100000
noncomputable section
namespace Go.Proofs.YtbmbbcaaimehkaaGreat
open Go.Abs Go.Lf
end Go.Proofs.YtbmbbcaaimehkaaGreat
end
end
section
set_option linter.unusedVariables false
set_option linter.unusedSimpArgs false
namespace Go.Proofs.YtbmbbcaaimehkaaGreat
open Go.Lf
end Go.Proofs.YtbmbbcaaimehkaaGreat
end
section
set_option linter.unusedVariables false
set_option linter.unusedSimpArgs false
set_option maxRecDepth 20000
noncomputable section
namespace Go.Proofs.YtbmbbcaaimehkaaGreat
open Go.Abs Go.Lf
end Go.Proofs.YtbmbbcaaimehkaaGreat
end
end
section
set_option linter.unusedVariables false
set_option linter.unusedSimpArgs false
namespace Go.Proofs.YtbmbbcaaimehkaaGreat
open Go.Lf
end Go.Proofs.YtbmbbcaaimehkaaGreat
end
section
set_option linter.unusedVariables false
set_option linter.unusedSimpArgs false
set_option maxRecDepth 20000
noncomputable section
namespace Go.Proofs.YtbmbbcaaimehkaaGreat
open Go.Abs Go.Lf
end Go.Proofs.YtbmbbcaaimehkaaGreat
end
end
section
set_option linter.unusedVariables false
set_option linter.unusedSimpArgs false
namespace Go.Proofs.YtbmbbcaaimehkaaGreat
open Go.Lf
end Go.Proofs.YtbmbbcaaimehkaaGreat
end
section
set_option linter.unusedVariables false
set_option linter.unusedSimpArgs false
set_option maxRecDepth 20000
noncomputable section
namespace Go.Proofs.YtbmbbcaaimehkaaGreat
open Go.Abs Go.Lf
end Go.Proofs.YtbmbbcaaimehkaaGreat
end
end
section
set_option linter.unusedVariables false
set_option linter.unusedSimpArgs false
namespace Go.Proofs.YtbmbbcaaimehkaaGreat
open Go.Lf
end Go.Proofs.YtbmbbcaaimehkaaGreat
end
section
set_option linter.unusedVariables false
set_option linter.unusedSimpArgs false
set_option maxRecDepth 20000
noncomputable section
namespace Go.Proofs.YtbmbbcaaimehkaaGreat
open Go.Abs Go.Lf
end Go.Proofs.YtbmbbcaaimehkaaGreat
end
end
section
set_option linter.unusedVariables false
set_option linter.unusedSimpArgs false
namespace Go.Proofs.YtbmbbcaaimehkaaGreat
open Go.Lf
def f18_b2 (p0 : FerryWorld) (p1 : FerryWorld) (v30 : Int) (next32 : (Int → Option Bool)) (x43 : (List FerryEntry)) : Int → (Int → Option Bool) → Option Bool := fun v56 next58 =>
  (bif decide (v56 < (x43.length : Int)) then (geti p0.entries v30).bind fun x59 => (geti x59 v56).bind fun x64 => (geti p1.entries v30).bind fun x67 => (geti x67 v56).bind fun x72 => (bif (!(eqFerryEntry x64 x72)) then some false else next58 (w64 (v56 + 1))) else next32 (w64 (v30 + 1)))
def f18_b4 (p0 : FerryWorld) (p1 : FerryWorld) (v80 : Int) (next82 : (Int → Option Bool)) (x93 : (List FerryMail)) : Int → (Int → Option Bool) → Option Bool := fun v106 next108 =>
  (bif decide (v106 < (x93.length : Int)) then (geti p0.held v80).bind fun x109 => (geti x109 v106).bind fun x114 => (geti p1.held v80).bind fun x117 => (geti x117 v106).bind fun x122 => (bif (!(eqFerryMail x114 x122)) then some false else next108 (w64 (v106 + 1))) else next82 (w64 (v80 + 1)))
def f18_b5 (F : Nat) (p0 : FerryWorld) (p1 : FerryWorld) : Int → (Int → Option Bool) → Option Bool := fun v130 next132 =>
  (bif decide (v130 < (p0.wire.length : Int)) then (geti p0.wire v130).bind fun x133 => (geti p1.wire v130).bind fun x143 => (gd (!(((x133.kind != x143.kind) || (x133.to_ != x143.to_)) || (!(eqFerryMail x133.mail x143.mail)))) (f27L F x133.places x143.places) default).bind fun x153 => (gd (!((((x133.kind != x143.kind) || (x133.to_ != x143.to_)) || (!(eqFerryMail x133.mail x143.mail))) || (!x153))) (f27L F x133.ages x143.ages) default).bind fun x154 => (bif ((((((((x133.kind != x143.kind) || (x133.to_ != x143.to_)) || (!(eqFerryMail x133.mail x143.mail))) || (!x153)) || (!x154)) || (x133.place != x143.place)) || (x133.at_ != x143.at_)) || (x133.age != x143.age)) then some false else next132 (w64 (v130 + 1))) else some true)
def f18_b3 (F : Nat) (p0 : FerryWorld) (p1 : FerryWorld) : Int → (Int → Option Bool) → Option Bool := fun v80 next82 =>
  (bif decide (v80 < (p0.held.length : Int)) then (geti p0.held v80).bind fun x83 => (geti p1.held v80).bind fun x88 => (bif ((x83.length : Int) != (x88.length : Int)) then some false else (geti p0.held v80).bind fun x93 => loop F (f18_b4 p0 p1 v80 next82 x93) 0) else loop F (f18_b5 F p0 p1) 0)
def f18_b1 (F : Nat) (p0 : FerryWorld) (p1 : FerryWorld) : Int → (Int → Option Bool) → Option Bool := fun v30 next32 =>
  (bif decide (v30 < (p0.entries.length : Int)) then (geti p0.entries v30).bind fun x33 => (geti p1.entries v30).bind fun x38 => (bif ((x33.length : Int) != (x38.length : Int)) then some false else (geti p0.entries v30).bind fun x43 => loop F (f18_b2 p0 p1 v30 next32 x43) 0) else loop F (f18_b3 F p0 p1) 0)
def f18_b0 (F : Nat) (p0 : FerryWorld) (p1 : FerryWorld) : Int → (Int → Option Bool) → Option Bool := fun v11 next13 =>
  (bif decide (v11 < (p0.boxes.length : Int)) then (geti p0.boxes v11).bind fun x14 => (geti p1.boxes v11).bind fun x19 => (f27L F x14 x19).bind fun x24 => (bif (!x24) then some false else next13 (w64 (v11 + 1))) else loop F (f18_b1 F p0 p1) 0)
def f18L (F : Nat) (p0 : FerryWorld) (p1 : FerryWorld) : Option Bool :=
  (f27L F p0.in_ p1.in_).bind fun x5 => (bif ((((((!x5) || ((p0.boxes.length : Int) != (p1.boxes.length : Int))) || ((p0.entries.length : Int) != (p1.entries.length : Int))) || ((p0.held.length : Int) != (p1.held.length : Int))) || ((p0.wire.length : Int) != (p1.wire.length : Int))) || (p0.said != p1.said)) then some false else loop F (f18_b0 F p0 p1) 0)
end Go.Proofs.YtbmbbcaaimehkaaGreat
end
section
set_option linter.unusedVariables false
set_option linter.unusedSimpArgs false
set_option maxRecDepth 20000
noncomputable section
namespace Go.Proofs.YtbmbbcaaimehkaaGreat
open Go.Abs Go.Lf
theorem f18_wf {F : Nat} {wm : Nat} {h : H} {p0 : FerryWorld} {p1 : FerryWorld} {pa0_0 : Option Addr} {pc0_0 : Nat} {pa0_1 : Option Addr} {pc0_1 : Nat} {pa0_2 : Option Addr} {pc0_2 : Nat} {pa0_3 : Option Addr} {pc0_3 : Nat} {pa0_4 : Option Addr} {pc0_4 : Nat} {pa1_0 : Option Addr} {pc1_0 : Nat} {pa1_1 : Option Addr} {pc1_1 : Nat} {pa1_2 : Option Addr} {pc1_2 : Nat} {pa1_3 : Option Addr} {pc1_3 : Nat} {pa1_4 : Option Addr} {pc1_4 : Nat} {r : Bool} (hwm : wm ≤ h.size) (hsp0_0 : Sl (rInt .i64) wm h pa0_0 pc0_0 p0.in_) (hsp0_1 : Sl (rSl (rInt .i64)) wm h pa0_1 pc0_1 p0.boxes) (hsp0_2 : Sl (rSl rFerryEntry) wm h pa0_2 pc0_2 p0.entries) (hsp0_3 : Sl (rSl rFerryMail) wm h pa0_3 pc0_3 p0.held) (hsp0_4 : Sl rFerryLetter wm h pa0_4 pc0_4 p0.wire) (hsp1_0 : Sl (rInt .i64) wm h pa1_0 pc1_0 p1.in_) (hsp1_1 : Sl (rSl (rInt .i64)) wm h pa1_1 pc1_1 p1.boxes) (hsp1_2 : Sl (rSl rFerryEntry) wm h pa1_2 pc1_2 p1.entries) (hsp1_3 : Sl (rSl rFerryMail) wm h pa1_3 pc1_3 p1.held) (hsp1_4 : Sl rFerryLetter wm h pa1_4 pc1_4 p1.wire) (hL : f18L F p0 p1 = some r) :
    WR XX 18 #[.agg [.slice pa0_0 p0.in_.length pc0_0, .slice pa0_1 p0.boxes.length pc0_1, .slice pa0_2 p0.entries.length pc0_2, .slice pa0_3 p0.held.length pc0_3, .slice pa0_4 p0.wire.length pc0_4, .int .i64 p0.said].toArray, .agg [.slice pa1_0 p1.in_.length pc1_0, .slice pa1_1 p1.boxes.length pc1_1, .slice pa1_2 p1.entries.length pc1_2, .slice pa1_3 p1.held.length pc1_3, .slice pa1_4 p1.wire.length pc1_4, .int .i64 p1.said].toArray] wm h (CP (fun (v : Value) (Gb : List (Ast wm)) => v = .bool r ∧ Gb = []) [] h) := by
 refine bg Tryz.ntmps18 hwm Hold.nil ?_
 intro T hT hS
 unfold f18L at hL
 refine r3 ?_
 rintro _ h2 ⟨b1, eb1, rfl, hS⟩
 refine r1 ?_
 rintro _ h4 ⟨b3, eb3, rfl, hS⟩
 refine r8 ?_
 refine r2 ?_
 obtain ⟨x5, hx5, hL⟩ := bind_some hL
 refine WO.cp gN rfl (Ent.fn has27 (evs_cons lk (evs_cons lk evs_nil))) (f27_ok (hS.slu hsp0_0) (hS.slu hsp1_0) hx5) ?_
 refine r16 ?_
 refine r16 ?_
 refine r12 ?_
 refine r2 ?_
 refine cn hL ?_ ?_
 · intro hc hL
   refine r6 ?_
   refine r1 ?_
   exact rt hL hT hS
 · intro hc hL
   refine r12 ?_
   refine WC.loop (WL.lift hL (fun (v11 : Int) (s : Fs) => ∃ (fr7 : Fr) (h6 : H), s = ⟨fr7, [], h6, none⟩ ∧ Sp wm T h [bx wm b1 [.slice pa0_0 p0.in_.length pc0_0, .slice pa0_1 p0.boxes.length pc0_1, .slice pa0_2 p0.entries.length pc0_2, .slice pa0_3 p0.held.length pc0_3, .slice pa0_4 p0.wire.length pc0_4, .int .i64 p0.said], bx wm b3 [.slice pa1_0 p1.in_.length pc1_0, .slice pa1_1 p1.boxes.length pc1_1, .slice pa1_2 p1.entries.length pc1_2, .slice pa1_3 p1.held.length pc1_3, .slice pa1_4 p1.wire.length pc1_4, .int .i64 p1.said]] h6 ∧ fr7.at 2 = .pointer (some ⟨b1, 0, none⟩) ∧ fr7.at 3 = .pointer (some ⟨b3, 0, none⟩) ∧ fr7.at 64 = .int .i64 (p0.boxes.length : Int) ∧ fr7.at 65 = .int .i64 v11) ⟨_, _, rfl, hS.only (.c k1 (.c k0 .n)), las⟩ ?_)
   clear hL hS
   rintro next13 v11 s hnext13 hL ⟨fr7, h6, rfl, hS, e8, e9, e10, e12⟩
   dsimp only [f18_b0] at hL
   refine r6 ?_
   refine cn hL ?_ ?_
   · intro hc hL
     refine r8 ?_
     refine r3 ?_
     refine WC.drawX mixed (by kernel_rfl) ?_
     refine r3 ?_
     obtain ⟨x14, hx14, hL⟩ := bind_some hL
     obtain ⟨b15, o16, ⟨a17, c18⟩, hab15, hAb15, hBb15, hFb15⟩ := Sl.at_ hsp0_1 hx14
     refine WX.w gN rfl (av_ixn und24 size22 lk lk rfl hab15 hx14) ?_ rfl
     have hsa17 : Sl (rInt .i64) wm h a17 c18 x14 := hFb15
     refine WX.w gN rfl (av_ld agg22 (evT fh rfl) (At.fz hS.fz hBb15 hAb15) (j := 0) rfl (v := .slice a17 x14.length c18) rfl) ?_ rfl
     refine r3 ?_
     obtain ⟨x19, hx19, hL⟩ := bind_some hL
     obtain ⟨b20, o21, ⟨a22, c23⟩, hab20, hAb20, hBb20, hFb20⟩ := Sl.at_ hsp1_1 hx19
     refine WX.w gN rfl (av_ixn und24 size22 lk lk rfl hab20 hx19) ?_ rfl
     have hsa22 : Sl (rInt .i64) wm h a22 c23 x19 := hFb20
     refine WX.w gN rfl (av_ld agg22 (evT fh rfl) (At.fz hS.fz hBb20 hAb20) (j := 0) rfl (v := .slice a22 x19.length c23) rfl) ?_ rfl
     obtain ⟨x24, hx24, hL⟩ := bind_some hL
     refine WX.cp gN rfl (Ent.fn has27 (evs_cons lk (evs_cons lk evs_nil))) (f27_ok (hS.slu hsa17) (hS.slu hsa22) hx24) ?_ rfl rfl
     refine r3 ?_
     refine cn hL ?_ ?_
     · intro hc hL
       refine r8 ?_
       refine r3 ?_
       exact rt hL hT hS
     · intro hc hL
       refine r6 ?_
       refine r1 ?_
       exact LoopK.nrm (hnext13 _ _ hL ⟨_, _, rfl, hS.only (.c k0 (.c k0 .n)), las⟩)
   · intro hc hL
     refine r12 ?_
     refine r3 ?_
     refine WC.loop (WL.lift hL (fun (v30 : Int) (s : Fs) => ∃ (fr26 : Fr) (h25 : H), s = ⟨fr26, [], h25, none⟩ ∧ Sp wm T h [bx wm b1 [.slice pa0_0 p0.in_.length pc0_0, .slice pa0_1 p0.boxes.length pc0_1, .slice pa0_2 p0.entries.length pc0_2, .slice pa0_3 p0.held.length pc0_3, .slice pa0_4 p0.wire.length pc0_4, .int .i64 p0.said], bx wm b3 [.slice pa1_0 p1.in_.length pc1_0, .slice pa1_1 p1.boxes.length pc1_1, .slice pa1_2 p1.entries.length pc1_2, .slice pa1_3 p1.held.length pc1_3, .slice pa1_4 p1.wire.length pc1_4, .int .i64 p1.said]] h25 ∧ fr26.at 2 = .pointer (some ⟨b1, 0, none⟩) ∧ fr26.at 3 = .pointer (some ⟨b3, 0, none⟩) ∧ fr26.at 83 = .int .i64 (p0.entries.length : Int) ∧ fr26.at 84 = .int .i64 v30) ⟨_, _, rfl, hS.only (.c k0 (.c k0 .n)), las⟩ ?_)
     clear hL hS
     rintro next32 v30 s hnext32 hL ⟨fr26, h25, rfl, hS, e27, e28, e29, e31⟩
     dsimp only [f18_b1] at hL
     refine r6 ?_
     refine cn hL ?_ ?_
     · intro hc hL
       refine r12 ?_
       refine WC.drawX mixed (by kernel_rfl) ?_
       refine r3 ?_
       obtain ⟨x33, hx33, hL⟩ := bind_some hL
       obtain ⟨b34, o35, ⟨a36, c37⟩, hab34, hAb34, hBb34, hFb34⟩ := Sl.at_ hsp0_2 hx33
       refine WX.w gN rfl (av_ixn und25 size64 lk lk rfl hab34 hx33) ?_ rfl
       have hsa36 : Sl rFerryEntry wm h a36 c37 x33 := hFb34
       refine WX.w gN rfl (av_ld agg64 (evT fh rfl) (At.fz hS.fz hBb34 hAb34) (j := 0) rfl (v := .slice a36 x33.length c37) rfl) ?_ rfl
       refine r4 ?_
       obtain ⟨x38, hx38, hL⟩ := bind_some hL
       obtain ⟨b39, o40, ⟨a41, c42⟩, hab39, hAb39, hBb39, hFb39⟩ := Sl.at_ hsp1_2 hx38
       refine WX.w gN rfl (av_ixn und25 size64 lk lk rfl hab39 hx38) ?_ rfl
       have hsa41 : Sl rFerryEntry wm h a41 c42 x38 := hFb39
       refine WX.w gN rfl (av_ld agg64 (evT fh rfl) (At.fz hS.fz hBb39 hAb39) (j := 0) rfl (v := .slice a41 x38.length c42) rfl) ?_ rfl
       refine r4 ?_
       refine cn hL ?_ ?_
       · intro hc hL
         refine r12 ?_
         exact rt hL hT hS
       · intro hc hL
         refine r6 ?_
         refine r1 ?_
         obtain ⟨x43, hx43, hL⟩ := bind_some hL
         obtain ⟨b44, o45, ⟨a46, c47⟩, hab44, hAb44, hBb44, hFb44⟩ := Sl.at_ hsp0_2 hx43
         refine WO.w gN rfl (av_ixn und25 size64 lk lk rfl hab44 hx43) ?_
         have hsa46 : Sl rFerryEntry wm h a46 c47 x43 := hFb44
         refine WO.w gN rfl (av_ld agg64 (evT fh rfl) (At.fz hS.fz hBb44 hAb44) (j := 0) rfl (v := .slice a46 x43.length c47) rfl) ?_
         refine r4 ?_
         refine r1 ?_
         refine WC.loop (WL.lift hL (fun (v56 : Int) (s : Fs) => ∃ (fr49 : Fr) (h48 : H), s = ⟨fr49, [], h48, none⟩ ∧ Sp wm T h [bx wm b1 [.slice pa0_0 p0.in_.length pc0_0, .slice pa0_1 p0.boxes.length pc0_1, .slice pa0_2 p0.entries.length pc0_2, .slice pa0_3 p0.held.length pc0_3, .slice pa0_4 p0.wire.length pc0_4, .int .i64 p0.said], bx wm b3 [.slice pa1_0 p1.in_.length pc1_0, .slice pa1_1 p1.boxes.length pc1_1, .slice pa1_2 p1.entries.length pc1_2, .slice pa1_3 p1.held.length pc1_3, .slice pa1_4 p1.wire.length pc1_4, .int .i64 p1.said]] h48 ∧ fr49.at 2 = .pointer (some ⟨b1, 0, none⟩) ∧ fr49.at 3 = .pointer (some ⟨b3, 0, none⟩) ∧ fr49.at 6 = .int .i64 v30 ∧ fr49.at 83 = .int .i64 (p0.entries.length : Int) ∧ fr49.at 84 = .int .i64 v30 ∧ fr49.at 105 = .int .i64 (x43.length : Int) ∧ fr49.at 106 = .int .i64 v56) ⟨_, _, rfl, hS.only (.c k0 (.c k0 .n)), las⟩ ?_)
         clear hL hS
         rintro next58 v56 s hnext58 hL ⟨fr49, h48, rfl, hS, e50, e51, e52, e53, e54, e55, e57⟩
         dsimp only [f18_b2] at hL
         refine r6 ?_
         refine cn hL ?_ ?_
         · intro hc hL
           refine r8 ?_
           refine r3 ?_
           refine WC.drawX mixed (by kernel_rfl) ?_
           refine r3 ?_
           obtain ⟨x59, hx59, hL⟩ := bind_some hL
           obtain ⟨b60, o61, ⟨a62, c63⟩, hab60, hAb60, hBb60, hFb60⟩ := Sl.at_ hsp0_2 hx59
           refine WX.w gN rfl (av_ixn und25 size64 lk lk rfl hab60 hx59) ?_ rfl
           have hsa62 : Sl rFerryEntry wm h a62 c63 x59 := hFb60
           refine WX.w gN rfl (av_ld agg64 (evT fh rfl) (At.fz hS.fz hBb60 hAb60) (j := 0) rfl (v := .slice a62 x59.length c63) rfl) ?_ rfl
           refine r1 ?_
           obtain ⟨x64, hx64, hL⟩ := bind_some hL
           obtain ⟨b65, o66, _, hab65, hAb65, hBb65, hFb65⟩ := Sl.at_ hsa62 hx64
           refine WX.w gN rfl (av_ixn und64 size63 lk lk rfl hab65 hx64) ?_ rfl
           refine WX.w gN rfl (av_ldA agg63 size63 (evT fh rfl) (At.fz hS.fz hBb65 hAb65) (j := 0) rfl rfl (ws := [.bool x64.here, .int .i64 x64.to_, .int .i64 x64.age]) rfl) ?_ rfl
           refine r3 ?_
           obtain ⟨x67, hx67, hL⟩ := bind_some hL
           obtain ⟨b68, o69, ⟨a70, c71⟩, hab68, hAb68, hBb68, hFb68⟩ := Sl.at_ hsp1_2 hx67
           refine WX.w gN rfl (av_ixn und25 size64 lk lk rfl hab68 hx67) ?_ rfl
           have hsa70 : Sl rFerryEntry wm h a70 c71 x67 := hFb68
           refine WX.w gN rfl (av_ld agg64 (evT fh rfl) (At.fz hS.fz hBb68 hAb68) (j := 0) rfl (v := .slice a70 x67.length c71) rfl) ?_ rfl
           refine r1 ?_
           obtain ⟨x72, hx72, hL⟩ := bind_some hL
           obtain ⟨b73, o74, _, hab73, hAb73, hBb73, hFb73⟩ := Sl.at_ hsa70 hx72
           refine WX.w gN rfl (av_ixn und64 size63 lk lk rfl hab73 hx72) ?_ rfl
           refine WX.w gN rfl (av_ldA agg63 size63 (evT fh rfl) (At.fz hS.fz hBb73 hAb73) (j := 0) rfl rfl (ws := [.bool x72.here, .int .i64 x72.to_, .int .i64 x72.age]) rfl) ?_ rfl
           refine WX.w gN rfl (av_bin (evT (fs8 rfl fh) rfl) (evT fh rfl) (abin_neS (xs := [.bool x64.here, .int .i64 x64.to_, .int .i64 x64.age]) (ys := [.bool x72.here, .int .i64 x72.to_, .int .i64 x72.age]) (eqs63 x64 x72) rfl rfl)) ?_ rfl
           refine r2 ?_
           refine cn hL ?_ ?_
           · intro hc hL
             refine r12 ?_
             refine r3 ?_
             exact rt hL hT hS
           · intro hc hL
             refine r6 ?_
             refine r1 ?_
             exact LoopK.nrm (hnext58 _ _ hL ⟨_, _, rfl, hS.only (.c k0 (.c k0 .n)), las⟩)
         · intro hc hL
           refine r8 ?_
           refine r2 ?_
           exact LoopK.nrm (hnext32 _ _ hL ⟨_, _, rfl, hS.only (.c k0 (.c k0 .n)), las⟩)
     · intro hc hL
       refine r12 ?_
       refine r3 ?_
       refine WC.loop (WL.lift hL (fun (v80 : Int) (s : Fs) => ∃ (fr76 : Fr) (h75 : H), s = ⟨fr76, [], h75, none⟩ ∧ Sp wm T h [bx wm b1 [.slice pa0_0 p0.in_.length pc0_0, .slice pa0_1 p0.boxes.length pc0_1, .slice pa0_2 p0.entries.length pc0_2, .slice pa0_3 p0.held.length pc0_3, .slice pa0_4 p0.wire.length pc0_4, .int .i64 p0.said], bx wm b3 [.slice pa1_0 p1.in_.length pc1_0, .slice pa1_1 p1.boxes.length pc1_1, .slice pa1_2 p1.entries.length pc1_2, .slice pa1_3 p1.held.length pc1_3, .slice pa1_4 p1.wire.length pc1_4, .int .i64 p1.said]] h75 ∧ fr76.at 2 = .pointer (some ⟨b1, 0, none⟩) ∧ fr76.at 3 = .pointer (some ⟨b3, 0, none⟩) ∧ fr76.at 130 = .int .i64 (p0.held.length : Int) ∧ fr76.at 131 = .int .i64 v80) ⟨_, _, rfl, hS.only (.c k0 (.c k0 .n)), las⟩ ?_)
       clear hL hS
       rintro next82 v80 s hnext82 hL ⟨fr76, h75, rfl, hS, e77, e78, e79, e81⟩
       dsimp only [f18_b3] at hL
       refine r6 ?_
       refine cn hL ?_ ?_
       · intro hc hL
         refine r12 ?_
         refine WC.drawX mixed (by kernel_rfl) ?_
         refine r3 ?_
         obtain ⟨x83, hx83, hL⟩ := bind_some hL
         obtain ⟨b84, o85, ⟨a86, c87⟩, hab84, hAb84, hBb84, hFb84⟩ := Sl.at_ hsp0_3 hx83
         refine WX.w gN rfl (av_ixn und26 size90 lk lk rfl hab84 hx83) ?_ rfl
         have hsa86 : Sl rFerryMail wm h a86 c87 x83 := hFb84
         refine WX.w gN rfl (av_ld agg90 (evT fh rfl) (At.fz hS.fz hBb84 hAb84) (j := 0) rfl (v := .slice a86 x83.length c87) rfl) ?_ rfl
         refine r4 ?_
         obtain ⟨x88, hx88, hL⟩ := bind_some hL
         obtain ⟨b89, o90, ⟨a91, c92⟩, hab89, hAb89, hBb89, hFb89⟩ := Sl.at_ hsp1_3 hx88
         refine WX.w gN rfl (av_ixn und26 size90 lk lk rfl hab89 hx88) ?_ rfl
         have hsa91 : Sl rFerryMail wm h a91 c92 x88 := hFb89
         refine WX.w gN rfl (av_ld agg90 (evT fh rfl) (At.fz hS.fz hBb89 hAb89) (j := 0) rfl (v := .slice a91 x88.length c92) rfl) ?_ rfl
         refine r4 ?_
         refine cn hL ?_ ?_
         · intro hc hL
           refine r12 ?_
           exact rt hL hT hS
         · intro hc hL
           refine r6 ?_
           refine r1 ?_
           obtain ⟨x93, hx93, hL⟩ := bind_some hL
           obtain ⟨b94, o95, ⟨a96, c97⟩, hab94, hAb94, hBb94, hFb94⟩ := Sl.at_ hsp0_3 hx93
           refine WO.w gN rfl (av_ixn und26 size90 lk lk rfl hab94 hx93) ?_
           have hsa96 : Sl rFerryMail wm h a96 c97 x93 := hFb94
           refine WO.w gN rfl (av_ld agg90 (evT fh rfl) (At.fz hS.fz hBb94 hAb94) (j := 0) rfl (v := .slice a96 x93.length c97) rfl) ?_
           refine r4 ?_
           refine r1 ?_
           refine WC.loop (WL.lift hL (fun (v106 : Int) (s : Fs) => ∃ (fr99 : Fr) (h98 : H), s = ⟨fr99, [], h98, none⟩ ∧ Sp wm T h [bx wm b1 [.slice pa0_0 p0.in_.length pc0_0, .slice pa0_1 p0.boxes.length pc0_1, .slice pa0_2 p0.entries.length pc0_2, .slice pa0_3 p0.held.length pc0_3, .slice pa0_4 p0.wire.length pc0_4, .int .i64 p0.said], bx wm b3 [.slice pa1_0 p1.in_.length pc1_0, .slice pa1_1 p1.boxes.length pc1_1, .slice pa1_2 p1.entries.length pc1_2, .slice pa1_3 p1.held.length pc1_3, .slice pa1_4 p1.wire.length pc1_4, .int .i64 p1.said]] h98 ∧ fr99.at 2 = .pointer (some ⟨b1, 0, none⟩) ∧ fr99.at 3 = .pointer (some ⟨b3, 0, none⟩) ∧ fr99.at 8 = .int .i64 v80 ∧ fr99.at 130 = .int .i64 (p0.held.length : Int) ∧ fr99.at 131 = .int .i64 v80 ∧ fr99.at 152 = .int .i64 (x93.length : Int) ∧ fr99.at 153 = .int .i64 v106) ⟨_, _, rfl, hS.only (.c k0 (.c k0 .n)), las⟩ ?_)
           clear hL hS
           rintro next108 v106 s hnext108 hL ⟨fr99, h98, rfl, hS, e100, e101, e102, e103, e104, e105, e107⟩
           dsimp only [f18_b4] at hL
           refine r6 ?_
           refine cn hL ?_ ?_
           · intro hc hL
             refine r8 ?_
             refine r3 ?_
             refine WC.drawX mixed (by kernel_rfl) ?_
             refine r3 ?_
             obtain ⟨x109, hx109, hL⟩ := bind_some hL
             obtain ⟨b110, o111, ⟨a112, c113⟩, hab110, hAb110, hBb110, hFb110⟩ := Sl.at_ hsp0_3 hx109
             refine WX.w gN rfl (av_ixn und26 size90 lk lk rfl hab110 hx109) ?_ rfl
             have hsa112 : Sl rFerryMail wm h a112 c113 x109 := hFb110
             refine WX.w gN rfl (av_ld agg90 (evT fh rfl) (At.fz hS.fz hBb110 hAb110) (j := 0) rfl (v := .slice a112 x109.length c113) rfl) ?_ rfl
             refine r1 ?_
             obtain ⟨x114, hx114, hL⟩ := bind_some hL
             obtain ⟨b115, o116, _, hab115, hAb115, hBb115, hFb115⟩ := Sl.at_ hsa112 hx114
             refine WX.w gN rfl (av_ixn und90 size92 lk lk rfl hab115 hx114) ?_ rfl
             refine WX.w gN rfl (av_ldA agg92 size92 (evT fh rfl) (At.fz hS.fz hBb115 hAb115) (j := 0) rfl rfl (ws := [.int .i64 x114.msg, .int .i64 x114.place, .int .i64 x114.from_, .int .i64 x114.age, .int .i64 x114.hops]) rfl) ?_ rfl
             refine r3 ?_
             obtain ⟨x117, hx117, hL⟩ := bind_some hL
             obtain ⟨b118, o119, ⟨a120, c121⟩, hab118, hAb118, hBb118, hFb118⟩ := Sl.at_ hsp1_3 hx117
             refine WX.w gN rfl (av_ixn und26 size90 lk lk rfl hab118 hx117) ?_ rfl
             have hsa120 : Sl rFerryMail wm h a120 c121 x117 := hFb118
             refine WX.w gN rfl (av_ld agg90 (evT fh rfl) (At.fz hS.fz hBb118 hAb118) (j := 0) rfl (v := .slice a120 x117.length c121) rfl) ?_ rfl
             refine r1 ?_
             obtain ⟨x122, hx122, hL⟩ := bind_some hL
             obtain ⟨b123, o124, _, hab123, hAb123, hBb123, hFb123⟩ := Sl.at_ hsa120 hx122
             refine WX.w gN rfl (av_ixn und90 size92 lk lk rfl hab123 hx122) ?_ rfl
             refine WX.w gN rfl (av_ldA agg92 size92 (evT fh rfl) (At.fz hS.fz hBb123 hAb123) (j := 0) rfl rfl (ws := [.int .i64 x122.msg, .int .i64 x122.place, .int .i64 x122.from_, .int .i64 x122.age, .int .i64 x122.hops]) rfl) ?_ rfl
             refine WX.w gN rfl (av_bin (evT (fs8 rfl fh) rfl) (evT fh rfl) (abin_neS (xs := [.int .i64 x114.msg, .int .i64 x114.place, .int .i64 x114.from_, .int .i64 x114.age, .int .i64 x114.hops]) (ys := [.int .i64 x122.msg, .int .i64 x122.place, .int .i64 x122.from_, .int .i64 x122.age, .int .i64 x122.hops]) (eqs92 x114 x122) rfl rfl)) ?_ rfl
             refine r2 ?_
             refine cn hL ?_ ?_
             · intro hc hL
               refine r12 ?_
               refine r3 ?_
               exact rt hL hT hS
             · intro hc hL
               refine r6 ?_
               refine r1 ?_
               exact LoopK.nrm (hnext108 _ _ hL ⟨_, _, rfl, hS.only (.c k0 (.c k0 .n)), las⟩)
           · intro hc hL
             refine r8 ?_
             refine r2 ?_
             exact LoopK.nrm (hnext82 _ _ hL ⟨_, _, rfl, hS.only (.c k0 (.c k0 .n)), las⟩)
       · intro hc hL
         refine r12 ?_
         refine r3 ?_
         refine WC.loop (WL.lift hL (fun (v130 : Int) (s : Fs) => ∃ (fr126 : Fr) (h125 : H), s = ⟨fr126, [], h125, none⟩ ∧ Sp wm T h [bx wm b3 [.slice pa1_0 p1.in_.length pc1_0, .slice pa1_1 p1.boxes.length pc1_1, .slice pa1_2 p1.entries.length pc1_2, .slice pa1_3 p1.held.length pc1_3, .slice pa1_4 p1.wire.length pc1_4, .int .i64 p1.said]] h125 ∧ fr126.at 3 = .pointer (some ⟨b3, 0, none⟩) ∧ fr126.at 176 = .slice pa0_4 p0.wire.length pc0_4 ∧ fr126.at 177 = .int .i64 (p0.wire.length : Int) ∧ fr126.at 178 = .int .i64 v130) ⟨_, _, rfl, hS.only (.c k1 .n), las⟩ ?_)
         clear hL hS
         rintro next132 v130 s hnext132 hL ⟨fr126, h125, rfl, hS, e127, e128, e129, e131⟩
         dsimp only [f18_b5] at hL
         refine r6 ?_
         refine cn hL ?_ ?_
         · intro hc hL
           refine r6 ?_
           refine r1 ?_
           obtain ⟨x133, hx133, hL⟩ := bind_some hL
           obtain ⟨b134, o135, ⟨⟨a136, c137⟩, ⟨a138, c139⟩⟩, hab134, hAb134, hBb134, hFb134⟩ := Sl.at_ hsp0_4 hx133
           refine WO.w gN rfl (av_ixn und27 size95 lk lk rfl hab134 hx133) ?_
           have hsa136 : Sl (rInt .i64) wm h a136 c137 x133.places := hFb134.1
           have hsa138 : Sl (rInt .i64) wm h a138 c139 x133.ages := hFb134.2
           refine WO.w gN rfl (av_ldA agg95 size95 (evT fh rfl) (At.fz hS.fz hBb134 hAb134) (j := 0) rfl rfl (ws := [.int .i64 x133.kind, .int .i64 x133.to_, .int .i64 x133.mail.msg, .int .i64 x133.mail.place, .int .i64 x133.mail.from_, .int .i64 x133.mail.age, .int .i64 x133.mail.hops, .slice a136 x133.places.length c137, .slice a138 x133.ages.length c139, .int .i64 x133.place, .int .i64 x133.at_, .int .i64 x133.age]) rfl) ?_
           refine r1 ?_
           rintro _ h141 ⟨b140, eb140, rfl, hS⟩
           refine r2 ?_
           rintro h142 hS
           refine r6 ?_
           refine r1 ?_
           obtain ⟨x143, hx143, hL⟩ := bind_some hL
           obtain ⟨b144, o145, ⟨⟨a146, c147⟩, ⟨a148, c149⟩⟩, hab144, hAb144, hBb144, hFb144⟩ := Sl.at_ hsp1_4 hx143
           refine WO.w gN rfl (av_ixn und27 size95 lk lk rfl hab144 hx143) ?_
           have hsa146 : Sl (rInt .i64) wm h a146 c147 x143.places := hFb144.1
           have hsa148 : Sl (rInt .i64) wm h a148 c149 x143.ages := hFb144.2
           refine WO.w gN rfl (av_ldA agg95 size95 (evT fh rfl) (At.fz hS.fz hBb144 hAb144) (j := 0) rfl rfl (ws := [.int .i64 x143.kind, .int .i64 x143.to_, .int .i64 x143.mail.msg, .int .i64 x143.mail.place, .int .i64 x143.mail.from_, .int .i64 x143.mail.age, .int .i64 x143.mail.hops, .slice a146 x143.places.length c147, .slice a148 x143.ages.length c149, .int .i64 x143.place, .int .i64 x143.at_, .int .i64 x143.age]) rfl) ?_
           refine r1 ?_
           rintro _ h151 ⟨b150, eb150, rfl, hS⟩
           refine r1 ?_
           rintro h152 hS
           refine r16 ?_
           refine r4 ?_
           refine r1 ?_
           refine WO.gv (GuardIs.no rfl rfl rfl (fs4 rfl fh)) rfl (fun hg => (av_bin (evG (fs2 rfl fh) rfl hg) (evG fh rfl hg) (abin_neS (xs := [.int .i64 x133.mail.msg, .int .i64 x133.mail.place, .int .i64 x133.mail.from_, .int .i64 x133.mail.age, .int .i64 x133.mail.hops]) (ys := [.int .i64 x143.mail.msg, .int .i64 x143.mail.place, .int .i64 x143.mail.from_, .int .i64 x143.mail.age, .int .i64 x143.mail.hops]) (eqs92 x133.mail x143.mail) rfl rfl))) ?_
           refine r6 ?_
           obtain ⟨x153, hx153, hL⟩ := gd_some hL
           refine WO.gcp (GuardIs.no rfl rfl rfl (fs4 rfl fh)) rfl (fun hg => (Ent.fn has27 (evs_cons (evG (fs2 rfl fh) rfl hg) (evs_cons (evG fh rfl hg) evs_nil)))) (fun hg => f27_ok (hS.slu hsa136) (hS.slu hsa146) (hx153 hg)) ?_
           refine r6 ?_
           refine r1 ?_
           obtain ⟨x154, hx154, hL⟩ := gd_some hL
           refine WO.gcp (GuardIs.no rfl rfl rfl (fs4 rfl fh)) rfl (fun hg => (Ent.fn has27 (evs_cons (evG (fs2 rfl fh) rfl hg) (evs_cons (evG fh rfl hg) evs_nil)))) (fun hg => f27_ok (hS.slu hsa138) (hS.slu hsa148) (hx154 hg)) ?_
           refine r16 ?_
           refine r8 ?_
           refine r1 ?_
           refine cn hL ?_ ?_
           · intro hc hL
             refine r8 ?_
             refine r3 ?_
             exact rt hL hT hS
           · intro hc hL
             refine r6 ?_
             refine r1 ?_
             exact LoopK.nrm (hnext132 _ _ hL ⟨_, _, rfl, hS.only (.c k2 .n), las⟩)
         · intro hc hL
           refine r8 ?_
           refine r3 ?_
           exact rt hL hT hS
theorem f18_ok {F : Nat} {h : H} {p0 : FerryWorld} {p1 : FerryWorld} {pa0_0 : Option Addr} {pc0_0 : Nat} {pa0_1 : Option Addr} {pc0_1 : Nat} {pa0_2 : Option Addr} {pc0_2 : Nat} {pa0_3 : Option Addr} {pc0_3 : Nat} {pa0_4 : Option Addr} {pc0_4 : Nat} {pa1_0 : Option Addr} {pc1_0 : Nat} {pa1_1 : Option Addr} {pc1_1 : Nat} {pa1_2 : Option Addr} {pc1_2 : Nat} {pa1_3 : Option Addr} {pc1_3 : Nat} {pa1_4 : Option Addr} {pc1_4 : Nat} {r : Bool} (hsp0_0 : Sl (rInt .i64) h.size h pa0_0 pc0_0 p0.in_) (hsp0_1 : Sl (rSl (rInt .i64)) h.size h pa0_1 pc0_1 p0.boxes) (hsp0_2 : Sl (rSl rFerryEntry) h.size h pa0_2 pc0_2 p0.entries) (hsp0_3 : Sl (rSl rFerryMail) h.size h pa0_3 pc0_3 p0.held) (hsp0_4 : Sl rFerryLetter h.size h pa0_4 pc0_4 p0.wire) (hsp1_0 : Sl (rInt .i64) h.size h pa1_0 pc1_0 p1.in_) (hsp1_1 : Sl (rSl (rInt .i64)) h.size h pa1_1 pc1_1 p1.boxes) (hsp1_2 : Sl (rSl rFerryEntry) h.size h pa1_2 pc1_2 p1.entries) (hsp1_3 : Sl (rSl rFerryMail) h.size h pa1_3 pc1_3 p1.held) (hsp1_4 : Sl rFerryLetter h.size h pa1_4 pc1_4 p1.wire) (hL : f18L F p0 p1 = some r) : Pure XX 18 #[.agg [.slice pa0_0 p0.in_.length pc0_0, .slice pa0_1 p0.boxes.length pc0_1, .slice pa0_2 p0.entries.length pc0_2, .slice pa0_3 p0.held.length pc0_3, .slice pa0_4 p0.wire.length pc0_4, .int .i64 p0.said].toArray, .agg [.slice pa1_0 p1.in_.length pc1_0, .slice pa1_1 p1.boxes.length pc1_1, .slice pa1_2 p1.entries.length pc1_2, .slice pa1_3 p1.held.length pc1_3, .slice pa1_4 p1.wire.length pc1_4, .int .i64 p1.said].toArray] h (.bool r) :=
 WR.pureC rfl (f18_wf (Nat.le_refl _) hsp0_0 hsp0_1 hsp0_2 hsp0_3 hsp0_4 hsp1_0 hsp1_1 hsp1_2 hsp1_3 hsp1_4 hL)
end Go.Proofs.YtbmbbcaaimehkaaGreat
end
end
section
set_option linter.unusedVariables false
set_option linter.unusedSimpArgs false
namespace Go.Proofs.YtbmbbcaaimehkaaGreat
open Go.Lf
end Go.Proofs.YtbmbbcaaimehkaaGreat
end
section
set_option linter.unusedVariables false
set_option linter.unusedSimpArgs false
set_option maxRecDepth 20000
noncomputable section
namespace Go.Proofs.YtbmbbcaaimehkaaGreat
open Go.Abs Go.Lf
end Go.Proofs.YtbmbbcaaimehkaaGreat
end
end
section
set_option linter.unusedVariables false
set_option linter.unusedSimpArgs false
namespace Go.Proofs.YtbmbbcaaimehkaaGreat
open Go.Lf
end Go.Proofs.YtbmbbcaaimehkaaGreat
end
section
set_option linter.unusedVariables false
set_option linter.unusedSimpArgs false
set_option maxRecDepth 20000
noncomputable section
namespace Go.Proofs.YtbmbbcaaimehkaaGreat
open Go.Abs Go.Lf
end Go.Proofs.YtbmbbcaaimehkaaGreat
end
end
section
set_option linter.unusedVariables false
set_option linter.unusedSimpArgs false
namespace Go.Proofs.YtbmbbcaaimehkaaGreat
open Go.Lf
end Go.Proofs.YtbmbbcaaimehkaaGreat
end
section
set_option linter.unusedVariables false
set_option linter.unusedSimpArgs false
set_option maxRecDepth 20000
noncomputable section
namespace Go.Proofs.YtbmbbcaaimehkaaGreat
open Go.Abs Go.Lf
end Go.Proofs.YtbmbbcaaimehkaaGreat
end
end
section
set_option linter.unusedVariables false
set_option linter.unusedSimpArgs false
namespace Go.Proofs.YtbmbbcaaimehkaaGreat
open Go.Lf
def f17L (F : Nat) (p0 : FerryWorld) : Option Bool :=
  (f18L F p0 (FerryWorld.mk [] [] [] [] [] 0)).bind fun x3 => some x3
end Go.Proofs.YtbmbbcaaimehkaaGreat
end
section
set_option linter.unusedVariables false
set_option linter.unusedSimpArgs false
set_option maxRecDepth 20000
noncomputable section
namespace Go.Proofs.YtbmbbcaaimehkaaGreat
open Go.Abs Go.Lf
theorem f17_wf {F : Nat} {wm : Nat} {h : H} {p0 : FerryWorld} {pa0_0 : Option Addr} {pc0_0 : Nat} {pa0_1 : Option Addr} {pc0_1 : Nat} {pa0_2 : Option Addr} {pc0_2 : Nat} {pa0_3 : Option Addr} {pc0_3 : Nat} {pa0_4 : Option Addr} {pc0_4 : Nat} {r : Bool} (hwm : wm ≤ h.size) (hsp0_0 : Sl (rInt .i64) wm h pa0_0 pc0_0 p0.in_) (hsp0_1 : Sl (rSl (rInt .i64)) wm h pa0_1 pc0_1 p0.boxes) (hsp0_2 : Sl (rSl rFerryEntry) wm h pa0_2 pc0_2 p0.entries) (hsp0_3 : Sl (rSl rFerryMail) wm h pa0_3 pc0_3 p0.held) (hsp0_4 : Sl rFerryLetter wm h pa0_4 pc0_4 p0.wire) (hL : f17L F p0 = some r) :
    WR XX 17 #[.agg [.slice pa0_0 p0.in_.length pc0_0, .slice pa0_1 p0.boxes.length pc0_1, .slice pa0_2 p0.entries.length pc0_2, .slice pa0_3 p0.held.length pc0_3, .slice pa0_4 p0.wire.length pc0_4, .int .i64 p0.said].toArray] wm h (CP (fun (v : Value) (Gb : List (Ast wm)) => v = .bool r ∧ Gb = []) [] h) := by
 refine bg Tryz.ntmps17 hwm Hold.nil ?_
 intro T hT hS
 unfold f17L at hL
 refine r3 ?_
 rintro _ h2 ⟨b1, eb1, rfl, hS⟩
 refine r6 ?_
 refine WO.w gN rfl (av_bld bld29 evp_nil rfl (cs' := [.slice none 0 0, .slice none 0 0, .slice none 0 0, .slice none 0 0, .slice none 0 0, .int .i64 0]) rfl) ?_
 obtain ⟨x3, hx3, hL⟩ := bind_some hL
 refine WO.cp gN rfl (Ent.fn has18 (evs_cons (evT (fskip rfl fh) rfl) (evs_cons (evT fh rfl) evs_nil))) (f18_ok (p1 := (FerryWorld.mk [] [] [] [] [] 0)) (hS.slu hsp0_0) (hS.slu hsp0_1) (hS.slu hsp0_2) (hS.slu hsp0_3) (hS.slu hsp0_4) Sl.nil Sl.nil Sl.nil Sl.nil Sl.nil hx3) ?_
 refine r4 ?_
 exact rt hL hT hS
theorem f17_ok {F : Nat} {h : H} {p0 : FerryWorld} {pa0_0 : Option Addr} {pc0_0 : Nat} {pa0_1 : Option Addr} {pc0_1 : Nat} {pa0_2 : Option Addr} {pc0_2 : Nat} {pa0_3 : Option Addr} {pc0_3 : Nat} {pa0_4 : Option Addr} {pc0_4 : Nat} {r : Bool} (hsp0_0 : Sl (rInt .i64) h.size h pa0_0 pc0_0 p0.in_) (hsp0_1 : Sl (rSl (rInt .i64)) h.size h pa0_1 pc0_1 p0.boxes) (hsp0_2 : Sl (rSl rFerryEntry) h.size h pa0_2 pc0_2 p0.entries) (hsp0_3 : Sl (rSl rFerryMail) h.size h pa0_3 pc0_3 p0.held) (hsp0_4 : Sl rFerryLetter h.size h pa0_4 pc0_4 p0.wire) (hL : f17L F p0 = some r) : Pure XX 17 #[.agg [.slice pa0_0 p0.in_.length pc0_0, .slice pa0_1 p0.boxes.length pc0_1, .slice pa0_2 p0.entries.length pc0_2, .slice pa0_3 p0.held.length pc0_3, .slice pa0_4 p0.wire.length pc0_4, .int .i64 p0.said].toArray] h (.bool r) :=
 WR.pureC rfl (f17_wf (Nat.le_refl _) hsp0_0 hsp0_1 hsp0_2 hsp0_3 hsp0_4 hL)
end Go.Proofs.YtbmbbcaaimehkaaGreat
end
end
section
set_option linter.unusedVariables false
set_option linter.unusedSimpArgs false
namespace Go.Proofs.YtbmbbcaaimehkaaGreat
open Go.Lf
end Go.Proofs.YtbmbbcaaimehkaaGreat
end
section
set_option linter.unusedVariables false
set_option linter.unusedSimpArgs false
set_option maxRecDepth 20000
noncomputable section
namespace Go.Proofs.YtbmbbcaaimehkaaGreat
open Go.Abs Go.Lf
end Go.Proofs.YtbmbbcaaimehkaaGreat
end
end
section
set_option linter.unusedVariables false
set_option linter.unusedSimpArgs false
namespace Go.Proofs.YtbmbbcaaimehkaaGreat
open Go.Lf
end Go.Proofs.YtbmbbcaaimehkaaGreat
end
section
set_option linter.unusedVariables false
set_option linter.unusedSimpArgs false
set_option maxRecDepth 20000
noncomputable section
namespace Go.Proofs.YtbmbbcaaimehkaaGreat
open Go.Abs Go.Lf
end Go.Proofs.YtbmbbcaaimehkaaGreat
end
end
