/- Judges Part 9 of the proof. -/
import Derived.Shelf.Sort.Plain
import Derived.Test.YtcnahmgekicbdaaGreatJa8
set_option linter.all false
set_option maxHeartbeats 2000000
section
noncomputable section
namespace Go.Abs
open Go.Lf
variable {X : Ctx} {f : FuncId} {wm wm0 : Nat} {h : H} {i o c : Nat} {cs : List Value} {xs : List Int}
end Go.Abs
end
end
section
set_option maxRecDepth 100000
noncomputable section
namespace Go.Proofs.YtcnahmgekicbdaaGreat
open Go.Abs Go.Lf
end Go.Proofs.YtcnahmgekicbdaaGreat
end
end
section
set_option linter.unusedVariables false
set_option linter.unusedSimpArgs false
namespace Go.Proofs.YtcnahmgekicbdaaGreat
open Go.Lf
def f27_j0 (v9 : Int) (next11 : (Int → Option Bool)) : Unit → Option Bool := fun _ =>
  next11 (w64 (v9 + 1))
def f27_j3 (v9 : Int) (next11 : (Int → Option Bool)) (x19 : TollEvent) : Bool → Option Bool := fun v58 =>
  (bif v58 then (bif ((x19.other != 0) || (x19.n != 0)) then some false else (f27_j0 v9 next11) ()) else some false)
def f27_j2 (p0 : TollSetup) (v9 : Int) (next11 : (Int → Option Bool)) (x19 : TollEvent) : Bool → Option Bool := fun v47 =>
  (bif v47 then (f33L p0 x19.other).bind fun x49 => (bif ((!x49) || (x19.n != 0)) then some false else (f27_j0 v9 next11) ()) else (bif (x19.deed == 5) then (f27_j3 v9 next11 x19) (x19.deed == 5) else (f27_j3 v9 next11 x19) (x19.deed == 6)))
def f27_j1 (p0 : TollSetup) (v9 : Int) (next11 : (Int → Option Bool)) (x19 : TollEvent) : Bool → Option Bool := fun v35 =>
  (bif v35 then (f33L p0 x19.other).bind fun x37 => (bif (!x37) then some false else (f27_j0 v9 next11) ()) else (bif (x19.deed == 3) then (f27_j2 p0 v9 next11 x19) (x19.deed == 3) else (f27_j2 p0 v9 next11 x19) (x19.deed == 4)))
def f27_b0 (p0 : TollSetup) (p1 : (List TollEvent)) : Int → (Int → Option Bool) → Option Bool := fun v9 next11 =>
  (bif decide (v9 < (p1.length : Int)) then (geti p1 v9).bind fun x19 => (f33L p0 x19.place).bind fun x25 => (bif ((!x25) || (decide (x19.n < 0))) then some false else (bif (x19.deed == 1) then (f27_j1 p0 v9 next11 x19) (x19.deed == 1) else (f27_j1 p0 v9 next11 x19) (x19.deed == 2))) else some (decide ((p1.length : Int) ≤ 400)))
def f27L (F : Nat) (p0 : TollSetup) (p1 : (List TollEvent)) : Option Bool :=
  loop F (f27_b0 p0 p1) 0
def f31_b0 (p2 : Int) (x3 : (List Int)) : Int → (Int → Option Bool) → Option Bool := fun v14 next16 =>
  (bif decide (v14 < (x3.length : Int)) then (geti x3 v14).bind fun x17 => (bif (x17 == p2) then some true else next16 (w64 (v14 + 1))) else some false)
def f31L (F : Nat) (p0 : TollSetup) (p1 : Int) (p2 : Int) : Option Bool :=
  (bif (p1 == p2) then some true else (f38L F p0 p1).bind fun x3 => loop F (f31_b0 p2 x3) 0)
def f34_j0 (v28 : Int) (next32 : (Int × Int → Option Int)) : Int × Int × Bool → Option Int := fun (v47, v48, sp49) =>
  (bif sp49 then some v47 else next32 (w64 (v28 + 1), v47))
def f34_b2 (p0 : TollSetup) (v28 : Int) (next32 : (Int × Int → Option Int)) : Int × Int × Int × Bool → (Int × Int × Int × Bool → Option Int) → Option Int := fun (v62, v64, v65, sp66) next67 =>
  (bif decide (v62 ≥ 0) then (bif sp66 then none else (bif decide ((w64 (v65 + 1)) > (p0.spots.length : Int)) then (bif (!false) then (f34_j0 v28 next32) (2, w64 (v65 + 1), true) else (geti p0.spots v62).bind fun x73 => next67 (x73.in_, 2, w64 (v65 + 1), true)) else (bif (!true) then (f34_j0 v28 next32) (v64, w64 (v65 + 1), false) else (geti p0.spots v62).bind fun x77 => next67 (x77.in_, v64, w64 (v65 + 1), false)))) else (f34_j0 v28 next32) (v64, v65, sp66))
def f34_b1 (F : Nat) (p0 : TollSetup) : Int × Int → (Int × Int → Option Int) → Option Int := fun (v28, v30) next32 =>
  (bif decide (v28 < (p0.spots.length : Int)) then (geti p0.spots v28).bind fun x55 => loop F (f34_b2 p0 v28 next32) (x55.in_, v30, 0, false) else some 0)
def f34_b0 (F : Nat) (p0 : TollSetup) : Int → (Int → Option Int) → Option Int := fun v12 next14 =>
  (bif decide (v12 < (p0.spots.length : Int)) then (geti p0.spots v12).bind fun x15 => (gd ((!((decide (x15.at_ < 0)) || (decide (x15.at_ ≥ p0.machines)))) && (x15.in_ != (-1))) (f54L p0 x15.in_) default).bind fun x21 => (bif (((decide (x15.at_ < 0)) || (decide (x15.at_ ≥ p0.machines))) || ((x15.in_ != (-1)) && (!x21))) then some 2 else next14 (w64 (v12 + 1))) else loop F (f34_b1 F p0) (0, 0))
def f34L (F : Nat) (p0 : TollSetup) : Option Int :=
  (bif ((((decide (p0.machines < 1)) || (decide (p0.machines > 4))) || (decide ((p0.spots.length : Int) < 1))) || (decide ((p0.spots.length : Int) > 8))) then some 2 else loop F (f34_b0 F p0) 0)
def f36_j0 : (List Int) → Option ((List Int) × Int) := fun v18 =>
  some (v18, 0)
def f36_b0 (p0 : TollSetup) : Int × (List Int) → (Int × (List Int) → Option ((List Int) × Int)) → Option ((List Int) × Int) := fun (v31, v33) next37 =>
  (bif decide (v31 ≥ 0) then (app 8 v33 [v31]).bind fun z41 => (bif (!true) then (f36_j0) z41 else (geti p0.spots v31).bind fun x47 => next37 (x47.in_, z41)) else (f36_j0) v33)
def f36L (F : Nat) (p0 : TollSetup) (p1 : Int) : Option ((List Int) × Int) :=
  (f34L F p0).bind fun x3 => (gd (!(x3 != 0)) (f54L p0 p1) default).bind fun x4 => (bif ((x3 != 0) || (!x4)) then some ([], 2) else (geti p0.spots p1).bind fun x24 => loop F (f36_b0 p0) (x24.in_, []))
end Go.Proofs.YtcnahmgekicbdaaGreat
end
section
set_option linter.unusedVariables false
set_option linter.unusedSimpArgs false
set_option maxRecDepth 20000
noncomputable section
namespace Go.Proofs.YtcnahmgekicbdaaGreat
open Go.Abs Go.Lf
theorem f27_wf {F : Nat} {wm : Nat} {h : H} {p0 : TollSetup} {p1 : (List TollEvent)} {pa0_0 : Option Addr} {pc0_0 : Nat} {pa1_0 : Option Addr} {pc1_0 : Nat} {r : Bool} (hwm : wm ≤ h.size) (hsp0_0 : Sl rTollSpot wm h pa0_0 pc0_0 p0.spots) (hsp1_0 : Sl rTollEvent wm h pa1_0 pc1_0 p1) (hL : f27L F p0 p1 = some r) :
    WR XX 27 #[.agg [.int .i64 p0.machines, .slice pa0_0 p0.spots.length pc0_0].toArray, .slice pa1_0 p1.length pc1_0] wm h (CP (fun (v : Value) (Gb : List (Ast wm)) => v = .bool r ∧ Gb = []) [] h) := by
 refine bg Tryz.ntmps27 hwm Hold.nil ?_
 intro T hT hS
 unfold f27L at hL
 refine r3 ?_
 rintro _ h2 ⟨b1, eb1, rfl, hS⟩
 refine r12 ?_
 refine WC.loop (WL.lift hL (fun (v9 : Int) (s : Fs) => ∃ (fr4 : Fr) (h3 : H), s = ⟨fr4, [], h3, none⟩ ∧ Sp wm T h [bx wm b1 [.int .i64 p0.machines, .slice pa0_0 p0.spots.length pc0_0]] h3 ∧ fr4.at 1 = .slice pa1_0 p1.length pc1_0 ∧ fr4.at 2 = .pointer (some ⟨b1, 0, none⟩) ∧ fr4.at 7 = .slice pa1_0 p1.length pc1_0 ∧ fr4.at 8 = .int .i64 (p1.length : Int) ∧ fr4.at 9 = .int .i64 v9) ⟨_, _, rfl, hS.only (.c k0 .n), las⟩ ?_)
 clear hL hS
 rintro next11 v9 s hnext11 hL ⟨fr4, h3, rfl, hS, e5, e6, e7, e8, e10⟩
 dsimp only [f27_b0] at hL
 refine r6 ?_
 refine cn hL ?_ ?_
 · intro hc hL
   refine r2 ?_
   refine WC.seqJ (r := r) (fun (_ : Unit) (s : Fs) => ∃ (fr13 : Fr) (h12 : H), s = ⟨fr13, [], h12, none⟩ ∧ Sp wm T h [bx wm b1 [.int .i64 p0.machines, .slice pa0_0 p0.spots.length pc0_0]] h12 ∧ fr13.at 1 = .slice pa1_0 p1.length pc1_0 ∧ fr13.at 2 = .pointer (some ⟨b1, 0, none⟩) ∧ fr13.at 7 = .slice pa1_0 p1.length pc1_0 ∧ fr13.at 8 = .int .i64 (p1.length : Int) ∧ fr13.at 9 = .int .i64 v9) (f27_j0 v9 next11) ?_ ?_
   · clear hL hS
     rintro _ s hL ⟨fr13, h12, rfl, hS, e14, e15, e16, e17, e18⟩
     dsimp only [f27_j0] at hL
     refine r4 ?_
     exact LoopK.nrm (hnext11 _ _ hL ⟨_, _, rfl, hS.only (.c k0 .n), las⟩)
   · skip
     refine r3 ?_
     obtain ⟨x19, hx19, hL⟩ := bind_some hL
     obtain ⟨b20, o21, _, hab20, hAb20, hBb20, hFb20⟩ := Sl.at_ hsp1_0 hx19
     refine WO.w gN rfl (av_ixn und34 size64 lk lk rfl hab20 hx19) ?_
     refine WO.w gN rfl (av_ldA agg64 size64 (evT fh rfl) (At.fz hS.fz hBb20 hAb20) (j := 0) rfl rfl (ws := [.int .i64 x19.deed, .int .i64 x19.place, .int .i64 x19.other, .int .i64 x19.n]) rfl) ?_
     refine r1 ?_
     rintro _ h23 ⟨b22, eb22, rfl, hS⟩
     refine r1 ?_
     rintro h24 hS
     refine r8 ?_
     obtain ⟨x25, hx25, hL⟩ := bind_some hL
     refine WO.cp gN rfl (Ent.fn has33 (evs_cons lk (evs_cons lk evs_nil))) (f33_ok (hS.slu hsp0_0) hx25) ?_
     refine r8 ?_
     refine cn hL ?_ ?_
     · intro hc hL
       refine r8 ?_
       refine SeqJ.ret ?_
       refine r3 ?_
       exact rt hL hT hS
     · intro hc hL
       refine r8 ?_
       refine r1 ?_
       refine WC.seqJ (r := r) (fun (v35 : Bool) (s : Fs) => ∃ (fr27 : Fr) (h26 : H), s = ⟨fr27, [], h26, none⟩ ∧ Sp wm T h [bx wm b1 [.int .i64 p0.machines, .slice pa0_0 p0.spots.length pc0_0], bx wm b22 [.int .i64 x19.deed, .int .i64 x19.place, .int .i64 x19.other, .int .i64 x19.n]] h26 ∧ fr27.at 1 = .slice pa1_0 p1.length pc1_0 ∧ fr27.at 2 = .pointer (some ⟨b1, 0, none⟩) ∧ fr27.at 6 = .pointer (some ⟨b22, 0, none⟩) ∧ fr27.at 7 = .slice pa1_0 p1.length pc1_0 ∧ fr27.at 8 = .int .i64 (p1.length : Int) ∧ fr27.at 9 = .int .i64 v9 ∧ fr27.at 24 = .int .i64 x19.deed ∧ fr27.at 25 = .bool v35) (f27_j1 p0 v9 next11 x19) ?_ ?_
       · clear hL hS
         rintro v35 s hL ⟨fr27, h26, rfl, hS, e28, e29, e30, e31, e32, e33, e34, e36⟩
         dsimp only [f27_j1] at hL
         refine cn hL ?_ ?_
         · intro hc hL
           refine r4 ?_
           refine r1 ?_
           obtain ⟨x37, hx37, hL⟩ := bind_some hL
           refine WO.cp gN rfl (Ent.fn has33 (evs_cons lk (evs_cons lk evs_nil))) (f33_ok (hS.slu hsp0_0) hx37) ?_
           refine r3 ?_
           refine cn hL ?_ ?_
           · intro hc hL
             refine r8 ?_
             refine SeqJ.ret ?_
             refine r3 ?_
             exact rt hL hT hS
           · intro hc hL
             refine r3 ?_
             exact SeqJ.nrm _ hL ⟨_, _, rfl, hS.only (.c k0 .n), las⟩
         · intro hc hL
           refine WC.seqJ (r := r) (fun (v47 : Bool) (s : Fs) => ∃ (fr39 : Fr) (h38 : H), s = ⟨fr39, [], h38, none⟩ ∧ Sp wm T h [bx wm b1 [.int .i64 p0.machines, .slice pa0_0 p0.spots.length pc0_0], bx wm b22 [.int .i64 x19.deed, .int .i64 x19.place, .int .i64 x19.other, .int .i64 x19.n]] h38 ∧ fr39.at 1 = .slice pa1_0 p1.length pc1_0 ∧ fr39.at 2 = .pointer (some ⟨b1, 0, none⟩) ∧ fr39.at 6 = .pointer (some ⟨b22, 0, none⟩) ∧ fr39.at 7 = .slice pa1_0 p1.length pc1_0 ∧ fr39.at 8 = .int .i64 (p1.length : Int) ∧ fr39.at 9 = .int .i64 v9 ∧ fr39.at 24 = .int .i64 x19.deed ∧ fr39.at 33 = .bool v47) (f27_j2 p0 v9 next11 x19) ?_ ?_
           · clear hL hS
             rintro v47 s hL ⟨fr39, h38, rfl, hS, e40, e41, e42, e43, e44, e45, e46, e48⟩
             dsimp only [f27_j2] at hL
             refine cn hL ?_ ?_
             · intro hc hL
               refine r4 ?_
               refine r1 ?_
               obtain ⟨x49, hx49, hL⟩ := bind_some hL
               refine WO.cp gN rfl (Ent.fn has33 (evs_cons lk (evs_cons lk evs_nil))) (f33_ok (hS.slu hsp0_0) hx49) ?_
               refine r8 ?_
               refine cn hL ?_ ?_
               · intro hc hL
                 refine r8 ?_
                 refine SeqJ.ret ?_
                 refine r3 ?_
                 exact rt hL hT hS
               · intro hc hL
                 refine r3 ?_
                 exact SeqJ.nrm _ hL ⟨_, _, rfl, hS.only (.c k0 .n), las⟩
             · intro hc hL
               refine WC.seqJ (r := r) (fun (v58 : Bool) (s : Fs) => ∃ (fr51 : Fr) (h50 : H), s = ⟨fr51, [], h50, none⟩ ∧ Sp wm T h [bx wm b1 [.int .i64 p0.machines, .slice pa0_0 p0.spots.length pc0_0], bx wm b22 [.int .i64 x19.deed, .int .i64 x19.place, .int .i64 x19.other, .int .i64 x19.n]] h50 ∧ fr51.at 1 = .slice pa1_0 p1.length pc1_0 ∧ fr51.at 2 = .pointer (some ⟨b1, 0, none⟩) ∧ fr51.at 6 = .pointer (some ⟨b22, 0, none⟩) ∧ fr51.at 7 = .slice pa1_0 p1.length pc1_0 ∧ fr51.at 8 = .int .i64 (p1.length : Int) ∧ fr51.at 9 = .int .i64 v9 ∧ fr51.at 46 = .bool v58) (f27_j3 v9 next11 x19) ?_ ?_
               · clear hL hS
                 rintro v58 s hL ⟨fr51, h50, rfl, hS, e52, e53, e54, e55, e56, e57, e59⟩
                 dsimp only [f27_j3] at hL
                 refine cn hL ?_ ?_
                 · intro hc hL
                   refine r12 ?_
                   refine cn hL ?_ ?_
                   · intro hc hL
                     refine r8 ?_
                     refine SeqJ.ret ?_
                     refine r3 ?_
                     exact rt hL hT hS
                   · intro hc hL
                     refine r3 ?_
                     exact SeqJ.nrm _ hL ⟨_, _, rfl, hS.only (.c k0 .n), las⟩
                 · intro hc hL
                   refine r8 ?_
                   refine SeqJ.ret ?_
                   refine r3 ?_
                   exact rt hL hT hS
               · skip
                 refine r6 ?_
                 refine cn hL ?_ ?_
                 · intro hc hL
                   refine r1 ?_
                   exact SeqJ.nrm _ hL ⟨_, _, rfl, hS.only (.c k0 (.c k0 .n)), las⟩
                 · intro hc hL
                   refine r4 ?_
                   exact SeqJ.nrm _ hL ⟨_, _, rfl, hS.only (.c k0 (.c k0 .n)), las⟩
           · skip
             refine r6 ?_
             refine cn hL ?_ ?_
             · intro hc hL
               refine r1 ?_
               exact SeqJ.nrm _ hL ⟨_, _, rfl, hS.only (.c k0 (.c k0 .n)), las⟩
             · intro hc hL
               refine r4 ?_
               exact SeqJ.nrm _ hL ⟨_, _, rfl, hS.only (.c k0 (.c k0 .n)), las⟩
       · skip
         refine r6 ?_
         refine cn hL ?_ ?_
         · intro hc hL
           refine r1 ?_
           exact SeqJ.nrm _ hL ⟨_, _, rfl, hS.only (.c k1 (.c k0 .n)), las⟩
         · intro hc hL
           refine r4 ?_
           exact SeqJ.nrm _ hL ⟨_, _, rfl, hS.only (.c k1 (.c k0 .n)), las⟩
 · intro hc hL
   refine r12 ?_
   refine r2 ?_
   exact rt hL hT hS
theorem f27_ok {F : Nat} {h : H} {p0 : TollSetup} {p1 : (List TollEvent)} {pa0_0 : Option Addr} {pc0_0 : Nat} {pa1_0 : Option Addr} {pc1_0 : Nat} {r : Bool} (hsp0_0 : Sl rTollSpot h.size h pa0_0 pc0_0 p0.spots) (hsp1_0 : Sl rTollEvent h.size h pa1_0 pc1_0 p1) (hL : f27L F p0 p1 = some r) : Pure XX 27 #[.agg [.int .i64 p0.machines, .slice pa0_0 p0.spots.length pc0_0].toArray, .slice pa1_0 p1.length pc1_0] h (.bool r) :=
 WR.pureC rfl (f27_wf (Nat.le_refl _) hsp0_0 hsp1_0 hL)
theorem f31_wf {F : Nat} {wm : Nat} {h : H} {p0 : TollSetup} {p1 : Int} {p2 : Int} {pa0_0 : Option Addr} {pc0_0 : Nat} {r : Bool} (hwm : wm ≤ h.size) (hsp0_0 : Sl rTollSpot wm h pa0_0 pc0_0 p0.spots) (hL : f31L F p0 p1 p2 = some r) :
    WR XX 31 #[.agg [.int .i64 p0.machines, .slice pa0_0 p0.spots.length pc0_0].toArray, .int .i64 p1, .int .i64 p2] wm h (CP (fun (v : Value) (Gb : List (Ast wm)) => v = .bool r ∧ Gb = []) [] h) := by
 refine bg Tryz.ntmps31 hwm Hold.nil ?_
 intro T hT hS
 unfold f31L at hL
 refine r3 ?_
 rintro _ h2 ⟨b1, eb1, rfl, hS⟩
 refine r8 ?_
 refine r3 ?_
 refine cn hL ?_ ?_
 · intro hc hL
   refine r6 ?_
   refine r1 ?_
   exact rt hL hT hS
 · intro hc hL
   refine r6 ?_
   refine r1 ?_
   obtain ⟨x3, hx3, hL⟩ := bind_some hL
   refine WO.cl gN rfl (Ent.fn has38 (evs_cons lk (evs_cons lk evs_nil))) hS .n (fun g' hz hf hO => f38_wf (by rw [hz]; exact hS.hw) ((hS.sl hsp0_0).mono hf) hx3) ?_
   rintro _ h7 _ ⟨a4, n5, c6, rfl, rfl⟩ hS
   obtain rfl := hS.on k0
   refine r4 ?_
   refine r1 ?_
   refine WC.loop (WL.lift hL (fun (v14 : Int) (s : Fs) => ∃ (fr10 : Fr) (h9 : H), s = ⟨fr10, [], h9, none⟩ ∧ Sp wm T h [ow wm (rInt .i64) a4 x3.length c6 x3] h9 ∧ fr10.at 2 = .int .i64 p2 ∧ fr10.at 14 = .slice a4 x3.length c6 ∧ fr10.at 15 = .int .i64 (x3.length : Int) ∧ fr10.at 16 = .int .i64 v14) ⟨_, _, rfl, hS.only (.c k0 .n), las⟩ ?_)
   clear hL hS
   rintro next16 v14 s hnext16 hL ⟨fr10, h9, rfl, hS, e11, e12, e13, e15⟩
   dsimp only [f31_b0] at hL
   refine r6 ?_
   refine cn hL ?_ ?_
   · intro hc hL
     refine r6 ?_
     obtain ⟨x17, hx17, hL⟩ := bind_some hL
     obtain ⟨b18, o19, _, hab18, hAb18, hFb18⟩ := Src.at_ (hS.osrc k0) hx17
     refine WO.w gN rfl (av_ixn und35 size3 lk lk rfl hab18 hx17) ?_
     refine WO.w gN rfl (av_ld agg3 (evT fh rfl) hAb18 (j := 0) rfl (v := .int .i64 x17) rfl) ?_
     refine r8 ?_
     refine r2 ?_
     refine cn hL ?_ ?_
     · intro hc hL
       refine r8 ?_
       refine r3 ?_
       exact rt hL hT hS
     · intro hc hL
       refine r6 ?_
       refine r1 ?_
       exact LoopK.nrm (hnext16 _ _ hL ⟨_, _, rfl, hS.only (.c k0 .n), las⟩)
   · intro hc hL
     refine r8 ?_
     refine r3 ?_
     exact rt hL hT hS
theorem f31_ok {F : Nat} {h : H} {p0 : TollSetup} {p1 : Int} {p2 : Int} {pa0_0 : Option Addr} {pc0_0 : Nat} {r : Bool} (hsp0_0 : Sl rTollSpot h.size h pa0_0 pc0_0 p0.spots) (hL : f31L F p0 p1 p2 = some r) : Pure XX 31 #[.agg [.int .i64 p0.machines, .slice pa0_0 p0.spots.length pc0_0].toArray, .int .i64 p1, .int .i64 p2] h (.bool r) :=
 WR.pureC rfl (f31_wf (Nat.le_refl _) hsp0_0 hL)
theorem f34_wf {F : Nat} {wm : Nat} {h : H} {p0 : TollSetup} {pa0_0 : Option Addr} {pc0_0 : Nat} {r : Int} (hwm : wm ≤ h.size) (hsp0_0 : Sl rTollSpot wm h pa0_0 pc0_0 p0.spots) (hL : f34L F p0 = some r) :
    WR XX 34 #[.agg [.int .i64 p0.machines, .slice pa0_0 p0.spots.length pc0_0].toArray] wm h (CP (fun (v : Value) (Gb : List (Ast wm)) => v = .int .i64 r ∧ Gb = []) [] h) := by
 refine WF.beginL (args := [_]) (fn := Tryz.f34) (by kernel_rfl) (by exact rfl) Tryz.ntmps34 (by simp) ?_
 simp only [frameOf_cons, frameOf_nil, Nat.reduceAdd]
 obtain ⟨T, hT, hS⟩ : ∃ T, T = Fps (wm := wm) [] ∧ Sp wm T h [] h := ⟨_, rfl, Sp.start hwm Hold.nil⟩
 unfold f34L at hL
 refine r3 ?_
 rintro _ h2 ⟨b1, eb1, rfl, hS⟩
 refine r1 ?_
 rintro _ h4 ⟨b3, eb3, rfl, hS⟩
 refine r16 ?_
 refine r8 ?_
 refine r3 ?_
 refine cn hL ?_ ?_
 · intro hc hL
   refine r3 ?_
   rintro h5 hS
   refine r4 ?_
   have hr := Option.some.inj hL
   subst hr
   exact RetL.gen rfl (ares_cell (fs8 rfl (fs8 rfl (fs4 rfl fh))) (aload_at1 agg36 (hS.atB k0) (j := 0) rfl (v := .int .i64 2) rfl) ares_nil) rfl ⟨_, ⟨rfl, rfl⟩, hT ▸ hS.only .n⟩
 · intro hc hL
   refine r12 ?_
   refine WC.loop (WL.lift hL (fun (v12 : Int) (s : Fs) => ∃ (fr7 : Fr) (h6 : H), s = ⟨fr7, [], h6, none⟩ ∧ Sp wm T h [bx wm b1 [.int .i64 p0.machines, .slice pa0_0 p0.spots.length pc0_0], bx wm b3 [.int .i64 0]] h6 ∧ fr7.at 1 = .pointer (some ⟨b1, 0, none⟩) ∧ fr7.at 2 = .pointer (some ⟨b3, 0, none⟩) ∧ fr7.at 28 = .slice pa0_0 p0.spots.length pc0_0 ∧ fr7.at 29 = .int .i64 (p0.spots.length : Int) ∧ fr7.at 30 = .int .i64 v12) ⟨_, _, rfl, hS.only (.c k1 (.c k0 .n)), las⟩ ?_)
   clear hL hS
   rintro next14 v12 s hnext14 hL ⟨fr7, h6, rfl, hS, e8, e9, e10, e11, e13⟩
   dsimp only [f34_b0] at hL
   refine r6 ?_
   refine cn hL ?_ ?_
   · intro hc hL
     refine r6 ?_
     obtain ⟨x15, hx15, hL⟩ := bind_some hL
     obtain ⟨b16, o17, _, hab16, hAb16, hBb16, hFb16⟩ := Sl.at_ hsp0_0 hx15
     refine WO.w gN rfl (av_ixn und22 size66 lk lk rfl hab16 hx15) ?_
     refine WO.w gN rfl (av_ldA agg66 size66 (evT fh rfl) (At.fz hS.fz hBb16 hAb16) (j := 0) rfl rfl (ws := [.int .i64 x15.at_, .int .i64 x15.in_]) rfl) ?_
     refine r1 ?_
     rintro _ h19 ⟨b18, eb18, rfl, hS⟩
     refine r1 ?_
     rintro h20 hS
     refine r16 ?_
     refine r6 ?_
     obtain ⟨x21, hx21, hL⟩ := gd_some hL
     refine WO.gcp (GuardIs.yes2 rfl rfl rfl (fs2 rfl (fskip rfl fh))) rfl (fun hg => (Ent.fn has54 (evs_cons (evG (fs2 rfl fh) rfl hg) (evs_cons (evG fh rfl hg) evs_nil)))) (fun hg => f54_ok (hS.slu hsp0_0) (hx21 hg)) ?_
     refine r1 ?_
     refine WO.gv (GuardIs.no rfl rfl rfl (fs8 rfl (fskip rfl fh))) rfl (fun hg => (av_and (evG (fs4 rfl (fskip rfl fh)) rfl hg) (evGU2 fh hg) lk)) ?_
     refine r3 ?_
     refine cn hL ?_ ?_
     · intro hc hL
       refine r3 ?_
       rintro h22 hS
       refine r8 ?_
       have hr := Option.some.inj hL
       subst hr
       exact RetL.gen rfl (ares_cell (fs8 rfl (fs8 rfl (fs8 rfl (fs2 rfl e9)))) (aload_at1 agg36 (hS.atB k0) (j := 0) rfl (v := .int .i64 2) rfl) ares_nil) rfl ⟨_, ⟨rfl, rfl⟩, hT ▸ hS.only .n⟩
     · intro hc hL
       refine r6 ?_
       refine r1 ?_
       exact LoopK.nrm (hnext14 _ _ hL ⟨_, _, rfl, hS.only (.c k1 (.c k1 .n)), las⟩)
   · intro hc hL
     refine r12 ?_
     refine r3 ?_
     have hS := hS.cds0
     refine WC.loop (WL.lift hL (fun (p : Int × Int) (s : Fs) => match p with | (v28, v30) => ∃ (fr24 : Fr) (h23 : H) (ld31 : List Nat), s = ⟨fr24, (colD ld31 ++ []), h23, none⟩ ∧ Sp wm T h [bx wm b1 [.int .i64 p0.machines, .slice pa0_0 p0.spots.length pc0_0], bx wm b3 [.int .i64 v30], cds wm ld31] h23 ∧ fr24.at 1 = .pointer (some ⟨b1, 0, none⟩) ∧ fr24.at 2 = .pointer (some ⟨b3, 0, none⟩) ∧ fr24.at 59 = .int .i64 (p0.spots.length : Int) ∧ fr24.at 60 = .int .i64 v28) ⟨_, _, [], rfl, hS.only (.c k1 (.c k1 (.c k0 .n))), las⟩ ?_)
     clear hL hS
     rintro next32 ⟨v28, v30⟩ s hnext32 hL ⟨fr24, h23, ld31, rfl, hS, e25, e26, e27, e29⟩
     dsimp only [f34_b1] at hL
     refine r6 ?_
     refine cn hL ?_ ?_
     · intro hc hL
       refine r12 ?_
       refine r1 ?_
       rintro _ h34 ⟨b33, eb33, rfl, hS⟩
       refine r1 ?_
       rintro h35 hS
       refine r6 ?_
       refine WO.inl gN rfl (Ent.fn has55 (evs_cons lk (evs_cons lk evs_nil))) (WF.begin (args := [_, _]) (fn := Tryz.f55) (by kernel_rfl) (by exact rfl) Tryz.ntmps55 (by simp) ?_)
       simp only [frameOf_cons, frameOf_nil, Nat.reduceAdd]
       refine r3 ?_
       rintro _ h37 ⟨b36, eb36, rfl, hS⟩
       refine r1 ?_
       rintro _ h39 ⟨b38, eb38, rfl, hS⟩
       refine r4 ?_
       refine r1 ?_
       refine WO.w gN rfl (av_mkf (evs_cons lk (evs_cons lk evs_nil))) ?_
       refine r4 ?_
       refine RetK.gen1 rfl (ares_tmp lk ares_nil) ?_
       refine r3 ?_
       refine WC.rangeS (first := []) (cap := [.pointer (some ⟨b36, 0, none⟩), .pointer (some ⟨b38, 0, none⟩)]) hS lk has84 ?_
       intro h40 l41 df42 LO43 hLO44 hS
       refine WR.inlJ (r := r) (fun (p : Int × Int × Bool) (v : Value) (h45 : H) => match p with | (v47, v48, sp49) => v = .tuple [].toArray ∧ Sp wm T h [bx wm b1 [.int .i64 p0.machines, .slice pa0_0 p0.spots.length pc0_0], bx wm b3 [.int .i64 v47], bx wm b33 [.int .i64 v48], bx wm b36 [.int .i64 p0.machines, .slice pa0_0 p0.spots.length pc0_0], bx wm b38 [.int .i64 v28], cds wm ld31, ob wm l41 (lst sp49 Code.ret LO43), ob wm df42 .deferred] h45) (f34_j0 v28 next32) ?_ (WF.begin (args := [_, _, _]) (fn := Tryz.f84) (by kernel_rfl) (by exact rfl) Tryz.ntmps84 (by simp) ?_)
       · clear hL hS
         rintro ⟨v47, v48, sp49⟩ v h45 hL ⟨rfl, hS⟩
         dsimp only [f34_j0] at hL
         rcases bool_cases sp49 with hc | hc
         · replace hL := cond_tt hc hL
           rw [hc] at hS
           refine RgS.stop (c := Code.ret) hLO44 hS k6 ?_
           rintro h51 hS
           refine r6 ?_
           refine r1 ?_
           refine RetL.colS hS k6 ?_
           rintro h52 hS
           refine RetL.colsS hS k5 ?_
           rintro h53 hS
           have hr := Option.some.inj hL
           subst hr
           exact RetL.gen rfl (ares_cell (fs4 rfl (fs2 rfl (fskip rfl e26))) (aload_at1 agg36 (hS.atB k1) (j := 0) rfl (v := .int .i64 v47) rfl) ares_nil) rfl ⟨_, ⟨rfl, rfl⟩, hT ▸ hS.only .n⟩
         · replace hL := cond_ff hc hL
           rw [hc] at hS
           refine RgS.sp hLO44 hS k6 ?_
           rintro h54 hS
           refine r6 ?_
           refine r1 ?_
           have hS := hS.cdsc k6 k5
           exact LoopK.nrm (hnext32 _ _ hL ⟨_, _, (df42 :: ld31), rfl, hS.only (.c k1 (.c k1 (.c k0 .n))), las⟩)
       · skip
         simp only [frameOf_cons, frameOf_nil, Nat.reduceAdd]
         refine r4 ?_
         refine r1 ?_
         obtain ⟨x55, hx55, hL⟩ := bind_some hL
         obtain ⟨b56, o57, _, hab56, hAb56, hBb56, hFb56⟩ := Sl.at_ hsp0_0 hx55
         refine WO.w gN rfl (av_ixn und22 size66 lk lk rfl hab56 hx55) ?_
         refine r1 ?_
         refine WO.w gN rfl (av_ld agg3 (evT fh rfl) (At.fz hS.fz hBb56 hAb56) (j := 1) rfl (v := .int .i64 x55.in_) rfl) ?_
         refine r4 ?_
         refine WC.loop (WL.lift hL (fun (p : Int × Int × Int × Bool) (s : Fs) => match p with | (v62, v64, v65, sp66) => ∃ (fr59 : Fr) (h58 : H), s = ⟨fr59, [], h58, none⟩ ∧ Sp wm T h [bx wm b36 [.int .i64 p0.machines, .slice pa0_0 p0.spots.length pc0_0], bx wm b1 [.int .i64 p0.machines, .slice pa0_0 p0.spots.length pc0_0], bx wm b3 [.int .i64 v64], bx wm b33 [.int .i64 v65], bx wm b38 [.int .i64 v28], cds wm ld31, ob wm l41 (lst sp66 Code.ret LO43), ob wm df42 .deferred] h58 ∧ fr59.at 0 = .func (.yield l41) #[] #[] ∧ fr59.at 1 = .pointer (some ⟨b36, 0, none⟩) ∧ fr59.at 4 = .int .i64 v62) ⟨_, _, rfl, hS.only (.c k3 (.c k4 (.c k4 (.c k3 (.c k2 (.c k2 (.c k0 (.c k0 .n)))))))), las⟩ ?_)
         clear hL hS
         rintro next67 ⟨v62, v64, v65, sp66⟩ s hnext67 hL ⟨fr59, h58, rfl, hS, e60, e61, e63⟩
         dsimp only [f34_b2] at hL
         refine r6 ?_
         refine r1 ?_
         refine cn hL ?_ ?_
         · intro hc hL
           refine r8 ?_
           obtain ⟨hc68, hL⟩ := cond_no hL
           rw [hc68] at hS
           refine WO.yldS gN rfl lk lks hS k6 hLO44 rfl rfl ?_
           refine r1 ?_
           refine AsS.sp hLO44 hS k6 ?_
           rintro h69 hS
           refine r6 ?_
           rintro h70 hS
           refine r8 ?_
           refine r3 ?_
           refine cn hL ?_ ?_
           · intro hc hL
             refine r3 ?_
             rintro h71 hS
             refine r4 ?_
             refine BdS.stop .ret hLO44 hS k2 ?_
             rintro h72 hS
             refine r3 ?_
             refine cn hL ?_ ?_
             · intro hc hL
               refine r4 ?_
               refine r1 ?_
               exact RetK.gen (vs := []) rfl ares_nil rfl ⟨_, hL, ⟨rfl, hS.only (.c k4 (.c k1 (.c k1 (.c k1 (.c k1 (.c k1 (.c k0 (.c k0 .n))))))))⟩⟩
             · intro hc hL
               refine r6 ?_
               refine r1 ?_
               obtain ⟨x73, hx73, hL⟩ := bind_some hL
               obtain ⟨b74, o75, _, hab74, hAb74, hBb74, hFb74⟩ := Sl.at_ hsp0_0 hx73
               refine WO.w gN rfl (av_ixn und22 size66 lk lk rfl hab74 hx73) ?_
               refine r1 ?_
               refine WO.w gN rfl (av_ld agg3 (evT fh rfl) (At.fz hS.fz hBb74 hAb74) (j := 1) rfl (v := .int .i64 x73.in_) rfl) ?_
               refine r2 ?_
               exact LoopK.nrm (hnext67 _ _ hL ⟨_, _, rfl, hS.only (.c k3 (.c k3 (.c k1 (.c k1 (.c k1 (.c k1 (.c k0 (.c k0 .n)))))))), las⟩)
           · intro hc hL
             refine r2 ?_
             refine BdS.sp hLO44 hS k1 ?_
             rintro h76 hS
             refine r3 ?_
             refine cn hL ?_ ?_
             · intro hc hL
               refine r4 ?_
               refine r1 ?_
               exact RetK.gen (vs := []) rfl ares_nil rfl ⟨_, hL, ⟨rfl, hS.only (.c k3 (.c k3 (.c k1 (.c k1 (.c k1 (.c k1 (.c k0 (.c k0 .n))))))))⟩⟩
             · intro hc hL
               refine r6 ?_
               refine r1 ?_
               obtain ⟨x77, hx77, hL⟩ := bind_some hL
               obtain ⟨b78, o79, _, hab78, hAb78, hBb78, hFb78⟩ := Sl.at_ hsp0_0 hx77
               refine WO.w gN rfl (av_ixn und22 size66 lk lk rfl hab78 hx77) ?_
               refine r1 ?_
               refine WO.w gN rfl (av_ld agg3 (evT fh rfl) (At.fz hS.fz hBb78 hAb78) (j := 1) rfl (v := .int .i64 x77.in_) rfl) ?_
               refine r2 ?_
               exact LoopK.nrm (hnext67 _ _ hL ⟨_, _, rfl, hS.only (.c k2 (.c k2 (.c k2 (.c k1 (.c k1 (.c k1 (.c k0 (.c k0 .n)))))))), las⟩)
         · intro hc hL
           refine r4 ?_
           refine RetK.nrm ?_
           exact RetK.gen (vs := []) rfl ares_nil rfl ⟨_, hL, ⟨rfl, hS.only (.c k1 (.c k1 (.c k1 (.c k0 (.c k0 (.c k0 (.c k0 (.c k0 .n))))))))⟩⟩
     · intro hc hL
       refine r8 ?_
       rintro h80 hS
       refine r3 ?_
       refine RetL.colsS hS k2 ?_
       rintro h81 hS
       have hr := Option.some.inj hL
       subst hr
       exact RetL.gen rfl (ares_cell (fskip rfl e26) (aload_at1 agg36 (hS.atB k0) (j := 0) rfl (v := .int .i64 0) rfl) ares_nil) rfl ⟨_, ⟨rfl, rfl⟩, hT ▸ hS.only .n⟩
end Go.Proofs.YtcnahmgekicbdaaGreat
end
end
section
set_option linter.unusedVariables false
set_option linter.unusedSimpArgs false
namespace Go.Proofs.YtcnahmgekicbdaaGreat
open Go.Lf
def f51_j2 (p0 : TollSetup) (p1 : TollEvent) : Bool → Option Bool := fun v25 =>
  (bif v25 then (f54L p0 p1.other).bind fun x27 => some x27 else some false)
def f51_j1 (p0 : TollSetup) (p1 : TollEvent) : Bool → Option Bool := fun v18 =>
  (bif v18 then (f54L p0 p1.other).bind fun x20 => some (x20 && (p1.n == 0)) else (bif (p1.deed == 1) then (f51_j2 p0 p1) (p1.deed == 1) else (f51_j2 p0 p1) (p1.deed == 2)))
def f51_j0 (p0 : TollSetup) (p1 : TollEvent) : Bool → Option Bool := fun v11 =>
  (bif v11 then some ((p1.other == 0) && (p1.n == 0)) else (bif (p1.deed == 3) then (f51_j1 p0 p1) (p1.deed == 3) else (f51_j1 p0 p1) (p1.deed == 4)))
def f51L (p0 : TollSetup) (p1 : TollEvent) : Option Bool :=
  (f54L p0 p1.place).bind fun x5 => (bif ((!x5) || (decide (p1.n < 0))) then some false else (bif (p1.deed == 5) then (f51_j0 p0 p1) (p1.deed == 5) else (f51_j0 p0 p1) (p1.deed == 6)))
def f53_j0 (v17 : Int) (next19 : (Int × Int × Int → Option Int)) : Int × Int → Option Int := fun (v25, v27) =>
  next19 (v25, v27, w64 (v17 + 1))
def f53_j1 (p2 : TollEvent) (v13 : Int) (v17 : Int) (next19 : (Int × Int × Int → Option Int)) (x32 : TollEvent) : Int → Option Int := fun v43 =>
  (bif ((x32.deed == 2) && (x32.n == p2.n)) then (f53_j0 v17 next19) (v43, w64 (v13 + 1)) else (f53_j0 v17 next19) (v43, v13))
def f53_j2 : Unit → Option Int := fun _ =>
  some 0
def f53_b1 (F : Nat) (p0 : TollSetup) (p1 : (List TollEvent)) (p2 : TollEvent) : Int → (Int → Option Int) → Option Int := fun v58 next60 =>
  (bif decide (v58 < (p1.length : Int)) then (geti p1 v58).bind fun x61 => (gd (x61.deed == 4) (geti p0.spots x61.place) default).bind fun x67 => (gd (x61.deed == 4) (geti p0.spots p2.place) default).bind fun x70 => (gd ((x61.deed == 4) && (x67.at_ == x70.at_)) (f31L F p0 p2.other x61.other) default).bind fun x73 => (bif (((x61.deed == 4) && (x67.at_ == x70.at_)) && x73) then some 5 else next60 (w64 (v58 + 1))) else (f53_j2) ())
def f53_b2 (F : Nat) (p1 : (List TollEvent)) (x76 : (List Int)) : Int → (Int → Option Int) → Option Int := fun v87 next89 =>
  (bif decide (v87 < (x76.length : Int)) then (geti x76 v87).bind fun x90 => (f32L F p1 6 x90 0).bind fun x93 => (bif (x93 == 0) then some 3 else next89 (w64 (v87 + 1))) else (f53_j2) ())
def f53_b0 (F : Nat) (p0 : TollSetup) (p1 : (List TollEvent)) (p2 : TollEvent) : Int × Int × Int → (Int × Int × Int → Option Int) → Option Int := fun (v11, v13, v17) next19 =>
  (bif decide (v17 < (p1.length : Int)) then (geti p1 v17).bind fun x32 => (bif (((x32.deed == 1) && (x32.n == p2.n)) && ((p2.deed == 1) || ((x32.place == p2.other) && (x32.other == p2.place)))) then (f53_j1 p2 v13 v17 next19 x32) (w64 (v11 + 1)) else (f53_j1 p2 v13 v17 next19 x32) v11) else (bif (p2.deed == 1) then (bif decide (v11 > 0) then some 2 else (f53_j2) ()) else (bif (p2.deed == 2) then (bif ((v11 == 0) || (decide (v13 > 0))) then some 2 else loop F (f53_b1 F p0 p1 p2) 0) else (bif (p2.deed == 6) then (f32L F p1 5 p2.place 0).bind fun x74 => (gd (!(x74 == 0)) (f32L F p1 6 p2.place 0) default).bind fun x75 => (bif ((x74 == 0) || (decide (x75 > 0))) then some 3 else (f83L F p0 p2.place).bind fun x76 => loop F (f53_b2 F p1 x76) 0) else (bif (p2.deed == 4) then (f32L F p1 6 p2.other 0).bind fun x94 => (gd (!(x94 == 0)) (f32L F p1 4 p2.place p2.other) default).bind fun x95 => (gd (!(x94 == 0)) (f32L F p1 3 p2.place p2.other) default).bind fun x96 => (bif ((x94 == 0) || (decide (x95 ≥ x96))) then some 4 else (f53_j2) ()) else (f53_j2) ())))))
def f53L (F : Nat) (p0 : TollSetup) (p1 : (List TollEvent)) (p2 : TollEvent) : Option Int :=
  (gd (p2.deed != 6) (f32L F p1 5 p2.place 0) default).bind fun x5 => (bif ((p2.deed != 6) && (decide (x5 > 0))) then some 1 else loop F (f53_b0 F p0 p1 p2) (0, 0, 0))
def f78L (F : Nat) (p0 : Story) (p1 : Int) : Option Bool :=
  (f110L F p0 (TollEvent.mk 5 p1 0 0)).bind fun x3 => some (decide (x3 > 0))
def f79L (F : Nat) (p0 : Story) (p1 : TollEvent) : Option Bool :=
  (bif (p1.deed == 1) then (f111L F p0 1 p1.n).bind fun x5 => some x5 else (bif (p1.deed == 2) then (f110L F p0 (TollEvent.mk 1 p1.other p1.place p1.n)).bind fun x6 => (gd (!(x6 == 0)) (f111L F p0 2 p1.n) default).bind fun x7 => some ((x6 == 0) || x7) else some false))
def f80_j0 (F : Nat) (p0 : Story) (p1 : TollEvent) : Bool × Bool → Option Bool := fun (v19, sp20) =>
  (bif sp20 then some v19 else (f78L F p0 p1.place).bind fun x25 => (gd (!(!x25)) (f112L F p0 p1.place) default).bind fun x26 => some ((!x25) || x26))
def f80_b0 (F : Nat) (p0 : Story) (p1 : TollEvent) : Int × Bool × Bool → (Int × Bool × Bool → Option Bool) → Option Bool := fun (v35, v37, sp38) next39 =>
  (bif decide (v35 < (p0.setup.spots.length : Int)) then (geti p0.setup.spots v35).bind fun x40 => (bif (x40.in_ == p1.place) then (bif sp38 then none else (f112L F p0 v35).bind fun x49 => (bif (!x49) then (bif (!false) then (f80_j0 F p0 p1) (true, true) else next39 (w64 (v35 + 1), true, true)) else (bif (!true) then (f80_j0 F p0 p1) (v37, false) else next39 (w64 (v35 + 1), v37, false)))) else next39 (w64 (v35 + 1), v37, sp38)) else (f80_j0 F p0 p1) (v37, sp38))
def f80L (F : Nat) (p0 : Story) (p1 : TollEvent) : Option Bool :=
  (bif (p1.deed != 6) then some false else loop F (f80_b0 F p0 p1) (0, false, false))
def f81L (F : Nat) (p0 : Story) (p1 : TollEvent) : Option Bool :=
  (bif (p1.deed != 4) then some false else (f112L F p0 p1.other).bind fun x9 => (gd (!(!x9)) (f110L F p0 p1) default).bind fun x10 => (gd (!(!x9)) (f110L F p0 (TollEvent.mk 3 p1.place p1.other p1.n)) default).bind fun x11 => some ((!x9) || (decide (x10 ≥ x11))))
end Go.Proofs.YtcnahmgekicbdaaGreat
end
section
set_option linter.unusedVariables false
set_option linter.unusedSimpArgs false
set_option maxRecDepth 20000
noncomputable section
namespace Go.Proofs.YtcnahmgekicbdaaGreat
open Go.Abs Go.Lf
theorem f51_wf {wm : Nat} {h : H} {p0 : TollSetup} {p1 : TollEvent} {pa0_0 : Option Addr} {pc0_0 : Nat} {r : Bool} (hwm : wm ≤ h.size) (hsp0_0 : Sl rTollSpot wm h pa0_0 pc0_0 p0.spots) (hL : f51L p0 p1 = some r) :
    WR XX 51 #[.agg [.int .i64 p0.machines, .slice pa0_0 p0.spots.length pc0_0].toArray, .agg [.int .i64 p1.deed, .int .i64 p1.place, .int .i64 p1.other, .int .i64 p1.n].toArray] wm h (CP (fun (v : Value) (Gb : List (Ast wm)) => v = .bool r ∧ Gb = []) [] h) := by
 refine bg Tryz.ntmps51 hwm Hold.nil ?_
 intro T hT hS
 unfold f51L at hL
 refine r3 ?_
 rintro _ h2 ⟨b1, eb1, rfl, hS⟩
 refine r1 ?_
 rintro _ h4 ⟨b3, eb3, rfl, hS⟩
 refine r8 ?_
 refine r1 ?_
 obtain ⟨x5, hx5, hL⟩ := bind_some hL
 refine WO.cp gN rfl (Ent.fn has54 (evs_cons lk (evs_cons lk evs_nil))) (f54_ok (hS.slu hsp0_0) hx5) ?_
 refine r8 ?_
 refine cn hL ?_ ?_
 · intro hc hL
   refine r6 ?_
   refine r1 ?_
   exact rt hL hT hS
 · intro hc hL
   refine r8 ?_
   refine r2 ?_
   refine WC.seqJ (r := r) (fun (v11 : Bool) (s : Fs) => ∃ (fr7 : Fr) (h6 : H), s = ⟨fr7, [], h6, none⟩ ∧ Sp wm T h [bx wm b1 [.int .i64 p0.machines, .slice pa0_0 p0.spots.length pc0_0], bx wm b3 [.int .i64 p1.deed, .int .i64 p1.place, .int .i64 p1.other, .int .i64 p1.n]] h6 ∧ fr7.at 2 = .pointer (some ⟨b1, 0, none⟩) ∧ fr7.at 3 = .pointer (some ⟨b3, 0, none⟩) ∧ fr7.at 16 = .int .i64 p1.deed ∧ fr7.at 17 = .bool v11) (f51_j0 p0 p1) ?_ ?_
   · clear hL hS
     rintro v11 s hL ⟨fr7, h6, rfl, hS, e8, e9, e10, e12⟩
     dsimp only [f51_j0] at hL
     refine cn hL ?_ ?_
     · intro hc hL
       refine r16 ?_
       exact rt hL hT hS
     · intro hc hL
       refine WC.seqJ (r := r) (fun (v18 : Bool) (s : Fs) => ∃ (fr14 : Fr) (h13 : H), s = ⟨fr14, [], h13, none⟩ ∧ Sp wm T h [bx wm b1 [.int .i64 p0.machines, .slice pa0_0 p0.spots.length pc0_0], bx wm b3 [.int .i64 p1.deed, .int .i64 p1.place, .int .i64 p1.other, .int .i64 p1.n]] h13 ∧ fr14.at 2 = .pointer (some ⟨b1, 0, none⟩) ∧ fr14.at 3 = .pointer (some ⟨b3, 0, none⟩) ∧ fr14.at 16 = .int .i64 p1.deed ∧ fr14.at 28 = .bool v18) (f51_j1 p0 p1) ?_ ?_
       · clear hL hS
         rintro v18 s hL ⟨fr14, h13, rfl, hS, e15, e16, e17, e19⟩
         dsimp only [f51_j1] at hL
         refine cn hL ?_ ?_
         · intro hc hL
           refine r4 ?_
           refine r1 ?_
           obtain ⟨x20, hx20, hL⟩ := bind_some hL
           refine WO.cp gN rfl (Ent.fn has54 (evs_cons lk (evs_cons lk evs_nil))) (f54_ok (hS.slu hsp0_0) hx20) ?_
           refine r8 ?_
           refine r3 ?_
           exact rt hL hT hS
         · intro hc hL
           refine WC.seqJ (r := r) (fun (v25 : Bool) (s : Fs) => ∃ (fr22 : Fr) (h21 : H), s = ⟨fr22, [], h21, none⟩ ∧ Sp wm T h [bx wm b1 [.int .i64 p0.machines, .slice pa0_0 p0.spots.length pc0_0], bx wm b3 [.int .i64 p1.deed, .int .i64 p1.place, .int .i64 p1.other, .int .i64 p1.n]] h21 ∧ fr22.at 2 = .pointer (some ⟨b1, 0, none⟩) ∧ fr22.at 3 = .pointer (some ⟨b3, 0, none⟩) ∧ fr22.at 40 = .bool v25) (f51_j2 p0 p1) ?_ ?_
           · clear hL hS
             rintro v25 s hL ⟨fr22, h21, rfl, hS, e23, e24, e26⟩
             dsimp only [f51_j2] at hL
             refine cn hL ?_ ?_
             · intro hc hL
               refine r4 ?_
               refine r1 ?_
               obtain ⟨x27, hx27, hL⟩ := bind_some hL
               refine WO.cp gN rfl (Ent.fn has54 (evs_cons lk (evs_cons lk evs_nil))) (f54_ok (hS.slu hsp0_0) hx27) ?_
               refine r6 ?_
               exact rt hL hT hS
             · intro hc hL
               refine r8 ?_
               refine r1 ?_
               exact rt hL hT hS
           · skip
             refine r6 ?_
             refine cn hL ?_ ?_
             · intro hc hL
               refine r1 ?_
               exact SeqJ.nrm _ hL ⟨_, _, rfl, hS.only (.c k0 (.c k0 .n)), las⟩
             · intro hc hL
               refine r4 ?_
               exact SeqJ.nrm _ hL ⟨_, _, rfl, hS.only (.c k0 (.c k0 .n)), las⟩
       · skip
         refine r6 ?_
         refine cn hL ?_ ?_
         · intro hc hL
           refine r1 ?_
           exact SeqJ.nrm _ hL ⟨_, _, rfl, hS.only (.c k0 (.c k0 .n)), las⟩
         · intro hc hL
           refine r4 ?_
           exact SeqJ.nrm _ hL ⟨_, _, rfl, hS.only (.c k0 (.c k0 .n)), las⟩
   · skip
     refine r6 ?_
     refine cn hL ?_ ?_
     · intro hc hL
       refine r1 ?_
       exact SeqJ.nrm _ hL ⟨_, _, rfl, hS.only (.c k1 (.c k0 .n)), las⟩
     · intro hc hL
       refine r4 ?_
       exact SeqJ.nrm _ hL ⟨_, _, rfl, hS.only (.c k1 (.c k0 .n)), las⟩
theorem f53_wf {F : Nat} {wm : Nat} {h : H} {p0 : TollSetup} {p1 : (List TollEvent)} {p2 : TollEvent} {pa0_0 : Option Addr} {pc0_0 : Nat} {pa1_0 : Option Addr} {pc1_0 : Nat} {r : Int} (hwm : wm ≤ h.size) (hsp0_0 : Sl rTollSpot wm h pa0_0 pc0_0 p0.spots) (hsp1_0 : Sl rTollEvent wm h pa1_0 pc1_0 p1) (hL : f53L F p0 p1 p2 = some r) :
    WR XX 53 #[.agg [.int .i64 p0.machines, .slice pa0_0 p0.spots.length pc0_0].toArray, .slice pa1_0 p1.length pc1_0, .agg [.int .i64 p2.deed, .int .i64 p2.place, .int .i64 p2.other, .int .i64 p2.n].toArray] wm h (CP (fun (v : Value) (Gb : List (Ast wm)) => v = .int .i64 r ∧ Gb = []) [] h) := by
 refine bg Tryz.ntmps53 hwm Hold.nil ?_
 intro T hT hS
 unfold f53L at hL
 refine r3 ?_
 rintro _ h2 ⟨b1, eb1, rfl, hS⟩
 refine r1 ?_
 rintro _ h4 ⟨b3, eb3, rfl, hS⟩
 refine r12 ?_
 refine r1 ?_
 obtain ⟨x5, hx5, hL⟩ := gd_some hL
 refine WO.gcp (GuardIs.yes rfl rfl rfl (fs2 rfl (fskip rfl fh))) rfl (fun hg => (Ent.fn has32 (evs_cons (evG (fs2 rfl fh) rfl hg) (evs_cons lk (evs_cons (evG fh rfl hg) (evs_cons lk evs_nil)))))) (fun hg => f32_ok (hS.slu hsp1_0) (hx5 hg)) ?_
 refine r4 ?_
 refine cn hL ?_ ?_
 · intro hc hL
   refine r6 ?_
   refine r1 ?_
   exact rt hL hT hS
 · intro hc hL
   refine r16 ?_
   refine r1 ?_
   refine WC.loop (WL.lift hL (fun (p : Int × Int × Int) (s : Fs) => match p with | (v11, v13, v17) => ∃ (fr7 : Fr) (h6 : H), s = ⟨fr7, [], h6, none⟩ ∧ Sp wm T h [bx wm b1 [.int .i64 p0.machines, .slice pa0_0 p0.spots.length pc0_0], bx wm b3 [.int .i64 p2.deed, .int .i64 p2.place, .int .i64 p2.other, .int .i64 p2.n]] h6 ∧ fr7.at 1 = .slice pa1_0 p1.length pc1_0 ∧ fr7.at 3 = .pointer (some ⟨b1, 0, none⟩) ∧ fr7.at 5 = .pointer (some ⟨b3, 0, none⟩) ∧ fr7.at 7 = .int .i64 v11 ∧ fr7.at 8 = .int .i64 v13 ∧ fr7.at 25 = .slice pa1_0 p1.length pc1_0 ∧ fr7.at 26 = .int .i64 (p1.length : Int) ∧ fr7.at 27 = .int .i64 v17) ⟨_, _, rfl, hS.only (.c k1 (.c k0 .n)), las⟩ ?_)
   clear hL hS
   rintro next19 ⟨v11, v13, v17⟩ s hnext19 hL ⟨fr7, h6, rfl, hS, e8, e9, e10, e12, e14, e15, e16, e18⟩
   dsimp only [f53_b0] at hL
   refine r6 ?_
   refine cn hL ?_ ?_
   · intro hc hL
     refine r2 ?_
     refine WC.seqJ (r := r) (fun (p : Int × Int) (s : Fs) => match p with | (v25, v27) => ∃ (fr21 : Fr) (h20 : H), s = ⟨fr21, [], h20, none⟩ ∧ Sp wm T h [bx wm b1 [.int .i64 p0.machines, .slice pa0_0 p0.spots.length pc0_0], bx wm b3 [.int .i64 p2.deed, .int .i64 p2.place, .int .i64 p2.other, .int .i64 p2.n]] h20 ∧ fr21.at 1 = .slice pa1_0 p1.length pc1_0 ∧ fr21.at 3 = .pointer (some ⟨b1, 0, none⟩) ∧ fr21.at 5 = .pointer (some ⟨b3, 0, none⟩) ∧ fr21.at 7 = .int .i64 v25 ∧ fr21.at 8 = .int .i64 v27 ∧ fr21.at 25 = .slice pa1_0 p1.length pc1_0 ∧ fr21.at 26 = .int .i64 (p1.length : Int) ∧ fr21.at 27 = .int .i64 v17) (f53_j0 v17 next19) ?_ ?_
     · clear hL hS
       rintro ⟨v25, v27⟩ s hL ⟨fr21, h20, rfl, hS, e22, e23, e24, e26, e28, e29, e30, e31⟩
       dsimp only [f53_j0] at hL
       refine r4 ?_
       exact LoopK.nrm (hnext19 _ _ hL ⟨_, _, rfl, hS.only (.c k0 (.c k0 .n)), las⟩)
     · skip
       refine r3 ?_
       obtain ⟨x32, hx32, hL⟩ := bind_some hL
       obtain ⟨b33, o34, _, hab33, hAb33, hBb33, hFb33⟩ := Sl.at_ hsp1_0 hx32
       refine WO.w gN rfl (av_ixn und34 size64 lk lk rfl hab33 hx32) ?_
       refine WO.w gN rfl (av_ldA agg64 size64 (evT fh rfl) (At.fz hS.fz hBb33 hAb33) (j := 0) rfl rfl (ws := [.int .i64 x32.deed, .int .i64 x32.place, .int .i64 x32.other, .int .i64 x32.n]) rfl) ?_
       refine r1 ?_
       rintro _ h36 ⟨b35, eb35, rfl, hS⟩
       refine r1 ?_
       rintro h37 hS
       refine r2 ?_
       refine WC.seqJ (r := r) (fun (v43 : Int) (s : Fs) => ∃ (fr39 : Fr) (h38 : H), s = ⟨fr39, [], h38, none⟩ ∧ Sp wm T h [bx wm b1 [.int .i64 p0.machines, .slice pa0_0 p0.spots.length pc0_0], bx wm b3 [.int .i64 p2.deed, .int .i64 p2.place, .int .i64 p2.other, .int .i64 p2.n], bx wm b35 [.int .i64 x32.deed, .int .i64 x32.place, .int .i64 x32.other, .int .i64 x32.n]] h38 ∧ fr39.at 1 = .slice pa1_0 p1.length pc1_0 ∧ fr39.at 3 = .pointer (some ⟨b1, 0, none⟩) ∧ fr39.at 5 = .pointer (some ⟨b3, 0, none⟩) ∧ fr39.at 7 = .int .i64 v43 ∧ fr39.at 8 = .int .i64 v13 ∧ fr39.at 10 = .pointer (some ⟨b35, 0, none⟩) ∧ fr39.at 25 = .slice pa1_0 p1.length pc1_0 ∧ fr39.at 26 = .int .i64 (p1.length : Int) ∧ fr39.at 27 = .int .i64 v17) (f53_j1 p2 v13 v17 next19 x32) ?_ ?_
       · clear hL hS
         rintro v43 s hL ⟨fr39, h38, rfl, hS, e40, e41, e42, e44, e45, e46, e47, e48, e49⟩
         dsimp only [f53_j1] at hL
         refine r12 ?_
         refine r2 ?_
         refine cn hL ?_ ?_
         · intro hc hL
           refine r6 ?_
           exact SeqJ.nrm _ hL ⟨_, _, rfl, hS.only (.c k0 (.c k0 .n)), las⟩
         · intro hc hL
           refine r2 ?_
           exact SeqJ.nrm _ hL ⟨_, _, rfl, hS.only (.c k0 (.c k0 .n)), las⟩
       · skip
         refine r16 ?_
         refine r12 ?_
         refine WO.gv (GuardIs.no2 rfl rfl rfl (fs8 rfl (fs2 rfl (fskip rfl fh)))) rfl (fun hg => (av_and (evG (fs4 rfl (fskip rfl fh)) rfl hg) (evGU2 fh hg) lk)) ?_
         refine WO.gv (GuardIs.yes rfl rfl rfl (fs8 rfl (fs8 rfl fh))) rfl (fun hg => (av_or (evG (fs8 rfl (fs4 rfl fh)) rfl hg) lk (evGU2 fh hg))) ?_
         refine r3 ?_
         refine cn hL ?_ ?_
         · intro hc hL
           refine r4 ?_
           refine r1 ?_
           exact SeqJ.nrm _ hL ⟨_, _, rfl, hS.only (.c k1 (.c k1 (.c k0 .n))), las⟩
         · intro hc hL
           refine r1 ?_
           exact SeqJ.nrm _ hL ⟨_, _, rfl, hS.only (.c k1 (.c k1 (.c k0 .n))), las⟩
   · intro hc hL
     refine r4 ?_
     refine r1 ?_
     refine WC.seqJ (r := r) (fun (_ : Unit) (s : Fs) => ∃ (fr51 : Fr) (h50 : H), s = ⟨fr51, [], h50, none⟩ ∧ Sp wm T h [] h50) (f53_j2) ?_ ?_
     · clear hL hS
       rintro _ s hL ⟨fr51, h50, rfl, hS⟩
       dsimp only [f53_j2] at hL
       refine r6 ?_
       exact rt hL hT hS
     · skip
       refine r12 ?_
       refine r1 ?_
       refine cn hL ?_ ?_
       · intro hc hL
         refine r6 ?_
         refine cn hL ?_ ?_
         · intro hc hL
           refine r6 ?_
           refine r1 ?_
           refine SeqJ.ret ?_
           exact rt hL hT hS
         · intro hc hL
           refine r2 ?_
           exact SeqJ.nrm _ hL ⟨_, _, rfl, hS.only .n⟩
       · intro hc hL
         refine r6 ?_
         refine cn hL ?_ ?_
         · intro hc hL
           refine r8 ?_
           refine r3 ?_
           refine cn hL ?_ ?_
           · intro hc hL
             refine r8 ?_
             refine SeqJ.ret ?_
             exact rt hL hT hS
           · intro hc hL
             refine r8 ?_
             refine r2 ?_
             refine WC.loop (WL.lift hL (fun (v58 : Int) (s : Fs) => ∃ (fr53 : Fr) (h52 : H), s = ⟨fr53, [], h52, none⟩ ∧ Sp wm T h [bx wm b1 [.int .i64 p0.machines, .slice pa0_0 p0.spots.length pc0_0], bx wm b3 [.int .i64 p2.deed, .int .i64 p2.place, .int .i64 p2.other, .int .i64 p2.n]] h52 ∧ fr53.at 3 = .pointer (some ⟨b1, 0, none⟩) ∧ fr53.at 5 = .pointer (some ⟨b3, 0, none⟩) ∧ fr53.at 89 = .slice pa1_0 p1.length pc1_0 ∧ fr53.at 90 = .int .i64 (p1.length : Int) ∧ fr53.at 91 = .int .i64 v58) ⟨_, _, rfl, hS.only (.c k0 (.c k0 .n)), las⟩ ?_)
             clear hL hS
             rintro next60 v58 s hnext60 hL ⟨fr53, h52, rfl, hS, e54, e55, e56, e57, e59⟩
             dsimp only [f53_b1] at hL
             refine r6 ?_
             refine cn hL ?_ ?_
             · intro hc hL
               refine r6 ?_
               obtain ⟨x61, hx61, hL⟩ := bind_some hL
               obtain ⟨b62, o63, _, hab62, hAb62, hBb62, hFb62⟩ := Sl.at_ hsp1_0 hx61
               refine WO.w gN rfl (av_ixn und34 size64 lk lk rfl hab62 hx61) ?_
               refine WO.w gN rfl (av_ldA agg64 size64 (evT fh rfl) (At.fz hS.fz hBb62 hAb62) (j := 0) rfl rfl (ws := [.int .i64 x61.deed, .int .i64 x61.place, .int .i64 x61.other, .int .i64 x61.n]) rfl) ?_
               refine r1 ?_
               rintro _ h65 ⟨b64, eb64, rfl, hS⟩
               refine r1 ?_
               rintro h66 hS
               refine r3 ?_
               refine WC.drawX mixed (by kernel_rfl) ?_
               refine r8 ?_
               obtain ⟨x67, hx67, hL⟩ := gd_some hL
               obtain ⟨b68, o69, _, hQ⟩ := Sl.atG (fun hg => hsp0_0) hx67
               have hab68 := fun hg => (hQ hg).1
               have hAb68 := fun hg => (hQ hg).2.1
               have hBb68 := fun hg => (hQ hg).2.2.1
               have hFb68 := fun hg => (hQ hg).2.2.2
               refine WX.gv (GuardIs.yes rfl rfl rfl (fs4 rfl fh)) rfl (fun hg => (av_ixn und22 size66 (evG (fs2 rfl fh) rfl hg) (evG fh rfl hg) rfl (hab68 hg) (hx67 hg))) ?_ rfl
               refine r1 ?_
               refine WX.gv (GuardIs.yes rfl rfl rfl (fs4 rfl (fs2 rfl fh))) rfl (fun hg => (av_ld agg3 (evG fh rfl hg) (At.fz hS.fz (hBb68 hg) (hAb68 hg)) (j := 0) rfl (v := .int .i64 x67.at_) rfl)) ?_ rfl
               refine r4 ?_
               obtain ⟨x70, hx70, hL⟩ := gd_some hL
               obtain ⟨b71, o72, _, hQ⟩ := Sl.atG (fun hg => hsp0_0) hx70
               have hab71 := fun hg => (hQ hg).1
               have hAb71 := fun hg => (hQ hg).2.1
               have hBb71 := fun hg => (hQ hg).2.2.1
               have hFb71 := fun hg => (hQ hg).2.2.2
               refine WX.gv (GuardIs.yes rfl rfl rfl (fs8 rfl (fs2 rfl (fskip rfl fh)))) rfl (fun hg => (av_ixn und22 size66 (evG (fs2 rfl fh) rfl hg) (evG fh rfl hg) rfl (hab71 hg) (hx70 hg))) ?_ rfl
               refine r1 ?_
               refine WX.gv (GuardIs.yes rfl rfl rfl (fs8 rfl (fs4 rfl (fskip rfl fh)))) rfl (fun hg => (av_ld agg3 (evG fh rfl hg) (At.fz hS.fz (hBb71 hg) (hAb71 hg)) (j := 0) rfl (v := .int .i64 x70.at_) rfl)) ?_ rfl
               refine r8 ?_
               obtain ⟨x73, hx73, hL⟩ := gd_some hL
               refine WX.gcp (GuardIs.yes rfl rfl rfl (fs4 rfl (fskip rfl fh))) rfl (fun hg => (Ent.fn has31 (evs_cons (evG (fs4 rfl fh) rfl hg) (evs_cons (evG (fs2 rfl fh) rfl hg) (evs_cons (evG fh rfl hg) evs_nil))))) (fun hg => f31_ok (hS.slu hsp0_0) (hx73 hg)) ?_ rfl rfl
               refine r3 ?_
               refine cn hL ?_ ?_
               · intro hc hL
                 refine r8 ?_
                 refine r3 ?_
                 refine SeqJ.ret ?_
                 exact rt hL hT hS
               · intro hc hL
                 refine r6 ?_
                 refine r1 ?_
                 exact LoopK.nrm (hnext60 _ _ hL ⟨_, _, rfl, hS.only (.c k1 (.c k1 .n)), las⟩)
             · intro hc hL
               refine r4 ?_
               refine r1 ?_
               exact SeqJ.nrm _ hL ⟨_, _, rfl, hS.only .n⟩
         · intro hc hL
           refine r6 ?_
           refine cn hL ?_ ?_
           · intro hc hL
             refine r6 ?_
             obtain ⟨x74, hx74, hL⟩ := bind_some hL
             refine WO.cp gN rfl (Ent.fn has32 (evs_cons lk (evs_cons lk (evs_cons lk (evs_cons lk evs_nil))))) (f32_ok (hS.slu hsp1_0) hx74) ?_
             refine r4 ?_
             refine r1 ?_
             obtain ⟨x75, hx75, hL⟩ := gd_some hL
             refine WO.gcp (GuardIs.no rfl rfl rfl (fs2 rfl (fskip rfl fh))) rfl (fun hg => (Ent.fn has32 (evs_cons (evG (fs2 rfl fh) rfl hg) (evs_cons lk (evs_cons (evG fh rfl hg) (evs_cons lk evs_nil)))))) (fun hg => f32_ok (hS.slu hsp1_0) (hx75 hg)) ?_
             refine r4 ?_
             refine cn hL ?_ ?_
             · intro hc hL
               refine r8 ?_
               refine SeqJ.ret ?_
               exact rt hL hT hS
             · intro hc hL
               refine r6 ?_
               refine r1 ?_
               obtain ⟨x76, hx76, hL⟩ := bind_some hL
               refine WO.cl gN rfl (Ent.fn has83 (evs_cons lk (evs_cons lk evs_nil))) hS .n (fun g' hz hf hO => f83_wf (by rw [hz]; exact hS.hw) ((hS.sl hsp0_0).mono hf) hx76) ?_
               rintro _ h80 _ ⟨a77, n78, c79, rfl, rfl⟩ hS
               obtain rfl := hS.on k0
               refine r4 ?_
               refine r1 ?_
               refine WC.loop (WL.lift hL (fun (v87 : Int) (s : Fs) => ∃ (fr83 : Fr) (h82 : H), s = ⟨fr83, [], h82, none⟩ ∧ Sp wm T h [ow wm (rInt .i64) a77 x76.length c79 x76] h82 ∧ fr83.at 1 = .slice pa1_0 p1.length pc1_0 ∧ fr83.at 141 = .slice a77 x76.length c79 ∧ fr83.at 142 = .int .i64 (x76.length : Int) ∧ fr83.at 143 = .int .i64 v87) ⟨_, _, rfl, hS.only (.c k0 .n), las⟩ ?_)
               clear hL hS
               rintro next89 v87 s hnext89 hL ⟨fr83, h82, rfl, hS, e84, e85, e86, e88⟩
               dsimp only [f53_b2] at hL
               refine r6 ?_
               refine cn hL ?_ ?_
               · intro hc hL
                 refine r6 ?_
                 obtain ⟨x90, hx90, hL⟩ := bind_some hL
                 obtain ⟨b91, o92, _, hab91, hAb91, hFb91⟩ := Src.at_ (hS.osrc k0) hx90
                 refine WO.w gN rfl (av_ixn und35 size3 lk lk rfl hab91 hx90) ?_
                 refine WO.w gN rfl (av_ld agg3 (evT fh rfl) hAb91 (j := 0) rfl (v := .int .i64 x90) rfl) ?_
                 refine r6 ?_
                 refine r1 ?_
                 obtain ⟨x93, hx93, hL⟩ := bind_some hL
                 refine WO.cp gN rfl (Ent.fn has32 (evs_cons lk (evs_cons lk (evs_cons lk (evs_cons lk evs_nil))))) (f32_ok (hS.slu hsp1_0) hx93) ?_
                 refine r3 ?_
                 refine cn hL ?_ ?_
                 · intro hc hL
                   refine r8 ?_
                   refine r3 ?_
                   refine SeqJ.ret ?_
                   exact rt hL hT hS
                 · intro hc hL
                   refine r6 ?_
                   refine r1 ?_
                   exact LoopK.nrm (hnext89 _ _ hL ⟨_, _, rfl, hS.only (.c k0 .n), las⟩)
               · intro hc hL
                 refine r4 ?_
                 refine r1 ?_
                 exact SeqJ.nrm _ hL ⟨_, _, rfl, hS.only .n⟩
           · intro hc hL
             refine r6 ?_
             refine cn hL ?_ ?_
             · intro hc hL
               refine r1 ?_
               refine WC.drawX mixed (by kernel_rfl) ?_
               refine r3 ?_
               obtain ⟨x94, hx94, hL⟩ := bind_some hL
               refine WX.cp gN rfl (Ent.fn has32 (evs_cons lk (evs_cons lk (evs_cons lk (evs_cons lk evs_nil))))) (f32_ok (hS.slu hsp1_0) hx94) ?_ rfl rfl
               refine r6 ?_
               refine r1 ?_
               obtain ⟨x95, hx95, hL⟩ := gd_some hL
               refine WX.gcp (GuardIs.no rfl rfl rfl (fs4 rfl (fskip rfl fh))) rfl (fun hg => (Ent.fn has32 (evs_cons (evG (fs4 rfl fh) rfl hg) (evs_cons lk (evs_cons (evG (fs2 rfl fh) rfl hg) (evs_cons (evG fh rfl hg) evs_nil)))))) (fun hg => f32_ok (hS.slu hsp1_0) (hx95 hg)) ?_ rfl rfl
               refine r4 ?_
               refine r1 ?_
               obtain ⟨x96, hx96, hL⟩ := gd_some hL
               refine WX.gcp (GuardIs.no rfl rfl rfl (fs8 rfl (fs2 rfl (fskip rfl fh)))) rfl (fun hg => (Ent.fn has32 (evs_cons (evG (fs4 rfl fh) rfl hg) (evs_cons lk (evs_cons (evG (fs2 rfl fh) rfl hg) (evs_cons (evG fh rfl hg) evs_nil)))))) (fun hg => f32_ok (hS.slu hsp1_0) (hx96 hg)) ?_ rfl rfl
               refine r4 ?_
               refine cn hL ?_ ?_
               · intro hc hL
                 refine r6 ?_
                 refine r1 ?_
                 refine SeqJ.ret ?_
                 exact rt hL hT hS
               · intro hc hL
                 refine r2 ?_
                 exact SeqJ.nrm _ hL ⟨_, _, rfl, hS.only .n⟩
             · intro hc hL
               refine r2 ?_
               exact SeqJ.nrm _ hL ⟨_, _, rfl, hS.only .n⟩
theorem f78_wf {F : Nat} {wm : Nat} {h : H} {p0 : Story} {p1 : Int} {pa0_0 : Option Addr} {pc0_0 : Nat} {pa0_1 : Option Addr} {pc0_1 : Nat} {r : Bool} (hwm : wm ≤ h.size) (hsp0_0 : Sl rTollSpot wm h pa0_0 pc0_0 p0.setup.spots) (hsp0_1 : Sl rTollEvent wm h pa0_1 pc0_1 p0.before) (hL : f78L F p0 p1 = some r) :
    WR XX 78 #[.agg [.int .i64 p0.setup.machines, .slice pa0_0 p0.setup.spots.length pc0_0, .slice pa0_1 p0.before.length pc0_1].toArray, .int .i64 p1] wm h (CP (fun (v : Value) (Gb : List (Ast wm)) => v = .bool r ∧ Gb = []) [] h) := by
 refine bg Tryz.ntmps78 hwm Hold.nil ?_
 intro T hT hS
 unfold f78L at hL
 refine r3 ?_
 rintro _ h2 ⟨b1, eb1, rfl, hS⟩
 refine r6 ?_
 refine r1 ?_
 refine WO.w gN rfl (av_bld bld64 (evp_cons lk (evp_cons lk evp_nil)) rfl (cs' := [.int .i64 5, .int .i64 p1, .int .i64 0, .int .i64 0]) rfl) ?_
 obtain ⟨x3, hx3, hL⟩ := bind_some hL
 refine WO.cp gN rfl (Ent.fn has110 (evs_cons lk (evs_cons lk evs_nil))) (f110_ok (p1 := (TollEvent.mk 5 p1 0 0)) (hS.slu hsp0_0) (hS.slu hsp0_1) hx3) ?_
 refine r4 ?_
 refine r1 ?_
 exact rt hL hT hS
theorem f79_wf {F : Nat} {wm : Nat} {h : H} {p0 : Story} {p1 : TollEvent} {pa0_0 : Option Addr} {pc0_0 : Nat} {pa0_1 : Option Addr} {pc0_1 : Nat} {r : Bool} (hwm : wm ≤ h.size) (hsp0_0 : Sl rTollSpot wm h pa0_0 pc0_0 p0.setup.spots) (hsp0_1 : Sl rTollEvent wm h pa0_1 pc0_1 p0.before) (hL : f79L F p0 p1 = some r) :
    WR XX 79 #[.agg [.int .i64 p0.setup.machines, .slice pa0_0 p0.setup.spots.length pc0_0, .slice pa0_1 p0.before.length pc0_1].toArray, .agg [.int .i64 p1.deed, .int .i64 p1.place, .int .i64 p1.other, .int .i64 p1.n].toArray] wm h (CP (fun (v : Value) (Gb : List (Ast wm)) => v = .bool r ∧ Gb = []) [] h) := by
 refine bg Tryz.ntmps79 hwm Hold.nil ?_
 intro T hT hS
 unfold f79L at hL
 refine r3 ?_
 rintro _ h2 ⟨b1, eb1, rfl, hS⟩
 refine r1 ?_
 rintro _ h4 ⟨b3, eb3, rfl, hS⟩
 refine r16 ?_
 refine r1 ?_
 refine cn hL ?_ ?_
 · intro hc hL
   refine r4 ?_
   refine r1 ?_
   obtain ⟨x5, hx5, hL⟩ := bind_some hL
   refine WO.cp gN rfl (Ent.fn has111 (evs_cons lk (evs_cons lk (evs_cons lk evs_nil)))) (f111_ok (hS.slu hsp0_0) (hS.slu hsp0_1) hx5) ?_
   refine r6 ?_
   exact rt hL hT hS
 · intro hc hL
   refine r6 ?_
   refine cn hL ?_ ?_
   · intro hc hL
     refine r8 ?_
     refine r1 ?_
     refine WO.w gN rfl (av_bld bld64 (evp_cons lk (evp_cons lk (evp_cons lk (evp_cons lk evp_nil)))) rfl (cs' := [.int .i64 1, .int .i64 p1.other, .int .i64 p1.place, .int .i64 p1.n]) rfl) ?_
     obtain ⟨x6, hx6, hL⟩ := bind_some hL
     refine WO.cp gN rfl (Ent.fn has110 (evs_cons lk (evs_cons lk evs_nil))) (f110_ok (p1 := (TollEvent.mk 1 p1.other p1.place p1.n)) (hS.slu hsp0_0) (hS.slu hsp0_1) hx6) ?_
     refine r4 ?_
     refine r1 ?_
     obtain ⟨x7, hx7, hL⟩ := gd_some hL
     refine WO.gcp (GuardIs.no rfl rfl rfl (fs2 rfl (fskip rfl fh))) rfl (fun hg => (Ent.fn has111 (evs_cons (evG (fs2 rfl fh) rfl hg) (evs_cons lk (evs_cons (evG fh rfl hg) evs_nil))))) (fun hg => f111_ok (hS.slu hsp0_0) (hS.slu hsp0_1) (hx7 hg)) ?_
     refine r6 ?_
     refine r1 ?_
     exact rt hL hT hS
   · intro hc hL
     refine r8 ?_
     refine r1 ?_
     exact rt hL hT hS
theorem f80_wf {F : Nat} {wm : Nat} {h : H} {p0 : Story} {p1 : TollEvent} {pa0_0 : Option Addr} {pc0_0 : Nat} {pa0_1 : Option Addr} {pc0_1 : Nat} {r : Bool} (hwm : wm ≤ h.size) (hsp0_0 : Sl rTollSpot wm h pa0_0 pc0_0 p0.setup.spots) (hsp0_1 : Sl rTollEvent wm h pa0_1 pc0_1 p0.before) (hL : f80L F p0 p1 = some r) :
    WR XX 80 #[.agg [.int .i64 p0.setup.machines, .slice pa0_0 p0.setup.spots.length pc0_0, .slice pa0_1 p0.before.length pc0_1].toArray, .agg [.int .i64 p1.deed, .int .i64 p1.place, .int .i64 p1.other, .int .i64 p1.n].toArray] wm h (CP (fun (v : Value) (Gb : List (Ast wm)) => v = .bool r ∧ Gb = []) [] h) := by
 refine WF.beginL (args := [_, _]) (fn := Tryz.f80) (by kernel_rfl) (by exact rfl) Tryz.ntmps80 (by simp) ?_
 simp only [frameOf_cons, frameOf_nil, Nat.reduceAdd]
 obtain ⟨T, hT, hS⟩ : ∃ T, T = Fps (wm := wm) [] ∧ Sp wm T h [] h := ⟨_, rfl, Sp.start hwm Hold.nil⟩
 unfold f80L at hL
 refine r3 ?_
 rintro _ h2 ⟨b1, eb1, rfl, hS⟩
 refine r1 ?_
 rintro _ h4 ⟨b3, eb3, rfl, hS⟩
 refine r1 ?_
 rintro _ h6 ⟨b5, eb5, rfl, hS⟩
 refine r8 ?_
 refine r2 ?_
 refine cn hL ?_ ?_
 · intro hc hL
   refine r3 ?_
   rintro h7 hS
   refine r4 ?_
   have hr := Option.some.inj hL
   subst hr
   exact RetL.gen rfl (ares_cell (fs2 rfl (fskip rfl fh)) (aload_at1 agg4 (hS.atB k0) (j := 0) rfl (v := .bool false) rfl) ares_nil) rfl ⟨_, ⟨rfl, rfl⟩, hT ▸ hS.only .n⟩
 · intro hc hL
   refine r8 ?_
   refine r1 ?_
   refine WO.inl gN rfl (Ent.fn has57 (evs_cons lk (evs_cons lk evs_nil))) (WF.begin (args := [_, _]) (fn := Tryz.f57) (by kernel_rfl) (by exact rfl) Tryz.ntmps57 (by simp) ?_)
   simp only [frameOf_cons, frameOf_nil, Nat.reduceAdd]
   refine r3 ?_
   rintro _ h9 ⟨b8, eb8, rfl, hS⟩
   refine r1 ?_
   rintro _ h11 ⟨b10, eb10, rfl, hS⟩
   refine r4 ?_
   refine r1 ?_
   refine WO.w gN rfl (av_mkf (evs_cons lk (evs_cons lk evs_nil))) ?_
   refine r4 ?_
   refine RetK.gen1 rfl (ares_tmp lk ares_nil) ?_
   refine r3 ?_
   refine WC.rangeS (first := []) (cap := [.pointer (some ⟨b8, 0, none⟩), .pointer (some ⟨b10, 0, none⟩)]) hS lk has85 ?_
   intro h12 l13 df14 LO15 hLO16 hS
   refine WR.inlJ (r := r) (fun (p : Bool × Bool) (v : Value) (h17 : H) => match p with | (v19, sp20) => v = .tuple [].toArray ∧ Sp wm T h [bx wm b1 [.int .i64 p0.setup.machines, .slice pa0_0 p0.setup.spots.length pc0_0, .slice pa0_1 p0.before.length pc0_1], bx wm b3 [.int .i64 p1.deed, .int .i64 p1.place, .int .i64 p1.other, .int .i64 p1.n], bx wm b5 [.bool v19], bx wm b8 [.int .i64 p0.setup.machines, .slice pa0_0 p0.setup.spots.length pc0_0], bx wm b10 [.int .i64 p1.place], ob wm l13 (lst sp20 Code.ret LO15), ob wm df14 .deferred] h17) (f80_j0 F p0 p1) ?_ (WF.begin (args := [_, _, _]) (fn := Tryz.f85) (by kernel_rfl) (by exact rfl) Tryz.ntmps85 (by simp) ?_)
   · clear hL hS
     rintro ⟨v19, sp20⟩ v h17 hL ⟨rfl, hS⟩
     dsimp only [f80_j0] at hL
     rcases bool_cases sp20 with hc | hc
     · replace hL := cond_tt hc hL
       rw [hc] at hS
       refine RgS.stop (c := Code.ret) hLO16 hS k5 ?_
       rintro h22 hS
       refine r3 ?_
       refine RetL.colS hS k5 ?_
       rintro h23 hS
       have hr := Option.some.inj hL
       subst hr
       exact RetL.gen rfl (ares_cell (fs8 rfl fh) (aload_at1 agg4 (hS.atB k2) (j := 0) rfl (v := .bool v19) rfl) ares_nil) rfl ⟨_, ⟨rfl, rfl⟩, hT ▸ hS.only .n⟩
     · replace hL := cond_ff hc hL
       rw [hc] at hS
       refine RgS.sp hLO16 hS k5 ?_
       rintro h24 hS
       refine r6 ?_
       refine r1 ?_
       obtain ⟨x25, hx25, hL⟩ := bind_some hL
       refine WO.cp gN rfl (Ent.fn has78 (evs_cons lk (evs_cons lk evs_nil))) (WR.pureC rfl (f78_wf (Nat.le_refl _) (hS.slu hsp0_0) (hS.slu hsp0_1) hx25)) ?_
       refine r4 ?_
       refine r1 ?_
       obtain ⟨x26, hx26, hL⟩ := gd_some hL
       refine WO.gcp (GuardIs.no rfl rfl rfl (fs2 rfl (fskip rfl fh))) rfl (fun hg => (Ent.fn has112 (evs_cons (evG (fs2 rfl fh) rfl hg) (evs_cons (evG fh rfl hg) evs_nil)))) (fun hg => f112_ok (hS.slu hsp0_0) (hS.slu hsp0_1) (hx26 hg)) ?_
       refine r2 ?_
       rintro h27 hS
       refine r3 ?_
       refine RetL.colS hS k5 ?_
       rintro h28 hS
       have hr := Option.some.inj hL
       subst hr
       exact RetL.gen rfl (ares_cell (fs8 rfl (fs8 rfl (fs2 rfl (fskip rfl fh)))) (aload_at1 agg4 (hS.atB k0) (j := 0) rfl (v := .bool ((!x25) || x26)) rfl) ares_nil) rfl ⟨_, ⟨rfl, rfl⟩, hT ▸ hS.only .n⟩
   · skip
     simp only [frameOf_cons, frameOf_nil, Nat.reduceAdd]
     refine r8 ?_
     refine r1 ?_
     refine WC.loop (WL.lift hL (fun (p : Int × Bool × Bool) (s : Fs) => match p with | (v35, v37, sp38) => ∃ (fr30 : Fr) (h29 : H), s = ⟨fr30, [], h29, none⟩ ∧ Sp wm T h [bx wm b10 [.int .i64 p1.place], bx wm b1 [.int .i64 p0.setup.machines, .slice pa0_0 p0.setup.spots.length pc0_0, .slice pa0_1 p0.before.length pc0_1], bx wm b3 [.int .i64 p1.deed, .int .i64 p1.place, .int .i64 p1.other, .int .i64 p1.n], bx wm b5 [.bool v37], bx wm b8 [.int .i64 p0.setup.machines, .slice pa0_0 p0.setup.spots.length pc0_0], ob wm l13 (lst sp38 Code.ret LO15), ob wm df14 .deferred] h29 ∧ fr30.at 0 = .func (.yield l13) #[] #[] ∧ fr30.at 2 = .pointer (some ⟨b10, 0, none⟩) ∧ fr30.at 7 = .slice pa0_0 p0.setup.spots.length pc0_0 ∧ fr30.at 8 = .int .i64 (p0.setup.spots.length : Int) ∧ fr30.at 9 = .int .i64 v35) ⟨_, _, rfl, hS.only (.c k2 (.c k5 (.c k4 (.c k3 (.c k2 (.c k0 (.c k0 .n))))))), las⟩ ?_)
     clear hL hS
     rintro next39 ⟨v35, v37, sp38⟩ s hnext39 hL ⟨fr30, h29, rfl, hS, e31, e32, e33, e34, e36⟩
     dsimp only [f80_b0] at hL
     refine r6 ?_
     refine cn hL ?_ ?_
     · intro hc hL
       refine r6 ?_
       refine r1 ?_
       obtain ⟨x40, hx40, hL⟩ := bind_some hL
       obtain ⟨b41, o42, _, hab41, hAb41, hBb41, hFb41⟩ := Sl.at_ hsp0_0 hx40
       refine WO.w gN rfl (av_ixn und22 size66 lk lk rfl hab41 hx40) ?_
       refine WO.w gN rfl (av_ldA agg66 size66 (evT fh rfl) (At.fz hS.fz hBb41 hAb41) (j := 0) rfl rfl (ws := [.int .i64 x40.at_, .int .i64 x40.in_]) rfl) ?_
       refine r1 ?_
       rintro _ h44 ⟨b43, eb43, rfl, hS⟩
       refine r2 ?_
       rintro h45 hS
       refine r8 ?_
       refine r3 ?_
       refine WO.gsplit (GuardIs.yes rfl rfl rfl (fs2 rfl fh)) (fun hk46 => ?_) (fun hk46 => ?_)
       · replace hL := cond_tt hk46 hL
         obtain ⟨hc47, hL⟩ := cond_no hL
         rw [hc47] at hS
         refine WO.yldS (GuardIs.on (GuardIs.yes rfl rfl rfl (fs2 rfl fh)) hk46) rfl (evG (fskip rfl fh) rfl hk46) (evs_cons (evG fh rfl hk46) evs_nil) hS k6 hLO16 rfl rfl ?_
         refine r3 ?_
         refine AsS.sp hLO16 hS k6 ?_
         rintro h48 hS
         refine r4 ?_
         refine r1 ?_
         obtain ⟨x49, hx49, hL⟩ := bind_some hL
         refine WO.cp gN rfl (Ent.fn has112 (evs_cons lk (evs_cons lk evs_nil))) (f112_ok (hS.slu hsp0_0) (hS.slu hsp0_1) hx49) ?_
         refine r3 ?_
         refine cn hL ?_ ?_
         · intro hc hL
           refine r3 ?_
           rintro h50 hS
           refine r4 ?_
           refine BdS.stop .ret hLO16 hS k1 ?_
           rintro h51 hS
           refine WO.w (GuardIs.on (GuardIs.yes rfl rfl rfl (fs2 rfl (fskip rfl fh))) hk46) rfl (av_not lk) ?_
           refine WO.w gN rfl (av_pkT lk hk46 lk) ?_
           refine r2 ?_
           refine cn hL ?_ ?_
           · intro hc hL
             refine r4 ?_
             refine r1 ?_
             exact RetK.gen (vs := []) rfl ares_nil rfl ⟨_, hL, ⟨rfl, hS.only (.c k4 (.c k4 (.c k1 (.c k3 (.c k2 (.c k0 (.c k1 .n)))))))⟩⟩
           · intro hc hL
             refine r6 ?_
             refine r1 ?_
             exact LoopK.nrm (hnext39 _ _ hL ⟨_, _, rfl, hS.only (.c k3 (.c k3 (.c k3 (.c k1 (.c k2 (.c k0 (.c k1 .n))))))), las⟩)
         · intro hc hL
           refine r2 ?_
           refine BdS.sp hLO16 hS k0 ?_
           rintro h52 hS
           refine WO.w (GuardIs.on (GuardIs.yes rfl rfl rfl (fs2 rfl (fskip rfl fh))) hk46) rfl (av_not lk) ?_
           refine WO.w gN rfl (av_pkT lk hk46 lk) ?_
           refine r2 ?_
           refine cn hL ?_ ?_
           · intro hc hL
             refine r4 ?_
             refine r1 ?_
             exact RetK.gen (vs := []) rfl ares_nil rfl ⟨_, hL, ⟨rfl, hS.only (.c k3 (.c k3 (.c k3 (.c k3 (.c k2 (.c k0 (.c k1 .n)))))))⟩⟩
           · intro hc hL
             refine r6 ?_
             refine r1 ?_
             exact LoopK.nrm (hnext39 _ _ hL ⟨_, _, rfl, hS.only (.c k2 (.c k2 (.c k2 (.c k2 (.c k2 (.c k0 (.c k1 .n))))))), las⟩)
       · replace hL := cond_ff hk46 hL
         refine WO.offO (GuardIs.yes rfl rfl rfl (fs2 rfl fh)) hk46 rfl ?_
         refine WO.offO (GuardIs.yes rfl rfl rfl (fs2 rfl (fskip rfl fh))) hk46 rfl ?_
         refine WO.w gN rfl (av_pkF lk hk46 lk) ?_
         refine r2 ?_
         refine WC.condFN lk rfl ?_
         refine r6 ?_
         refine r1 ?_
         exact LoopK.nrm (hnext39 _ _ hL ⟨_, _, rfl, hS.only (.c k1 (.c k1 (.c k1 (.c k1 (.c k1 (.c k1 (.c k1 .n))))))), las⟩)
     · intro hc hL
       refine r4 ?_
       refine RetK.nrm ?_
       exact RetK.gen (vs := []) rfl ares_nil rfl ⟨_, hL, ⟨rfl, hS.only (.c k1 (.c k1 (.c k1 (.c k1 (.c k0 (.c k0 (.c k0 .n)))))))⟩⟩
theorem f81_wf {F : Nat} {wm : Nat} {h : H} {p0 : Story} {p1 : TollEvent} {pa0_0 : Option Addr} {pc0_0 : Nat} {pa0_1 : Option Addr} {pc0_1 : Nat} {r : Bool} (hwm : wm ≤ h.size) (hsp0_0 : Sl rTollSpot wm h pa0_0 pc0_0 p0.setup.spots) (hsp0_1 : Sl rTollEvent wm h pa0_1 pc0_1 p0.before) (hL : f81L F p0 p1 = some r) :
    WR XX 81 #[.agg [.int .i64 p0.setup.machines, .slice pa0_0 p0.setup.spots.length pc0_0, .slice pa0_1 p0.before.length pc0_1].toArray, .agg [.int .i64 p1.deed, .int .i64 p1.place, .int .i64 p1.other, .int .i64 p1.n].toArray] wm h (CP (fun (v : Value) (Gb : List (Ast wm)) => v = .bool r ∧ Gb = []) [] h) := by
 refine bg Tryz.ntmps81 hwm Hold.nil ?_
 intro T hT hS
 unfold f81L at hL
 refine r3 ?_
 rintro _ h2 ⟨b1, eb1, rfl, hS⟩
 refine r1 ?_
 rintro _ h4 ⟨b3, eb3, rfl, hS⟩
 refine r8 ?_
 refine r3 ?_
 refine cn hL ?_ ?_
 · intro hc hL
   refine r6 ?_
   refine r1 ?_
   exact rt hL hT hS
 · intro hc hL
   refine r6 ?_
   rintro _ h6 ⟨b5, eb5, rfl, hS⟩
   refine r1 ?_
   rintro h7 hS
   refine r6 ?_
   rintro h8 hS
   refine r3 ?_
   refine WC.drawX mixed (by kernel_rfl) ?_
   refine r3 ?_
   obtain ⟨x9, hx9, hL⟩ := bind_some hL
   refine WX.cp gN rfl (Ent.fn has112 (evs_cons lk (evs_cons lk evs_nil))) (f112_ok (hS.slu hsp0_0) (hS.slu hsp0_1) hx9) ?_ rfl rfl
   refine r4 ?_
   obtain ⟨x10, hx10, hL⟩ := gd_some hL
   refine WX.gcp (GuardIs.no rfl rfl rfl (fs2 rfl fh)) rfl (fun hg => (Ent.fn has110 (evs_cons (evG (fskip rfl fh) rfl hg) (evs_cons (evG fh rfl hg) evs_nil)))) (fun hg => f110_ok (hS.slu hsp0_0) (hS.slu hsp0_1) (hx10 hg)) ?_ rfl rfl
   refine r2 ?_
   obtain ⟨x11, hx11, hL⟩ := gd_some hL
   refine WX.gcp (GuardIs.no rfl rfl rfl (fs4 rfl (fskip rfl fh))) rfl (fun hg => (Ent.fn has110 (evs_cons (evG (fskip rfl fh) rfl hg) (evs_cons (evG fh rfl hg) evs_nil)))) (fun hg => f110_ok (p1 := (TollEvent.mk 3 p1.place p1.other p1.n)) (hS.slu hsp0_0) (hS.slu hsp0_1) (hx11 hg)) ?_ rfl rfl
   refine r6 ?_
   exact rt hL hT hS
end Go.Proofs.YtcnahmgekicbdaaGreat
end
end
